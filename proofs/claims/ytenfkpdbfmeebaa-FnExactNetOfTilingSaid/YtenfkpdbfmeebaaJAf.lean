/- LevelsOf of impl. No condition. Tilings: l13Right, l13Low, l13Overlap, l13Squares of spec. No condition. Tilings: l13Squares of spec. No condition. Tilings: TilingOk, HeightOf, WidthOf of spec and of impl. No condition. l13Covered, LevelsOf of the reference; LevelsOf of both sides for all lists. No condition. Weight matrices: squareOk, l04Matrix, IsWeightMatrix of both sides. No condition. -/
import Derived.Test.YtenfkpdbfmeebaaWOutL
import Derived.Test.YtenfkpdbfmeebaaPlLev2
import Derived.Test.YtenfkpdbfmeebaaJAe
import Derived.Test.YtenfkpdbfmeebaaWTail
import Derived.Test.YtenfkpdbfmeebaaWLists
import Derived.Test.YtenfkpdbfmeebaaWIn
import Derived.Deep.QuietTactic
import Derived.Deep.DeepCutAuto
namespace Go.Proofs.Ytenfkpdbfmeebaa
set_option maxRecDepth 100000
open Go.ChangeShapes Go.WideShapes Go.ChangeAt Go.RowKit Go.Joins

theorem low_ge {xs : List Int} {n : Nat} : 0 ≤ lowSq xs n := by
  induction n with
  | zero => exact Int.le_refl _
  | succ n ih => simp only [lowSq]; omega
theorem right_ge0 {xs : List Int} {n : Nat} : 0 ≤ rightSq xs n := by
  induction n with
  | zero => exact Int.le_refl _
  | succ n ih => simp only [rightSq]; omega
/-- The levels of a tiling. -/
def levT (xs : List Int) (n : Nat) : List (List Int) := levU xs n (rightSq xs n).toNat ((lowSq xs n).toNat + 1)
theorem spK_t {xs : List Int} {y : Int} {k : Nat} (h : sy xs k = y ∨ sy xs k + ss xs k = y) : spK xs y (k + 1) = spK xs y k ++ [(sx xs k, sx xs k + ss xs k)] := by
  rw [spK, if_pos (by simpa [onY] using h)]
theorem spK_f {xs : List Int} {y : Int} {k : Nat} (h1 : ¬ sy xs k = y) (h2 : ¬ sy xs k + ss xs k = y) : spK xs y (k + 1) = spK xs y k := by
  rw [spK, if_neg (by simp [onY, h1, h2])]
theorem lit2 (w : World) (a b : Int) : (w.alloc (.cells #[.int .i64 a, .int .i64 b] 3)).ownsRow 0 3 1 (.slice (some ⟨w.heap.size, 0, none⟩) 2 2) 2 (icells [a, b]) :=
  World.ownsRow_lit w #[.int .i64 a, .int .i64 b] 2 (by omega) (by unfold maxLen; omega) (by simp)

set_option maxHeartbeats 6400000 in
theorem iLevT (v : Value) (n : Nat) (xs : List Int) (w : World) (hv : SlF w v n 3 xs) (hm : n ≤ 9223372036854775807) (hb : ∀ j, -9223372036854775808 ≤ nth xs j ∧ nth xs j ≤ 9223372036854775807) (hcap : ∀ p c, v = .slice p n c → n ≤ c) (hB : tileB n xs = true) :
    Calls Try.prog 8 #[v] w fun e w' => ∃ u, e = .returned u ∧ OutL w' w.heap.size 0 0 u (levT xs n) ∧ Ge w w' := by
  obtain ⟨p, cap, rfl, hc⟩ := hv.open
  have HV := Lib.hid hv
  have HC := Lib.hid hc
  have HBd := Lib.hid hb
  have HCap := Lib.hid hcap
  clear hv hc hb hcap
  have HT := Lib.hid (fun w' (g : Ge w w') => iTilingOk (.slice p n cap) n xs w' (HV.out.ge g) hm HBd.out HCap.out)
  rw [hB] at HT
  obtain ⟨h0, h12, hsq, _⟩ : tileP n xs := by
    unfold tileB at hB
    split at hB
    · assumption
    · cases hB
  have HOK : Hid (∀ i, i < n → okSq xs i) := fun i hi => (hsq i hi).1
  have HSi := Lib.hid (fun w' (g : Ge w w') => iSides (.slice p n cap) n xs w' (HV.out.ge g) h12 HOK.out)
  have hr := right_bd n HOK.out
  have hl := low_bd n HOK.out
  have HF : Hid (levT xs n = levU xs n (rightSq xs n).toNat ((lowSq xs n).toNat + 1)) := rfl
  obtain ⟨W, hW⟩ : ∃ W : Nat, rightSq xs n = W := ⟨(rightSq xs n).toNat, by omega⟩
  obtain ⟨H, hH⟩ : ∃ H : Nat, lowSq xs n = H := ⟨(lowSq xs n).toNat, by omega⟩
  have HW := Lib.hid hW
  rw [hW, hH] at HSi HF
  rw [hW] at hr
  rw [hH] at hl
  simp only [Int.toNat_natCast] at HF
  generalize levT xs n = LT at *
  clear hB hsq hW hH HBd HCap
  have oN := OutL.nil w 0 0
  have HN := Lib.hid oN
  clear oN
  have G0 := Ge.alloc (Ge.refl w) (.cells #[] 43)
  have z0 : w.heap.size ≤ (w.alloc (.cells #[] 43)).heap.size := G0.size
  go_enter Try.func8, Try.ntmps8
  go_upto_region 2 with (fail)
  generalize w.alloc (.cells #[] 43) = wA at *
  generalize hbs : w.heap.size = bs at *
  go_wp2_with (first | ((go_at_call 24; ((with_reducible refine (HT.out _ G0).mono ?_); rintro e w1 ⟨rfl, g1⟩)); have G1 := Lib.hid (G0.trans g1); have GA := Lib.hid g1; clear g1) | ((go_at_call 25; ((with_reducible refine (HSi.out _ G1.out).mono ?_); rintro e w2 ⟨rfl, g2⟩)); have G2 := Lib.hid (G1.out.trans g2); have GB := Lib.hid (GA.out.trans g2); clear g2))
  have HN2 := Lib.hid (HN.out.ge GB.out)
  clear HN HT HSi G0 G1 GA GB
  obtain ⟨wz, hwz⟩ : ∃ wz, wz = w2 := ⟨_, rfl⟩
  subst hwz
  have HBs := Lib.hid hbs
  clear hbs
  go_loopw [3, 6] (fun o y wr => ∃ (k : Nat) (u : Value), y = .int .i64 (k : Int) ∧ k ≤ H + 1 ∧ o = u ∧ OutL wr bs 0 0 u (levU xs n W k) ∧ Ge w wr) (fun _ y _ => 402 - (intOf y).toNat)
  case atStart => exact ⟨0, _, rfl, by omega, rfl, HN2.out, G2.out⟩
  case round =>
    obtain ⟨y, u, rfl, hy, rfl, hown, hg⟩ := hrel
    clear HN2 G2
    by_cases hyH : y ≤ H
    · have hyB : (y : Int) ≤ (H : Int) := by omega
      have hyD : decide ((y : Int) ≤ (H : Int)) = true := by simp; omega
      obtain ⟨wa, hwa⟩ : ∃ wa, wa = wr := ⟨_, rfl⟩
      subst hwa
      have HO := Lib.hid hown
      have HG := Lib.hid hg
      have zg := hg.size
      obtain ⟨pu, cu, rfl⟩ := hown.form
      clear hown hg
      obtain ⟨F, hF⟩ : ∃ F, (levU xs n W y).length = F := ⟨_, rfl⟩
      have hF2 := levU_len xs n W y
      have hF3 : y * (W + 1) ≤ 401 * 401 := Nat.mul_le_mul (by omega) (by omega)
      rw [hF] at HO hF2 ⊢
      have HLF := Lib.hid hF
      clear hF
      have oS := OwnL.nil wa
      have HS0 := Lib.hid oS
      clear oS
      go_upto_region 9 with (fail)
      have gS := Ge.alloc (Ge.refl wa) (.cells #[] 43)
      generalize wa.alloc (.cells #[] 43) = ws at *
      go_wp2_with fail
      go_loopw [7, 32] (fun l i wq => ∃ (k : Nat) (s : Value), i = .int .i64 (k : Int) ∧ k ≤ n ∧ l = s ∧ OwnL wq wa.heap.size s ((spK xs y k).map rowP) ∧ Ge wa wq) (fun _ i _ => 13 - (intOf i).toNat)
      case atStart => exact ⟨0, _, rfl, Nat.zero_le _, rfl, HS0.out, gS⟩
      case round =>
        obtain ⟨k, s, rfl, hk, rfl, hsp, hq⟩ := hrel
        by_cases hkn : k < n
        · obtain ⟨b, ofs, rfl, x0, x1, x2⟩ := three_cells HC.out hkn
          have y0 := (HG.out.trans hq).keep x0
          have y1 := (HG.out.trans hq).keep x1
          have y2 := (HG.out.trans hq).keep x2
          clear x0 x1 x2
          obtain ⟨q0, q1, q2, q3, q4, q5⟩ := HOK.out k hkn
          have HKt := Lib.hid (spK_t (xs := xs) (y := (y : Int)) (k := k))
          have HKf := Lib.hid (spK_f (xs := xs) (y := (y : Int)) (k := k))
          have hlen := spK_len xs (y : Int) k
          have HSp := Lib.hid hsp
          have HQ := Lib.hid hq
          have zq := hq.size
          obtain ⟨ps, cs, hps⟩ := OwnL.read hsp rfl
          obtain ⟨rfl, _⟩ := hps
          clear hsp hq
          change wr.cell? _ = some (.int .i64 (sx xs k)) at y0
          change wr.cell? _ = some (.int .i64 (sy xs k)) at y1
          change wr.cell? _ = some (.int .i64 (ss xs k)) at y2
          generalize sx xs k = X at *
          generalize sy xs k = Y at *
          generalize ss xs k = Z at *
          generalize hM : (spK xs (y : Int) k).map rowP = M at *
          have hMl : M.length ≤ k := by rw [← hM]; simpa using hlen
          clear hlen
          have HM := Lib.hid hM
          clear hM
          go_upto_region 12 with (fail)
          have gX := Lib.hid (Ge.alloc (Ge.refl wr) (.cells #[.int .i64 X, .int .i64 Y, .int .i64 Z] 45))
          have c0 : (wr.alloc (.cells #[.int .i64 X, .int .i64 Y, .int .i64 Z] 45)).cell? ⟨wr.heap.size, 0, none⟩ = some (.int .i64 X) := by simp
          have c1 : (wr.alloc (.cells #[.int .i64 X, .int .i64 Y, .int .i64 Z] 45)).cell? ⟨wr.heap.size, 1, none⟩ = some (.int .i64 Y) := by simp
          have c2 : (wr.alloc (.cells #[.int .i64 X, .int .i64 Y, .int .i64 Z] 45)).cell? ⟨wr.heap.size, 2, none⟩ = some (.int .i64 Z) := by simp
          generalize wr.alloc (.cells #[.int .i64 X, .int .i64 Y, .int .i64 Z] 45) = wx at *
          clear y0 y1 y2
          generalize wr.heap.size = px at *
          by_cases hY1 : Y = (y : Int)
          · have HL := Lib.hid (HKt.out (.inl hY1))
            subst hY1
            clear HKt HKf
            go_wp2_with (at_builtin; refine ap_listB rfl _ _ rfl wa.heap.size _ M rfl (HSp.out.ge (Ge.alloc gX.out _)) [X, X + Z] ⟨wx.heap.size, 0, none⟩ 2 2 rfl (lit2 wx X (X + Z)) rfl (by simp) (by omega) (by have := (HQ.out.trans gX.out).size; simp; omega) ?_; intro v7 w7 own7 g7; have HO7 := Lib.hid own7; have HG7 := Lib.hid (g7 wa (HQ.out.trans (Ge.alloc gX.out _)) (Nat.le_refl _)); clear own7 g7)
            go_roundw
            case rel => exact ⟨k + 1, _, by go_num, by omega, rfl, by rw [HL.out, List.map_append, HM.out]; exact HO7.out, HG7.out⟩
            case measure => simp [intOf]; omega
          · by_cases hY2 : Y + Z = (y : Int)
            · have HL := Lib.hid (HKt.out (.inr hY2))
              have tY1 : (Y == (y : Int)) = false := by simpa using hY1
              have tY2 : (Y + Z == (y : Int)) = true := by simpa using hY2
              clear HKt HKf
              go_wp2_with (at_builtin; refine ap_listB rfl _ _ rfl wa.heap.size _ M rfl (HSp.out.ge (Ge.alloc gX.out _)) [X, X + Z] ⟨wx.heap.size, 0, none⟩ 2 2 rfl (lit2 wx X (X + Z)) rfl (by simp) (by omega) (by have := (HQ.out.trans gX.out).size; simp; omega) ?_; intro v7 w7 own7 g7; have HO7 := Lib.hid own7; have HG7 := Lib.hid (g7 wa (HQ.out.trans (Ge.alloc gX.out _)) (Nat.le_refl _)); clear own7 g7)
              go_roundw
              case rel => exact ⟨k + 1, _, by go_num, by omega, rfl, by rw [HL.out, List.map_append, HM.out]; exact HO7.out, HG7.out⟩
              case measure => simp [intOf]; omega
            · have HL := Lib.hid (HKf.out hY1 hY2)
              have tY1 : (Y == (y : Int)) = false := by simpa using hY1
              have tY2 : (Y + Z == (y : Int)) = false := by simpa using hY2
              clear HKt HKf
              go_wp2_with fail
              go_roundw
              case rel => exact ⟨k + 1, _, by go_num, by omega, rfl, by rw [HL.out, HM.out]; exact HSp.out.ge gX.out, HQ.out.trans gX.out⟩
              case measure => simp [intOf]; omega
        · have hkn2 : k = n := by omega
          have hlen := spK_len xs (y : Int) n
          rw [hkn2] at hsp
          have HLev := Lib.hid (fun T => lev_same (y := (y : Int)) (T := T) HOK.out HW.out)
          have HLU : Hid (levU xs n W (y + 1) = levU xs n W y ++ (scanS (covU xs n W y) (W + 1)).1.map (rowY y)) := rfl
          generalize levU xs n W y = LU at *
          generalize (scanS (covU xs n W y) (W + 1)).1 = SC at *
          have hin := spK_in (y := (y : Int)) HOK.out (Nat.le_refl n)
          generalize spK xs (y : Int) n = S at *
          obtain ⟨m, hSm⟩ : ∃ m, S.length = m := ⟨_, rfl⟩
          have hform := OwnL.read hsp (List.length_map rowP)
          obtain ⟨pg, cg, hfe, _⟩ := hform
          subst hfe
          rw [hSm] at hsp hlen ⊢
          have HSort : Hid (Calls Try.prog 26 #[.slice pg m cg, .func (.func 27) #[] #[]] wr fun e w' => e = .returned (.tuple #[]) ∧
              ∃ (T : List Sp) (gs : Nat), T.length = m ∧ joinAll T = SC ∧ (0 < m → pg = some ⟨gs, 0, none⟩) ∧ (0 < m → SpL w' gs m T w'.heap.size) ∧ wa.heap.size ≤ gs ∧ Ge wa w') := by
            by_cases hm0 : m = 0
            · subst hm0
              have hS0 : S = [] := List.eq_nil_of_length_eq_zero hSm
              subst hS0
              haveI : Inhabited Nat := ⟨0⟩
              refine (Try.slices_SortFunc_none (α := Nat) pg cg _ wr).mono ?_
              rintro e w' ⟨rfl, rfl⟩
              exact ⟨rfl, [], wa.heap.size, rfl, HLev.out [] (List.Perm.refl _) (fun i j hi => by simp at hi), fun h => by omega, fun h => by omega, Nat.le_refl _, hq⟩
            · have hsp2 := hsp
              obtain ⟨csx, hx1, _⟩ := hsp2
              rw [List.length_map, hSm] at hx1
              obtain ⟨gs, c', he⟩ := Go.Joins.ownsRow_form hx1 (by omega)
              simp only [Value.slice.injEq] at he
              obtain ⟨rfl, _, rfl⟩ := he
              have hgs := (hx1.lt gs rfl).1
              refine (sortSp wa.heap.size gs m cg S wr hsp hSm (by omega) (by omega)).mono ?_
              rintro e w' ⟨rfl, ⟨T, hT1, hT2, hT3⟩, hgr⟩
              have hTl : T.length = m := by rw [hT1.length_eq]; exact hSm
              exact ⟨rfl, T, gs, hTl, HLev.out T hT1 hT2, fun _ => rfl, fun _ => SpL.of hT3 hTl (by omega), hgs, hq.grown hgr (fun k hk => by simp at hk; omega)⟩
          have HSl := Lib.hid hlen
          clear hsp hq HLev hin hSm
          go_wp2_with (go_at_call 26; ((with_reducible refine (HSort.out).mono ?_); rintro e w5 ⟨rfl, T, gs, hTl, hTj, hTp, hTs, hgs, gT⟩); have HTl := Lib.hid hTl; have HTj := Lib.hid hTj; have HTp := Lib.hid hTp; have HTs := Lib.hid hTs; have GT := Lib.hid gT; clear hTl hTj hTp hTs gT)
          clear HSort
          obtain ⟨B, hB⟩ : ∃ B, B = w5.heap.size := ⟨_, rfl⟩
          have zB := GT.out.size
          have hgB : wa.heap.size ≤ B := by omega
          have hbsB : bs ≤ B := by have := HBs.out; omega
          have HO5 : Hid (OutL w5 bs B F (.slice pu F cu) LU) := by
            have h1 := HO.out.again B
            rw [HLF.out] at h1
            exact h1.ge GT.out
          have HOn : Hid ((Value.slice pu F cu).ownBlock ≠ some gs) := fun h => by
            obtain ⟨csx, hx⟩ := HO.out.own
            have := (hx.lt gs h).2
            omega
          have HB5 : Hid (0 < m → SpL w5 gs m T B) := by rw [hB]; exact HTs.out
          have HB6 : Hid (B ≤ w5.heap.size) := Nat.le_of_eq hB
          have HGt := Lib.hid (HG.out.trans GT.out)
          clear hB HTs HO zB
          go_loopw [3, 67] (fun o i wq => ∃ (k : Nat) (u : Value), i = .int .i64 (k : Int) ∧ k ≤ m ∧ o = u ∧ OutL wq bs B F u (LU ++ (joinAll (T.take k)).map (rowY (y : Int))) ∧ Hid (0 < m → SpL wq gs m T B) ∧ Hid (u.ownBlock ≠ some gs) ∧ Ge w wq ∧ B ≤ wq.heap.size) (fun _ i _ => 13 - (intOf i).toNat)
          case atStart => exact ⟨0, _, rfl, Nat.zero_le _, rfl, by simpa [joinAll] using HO5.out, HB5.out, HOn.out, HGt.out, HB6.out⟩
          case round =>
            obtain ⟨k, u, rfl, hk, rfl, hown, hsp, hun, hg, hBw⟩ := hrel
            by_cases hkm : k < m
            · have hgsB := (hsp.out (by omega)).1
              have hkT : k < T.length := by rw [HTl.out]; exact hkm
              obtain ⟨sp, cq, xs0, hspB, hrow⟩ := (hsp.out (by omega)).2 k (by rw [HTl.out]; exact hkm) hkm
              have x0 : wr.cell? ⟨sp, 0, none⟩ = some (.int .i64 T[k].1) := by rw [hrow.cellAt 0 (by simp)]; rfl
              have x1 : wr.cell? ⟨sp, 1, none⟩ = some (.int .i64 T[k].2) := by rw [hrow.cellAt 1 (by simp)]; rfl
              have hpg := HTp.out (by omega)
              subst hpg
              have HJ : Hid (joinAll (T.take (k + 1)) = joinS (joinAll (T.take k)) T[k]) := by
                show _ = _
                rw [take_snoc (by rw [HTl.out]; exact hkm), joinAll_snoc]
              have HOw := Lib.hid hown
              have HG2 := Lib.hid hg
              have hTk := joinAll_len (T.take k)
              rw [List.length_take] at hTk
              clear hown hg hrow
              generalize joinAll (T.take k) = J at *
              generalize T[k] = X at *
              obtain ⟨X1, X2⟩ := X
              simp only at x0 x1
              rcases List.eq_nil_or_concat J with hJ | ⟨J', l, hJ⟩
              · subst hJ
                simp only [List.map_nil, List.append_nil] at HOw
                obtain ⟨pz, cz, hfe⟩ := HOw.out.form
                rw [HLF.out] at hfe
                subst hfe
                have hF4 : F ≤ 160801 := by omega
                have HLn : Hid (LU.length ≤ 200000) := by show _ ≤ _; rw [HLF.out]; omega
                have tA : decide ((F : Int) - 1 ≥ (F : Int)) = false := by simp; omega
                have tA2 : ¬ (F : Int) ≤ (F : Int) - 1 := by omega
                clear HTp HTj HLU
                go_wp2_with fail
                go_quiet (fail)
                go_wp2_with fail
                have g9 : Ge wr (wr.drewN nq) := Ge.drewN (Ge.refl _) _
                have HOq := Lib.hid (HOw.out.ge g9)
                have HSq : Hid (0 < m → SpL (wr.drewN nq) gs m T B) := fun h => (hsp.out h).ge g9
                have HGq := Lib.hid (HG2.out.trans g9)
                have zq9 := g9.size
                have x0 := g9.keep x0
                have x1 := g9.keep x1
                generalize wr.drewN nq = wq at *
                refine wp_region_head (S := fun w' => w'.cell? ⟨sp, 0, none⟩ = some (.int .i64 X1) ∧ w'.cell? ⟨sp, 1, none⟩ = some (.int .i64 X2)) 10 (by kernel_rfl) (by kernel_rfl) (⟨cell_drew x0, cell_drew x1⟩) (fun hHeld => ?_)
                have gD := Lib.hid (Ge.drew (Ge.refl wq))
                have zD : wq.heap.size ≤ wq.drew.heap.size := gD.out.size
                have x0 := gD.out.keep x0
                have x1 := gD.out.keep x1
                generalize wq.drew = wD at *
                refine head_take 0 (v := ?_) rfl (by kernel_rfl) (by kernel_rfl) (fun _ _ _ h => h) (by assumption) (yields_if (by rfl) ?_) ?_
                rotate_left
                focus (intro w' hSw; (try dsimp only at hSw); go_simp; (try with_reducible rfl))
                (try simp only [Act.put, List.setIfInBounds_toArray, List.set_cons_zero, List.set_cons_succ])
                refine head_take 1 (v := ?_) rfl (by kernel_rfl) (by kernel_rfl) (fun _ _ _ h => h) (by assumption) (yields_if (by rfl) ?_) ?_
                rotate_left
                focus (intro w' hSw; (try dsimp only at hSw); go_simp; (try with_reducible rfl))
                (try simp only [Act.put, List.setIfInBounds_toArray, List.set_cons_zero, List.set_cons_succ])
                refine head_take 2 (v := ?_) rfl (by kernel_rfl) (by kernel_rfl) (fun _ _ _ h => h) (by assumption) (yields_if (by rfl) ?_) ?_
                rotate_left
                focus (intro w' hSw; (try dsimp only at hSw); go_simp; (try with_reducible rfl))
                (try simp only [Act.put, List.setIfInBounds_toArray, List.set_cons_zero, List.set_cons_succ])
                refine head_take 3 (v := ?_) rfl (by kernel_rfl) (by kernel_rfl) (fun _ _ _ h => h) (by assumption) (yields_if (by rfl) ?_) ?_
                rotate_left
                focus (intro w' hSw; (try dsimp only at hSw); go_simp; (try with_reducible rfl))
                (try simp only [Act.put, List.setIfInBounds_toArray, List.set_cons_zero, List.set_cons_succ])
                refine head_take 4 (v := ?_) rfl (by kernel_rfl) (by kernel_rfl) (fun _ _ _ h => h) (by assumption) (yields_if (by rfl) ?_) ?_
                rotate_left
                focus (intro w' hSw; (try dsimp only at hSw); go_simp; (try with_reducible rfl))
                (try simp only [Act.put, List.setIfInBounds_toArray, List.set_cons_zero, List.set_cons_succ])
                refine head_take 5 (v := ?_) rfl (by kernel_rfl) (by kernel_rfl) (fun _ _ _ h => h) (by assumption) (yields_if (by rfl) ?_) ?_
                rotate_left
                focus (intro w' hSw; (try dsimp only at hSw); go_simp; (try with_reducible rfl))
                (try simp only [Act.put, List.setIfInBounds_toArray, List.set_cons_zero, List.set_cons_succ])
                refine head_take 6 (v := ?_) rfl (by kernel_rfl) (by kernel_rfl) (fun _ _ _ h => h) (by assumption) (yields_if (by rfl) ?_) ?_
                rotate_left
                focus (intro w' hSw; (try dsimp only at hSw); go_simp; (try with_reducible rfl))
                (try simp only [Act.put, List.setIfInBounds_toArray, List.set_cons_zero, List.set_cons_succ])
                refine head_take 7 (v := ?_) rfl (by kernel_rfl) (by kernel_rfl) (fun _ _ _ h => h) (by assumption) (yields_if (by rfl) ?_) ?_
                rotate_left
                focus (intro w' hSw; (try dsimp only at hSw); go_simp; (try with_reducible rfl))
                (try simp only [Act.put, List.setIfInBounds_toArray, List.set_cons_zero, List.set_cons_succ])
                refine head_one 8 rfl (by kernel_rfl) (fun K hK => ?_)
                go_simp
                refine hK.out _ _ ⟨cell_alloc x0, cell_alloc x1⟩ (fun hHeld => ?_)
                clear hK K
                (try simp only [Act.put, List.setIfInBounds_toArray, List.set_cons_zero, List.set_cons_succ])
                refine head_one 9 rfl (by kernel_rfl) (fun K hK => ?_)
                go_simp
                refine hK.out _ _ ⟨cell_alloc (cell_alloc x0), cell_alloc (cell_alloc x1)⟩ (fun hHeld => ?_)
                clear hK K
                (try simp only [Act.put, List.setIfInBounds_toArray, List.set_cons_zero, List.set_cons_succ])
                refine head_done (by kernel_rfl) ?_
                refine ap_out (w0 := wq) rfl _ _ rfl bs B F _ (LU) (by rfl) HOq.out (Ge.alloc gD.out _) [(y : Int), X1, X2] wD.heap.size 3 3 rfl (lit3 wD bs (y : Int) X1 X2 (by omega)) zD (by omega) rfl (by simp) (by have := HLn.out; omega) (by simp; omega) ?_
                intro v7 w7 own7 g7 m7 n7
                have HO7 := Lib.hid own7
                have HG7 := Lib.hid (g7 w (HGq.out.trans (Ge.alloc gD.out _)) (Nat.le_of_eq HBs.out))
                have HN7 := Lib.hid (n7 gs (by simp; omega) hun.out)
                have HM7 := Lib.hid m7
                have HZ7 := World.grownBy.size m7
                simp only [World.size_alloc] at HZ7
                clear own7 g7 m7 n7
                (try simp only [Act.put, List.setIfInBounds_toArray, List.set_cons_zero, List.set_cons_succ])
                go_wp2_with fail
                have HS7 : Hid (0 < m → SpL w7 gs m T B) := fun h => by
                  obtain ⟨csx, hx⟩ := (HOq.out.ge (Ge.alloc gD.out (.cells #[.int .i64 (y : Int), .int .i64 X1, .int .i64 X2] 3))).own
                  exact ((HSq.out h).ge (Ge.alloc gD.out _)).mine hx HM7.out hun.out
                go_roundw
                case rel => exact ⟨k + 1, _, by go_num, by omega, rfl, by rw [HJ.out, joinS_nil]; simp only [List.map_cons, List.map_nil, rowY]; exact HO7.out, HS7, HN7, HG7.out, by omega⟩
                case measure => simp [intOf]; omega
              · rw [List.concat_eq_append] at hJ
                subst hJ
                obtain ⟨l1, l2⟩ := l
                have eL : LU ++ (J' ++ [(l1, l2)]).map (rowY (y : Int)) = (LU ++ J'.map (rowY (y : Int))) ++ [[(y : Int), l1, l2]] := by simp [rowY]
                rw [eL] at HOw
                have hQF : F ≤ (LU ++ J'.map (rowY (y : Int))).length := by rw [List.length_append, HLF.out]; omega
                have hQl : (LU ++ J'.map (rowY (y : Int))).length ≤ 160900 := by
                  simp only [List.length_append, List.length_singleton] at hTk
                  rw [List.length_append, HLF.out, List.length_map]
                  omega
                have HQ1 : Hid (LU ++ J'.map (rowY (y : Int)) ++ [[(y : Int), l1, l2]] ++ [[(y : Int), X1, X2]] = LU ++ ((J' ++ [(l1, l2)]) ++ [(X1, X2)]).map (rowY (y : Int))) := by show _ = _; simp [rowY]
                have HQ2 : Hid (LU ++ J'.map (rowY (y : Int)) ++ [[(y : Int), l1, max l2 X2]] = LU ++ (J' ++ [(l1, max l2 X2)]).map (rowY (y : Int))) := by show _ = _; simp [rowY]
                have HJi := Lib.hid (joinS_in J' (l1, l2) (X1, X2))
                have HJo := Lib.hid (joinS_out J' (l1, l2) (X1, X2))
                simp only at HJi HJo
                clear eL
                generalize hQ : LU ++ J'.map (rowY (y : Int)) = Q at *
                clear hQ
                obtain ⟨hd, c, qk, ck, hue, z0, zB, zb, z1, z2, z3, zf, hset⟩ := HOw.out.last hQF
                obtain ⟨pl, hpl⟩ : ∃ pl, Q.length = pl := ⟨_, rfl⟩
                rw [hpl] at hue z0 hQF hQl
                obtain ⟨N, hN⟩ : ∃ N, pl + 1 = N := ⟨_, rfl⟩
                rw [hN] at hue
                subst hue
                have HLn : Hid ((Q ++ [[(y : Int), l1, l2]]).length ≤ 200000) := by show _ ≤ _; rw [List.length_append, hpl]; simp; omega
                have HSet := Lib.hid hset
                have tN : (N : Int) - 1 = (pl : Int) := by omega
                have tN1 : wrap64 ((N : Int) - 1) = (pl : Int) := by rw [tN]; exact IntWalk.wrap64_in _ ⟨by omega, by omega⟩
                have tN2 : pl < N := by omega
                have tN3 : (pl : Int) < (N : Int) := by omega
                have tN4 : (F : Int) ≤ (pl : Int) := by omega
                have tN5 : decide ((pl : Int) ≥ (F : Int)) = true := by simp; omega
                clear HTp HTj HLU hset hpl hN z1 z2 tN
                by_cases hX : X1 ≤ l2
                · have hXd : decide (X1 ≤ l2) = true := by simpa using hX
                  go_wp2_with fail
                  go_quiet (fail)
                  go_wp2_with fail
                  have g9 : Ge wr (wr.drewN nq) := Ge.drewN (Ge.refl _) _
                  have HOq := Lib.hid (HOw.out.ge g9)
                  have HSq : Hid (0 < m → SpL (wr.drewN nq) gs m T B) := fun h => (hsp.out h).ge g9
                  have HGq := Lib.hid (HG2.out.trans g9)
                  have zq9 := g9.size
                  have zf := g9.keepF z3 zf
                  have x1 := g9.keep x1
                  have z0 := g9.keep z0
                  have z3 := g9.keep z3
                  have Hg9 := Lib.hid g9
                  generalize wr.drewN nq = wq at *
                  refine wp_region_head (S := fun w' => w'.cell? ⟨hd, pl, none⟩ = some (.slice (some ⟨qk, 0, none⟩) 3 ck) ∧ w'.cell? ⟨qk, 2, none⟩ = some (.int .i64 l2) ∧ w'.cell? ⟨sp, 1, none⟩ = some (.int .i64 X2)) 15 (by kernel_rfl) (by kernel_rfl) (⟨cell_drew z0, cell_drew z3, cell_drew x1⟩) (fun hHeld => ?_)
                  have gD := Lib.hid (Ge.drew (Ge.refl wq))
                  have zD : wq.heap.size ≤ wq.drew.heap.size := gD.out.size
                  have zf := gD.out.keepF z3 zf
                  have x1 := gD.out.keep x1
                  have z0 := gD.out.keep z0
                  have z3 := gD.out.keep z3
                  generalize wq.drew = wD at *
                  refine head_take 0 (v := ?_) rfl (by kernel_rfl) (by kernel_rfl) (fun _ _ _ h => h) (by assumption) (yields_if (by rfl) ?_) ?_
                  rotate_left
                  focus (intro w' hSw; (try dsimp only at hSw); go_simp; (try with_reducible rfl))
                  (try simp only [Act.put, List.setIfInBounds_toArray, List.set_cons_zero, List.set_cons_succ])
                  refine head_take 1 (v := ?_) rfl (by kernel_rfl) (by kernel_rfl) (fun _ _ _ h => h) (by assumption) (yields_if (by rfl) ?_) ?_
                  rotate_left
                  focus (intro w' hSw; (try dsimp only at hSw); go_simp; (try with_reducible rfl))
                  (try simp only [Act.put, List.setIfInBounds_toArray, List.set_cons_zero, List.set_cons_succ])
                  refine head_take 4 (v := ?_) rfl (by kernel_rfl) (by kernel_rfl) (fun _ _ _ h => h) (by assumption) (yields_if (by rfl) ?_) ?_
                  rotate_left
                  focus (intro w' hSw; (try dsimp only at hSw); go_simp; (try with_reducible rfl))
                  (try simp only [Act.put, List.setIfInBounds_toArray, List.set_cons_zero, List.set_cons_succ])
                  refine head_take 5 (v := ?_) rfl (by kernel_rfl) (by kernel_rfl) (fun _ _ _ h => h) (by assumption) (yields_if (by rfl) ?_) ?_
                  rotate_left
                  focus (intro w' hSw; (try dsimp only at hSw); go_simp; (try with_reducible rfl))
                  (try simp only [Act.put, List.setIfInBounds_toArray, List.set_cons_zero, List.set_cons_succ])
                  refine head_take 10 (v := ?_) rfl (by kernel_rfl) (by kernel_rfl) (fun _ _ _ h => h) (by assumption) (yields_if (by rfl) ?_) ?_
                  rotate_left
                  focus (intro w' hSw; (try dsimp only at hSw); go_simp; (try with_reducible rfl))
                  (try simp only [Act.put, List.setIfInBounds_toArray, List.set_cons_zero, List.set_cons_succ])
                  refine head_take 2 (v := ?_) rfl (by kernel_rfl) (by kernel_rfl) (fun _ _ _ h => h) (by assumption) (yields_if (by rfl) ?_) ?_
                  rotate_left
                  focus (intro w' hSw; (try dsimp only at hSw); go_simp; (try with_reducible rfl))
                  (try simp only [Act.put, List.setIfInBounds_toArray, List.set_cons_zero, List.set_cons_succ])
                  refine head_take 6 (v := ?_) rfl (by kernel_rfl) (by kernel_rfl) (fun _ _ _ h => h) (by assumption) (yields_if (by rfl) ?_) ?_
                  rotate_left
                  focus (intro w' hSw; (try dsimp only at hSw); go_simp; (try with_reducible rfl))
                  (try simp only [Act.put, List.setIfInBounds_toArray, List.set_cons_zero, List.set_cons_succ])
                  refine head_take 11 (v := ?_) rfl (by kernel_rfl) (by kernel_rfl) (fun _ _ _ h => h) (by assumption) (yields_if (by rfl) ?_) ?_
                  rotate_left
                  focus (intro w' hSw; (try dsimp only at hSw); go_simp; (try with_reducible rfl))
                  (try simp only [Act.put, List.setIfInBounds_toArray, List.set_cons_zero, List.set_cons_succ])
                  refine head_take 3 (v := ?_) rfl (by kernel_rfl) (by kernel_rfl) (fun _ _ _ h => h) (by assumption) (yields_if (by rfl) ?_) ?_
                  rotate_left
                  focus (intro w' hSw; (try dsimp only at hSw); go_simp; (try with_reducible rfl))
                  (try simp only [Act.put, List.setIfInBounds_toArray, List.set_cons_zero, List.set_cons_succ])
                  refine head_take 7 (v := ?_) rfl (by kernel_rfl) (by kernel_rfl) (fun _ _ _ h => h) (by assumption) (yields_if (by rfl) ?_) ?_
                  rotate_left
                  focus (intro w' hSw; (try dsimp only at hSw); go_simp; (try with_reducible rfl))
                  (try simp only [Act.put, List.setIfInBounds_toArray, List.set_cons_zero, List.set_cons_succ])
                  refine head_take 12 (v := ?_) rfl (by kernel_rfl) (by kernel_rfl) (fun _ _ _ h => h) (by assumption) (yields_if (by rfl) ?_) ?_
                  rotate_left
                  focus (intro w' hSw; (try dsimp only at hSw); go_simp; (try with_reducible rfl))
                  (try simp only [Act.put, List.setIfInBounds_toArray, List.set_cons_zero, List.set_cons_succ])
                  refine head_take 8 (v := ?_) rfl (by kernel_rfl) (by kernel_rfl) (fun _ _ _ h => h) (by assumption) (yields_if (by rfl) ?_) ?_
                  rotate_left
                  focus (intro w' hSw; (try dsimp only at hSw); go_simp; (try with_reducible rfl))
                  (try simp only [Act.put, List.setIfInBounds_toArray, List.set_cons_zero, List.set_cons_succ])
                  refine head_take 9 (v := ?_) rfl (by kernel_rfl) (by kernel_rfl) (fun _ _ _ h => h) (by assumption) (yields_if (by rfl) ?_) ?_
                  rotate_left
                  focus (intro w' hSw; (try dsimp only at hSw); go_simp; (try with_reducible rfl))
                  (try simp only [Act.put, List.setIfInBounds_toArray, List.set_cons_zero, List.set_cons_succ])
                  refine head_take 13 (v := ?_) rfl (by kernel_rfl) (by kernel_rfl) (fun _ _ _ h => h) (by assumption) (yields_if (by rfl) ?_) ?_
                  rotate_left
                  focus (intro w' hSw; (try dsimp only at hSw); go_simp; (try with_reducible rfl))
                  (try simp only [Act.put, List.setIfInBounds_toArray, List.set_cons_zero, List.set_cons_succ])
                  refine head_take 14 (v := ?_) rfl (by kernel_rfl) (by kernel_rfl) (fun _ _ _ h => h) (by assumption) (yields_if (by rfl) ?_) ?_
                  rotate_left
                  focus (intro w' hSw; (try dsimp only at hSw); go_simp; (try with_reducible rfl))
                  (try simp only [Act.put, List.setIfInBounds_toArray, List.set_cons_zero, List.set_cons_succ])
                  refine head_done (by kernel_rfl) ?_
                  go_wp2_with fail
                  have hS := grown_setL wD qk 2 (.int .i64 (max l2 X2))
                  go_roundw
                  case rel => exact ⟨k + 1, _, by go_num, by omega, rfl, by rw [HJ.out, HJi.out hX, ← HQ2.out]; exact HSet.out wD (max l2 X2) (Hg9.out.trans gD.out), fun h => ((HSq.out h).ge gD.out).set hS zB, hun.out, (HGq.out.trans gD.out).grown hS (fun k hk => by have := HBs.out; simp at hk; omega), by simp; omega⟩
                  case measure => simp [intOf]; omega
                · have hXd : decide (X1 ≤ l2) = false := by simpa using hX
                  have hX2 : ¬ X1 ≤ l2 := hX
                  go_wp2_with fail
                  go_quiet (fail)
                  go_wp2_with fail
                  have g9 : Ge wr (wr.drewN nq) := Ge.drewN (Ge.refl _) _
                  have HOq := Lib.hid (HOw.out.ge g9)
                  have HSq : Hid (0 < m → SpL (wr.drewN nq) gs m T B) := fun h => (hsp.out h).ge g9
                  have HGq := Lib.hid (HG2.out.trans g9)
                  have zq9 := g9.size
                  have x0 := g9.keep x0
                  have x1 := g9.keep x1
                  generalize wr.drewN nq = wq at *
                  refine wp_region_head (S := fun w' => w'.cell? ⟨sp, 0, none⟩ = some (.int .i64 X1) ∧ w'.cell? ⟨sp, 1, none⟩ = some (.int .i64 X2)) 10 (by kernel_rfl) (by kernel_rfl) (⟨cell_drew x0, cell_drew x1⟩) (fun hHeld => ?_)
                  have gD := Lib.hid (Ge.drew (Ge.refl wq))
                  have zD : wq.heap.size ≤ wq.drew.heap.size := gD.out.size
                  have x0 := gD.out.keep x0
                  have x1 := gD.out.keep x1
                  generalize wq.drew = wD at *
                  refine head_take 0 (v := ?_) rfl (by kernel_rfl) (by kernel_rfl) (fun _ _ _ h => h) (by assumption) (yields_if (by rfl) ?_) ?_
                  rotate_left
                  focus (intro w' hSw; (try dsimp only at hSw); go_simp; (try with_reducible rfl))
                  (try simp only [Act.put, List.setIfInBounds_toArray, List.set_cons_zero, List.set_cons_succ])
                  refine head_take 1 (v := ?_) rfl (by kernel_rfl) (by kernel_rfl) (fun _ _ _ h => h) (by assumption) (yields_if (by rfl) ?_) ?_
                  rotate_left
                  focus (intro w' hSw; (try dsimp only at hSw); go_simp; (try with_reducible rfl))
                  (try simp only [Act.put, List.setIfInBounds_toArray, List.set_cons_zero, List.set_cons_succ])
                  refine head_take 2 (v := ?_) rfl (by kernel_rfl) (by kernel_rfl) (fun _ _ _ h => h) (by assumption) (yields_if (by rfl) ?_) ?_
                  rotate_left
                  focus (intro w' hSw; (try dsimp only at hSw); go_simp; (try with_reducible rfl))
                  (try simp only [Act.put, List.setIfInBounds_toArray, List.set_cons_zero, List.set_cons_succ])
                  refine head_take 3 (v := ?_) rfl (by kernel_rfl) (by kernel_rfl) (fun _ _ _ h => h) (by assumption) (yields_if (by rfl) ?_) ?_
                  rotate_left
                  focus (intro w' hSw; (try dsimp only at hSw); go_simp; (try with_reducible rfl))
                  (try simp only [Act.put, List.setIfInBounds_toArray, List.set_cons_zero, List.set_cons_succ])
                  refine head_take 4 (v := ?_) rfl (by kernel_rfl) (by kernel_rfl) (fun _ _ _ h => h) (by assumption) (yields_if (by rfl) ?_) ?_
                  rotate_left
                  focus (intro w' hSw; (try dsimp only at hSw); go_simp; (try with_reducible rfl))
                  (try simp only [Act.put, List.setIfInBounds_toArray, List.set_cons_zero, List.set_cons_succ])
                  refine head_take 5 (v := ?_) rfl (by kernel_rfl) (by kernel_rfl) (fun _ _ _ h => h) (by assumption) (yields_if (by rfl) ?_) ?_
                  rotate_left
                  focus (intro w' hSw; (try dsimp only at hSw); go_simp; (try with_reducible rfl))
                  (try simp only [Act.put, List.setIfInBounds_toArray, List.set_cons_zero, List.set_cons_succ])
                  refine head_take 6 (v := ?_) rfl (by kernel_rfl) (by kernel_rfl) (fun _ _ _ h => h) (by assumption) (yields_if (by rfl) ?_) ?_
                  rotate_left
                  focus (intro w' hSw; (try dsimp only at hSw); go_simp; (try with_reducible rfl))
                  (try simp only [Act.put, List.setIfInBounds_toArray, List.set_cons_zero, List.set_cons_succ])
                  refine head_take 7 (v := ?_) rfl (by kernel_rfl) (by kernel_rfl) (fun _ _ _ h => h) (by assumption) (yields_if (by rfl) ?_) ?_
                  rotate_left
                  focus (intro w' hSw; (try dsimp only at hSw); go_simp; (try with_reducible rfl))
                  (try simp only [Act.put, List.setIfInBounds_toArray, List.set_cons_zero, List.set_cons_succ])
                  refine head_one 8 rfl (by kernel_rfl) (fun K hK => ?_)
                  go_simp
                  refine hK.out _ _ ⟨cell_alloc x0, cell_alloc x1⟩ (fun hHeld => ?_)
                  clear hK K
                  (try simp only [Act.put, List.setIfInBounds_toArray, List.set_cons_zero, List.set_cons_succ])
                  refine head_one 9 rfl (by kernel_rfl) (fun K hK => ?_)
                  go_simp
                  refine hK.out _ _ ⟨cell_alloc (cell_alloc x0), cell_alloc (cell_alloc x1)⟩ (fun hHeld => ?_)
                  clear hK K
                  (try simp only [Act.put, List.setIfInBounds_toArray, List.set_cons_zero, List.set_cons_succ])
                  refine head_done (by kernel_rfl) ?_
                  refine ap_out (w0 := wq) rfl _ _ rfl bs B F _ (Q ++ [[(y : Int), l1, l2]]) (by rfl) HOq.out (Ge.alloc gD.out _) [(y : Int), X1, X2] wD.heap.size 3 3 rfl (lit3 wD bs (y : Int) X1 X2 (by omega)) zD (by omega) rfl (by simp) (by have := HLn.out; omega) (by simp; omega) ?_
                  intro v7 w7 own7 g7 m7 n7
                  have HO7 := Lib.hid own7
                  have HG7 := Lib.hid (g7 w (HGq.out.trans (Ge.alloc gD.out _)) (Nat.le_of_eq HBs.out))
                  have HN7 := Lib.hid (n7 gs (by simp; omega) hun.out)
                  have HM7 := Lib.hid m7
                  have HZ7 := World.grownBy.size m7
                  simp only [World.size_alloc] at HZ7
                  clear own7 g7 m7 n7
                  (try simp only [Act.put, List.setIfInBounds_toArray, List.set_cons_zero, List.set_cons_succ])
                  go_wp2_with fail
                  have HS7 : Hid (0 < m → SpL w7 gs m T B) := fun h => by
                    obtain ⟨csx, hx⟩ := (HOq.out.ge (Ge.alloc gD.out (.cells #[.int .i64 (y : Int), .int .i64 X1, .int .i64 X2] 3))).own
                    exact ((HSq.out h).ge (Ge.alloc gD.out _)).mine hx HM7.out hun.out
                  go_roundw
                  case rel => exact ⟨k + 1, _, by go_num, by omega, rfl, by rw [HJ.out, HJo.out hX, ← HQ1.out]; exact HO7.out, HS7, HN7, HG7.out, by omega⟩
                  case measure => simp [intOf]; omega
            · have hkm2 : k = m := by omega
              have HE : Hid (joinAll (T.take k) = SC) := by
                show _ = _
                rw [hkm2, ← HTl.out, List.take_length]
                exact HTj.out
              clear HTp
              go_wp2_with fail
              go_roundw
              case rel => exact ⟨y + 1, _, by go_num, by omega, rfl, by rw [HLU.out, ← HE.out]; exact hown.zero, hg⟩
              case measure => simp [intOf]; omega
    · have hyH2 : y = H + 1 := by omega
      have hyD : decide ((y : Int) ≤ (H : Int)) = false := by simp; omega
      have hyI : ¬ (y : Int) ≤ (H : Int) := by omega
      go_wp2_with fail
      go_ret
      exact ⟨_, rfl, by rw [HF.out, HBs.out, ← hyH2]; exact hown, hg⟩
end Go.Proofs.Ytenfkpdbfmeebaa

namespace Go.Proofs.Ytenfkpdbfmeebaa
set_option maxRecDepth 100000
open Go.ChangeShapes Go.WideShapes Go.ChangeAt Go.RowKit Go.Joins

set_option maxHeartbeats 800000 in
theorem sL13Right (v : Value) (n : Nat) (xs : List Int) (w : World) (hv : SlF w v n 3 xs) (hn : n ≤ 12) (hok : ∀ k, k < n → okSq xs k) :
    Calls Try.prog 20 #[v] w fun e w' => e = .returned (.int .i64 (rightSq xs n)) ∧ Ge w w' := by
  obtain ⟨p, cap, rfl, hc⟩ := hv.open
  have HC := Lib.hid hc
  have HK := Lib.hid hok
  clear hv hc hok
  go_enter Try.func20, Try.ntmps20
  go_wp2_with fail
  go_loopw [3, 8] (fun a i wr => ∃ k : Nat, k ≤ n ∧ i = .int .i64 k ∧ a = .int .i64 (rightSq xs k) ∧ Ge w wr) (fun _ i _ => n - (intOf i).toNat)
  case atStart => exact ⟨0, Nat.zero_le _, rfl, rfl, Ge.refl _⟩
  case round =>
    obtain ⟨k, hk, rfl, rfl, hg⟩ := hrel
    by_cases hlt : k < n
    · obtain ⟨b, o, rfl, x0, x1, x2⟩ := three_cells HC.out hlt
      have y0 := hg.keep x0
      have y1 := hg.keep x1
      have y2 := hg.keep x2
      clear x0 x1 x2
      obtain ⟨q0, q1, q2, q3, q4, q5⟩ := HK.out k hlt
      obtain ⟨r0, r1⟩ := right_bd k (fun j hj => HK.out j (by omega))
      have H1 : Hid (rightSq xs (k + 1) = max (rightSq xs k) (sx xs k + ss xs k)) := rfl
      change wr.cell? _ = some (.int .i64 (sx xs k)) at y0
      change wr.cell? _ = some (.int .i64 (sy xs k)) at y1
      change wr.cell? _ = some (.int .i64 (ss xs k)) at y2
      generalize sx xs k = X at *
      generalize sy xs k = Y at *
      generalize ss xs k = Z at *
      go_wp2_with fail
      go_roundw
      case rel => exact ⟨k + 1, by omega, by go_num, congrArg _ (by rw [H1.out] <;> (split <;> omega)), by (repeat (first | with_reducible exact Ge.refl _ | assumption | with_reducible refine Ge.drew ?_ | with_reducible refine Ge.drewN ?_ _ | with_reducible refine Ge.alloc ?_ _ | (with_reducible refine Ge.setCell ?_ (by first | (simp; done) | omega | (simp; omega)) _) | with_reducible refine Ge.trans ?_ (by assumption)))⟩
      case measure => simp [intOf]; omega
    · have hkn : k = n := by omega
      subst hkn
      go_wp2_with fail
      go_ret
      exact ⟨rfl, by (repeat (first | with_reducible exact Ge.refl _ | assumption | with_reducible refine Ge.drew ?_ | with_reducible refine Ge.drewN ?_ _ | with_reducible refine Ge.alloc ?_ _ | (with_reducible refine Ge.setCell ?_ (by first | (simp; done) | omega | (simp; omega)) _) | with_reducible refine Ge.trans ?_ (by assumption)))⟩

set_option maxHeartbeats 800000 in
theorem sL13Low (v : Value) (n : Nat) (xs : List Int) (w : World) (hv : SlF w v n 3 xs) (hn : n ≤ 12) (hok : ∀ k, k < n → okSq xs k) :
    Calls Try.prog 21 #[v] w fun e w' => e = .returned (.int .i64 (lowSq xs n)) ∧ Ge w w' := by
  obtain ⟨p, cap, rfl, hc⟩ := hv.open
  have HC := Lib.hid hc
  have HK := Lib.hid hok
  clear hv hc hok
  go_enter Try.func21, Try.ntmps21
  go_wp2_with fail
  go_loopw [3, 8] (fun a i wr => ∃ k : Nat, k ≤ n ∧ i = .int .i64 k ∧ a = .int .i64 (lowSq xs k) ∧ Ge w wr) (fun _ i _ => n - (intOf i).toNat)
  case atStart => exact ⟨0, Nat.zero_le _, rfl, rfl, Ge.refl _⟩
  case round =>
    obtain ⟨k, hk, rfl, rfl, hg⟩ := hrel
    by_cases hlt : k < n
    · obtain ⟨b, o, rfl, x0, x1, x2⟩ := three_cells HC.out hlt
      have y0 := hg.keep x0
      have y1 := hg.keep x1
      have y2 := hg.keep x2
      clear x0 x1 x2
      obtain ⟨q0, q1, q2, q3, q4, q5⟩ := HK.out k hlt
      obtain ⟨r0, r1⟩ := low_bd k (fun j hj => HK.out j (by omega))
      have H1 : Hid (lowSq xs (k + 1) = max (lowSq xs k) (sy xs k + ss xs k)) := rfl
      change wr.cell? _ = some (.int .i64 (sx xs k)) at y0
      change wr.cell? _ = some (.int .i64 (sy xs k)) at y1
      change wr.cell? _ = some (.int .i64 (ss xs k)) at y2
      generalize sx xs k = X at *
      generalize sy xs k = Y at *
      generalize ss xs k = Z at *
      go_wp2_with fail
      go_roundw
      case rel => exact ⟨k + 1, by omega, by go_num, congrArg _ (by rw [H1.out] <;> (split <;> omega)), by (repeat (first | with_reducible exact Ge.refl _ | assumption | with_reducible refine Ge.drew ?_ | with_reducible refine Ge.drewN ?_ _ | with_reducible refine Ge.alloc ?_ _ | (with_reducible refine Ge.setCell ?_ (by first | (simp; done) | omega | (simp; omega)) _) | with_reducible refine Ge.trans ?_ (by assumption)))⟩
      case measure => simp [intOf]; omega
    · have hkn : k = n := by omega
      subst hkn
      go_wp2_with fail
      go_ret
      exact ⟨rfl, by (repeat (first | with_reducible exact Ge.refl _ | assumption | with_reducible refine Ge.drew ?_ | with_reducible refine Ge.drewN ?_ _ | with_reducible refine Ge.alloc ?_ _ | (with_reducible refine Ge.setCell ?_ (by first | (simp; done) | omega | (simp; omega)) _) | with_reducible refine Ge.trans ?_ (by assumption)))⟩

def overB (x1 y1 s1 x2 y2 s2 : Int) : Bool := decide (x1 < x2 + s2 ∧ x2 < x1 + s1 ∧ y1 < y2 + s2 ∧ y2 < y1 + s1)
theorem overB_f {x1 y1 s1 x2 y2 s2 : Int} (h : ¬ (x1 < x2 + s2 ∧ x2 < x1 + s1 ∧ y1 < y2 + s2 ∧ y2 < y1 + s1)) : overB x1 y1 s1 x2 y2 s2 = false := by simpa [overB] using h
def sqIn (x : Int) : Prop := 0 ≤ x ∧ x ≤ 200
set_option maxHeartbeats 1600000 in
theorem sL13Overlap (x1 y1 s1 x2 y2 s2 : Int) (w : World) (h1 : sqIn x1) (h2 : sqIn y1) (h3 : sqIn s1) (h4 : sqIn x2) (h5 : sqIn y2) (h6 : sqIn s2) :
    Calls Try.prog 52 #[.agg #[.int .i64 x1, .int .i64 y1, .int .i64 s1], .agg #[.int .i64 x2, .int .i64 y2, .int .i64 s2]] w fun e w' => e = .returned (.bool (overB x1 y1 s1 x2 y2 s2)) ∧ Ge w w' := by
  obtain ⟨a0, a1⟩ := h1
  obtain ⟨b0, b1⟩ := h2
  obtain ⟨c0, c1⟩ := h3
  obtain ⟨d0, d1⟩ := h4
  obtain ⟨e0, e1⟩ := h5
  obtain ⟨f0, f1⟩ := h6
  by_cases t1 : x1 < x2 + s2
  · by_cases t2 : x2 < x1 + s1
    · by_cases t3 : y1 < y2 + s2
      · by_cases t4 : y2 < y1 + s1
        · have HF : Hid (overB x1 y1 s1 x2 y2 s2 = true) := by simp [overB, t1, t2, t3, t4, Lib.hid]
          go_enter Try.func52, Try.ntmps52
          go_wp2_with fail
          go_ret
          exact ⟨ret_bool HF.out.symm, by (repeat (first | with_reducible exact Ge.refl _ | assumption | with_reducible refine Ge.drew ?_ | with_reducible refine Ge.drewN ?_ _ | with_reducible refine Ge.alloc ?_ _ | (with_reducible refine Ge.setCell ?_ (by first | (simp; done) | omega | (simp; omega)) _) | with_reducible refine Ge.trans ?_ (by assumption)))⟩
        · have HF : Hid (overB x1 y1 s1 x2 y2 s2 = false) := overB_f (fun h => by omega)
          go_enter Try.func52, Try.ntmps52
          go_wp2_with fail
          go_ret
          exact ⟨ret_bool HF.out.symm, by (repeat (first | with_reducible exact Ge.refl _ | assumption | with_reducible refine Ge.drew ?_ | with_reducible refine Ge.drewN ?_ _ | with_reducible refine Ge.alloc ?_ _ | (with_reducible refine Ge.setCell ?_ (by first | (simp; done) | omega | (simp; omega)) _) | with_reducible refine Ge.trans ?_ (by assumption)))⟩
      · have HF : Hid (overB x1 y1 s1 x2 y2 s2 = false) := overB_f (fun h => by omega)
        go_enter Try.func52, Try.ntmps52
        go_wp2_with fail
        go_ret
        exact ⟨ret_bool HF.out.symm, by (repeat (first | with_reducible exact Ge.refl _ | assumption | with_reducible refine Ge.drew ?_ | with_reducible refine Ge.drewN ?_ _ | with_reducible refine Ge.alloc ?_ _ | (with_reducible refine Ge.setCell ?_ (by first | (simp; done) | omega | (simp; omega)) _) | with_reducible refine Ge.trans ?_ (by assumption)))⟩
    · have HF : Hid (overB x1 y1 s1 x2 y2 s2 = false) := overB_f (fun h => by omega)
      go_enter Try.func52, Try.ntmps52
      go_wp2_with fail
      go_ret
      exact ⟨ret_bool HF.out.symm, by (repeat (first | with_reducible exact Ge.refl _ | assumption | with_reducible refine Ge.drew ?_ | with_reducible refine Ge.drewN ?_ _ | with_reducible refine Ge.alloc ?_ _ | (with_reducible refine Ge.setCell ?_ (by first | (simp; done) | omega | (simp; omega)) _) | with_reducible refine Ge.trans ?_ (by assumption)))⟩
  · have HF : Hid (overB x1 y1 s1 x2 y2 s2 = false) := overB_f (fun h => by omega)
    go_enter Try.func52, Try.ntmps52
    go_wp2_with fail
    go_ret
    exact ⟨ret_bool HF.out.symm, by (repeat (first | with_reducible exact Ge.refl _ | assumption | with_reducible refine Ge.drew ?_ | with_reducible refine Ge.drewN ?_ _ | with_reducible refine Ge.alloc ?_ _ | (with_reducible refine Ge.setCell ?_ (by first | (simp; done) | omega | (simp; omega)) _) | with_reducible refine Ge.trans ?_ (by assumption)))⟩
end Go.Proofs.Ytenfkpdbfmeebaa

namespace Go.Proofs.Ytenfkpdbfmeebaa
set_option maxRecDepth 100000
open Go.ChangeShapes Go.WideShapes Go.ChangeAt Go.RowKit Go.Joins

def squaresP (n : Nat) (xs : List Int) : Prop := ∀ k, k < n → goodSq xs k
open Classical in

noncomputable def squaresB (n : Nat) (xs : List Int) : Bool := if squaresP n xs then true else false
theorem squaresB_true {n : Nat} {xs : List Int} (h : squaresP n xs) : squaresB n xs = true := by simp [squaresB, h]
theorem squaresB_false {n : Nat} {xs : List Int} (h : ¬ squaresP n xs) : squaresB n xs = false := by simp [squaresB, h]
theorem no_stepS {xs : List Int} {k j : Nat} (h : Hid (∀ i, i < j → ¬ overSq xs k i)) (hj : ¬ overSq xs k j) : Hid (∀ i, i < j + 1 → ¬ overSq xs k i) := fun i hi => by
  by_cases e : i = j
  · subst e; exact hj
  · exact h.out i (by omega)
theorem good_nextS {xs : List Int} {k : Nat} (h : Hid (∀ i, i < k → goodSq xs i)) (hk : goodSq xs k) : Hid (∀ i, i < k + 1 → goodSq xs i) := fun i hi => by
  by_cases e : i = k
  · subst e; exact hk
  · exact h.out i (by omega)

set_option maxHeartbeats 3200000 in
theorem sL13Squares (v : Value) (n : Nat) (xs : List Int) (w : World) (hv : SlF w v n 3 xs) (hn : n ≤ 12) (hb : ∀ j, -9223372036854775808 ≤ nth xs j ∧ nth xs j ≤ 9223372036854775807) (hcap : ∀ p c, v = .slice p n c → n ≤ c) :
    Calls Try.prog 43 #[v] w fun e w' => e = .returned (.bool (squaresB n xs)) ∧ Ge w w' := by
  obtain ⟨p, cap, rfl, hc⟩ := hv.open
  have HC := Lib.hid hc
  have HBd := Lib.hid hb
  have hnc := hcap _ _ rfl
  clear hv hc hb hcap
  go_enter Try.func43, Try.ntmps43
  go_wp2_with fail
  go_loopw [9] (fun i wr => ∃ k : Nat, k ≤ n ∧ i = .int .i64 k ∧ Hid (∀ j, j < k → goodSq xs j) ∧ Ge w wr) (fun i _ => n - (intOf i).toNat)
  case atStart => exact ⟨0, Nat.zero_le _, rfl, fun j hj => by omega, Ge.refl _⟩
  case round =>
    obtain ⟨k, hk, rfl, HK, hg⟩ := hrel
    by_cases hlt : k < n
    · obtain ⟨b, o, rfl, x0, x1, x2⟩ := three_cells HC.out hlt
      have y0 := hg.keep x0
      have y1 := hg.keep x1
      have y2 := hg.keep x2
      clear x0 x1 x2
      change wr.cell? _ = some (.int .i64 (sx xs k)) at y0
      change wr.cell? _ = some (.int .i64 (sy xs k)) at y1
      change wr.cell? _ = some (.int .i64 (ss xs k)) at y2
      have HB0 := HBd.out (k * 3)
      have HB1 := HBd.out (k * 3 + 1)
      have HB2 := HBd.out (k * 3 + 2)
      change _ ≤ sx xs k ∧ sx xs k ≤ _ at HB0
      change _ ≤ sy xs k ∧ sy xs k ≤ _ at HB1
      change _ ≤ ss xs k ∧ ss xs k ≤ _ at HB2
      by_cases t1 : ¬ (0 ≤ sx xs k ∧ sx xs k ≤ 200)
      · have HF : Hid (squaresB n xs = false) := squaresB_false (fun h => by have := (h k hlt).1; exact t1 ⟨this.1, this.2.1⟩)
        have i1 : inB (sx xs k) 0 200 = false := inB_false (by omega)
        clear t1
        go_wp2_with (go_at_call 42; ((with_reducible refine (sL01In _ _ _ _).mono ?_); rintro e w' ⟨rfl, rfl⟩))
        go_ret
        exact ⟨ret_bool HF.out.symm, by (repeat (first | with_reducible exact Ge.refl _ | assumption | with_reducible refine Ge.drew ?_ | with_reducible refine Ge.drewN ?_ _ | with_reducible refine Ge.alloc ?_ _ | (with_reducible refine Ge.setCell ?_ (by first | (simp; done) | omega | (simp; omega)) _) | with_reducible refine Ge.trans ?_ (by assumption)))⟩
      replace t1 := Classical.not_not.1 t1
      have i1 : inB (sx xs k) 0 200 = true := inB_true t1.1 t1.2
      by_cases t2 : ¬ (0 ≤ sy xs k ∧ sy xs k ≤ 200)
      · have HF : Hid (squaresB n xs = false) := squaresB_false (fun h => by have := (h k hlt).1; exact t2 ⟨this.2.2.1, this.2.2.2.1⟩)
        have i2 : inB (sy xs k) 0 200 = false := inB_false (by omega)
        clear t2
        go_wp2_with (go_at_call 42; ((with_reducible refine (sL01In _ _ _ _).mono ?_); rintro e w' ⟨rfl, rfl⟩))
        go_ret
        exact ⟨ret_bool HF.out.symm, by (repeat (first | with_reducible exact Ge.refl _ | assumption | with_reducible refine Ge.drew ?_ | with_reducible refine Ge.drewN ?_ _ | with_reducible refine Ge.alloc ?_ _ | (with_reducible refine Ge.setCell ?_ (by first | (simp; done) | omega | (simp; omega)) _) | with_reducible refine Ge.trans ?_ (by assumption)))⟩
      replace t2 := Classical.not_not.1 t2
      have i2 : inB (sy xs k) 0 200 = true := inB_true t2.1 t2.2
      by_cases t3 : ¬ (1 ≤ ss xs k ∧ ss xs k ≤ 200)
      · have HF : Hid (squaresB n xs = false) := squaresB_false (fun h => by have := (h k hlt).1; exact t3 ⟨this.2.2.2.2.1, this.2.2.2.2.2⟩)
        have i3 : inB (ss xs k) 1 200 = false := inB_false (by omega)
        clear t3
        go_wp2_with (go_at_call 42; ((with_reducible refine (sL01In _ _ _ _).mono ?_); rintro e w' ⟨rfl, rfl⟩))
        go_ret
        exact ⟨ret_bool HF.out.symm, by (repeat (first | with_reducible exact Ge.refl _ | assumption | with_reducible refine Ge.drew ?_ | with_reducible refine Ge.drewN ?_ _ | with_reducible refine Ge.alloc ?_ _ | (with_reducible refine Ge.setCell ?_ (by first | (simp; done) | omega | (simp; omega)) _) | with_reducible refine Ge.trans ?_ (by assumption)))⟩
      replace t3 := Classical.not_not.1 t3
      have i3 : inB (ss xs k) 1 200 = true := inB_true t3.1 t3.2
      have OK : Hid (okSq xs k) := ⟨t1.1, t1.2, t2.1, t2.2, t3.1, t3.2⟩
      obtain ⟨bad, hbad⟩ : ∃ bad : Bool, bad = true ↔ (0 < k ∧ ¬ ordSq xs (k - 1) k) := ⟨@decide (0 < k ∧ ¬ ordSq xs (k - 1) k) (Classical.propDecidable _), by simp⟩
      have HBad := Lib.hid hbad
      clear hbad HB0 HB1 HB2
      go_upto_region 6 with (go_at_call 42; ((with_reducible refine (sL01In _ _ _ _).mono ?_); rintro e w' ⟨rfl, rfl⟩))
      go_cut [64] (fun s wx => s = .bool bad ∧ wx.cell? ⟨wr.heap.size, 0, none⟩ = some (.int .i64 (sx xs k)) ∧ wx.cell? ⟨wr.heap.size, 1, none⟩ = some (.int .i64 (sy xs k)) ∧ wx.cell? ⟨wr.heap.size, 2, none⟩ = some (.int .i64 (ss xs k)) ∧ Ge wr wx)
      case first =>
        by_cases hp : 0 < k
        · obtain ⟨j, rfl⟩ : ∃ j, k = j + 1 := ⟨k - 1, by omega⟩
          obtain ⟨b', o', e', x0, x1, x2⟩ := three_cells HC.out (show j < n by omega)
          simp only [Option.some.injEq, Addr.mk.injEq, and_true] at e'
          obtain ⟨rfl, rfl⟩ := e'
          have z0 := hg.keep x0
          have z1 := hg.keep x1
          have z2 := hg.keep x2
          clear x0 x1 x2
          change wr.cell? _ = some (.int .i64 (sx xs j)) at z0
          change wr.cell? _ = some (.int .i64 (sy xs j)) at z1
          change wr.cell? _ = some (.int .i64 (ss xs j)) at z2
          have w1 : IntKind.i64.wrap (((j + 1 : Nat) : Int) - 1) = (j : Int) := IntWalk.i64_in _ (by omega) |>.trans (by omega)
          have w2 : IntKind.i64.wrap (j : Int) = (j : Int) := IntWalk.i64_in _ (by omega)
          have j0 : (0 : Int) ≤ (j : Int) := by omega
          have j1 : (j : Int) < (n : Int) := by omega
          have w3 : ((j : Int) + 1 - 1) = (j : Int) := by omega
          have lb := World.block_lt_of_cell? wr _ z0
          simp at lb
          have h1 := HBad.out
          simp only [Nat.add_sub_cancel, ordSq] at h1
          by_cases c1 : sy xs (j + 1) < sy xs j
          · have hb0 : bad = true := h1.2 ⟨by omega, by omega⟩
            subst hb0
            clear h1
            go_quiet (fail)
            go_wp2_with fail
            go_meet
            exact ⟨rfl, cell_drewN (cell_new rfl rfl), cell_drewN (cell_new rfl rfl), cell_drewN (cell_new rfl rfl), by (repeat (first | with_reducible exact Ge.refl _ | assumption | with_reducible refine Ge.drew ?_ | with_reducible refine Ge.drewN ?_ _ | with_reducible refine Ge.alloc ?_ _ | (with_reducible refine Ge.setCell ?_ (by first | (simp; done) | omega | (simp; omega)) _) | with_reducible refine Ge.trans ?_ (by assumption)))⟩
          · by_cases c2 : sy xs (j + 1) = sy xs j
            · have c2b : (sy xs (j + 1) == sy xs j) = true := by simp [c2]
              by_cases c3 : sx xs (j + 1) ≤ sx xs j
              · have hb0 : bad = true := h1.2 ⟨by omega, by omega⟩
                subst hb0
                clear h1 c2
                go_quiet (fail)
                go_wp2_with fail
                go_meet
                exact ⟨rfl, cell_drewN (cell_new rfl rfl), cell_drewN (cell_new rfl rfl), cell_drewN (cell_new rfl rfl), by (repeat (first | with_reducible exact Ge.refl _ | assumption | with_reducible refine Ge.drew ?_ | with_reducible refine Ge.drewN ?_ _ | with_reducible refine Ge.alloc ?_ _ | (with_reducible refine Ge.setCell ?_ (by first | (simp; done) | omega | (simp; omega)) _) | with_reducible refine Ge.trans ?_ (by assumption)))⟩
              · have hb0 : bad = false := by
                  cases bad with
                  | false => rfl
                  | true => have := (h1.1 rfl).2; omega
                subst hb0
                clear h1 c2
                go_quiet (fail)
                go_wp2_with fail
                go_meet
                exact ⟨rfl, cell_drewN (cell_new rfl rfl), cell_drewN (cell_new rfl rfl), cell_drewN (cell_new rfl rfl), by (repeat (first | with_reducible exact Ge.refl _ | assumption | with_reducible refine Ge.drew ?_ | with_reducible refine Ge.drewN ?_ _ | with_reducible refine Ge.alloc ?_ _ | (with_reducible refine Ge.setCell ?_ (by first | (simp; done) | omega | (simp; omega)) _) | with_reducible refine Ge.trans ?_ (by assumption)))⟩
            · have c2b : (sy xs (j + 1) == sy xs j) = false := by simp [c2]
              have hb0 : bad = false := by
                cases bad with
                | false => rfl
                | true => have := (h1.1 rfl).2; omega
              subst hb0
              clear h1 c2
              go_quiet (fail)
              go_wp2_with fail
              go_meet
              exact ⟨rfl, cell_drewN (cell_new rfl rfl), cell_drewN (cell_new rfl rfl), cell_drewN (cell_new rfl rfl), by (repeat (first | with_reducible exact Ge.refl _ | assumption | with_reducible refine Ge.drew ?_ | with_reducible refine Ge.drewN ?_ _ | with_reducible refine Ge.alloc ?_ _ | (with_reducible refine Ge.setCell ?_ (by first | (simp; done) | omega | (simp; omega)) _) | with_reducible refine Ge.trans ?_ (by assumption)))⟩
        · have hk0 : k = 0 := by omega
          subst hk0
          have hb0 : bad = false := by
            cases bad with
            | true => have := (HBad.out.1 rfl).1; omega
            | false => rfl
          subst hb0
          go_quiet (fail)
          go_wp2_with fail
          go_meet
          exact ⟨rfl, cell_drewN (cell_new rfl rfl), cell_drewN (cell_new rfl rfl), cell_drewN (cell_new rfl rfl), by (repeat (first | with_reducible exact Ge.refl _ | assumption | with_reducible refine Ge.drew ?_ | with_reducible refine Ge.drewN ?_ _ | with_reducible refine Ge.alloc ?_ _ | (with_reducible refine Ge.setCell ?_ (by first | (simp; done) | omega | (simp; omega)) _) | with_reducible refine Ge.trans ?_ (by assumption)))⟩
      case rest =>
        obtain ⟨rfl, q0, q1, q2, G7⟩ := hcut
        cases bad with
        | true =>
          have HF : Hid (squaresB n xs = false) := squaresB_false (fun h => by
            obtain ⟨e1, e2⟩ := HBad.out.1 rfl
            exact e2 ((h k hlt).2.1 e1))
          go_wp2_with fail
          go_ret
          exact ⟨ret_bool HF.out.symm, by (repeat (first | with_reducible exact Ge.refl _ | assumption | with_reducible refine Ge.drew ?_ | with_reducible refine Ge.drewN ?_ _ | with_reducible refine Ge.alloc ?_ _ | (with_reducible refine Ge.setCell ?_ (by first | (simp; done) | omega | (simp; omega)) _) | with_reducible refine Ge.trans ?_ (by assumption)))⟩
        | false =>
          have hkc : k ≤ cap := by omega
          have hkn : k ≤ n := by omega
          go_wp2_with fail
          go_loopw [69] (fun i wi => ∃ j : Nat, j ≤ k ∧ i = .int .i64 j ∧ Hid (∀ i, i < j → ¬ overSq xs k i) ∧ Ge wc wi) (fun i _ => k - (intOf i).toNat)
          case atStart => exact ⟨0, Nat.zero_le _, rfl, fun i hi => by omega, Ge.refl _⟩
          case round =>
            obtain ⟨j, hj, rfl, HN, hgi⟩ := hrel
            by_cases hjk : j < k
            · obtain ⟨b', o', e', x0, x1, x2⟩ := three_cells HC.out (show j < n by omega)
              simp only [Option.some.injEq, Addr.mk.injEq, and_true] at e'
              obtain ⟨rfl, rfl⟩ := e'
              have z0 := hgi.keep (G7.keep (hg.keep x0))
              have z1 := hgi.keep (G7.keep (hg.keep x1))
              have z2 := hgi.keep (G7.keep (hg.keep x2))
              clear x0 x1 x2
              have p0 := hgi.keep q0
              have p1 := hgi.keep q1
              have p2 := hgi.keep q2
              have lz := World.block_lt_of_cell? _ _ p0
              simp at lz
              obtain ⟨r0, r1, r2, r3, r4, r5⟩ := (HK.out j hjk).1
              change wr.cell? _ = some (.int .i64 (sx xs j)) at z0
              change wr.cell? _ = some (.int .i64 (sy xs j)) at z1
              change wr.cell? _ = some (.int .i64 (ss xs j)) at z2
              have s3 : sqIn (ss xs k) := ⟨by omega, t3.2⟩
              have s1 : sqIn (sx xs k) := t1
              have s2 : sqIn (sy xs k) := t2
              have s4 : sqIn (sx xs j) := ⟨r0, r1⟩
              have s5 : sqIn (sy xs j) := ⟨r2, r3⟩
              have s6 : sqIn (ss xs j) := ⟨by omega, r5⟩
              by_cases hov : overSq xs k j
              · have ov : overB (sx xs k) (sy xs k) (ss xs k) (sx xs j) (sy xs j) (ss xs j) = true := by unfold overB; exact decide_eq_true hov
                have HF : Hid (squaresB n xs = false) := squaresB_false (fun h => (h k hlt).2.2 j hjk hov)
                go_wp2_with (go_at_call 52; ((with_reducible refine (sL13Overlap _ _ _ _ _ _ _ s1 s2 s3 s4 s5 s6).mono ?_); rintro e w' ⟨rfl, hb⟩))
                go_ret
                exact ⟨ret_bool HF.out.symm, by (repeat (first | with_reducible exact Ge.refl _ | assumption | with_reducible refine Ge.drew ?_ | with_reducible refine Ge.drewN ?_ _ | with_reducible refine Ge.alloc ?_ _ | (with_reducible refine Ge.setCell ?_ (by first | (simp; done) | omega | (simp; omega)) _) | with_reducible refine Ge.trans ?_ (by assumption)))⟩
              · have ov : overB (sx xs k) (sy xs k) (ss xs k) (sx xs j) (sy xs j) (ss xs j) = false := by unfold overB; exact decide_eq_false hov
                have HN2 : Hid (∀ i, i < j + 1 → ¬ overSq xs k i) := no_stepS HN hov
                go_wp2_with (go_at_call 52; ((with_reducible refine (sL13Overlap _ _ _ _ _ _ _ s1 s2 s3 s4 s5 s6).mono ?_); rintro e w' ⟨rfl, hb⟩))
                go_roundw
                case rel => exact ⟨j + 1, by omega, by go_num, HN2, by (repeat (first | with_reducible exact Ge.refl _ | assumption | with_reducible refine Ge.drew ?_ | with_reducible refine Ge.drewN ?_ _ | with_reducible refine Ge.alloc ?_ _ | (with_reducible refine Ge.setCell ?_ (by first | (simp; done) | omega | (simp; omega)) _) | with_reducible refine Ge.trans ?_ (by assumption)))⟩
                case measure => simp [intOf]; omega
            · have hjk2 : j = k := by omega
              subst hjk2
              have HG : Hid (∀ i, i < j + 1 → goodSq xs i) := good_nextS HK ⟨OK.out, fun h0 => Classical.byContradiction fun h => by have := HBad.out.2 ⟨h0, h⟩; simp at this, HN.out⟩
              go_wp2_with fail
              go_roundw
              case rel => exact ⟨j + 1, by omega, by go_num, HG, by (repeat (first | with_reducible exact Ge.refl _ | assumption | with_reducible refine Ge.drew ?_ | with_reducible refine Ge.drewN ?_ _ | with_reducible refine Ge.alloc ?_ _ | (with_reducible refine Ge.setCell ?_ (by first | (simp; done) | omega | (simp; omega)) _) | with_reducible refine Ge.trans ?_ (by assumption)))⟩
              case measure => simp [intOf]; omega
    · have hkn : k = n := by omega
      subst hkn
      have HF : Hid (squaresB k xs = true) := squaresB_true HK.out
      go_wp2_with fail
      go_ret
      exact ⟨ret_bool HF.out.symm, by (repeat (first | with_reducible exact Ge.refl _ | assumption | with_reducible refine Ge.drew ?_ | with_reducible refine Ge.drewN ?_ _ | with_reducible refine Ge.alloc ?_ _ | (with_reducible refine Ge.setCell ?_ (by first | (simp; done) | omega | (simp; omega)) _) | with_reducible refine Ge.trans ?_ (by assumption)))⟩
end Go.Proofs.Ytenfkpdbfmeebaa

namespace Go.Proofs.Ytenfkpdbfmeebaa
set_option maxRecDepth 100000
open Go.ChangeShapes Go.WideShapes Go.ChangeAt Go.RowKit Go.Joins

set_option maxHeartbeats 3200000 in
theorem sTilingOk (v : Value) (n : Nat) (xs : List Int) (w : World) (hv : SlF w v n 3 xs) (hm : n ≤ 9223372036854775807) (hb : ∀ j, -9223372036854775808 ≤ nth xs j ∧ nth xs j ≤ 9223372036854775807) (hcap : ∀ p c, v = .slice p n c → n ≤ c) :
    Calls Try.prog 19 #[v] w fun e w' => e = .returned (.bool (tileB n xs)) ∧ Ge w w' := by
  obtain ⟨p, cap, rfl, hc⟩ := hv.open
  have HV := Lib.hid hv
  have HC := Lib.hid hc
  have HBd := Lib.hid hb
  have HCap := Lib.hid hcap
  clear hv hc hb hcap
  by_cases h1 : ¬ (1 ≤ n ∧ n ≤ 12)
  · have HF : Hid (tileB n xs = false) := tileB_false (fun h => h1 ⟨h.1, h.2.1⟩)
    have i1 : inB (n : Int) 1 12 = false := inB_false (by omega)
    clear h1
    go_enter Try.func19, Try.ntmps19
    go_wp2_with (go_at_call 42; ((with_reducible refine (sL01In _ _ _ _).mono ?_); rintro e w' ⟨rfl, rfl⟩))
    go_ret
    exact ⟨ret_bool HF.out.symm, by (repeat (first | with_reducible exact Ge.refl _ | assumption | with_reducible refine Ge.drew ?_ | with_reducible refine Ge.drewN ?_ _ | with_reducible refine Ge.alloc ?_ _ | (with_reducible refine Ge.setCell ?_ (by first | (simp; done) | omega | (simp; omega)) _) | with_reducible refine Ge.trans ?_ (by assumption)))⟩
  replace h1 := Classical.not_not.1 h1
  obtain ⟨h1, h2⟩ := h1
  have i1 : inB (n : Int) 1 12 = true := inB_true (by omega) (by omega)
  by_cases hsq : ¬ squaresP n xs
  · have HF : Hid (tileB n xs = false) := tileB_false (fun h => hsq h.2.2.1)
    have i2 : squaresB n xs = false := squaresB_false hsq
    clear hsq
    go_enter Try.func19, Try.ntmps19
    go_wp2_with (first | (go_at_call 42; ((with_reducible refine (sL01In _ _ _ _).mono ?_); rintro e w' ⟨rfl, rfl⟩)) | (go_at_call 43; ((with_reducible refine (sL13Squares _ _ _ _ HV.out h2 HBd.out HCap.out).mono ?_); rintro e w' ⟨rfl, hb⟩)))
    go_ret
    exact ⟨ret_bool HF.out.symm, by (repeat (first | with_reducible exact Ge.refl _ | assumption | with_reducible refine Ge.drew ?_ | with_reducible refine Ge.drewN ?_ _ | with_reducible refine Ge.alloc ?_ _ | (with_reducible refine Ge.setCell ?_ (by first | (simp; done) | omega | (simp; omega)) _) | with_reducible refine Ge.trans ?_ (by assumption)))⟩
  replace hsq := Classical.not_not.1 hsq
  have i2 : squaresB n xs = true := squaresB_true hsq
  have HK := Lib.hid hsq
  have HOK : Hid (∀ i, i < n → okSq xs i) := fun i hi => (hsq i hi).1
  clear hsq
  obtain ⟨b, o, rfl, x0, x1, x2⟩ := three_cells HC.out h1
  change w.cell? _ = some (.int .i64 (sx xs 0)) at x0
  change w.cell? _ = some (.int .i64 (sy xs 0)) at x1
  obtain ⟨xa, xb, xc, xd, xe, xf⟩ := HOK.out 0 h1
  have lb := World.block_lt_of_cell? w _ x0
  simp at lb
  simp only [Nat.zero_mul, Nat.add_zero] at x0 x1 x2
  have e1 : minX1 xs n = minX xs n := by
    obtain ⟨m, rfl⟩ : ∃ m, n = m + 1 := ⟨n - 1, by omega⟩
    exact minX1_eq m HOK.out
  have e2 : minY xs n = sy xs 0 := by
    obtain ⟨m, rfl⟩ : ∃ m, n = m + 1 := ⟨n - 1, by omega⟩
    exact (minY_first m HK.out).1
  have E1 := Lib.hid e1
  have E2 := Lib.hid e2
  clear e1 e2
  go_enter Try.func19, Try.ntmps19
  go_wp2_with (first | (go_at_call 42; ((with_reducible refine (sL01In _ _ _ _).mono ?_); rintro e w' ⟨rfl, rfl⟩)) | (go_at_call 43; ((with_reducible refine (sL13Squares _ _ _ _ HV.out h2 HBd.out HCap.out).mono ?_); rintro e w' ⟨rfl, hb⟩; have x0 := Ge.keep hb x0)))
  go_loopw [3, 4, 22] (fun a b i wr => ∃ k : Nat, k ≤ n ∧ i = .int .i64 k ∧ a = .int .i64 (areaSq xs k) ∧ b = .int .i64 (minX1 xs k) ∧ Ge w wr) (fun _ _ i _ => n - (intOf i).toNat)
  case atStart => exact ⟨0, Nat.zero_le _, rfl, rfl, rfl, by (repeat (first | with_reducible exact Ge.refl _ | assumption | with_reducible refine Ge.drew ?_ | with_reducible refine Ge.drewN ?_ _ | with_reducible refine Ge.alloc ?_ _ | (with_reducible refine Ge.setCell ?_ (by first | (simp; done) | omega | (simp; omega)) _) | with_reducible refine Ge.trans ?_ (by assumption)))⟩
  case round =>
    obtain ⟨k, hk, rfl, rfl, rfl, hg⟩ := hrel
    obtain ⟨m4, m5⟩ := area_bd k (fun i hi => HOK.out i (by omega))
    have m0 : 0 ≤ minX1 xs k ∧ minX1 xs k ≤ 200 := by
      cases k with
      | zero => exact ⟨xa, xb⟩
      | succ k => rw [minX1_eq k (fun i hi => HOK.out i (by omega))]; exact minX_bd _ (fun i hi => HOK.out i (by omega))
    obtain ⟨m0, m1⟩ := m0
    by_cases hlt : k < n
    · obtain ⟨b', o', e', z0, z1, z2⟩ := three_cells HC.out hlt
      simp only [Option.some.injEq, Addr.mk.injEq, and_true] at e'
      obtain ⟨rfl, rfl⟩ := e'
      have y0 := hg.keep z0
      have y1 := hg.keep z1
      have y2 := hg.keep z2
      clear z0 z1 z2
      change wr.cell? _ = some (.int .i64 (sx xs k)) at y0
      change wr.cell? _ = some (.int .i64 (sy xs k)) at y1
      change wr.cell? _ = some (.int .i64 (ss xs k)) at y2
      obtain ⟨r0, r1, r2, r3, r4, r5⟩ := HOK.out k hlt
      have HX : Hid (minX1 xs (k + 1) = min (minX1 xs k) (sx xs k)) := rfl
      have HA : Hid (areaSq xs (k + 1) = areaSq xs k + ss xs k * ss xs k) := rfl
      have m6 : ss xs k * ss xs k ≤ 200 * 200 := Int.mul_le_mul (by omega) (by omega) (by omega) (by omega)
      have m7 : 0 ≤ ss xs k * ss xs k := Int.mul_nonneg (by omega) (by omega)
      generalize hq : ss xs k * ss xs k = q at *
      go_wp2_with fail
      go_roundw
      case rel => exact ⟨k + 1, by omega, by go_num, congrArg _ (by rw [HA.out]), congrArg _ (by rw [HX.out] <;> (split <;> omega)), by (repeat (first | with_reducible exact Ge.refl _ | assumption | with_reducible refine Ge.drew ?_ | with_reducible refine Ge.drewN ?_ _ | with_reducible refine Ge.alloc ?_ _ | (with_reducible refine Ge.setCell ?_ (by first | (simp; done) | omega | (simp; omega)) _) | with_reducible refine Ge.trans ?_ (by assumption)))⟩
      case measure => simp [intOf]; omega
    · have hkn : k = n := by omega
      subst hkn
      obtain ⟨r0, r1⟩ := right_bd k (fun i hi => HOK.out i hi)
      obtain ⟨l0, l1⟩ := low_bd k (fun i hi => HOK.out i hi)
      have m6 : rightSq xs k * lowSq xs k ≤ 400 * 400 := Int.mul_le_mul (by omega) (by omega) (by omega) (by omega)
      have m7 : 0 ≤ rightSq xs k * lowSq xs k := Int.mul_nonneg (by omega) (by omega)
      have x1' := hg.keep x1
      clear x1
      by_cases e1 : minX1 xs k = 0
      · have e1b : (minX1 xs k == 0) = true := by simp [e1]
        by_cases e2 : sy xs 0 = 0
        · have e2b : (sy xs 0 == 0) = true := by simp [e2]
          by_cases e3 : areaSq xs k = rightSq xs k * lowSq xs k
          · have e3b : (areaSq xs k == rightSq xs k * lowSq xs k) = true := by simp [e3]
            have HF : Hid (tileB k xs = true) := tileB_true ⟨by omega, by omega, HK.out, E1.out ▸ e1, E2.out ▸ e2, e3⟩
            go_wp2_with (first | (go_at_call 20; ((with_reducible refine (sL13Right _ _ _ _ (HV.out.ge hg) h2 HOK.out).mono ?_); rintro e w' ⟨rfl, hr⟩)) | (go_at_call 21; ((with_reducible refine (sL13Low _ _ _ _ (HV.out.ge (hg.trans hr)) h2 HOK.out).mono ?_); rintro e w' ⟨rfl, hl⟩)))
            go_ret
            exact ⟨ret_bool HF.out.symm, by (repeat (first | with_reducible exact Ge.refl _ | assumption | with_reducible refine Ge.drew ?_ | with_reducible refine Ge.drewN ?_ _ | with_reducible refine Ge.alloc ?_ _ | (with_reducible refine Ge.setCell ?_ (by first | (simp; done) | omega | (simp; omega)) _) | with_reducible refine Ge.trans ?_ (by assumption)))⟩
          · have e3b : (areaSq xs k == rightSq xs k * lowSq xs k) = false := by simp [e3]
            have HF : Hid (tileB k xs = false) := tileB_false (fun h => e3 h.2.2.2.2.2)
            go_wp2_with (first | (go_at_call 20; ((with_reducible refine (sL13Right _ _ _ _ (HV.out.ge hg) h2 HOK.out).mono ?_); rintro e w' ⟨rfl, hr⟩)) | (go_at_call 21; ((with_reducible refine (sL13Low _ _ _ _ (HV.out.ge (hg.trans hr)) h2 HOK.out).mono ?_); rintro e w' ⟨rfl, hl⟩)))
            go_ret
            exact ⟨ret_bool HF.out.symm, by (repeat (first | with_reducible exact Ge.refl _ | assumption | with_reducible refine Ge.drew ?_ | with_reducible refine Ge.drewN ?_ _ | with_reducible refine Ge.alloc ?_ _ | (with_reducible refine Ge.setCell ?_ (by first | (simp; done) | omega | (simp; omega)) _) | with_reducible refine Ge.trans ?_ (by assumption)))⟩
        · have e2b : (sy xs 0 == 0) = false := by simp [e2]
          have HF : Hid (tileB k xs = false) := tileB_false (fun h => e2 (E2.out ▸ h.2.2.2.2.1))
          go_wp2_with fail
          go_ret
          exact ⟨ret_bool HF.out.symm, by (repeat (first | with_reducible exact Ge.refl _ | assumption | with_reducible refine Ge.drew ?_ | with_reducible refine Ge.drewN ?_ _ | with_reducible refine Ge.alloc ?_ _ | (with_reducible refine Ge.setCell ?_ (by first | (simp; done) | omega | (simp; omega)) _) | with_reducible refine Ge.trans ?_ (by assumption)))⟩
      · have e1b : (minX1 xs k == 0) = false := by simp [e1]
        have HF : Hid (tileB k xs = false) := tileB_false (fun h => e1 (E1.out.trans h.2.2.2.1))
        go_wp2_with fail
        go_ret
        exact ⟨ret_bool HF.out.symm, by (repeat (first | with_reducible exact Ge.refl _ | assumption | with_reducible refine Ge.drew ?_ | with_reducible refine Ge.drewN ?_ _ | with_reducible refine Ge.alloc ?_ _ | (with_reducible refine Ge.setCell ?_ (by first | (simp; done) | omega | (simp; omega)) _) | with_reducible refine Ge.trans ?_ (by assumption)))⟩

noncomputable def heightQ (n : Nat) (xs : List Int) : Int := if tileB n xs = true then lowSq xs n else 0
theorem heightQ_t {n : Nat} {xs : List Int} (h : tileB n xs = true) : heightQ n xs = lowSq xs n := by simp [heightQ, h]
theorem heightQ_f {n : Nat} {xs : List Int} (h : tileB n xs = false) : heightQ n xs = 0 := by simp [heightQ, h]

noncomputable def widthQ (n : Nat) (xs : List Int) : Int := if tileB n xs = true then rightSq xs n else 0
theorem widthQ_t {n : Nat} {xs : List Int} (h : tileB n xs = true) : widthQ n xs = rightSq xs n := by simp [widthQ, h]
theorem widthQ_f {n : Nat} {xs : List Int} (h : tileB n xs = false) : widthQ n xs = 0 := by simp [widthQ, h]

end Go.Proofs.Ytenfkpdbfmeebaa

namespace Go.Proofs.Ytenfkpdbfmeebaa
set_option maxRecDepth 100000
open Go.ChangeShapes Go.WideShapes Go.ChangeAt Go.RowKit Go.Joins

theorem covN_mono {xs : List Int} {y x : Int} {k : Nat} (h : covN xs y x k = true) : ∀ {n : Nat}, k ≤ n → covN xs y x n = true
  | 0, hk => by rwa [show k = 0 by omega] at h
  | n + 1, hk => by
    by_cases e : k = n + 1
    · rwa [e] at h
    · rw [covN, covN_mono h (n := n) (by omega), Bool.true_or]
theorem covN_hit {xs : List Int} {y x : Int} {k n : Nat} (hk : k < n) (h1 : sy xs k = y ∨ sy xs k + ss xs k = y) (h2 : sx xs k ≤ x) (h3 : x < sx xs k + ss xs k) : covN xs y x n = true :=
  covN_mono (k := k + 1) (by rw [covN]; simp [onY, h1, h2, h3]) hk
theorem covN_miss {xs : List Int} {y x : Int} {k : Nat} (h : covN xs y x k = false) (h1 : ¬ ((sy xs k = y ∨ sy xs k + ss xs k = y) ∧ sx xs k ≤ x ∧ x < sx xs k + ss xs k)) : covN xs y x (k + 1) = false := by
  rw [covN, h, Bool.false_or, Bool.eq_false_iff]
  simp only [onY, ne_eq, Bool.and_eq_true, Bool.or_eq_true, decide_eq_true_eq, and_assoc]
  exact h1

set_option maxHeartbeats 3200000 in
theorem sL13Covered (v : Value) (n : Nat) (xs : List Int) (y x : Int) (w : World) (hv : SlF w v n 3 xs) (hn : n ≤ 12) (hok : ∀ k, k < n → okSq xs k) :
    Calls Try.prog 22 #[v, .int .i64 y, .int .i64 x] w fun e w' => e = .returned (.bool (covN xs y x n)) ∧ Ge w w' := by
  obtain ⟨p, cap, rfl, hc⟩ := hv.open
  have HC := Lib.hid hc
  have HK := Lib.hid hok
  clear hv hc hok
  have H1 := Lib.hid (fun k (hk : k < n) => covN_hit (xs := xs) (y := y) (x := x) hk)
  have H2 := Lib.hid (fun k => covN_miss (xs := xs) (y := y) (x := x) (k := k))
  go_enter Try.func22, Try.ntmps22
  go_wp2_with fail
  go_loopw [11] (fun i wr => ∃ k : Nat, k ≤ n ∧ i = .int .i64 (k : Int) ∧ Hid (covN xs y x k = false) ∧ Ge w wr) (fun i _ => 13 - (intOf i).toNat)
  case atStart => exact ⟨0, Nat.zero_le _, rfl, rfl, Ge.refl _⟩
  case round =>
    obtain ⟨k, hk, rfl, HV, hg⟩ := hrel
    by_cases hlt : k < n
    · obtain ⟨b, ofs, rfl, x0, x1, x2⟩ := three_cells HC.out hlt
      have y0 := hg.keep x0
      have y1 := hg.keep x1
      have y2 := hg.keep x2
      clear x0 x1 x2
      obtain ⟨q0, q1, q2, q3, q4, q5⟩ := HK.out k hlt
      have K1 := Lib.hid (H1.out k hlt)
      have K2 := Lib.hid (H2.out k HV.out)
      clear H1 H2 HV
      change wr.cell? _ = some (.int .i64 (sx xs k)) at y0
      change wr.cell? _ = some (.int .i64 (sy xs k)) at y1
      change wr.cell? _ = some (.int .i64 (ss xs k)) at y2
      generalize sx xs k = X at *
      generalize sy xs k = Y at *
      generalize ss xs k = Z at *
      by_cases hY1 : Y = y
      · have tY : (Y == y) = true := by simpa using hY1
        by_cases hX : X ≤ x
        · have tX : decide (X ≤ x) = true := by simpa using hX
          by_cases hZ : x < X + Z
          · have tZ : decide (x < X + Z) = true := by simpa using hZ
            have HH := Lib.hid (K1.out (.inl hY1) hX hZ)
            clear K1 K2
            go_wp2_with fail
            go_ret
            exact ⟨ret_bool HH.out.symm, by (repeat (first | with_reducible exact Ge.refl _ | assumption | with_reducible refine Ge.drew ?_ | with_reducible refine Ge.drewN ?_ _ | with_reducible refine Ge.alloc ?_ _ | (with_reducible refine Ge.setCell ?_ (by first | (simp; done) | omega | (simp; omega)) _) | with_reducible refine Ge.trans ?_ (by assumption)))⟩
          · have tZ : decide (x < X + Z) = false := by simpa using hZ
            have HM := Lib.hid (K2.out (fun h => by omega))
            clear K1 K2
            go_wp2_with fail
            go_roundw
            case rel => exact ⟨k + 1, by omega, by go_num, HM.out, by (repeat (first | with_reducible exact Ge.refl _ | assumption | with_reducible refine Ge.drew ?_ | with_reducible refine Ge.drewN ?_ _ | with_reducible refine Ge.alloc ?_ _ | (with_reducible refine Ge.setCell ?_ (by first | (simp; done) | omega | (simp; omega)) _) | with_reducible refine Ge.trans ?_ (by assumption)))⟩
            case measure => simp [intOf]; omega
        · have tX : decide (X ≤ x) = false := by simpa using hX
          have HM := Lib.hid (K2.out (fun h => by omega))
          clear K1 K2
          go_wp2_with fail
          go_roundw
          case rel => exact ⟨k + 1, by omega, by go_num, HM.out, by (repeat (first | with_reducible exact Ge.refl _ | assumption | with_reducible refine Ge.drew ?_ | with_reducible refine Ge.drewN ?_ _ | with_reducible refine Ge.alloc ?_ _ | (with_reducible refine Ge.setCell ?_ (by first | (simp; done) | omega | (simp; omega)) _) | with_reducible refine Ge.trans ?_ (by assumption)))⟩
          case measure => simp [intOf]; omega
      · have tY : (Y == y) = false := by simpa using hY1
        by_cases hY2 : Y + Z = y
        · have tY2 : (Y + Z == y) = true := by simpa using hY2
          by_cases hX : X ≤ x
          · have tX : decide (X ≤ x) = true := by simpa using hX
            by_cases hZ : x < X + Z
            · have tZ : decide (x < X + Z) = true := by simpa using hZ
              have HH := Lib.hid (K1.out (.inr hY2) hX hZ)
              clear K1 K2
              go_wp2_with fail
              go_ret
              exact ⟨ret_bool HH.out.symm, by (repeat (first | with_reducible exact Ge.refl _ | assumption | with_reducible refine Ge.drew ?_ | with_reducible refine Ge.drewN ?_ _ | with_reducible refine Ge.alloc ?_ _ | (with_reducible refine Ge.setCell ?_ (by first | (simp; done) | omega | (simp; omega)) _) | with_reducible refine Ge.trans ?_ (by assumption)))⟩
            · have tZ : decide (x < X + Z) = false := by simpa using hZ
              have HM := Lib.hid (K2.out (fun h => by omega))
              clear K1 K2
              go_wp2_with fail
              go_roundw
              case rel => exact ⟨k + 1, by omega, by go_num, HM.out, by (repeat (first | with_reducible exact Ge.refl _ | assumption | with_reducible refine Ge.drew ?_ | with_reducible refine Ge.drewN ?_ _ | with_reducible refine Ge.alloc ?_ _ | (with_reducible refine Ge.setCell ?_ (by first | (simp; done) | omega | (simp; omega)) _) | with_reducible refine Ge.trans ?_ (by assumption)))⟩
              case measure => simp [intOf]; omega
          · have tX : decide (X ≤ x) = false := by simpa using hX
            have HM := Lib.hid (K2.out (fun h => by omega))
            clear K1 K2
            go_wp2_with fail
            go_roundw
            case rel => exact ⟨k + 1, by omega, by go_num, HM.out, by (repeat (first | with_reducible exact Ge.refl _ | assumption | with_reducible refine Ge.drew ?_ | with_reducible refine Ge.drewN ?_ _ | with_reducible refine Ge.alloc ?_ _ | (with_reducible refine Ge.setCell ?_ (by first | (simp; done) | omega | (simp; omega)) _) | with_reducible refine Ge.trans ?_ (by assumption)))⟩
            case measure => simp [intOf]; omega
        · have tY2 : (Y + Z == y) = false := by simpa using hY2
          have HM := Lib.hid (K2.out (fun h => by omega))
          clear K1 K2
          go_wp2_with fail
          go_roundw
          case rel => exact ⟨k + 1, by omega, by go_num, HM.out, by (repeat (first | with_reducible exact Ge.refl _ | assumption | with_reducible refine Ge.drew ?_ | with_reducible refine Ge.drewN ?_ _ | with_reducible refine Ge.alloc ?_ _ | (with_reducible refine Ge.setCell ?_ (by first | (simp; done) | omega | (simp; omega)) _) | with_reducible refine Ge.trans ?_ (by assumption)))⟩
          case measure => simp [intOf]; omega
    · have hkn : k = n := by omega
      subst hkn
      go_wp2_with fail
      go_ret
      exact ⟨ret_bool HV.out.symm, by (repeat (first | with_reducible exact Ge.refl _ | assumption | with_reducible refine Ge.drew ?_ | with_reducible refine Ge.drewN ?_ _ | with_reducible refine Ge.alloc ?_ _ | (with_reducible refine Ge.setCell ?_ (by first | (simp; done) | omega | (simp; omega)) _) | with_reducible refine Ge.trans ?_ (by assumption)))⟩
theorem OwnL.size {w : World} {b : Nat} {v : Value} {L : List (List Int)} (h : OwnL w b v L) (hL : 0 < L.length) : b ≤ w.heap.size := by
  obtain ⟨cs, hx⟩ := h.own
  obtain ⟨g, c, rfl⟩ := Go.Joins.ownsRow_form hx hL
  exact Nat.le_of_lt (Nat.lt_of_le_of_lt (hx.lt g rfl).1 (hx.lt g rfl).2)
theorem scan_on {c : Nat → Bool} {x : Nat} (h : c x = true) (h2 : (scanS c x).2 < 0) : scanS c (x + 1) = ((scanS c x).1, (x : Int)) := by simp only [scanS, if_pos h, if_pos h2]
theorem scan_in {c : Nat → Bool} {x : Nat} (h : c x = true) (h2 : ¬ (scanS c x).2 < 0) : scanS c (x + 1) = scanS c x := by simp only [scanS, if_pos h, if_neg h2]
theorem scan_off {c : Nat → Bool} {x : Nat} (h : c x = false) (h2 : 0 ≤ (scanS c x).2) : scanS c (x + 1) = ((scanS c x).1 ++ [((scanS c x).2, (x : Int))], -1) := by simp only [scanS, if_neg (show ¬ c x = true by rw [h]; decide), if_pos h2]
theorem scan_out {c : Nat → Bool} {x : Nat} (h : c x = false) (h2 : ¬ 0 ≤ (scanS c x).2) : scanS c (x + 1) = scanS c x := by simp only [scanS, if_neg (show ¬ c x = true by rw [h]; decide), if_neg h2]

set_option maxHeartbeats 6400000 in
theorem sLevT (v : Value) (n : Nat) (xs : List Int) (w : World) (hv : SlF w v n 3 xs) (hm : n ≤ 9223372036854775807) (hb : ∀ j, -9223372036854775808 ≤ nth xs j ∧ nth xs j ≤ 9223372036854775807) (hcap : ∀ p c, v = .slice p n c → n ≤ c) (hB : tileB n xs = true) :
    Calls Try.prog 6 #[v] w fun e w' => ∃ u, e = .returned u ∧ OwnL w' w.heap.size u (levT xs n) ∧ Ge w w' := by
  obtain ⟨p, cap, rfl, hc⟩ := hv.open
  have HV := Lib.hid hv
  have HBd := Lib.hid hb
  have HCap := Lib.hid hcap
  clear hv hc hb hcap
  have HT := Lib.hid (fun w' (g : Ge w w') => sTilingOk (.slice p n cap) n xs w' (HV.out.ge g) hm HBd.out HCap.out)
  rw [hB] at HT
  obtain ⟨h0, h12, hsq, _⟩ : tileP n xs := by
    unfold tileB at hB
    split at hB
    · assumption
    · cases hB
  have HOK : Hid (∀ i, i < n → okSq xs i) := fun i hi => (hsq i hi).1
  have HR := Lib.hid (fun w' (g : Ge w w') => sL13Right (.slice p n cap) n xs w' (HV.out.ge g) h12 HOK.out)
  have HL := Lib.hid (fun w' (g : Ge w w') => sL13Low (.slice p n cap) n xs w' (HV.out.ge g) h12 HOK.out)
  have HCv := Lib.hid (fun y x w' (g : Ge w w') => sL13Covered (.slice p n cap) n xs y x w' (HV.out.ge g) h12 HOK.out)
  have hr := right_bd n HOK.out
  have hl := low_bd n HOK.out
  have HF : Hid (levT xs n = levU xs n (rightSq xs n).toNat ((lowSq xs n).toNat + 1)) := rfl
  obtain ⟨W, hW⟩ : ∃ W : Nat, rightSq xs n = W := ⟨(rightSq xs n).toNat, by omega⟩
  obtain ⟨H, hH⟩ : ∃ H : Nat, lowSq xs n = H := ⟨(lowSq xs n).toNat, by omega⟩
  rw [hW] at HR HF hr
  rw [hH] at HL HF hl
  simp only [Int.toNat_natCast] at HF
  generalize levT xs n = LT at *
  clear hB hsq hW hH HBd HCap HOK
  go_enter Try.func6, Try.ntmps6
  go_upto_region 3 with ((go_at_call 19; ((with_reducible refine (HT.out _ (Ge.refl _)).mono ?_); rintro e w1 ⟨rfl, g1⟩)); have G1 := Lib.hid g1; have z1 := g1.size; clear g1)
  have oN := OwnL.nil w1
  have HN := Lib.hid oN
  clear oN
  have gN := Ge.alloc (Ge.refl w1) (.cells #[] 43)
  go_upto_region 4 with (fail)
  have GA := Lib.hid (G1.out.trans gN)
  generalize w1.alloc (.cells #[] 43) = wA at *
  obtain ⟨bs, hbs⟩ : ∃ bs, bs = w1.heap.size := ⟨_, rfl⟩
  rw [← hbs] at HN z1 ⊢
  clear gN hbs
  go_wp2_with ((go_at_call 20; ((with_reducible refine (HR.out _ GA.out).mono ?_); rintro e w2 ⟨rfl, g2⟩)); have G2 := Lib.hid (GA.out.trans g2); have HN2 := Lib.hid (HN.out.ge g2); clear g2)
  obtain ⟨wz, hwz⟩ : ∃ wz, wz = w2 := ⟨_, rfl⟩
  subst hwz
  clear HN HR HT G1 GA
  go_loopw [3, 5] (fun o y wr => ∃ (k : Nat) (u : Value), y = .int .i64 (k : Int) ∧ k ≤ H + 1 ∧ o = u ∧ OwnL wr bs u (levU xs n W k) ∧ Ge w wr ∧ bs ≤ wr.heap.size) (fun _ y _ => 402 - (intOf y).toNat)
  case atStart => exact ⟨0, _, rfl, by omega, rfl, HN2.out, G2.out, (by obtain ⟨cs, hx⟩ := HN2.out.own; exact Nat.le_of_lt (Nat.lt_of_le_of_lt (hx.lt _ rfl).1 (hx.lt _ rfl).2))⟩
  case round =>
    obtain ⟨y, u, rfl, hy, rfl, hown, hg, hbw⟩ := hrel
    clear HN2 G2
    have HO := Lib.hid hown
    have HG := Lib.hid hg
    clear hown hg
    by_cases hyH : y ≤ H
    · have hyB : (y : Int) ≤ (H : Int) := by omega
      have hyD : decide ((y : Int) ≤ (H : Int)) = true := by simp; omega
      have hF2 := levU_len xs n W y
      have hF3 : y * (W + 1) ≤ 401 * 401 := Nat.mul_le_mul (by omega) (by omega)
      have HLU : Hid (levU xs n W (y + 1) = levU xs n W y ++ (scanS (covU xs n W y) (W + 1)).1.map (rowY y)) := rfl
      have HCl : Hid (∀ x, x < W → covU xs n W y x = covN xs y x n) := fun x hx => by simp [covU, hx]
      have HCw : Hid (covU xs n W y W = false) := by show _ = _; simp [covU]
      have HSl := Lib.hid (scan_len (covU xs n W y))
      have HCy := Lib.hid (HCv.out (y : Int))
      generalize hc : covU xs n W (y : Int) = c at *
      clear hc
      generalize levU xs n W y = LU at *
      go_wp2_with ((go_at_call 21; ((with_reducible refine (HL.out _ HG.out).mono ?_); rintro e w5 ⟨rfl, g5⟩)); have HG5 := Lib.hid (HG.out.trans g5); have HO5 := Lib.hid (HO.out.ge g5); have z5 := g5.size; clear g5)
      clear HO HG
      have hbw5 : bs ≤ w5.heap.size := by omega
      go_loopw [3, 6, 7] (fun o f i wq => ∃ (x : Nat) (u : Value), i = .int .i64 (x : Int) ∧ x ≤ W + 1 ∧ f = .int .i64 (scanS c x).2 ∧ o = u ∧ OwnL wq bs u (LU ++ (scanS c x).1.map (rowY (y : Int))) ∧ Ge w wq ∧ bs ≤ wq.heap.size) (fun _ _ i _ => 402 - (intOf i).toNat)
      case atStart => exact ⟨0, _, rfl, by omega, rfl, rfl, by simpa [scanS] using HO5.out, HG5.out, hbw5⟩
      case round =>
        obtain ⟨x, u, rfl, hx, rfl, rfl, hown, hg, hbq⟩ := hrel
        clear HO5 HG5
        have HO := Lib.hid hown
        have HG := Lib.hid hg
        by_cases hxW : x ≤ W
        · have hxB : (x : Int) ≤ (W : Int) := by omega
          have hxD : decide ((x : Int) ≤ (W : Int)) = true := by simp; omega
          have HS1 := Lib.hid (scan_on (c := c) (x := x))
          have HS2 := Lib.hid (scan_in (c := c) (x := x))
          have HS3 := Lib.hid (scan_off (c := c) (x := x))
          have HS4 := Lib.hid (scan_out (c := c) (x := x))
          have hsl := HSl.out x
          obtain ⟨pv, cv, hfe⟩ := OwnL.read hown rfl
          obtain ⟨rfl, _⟩ := hfe
          clear hown hg
          generalize hR : scanS c x = R at *
          obtain ⟨R1, f⟩ := R
          have HR := Lib.hid hR
          clear hR
          simp only at HO hsl HS1 HS2 HS3 HS4 ⊢
          have hMl : (LU ++ R1.map (rowY (y : Int))).length ≤ 200000 := by rw [List.length_append, List.length_map]; omega
          have HM1 : Hid (LU ++ R1.map (rowY (y : Int)) ++ [[(y : Int), f, (x : Int)]] = LU ++ (R1 ++ [(f, (x : Int))]).map (rowY (y : Int))) := by show _ = _; simp [rowY]
          generalize hM : LU ++ R1.map (rowY (y : Int)) = M at *
          have HM := Lib.hid hM
          clear hM
          by_cases hxw : x < W
          · have hwI : (x : Int) < (W : Int) := by omega
            have hwD : decide ((x : Int) < (W : Int)) = true := by simp; omega
            have HCc := Lib.hid (HCy.out (x : Int) wr HG.out)
            rw [← HCl.out x hxw] at HCc
            cases hcx : c x with
            | true =>
              rw [hcx] at HCc
              by_cases hf : f < 0
              · have hfD : decide (f < 0) = true := by simpa using hf
                have HN := Lib.hid (HS1.out hcx hf)
                clear HS1 HS2 HS3 HS4
                go_wp2_with ((go_at_call 22; ((with_reducible refine (HCc.out).mono ?_); rintro e w6 ⟨rfl, g6⟩)); have HG6 := Lib.hid (HG.out.trans g6); have HO6 := Lib.hid (HO.out.ge g6); have z6 := g6.size; clear g6)
                go_roundw
                case rel => exact ⟨x + 1, _, by go_num, by omega, by rw [HN.out], rfl, by rw [HN.out]; show OwnL _ _ _ (LU ++ R1.map _); rw [HM.out]; exact HO6.out, HG6.out, by omega⟩
                case measure => simp [intOf]; omega
              · have hfD : decide (f < 0) = false := by simpa using hf
                have HN := Lib.hid (HS2.out hcx hf)
                clear HS1 HS2 HS3 HS4
                go_wp2_with ((go_at_call 22; ((with_reducible refine (HCc.out).mono ?_); rintro e w6 ⟨rfl, g6⟩)); have HG6 := Lib.hid (HG.out.trans g6); have HO6 := Lib.hid (HO.out.ge g6); have z6 := g6.size; clear g6)
                go_roundw
                case rel => exact ⟨x + 1, _, by go_num, by omega, by rw [HN.out], rfl, by rw [HN.out]; show OwnL _ _ _ (LU ++ R1.map _); rw [HM.out]; exact HO6.out, HG6.out, by omega⟩
                case measure => simp [intOf]; omega
            | false =>
              rw [hcx] at HCc
              by_cases hf : 0 ≤ f
              · have hfD : decide (f ≥ 0) = true := by simpa using hf
                have HN := Lib.hid (HS3.out hcx hf)
                clear HS1 HS2 HS3 HS4
                go_wp2_with (first | ((go_at_call 22; ((with_reducible refine (HCc.out).mono ?_); rintro e w6 ⟨rfl, g6⟩)); have HG6 := Lib.hid (HG.out.trans g6); have HO6 := Lib.hid (HO.out.ge g6); have z6 := g6.size; clear g6) | (at_builtin; refine ap_listB rfl _ _ rfl bs _ M (by rfl) (HO6.out.ge (Ge.alloc (Ge.refl _) _)) [(y : Int), f, (x : Int)] ⟨w6.heap.size, 0, none⟩ 3 3 rfl (lit3 w6 0 (y : Int) f (x : Int) (Nat.zero_le _)) rfl (by simp) (by omega) (by simp; omega) ?_; intro v7 w7 own7 g7; have HO7 := Lib.hid own7; have HG7 := Lib.hid (g7 w (HG6.out.trans (Ge.alloc (Ge.refl _) _)) z1); have HZ7 := Lib.hid (HO7.out.size (by simp)); clear own7 g7))
                go_roundw
                case rel => exact ⟨x + 1, _, by go_num, by omega, by rw [HN.out], rfl, by rw [HN.out, ← HM1.out]; exact HO7.out, HG7.out, HZ7.out⟩
                case measure => simp [intOf]; omega
              · have hfD : decide (f ≥ 0) = false := by simpa using hf
                have HN := Lib.hid (HS4.out hcx hf)
                clear HS1 HS2 HS3 HS4
                go_wp2_with ((go_at_call 22; ((with_reducible refine (HCc.out).mono ?_); rintro e w6 ⟨rfl, g6⟩)); have HG6 := Lib.hid (HG.out.trans g6); have HO6 := Lib.hid (HO.out.ge g6); have z6 := g6.size; clear g6)
                go_roundw
                case rel => exact ⟨x + 1, _, by go_num, by omega, by rw [HN.out], rfl, by rw [HN.out]; show OwnL _ _ _ (LU ++ R1.map _); rw [HM.out]; exact HO6.out, HG6.out, by omega⟩
                case measure => simp [intOf]; omega
          · have hxe : x = W := by omega
            have hcx : c x = false := by rw [hxe]; exact HCw.out
            have hwD : decide ((x : Int) < (W : Int)) = false := by simp; omega
            have hwI : ¬ (x : Int) < (W : Int) := by omega
            clear hxe
            skip
            by_cases hf : 0 ≤ f
            · have hfD : decide (f ≥ 0) = true := by simpa using hf
              have HN := Lib.hid (HS3.out hcx hf)
              clear HS1 HS2 HS3 HS4
              go_wp2_with (at_builtin; refine ap_listB rfl _ _ rfl bs _ M (by rfl) (HO.out.ge (Ge.alloc (Ge.refl _) _)) [(y : Int), f, (x : Int)] ⟨wr.heap.size, 0, none⟩ 3 3 rfl (lit3 wr 0 (y : Int) f (x : Int) (Nat.zero_le _)) rfl (by simp) (by omega) (by simp; omega) ?_; intro v7 w7 own7 g7; have HO7 := Lib.hid own7; have HG7 := Lib.hid (g7 w (HG.out.trans (Ge.alloc (Ge.refl _) _)) z1); have HZ7 := Lib.hid (HO7.out.size (by simp)); clear own7 g7)
              go_roundw
              case rel => exact ⟨x + 1, _, by go_num, by omega, by rw [HN.out], rfl, by rw [HN.out, ← HM1.out]; exact HO7.out, HG7.out, HZ7.out⟩
              case measure => simp [intOf]; omega
            · have hfD : decide (f ≥ 0) = false := by simpa using hf
              have HN := Lib.hid (HS4.out hcx hf)
              clear HS1 HS2 HS3 HS4
              go_wp2_with fail
              go_roundw
              case rel => exact ⟨x + 1, _, by go_num, by omega, by rw [HN.out], rfl, by rw [HN.out]; show OwnL _ _ _ (LU ++ R1.map _); rw [HM.out]; exact HO.out, HG.out, by omega⟩
              case measure => simp [intOf]; omega
        · have hxe : x = W + 1 := by omega
          have hxD : decide ((x : Int) ≤ (W : Int)) = false := by simp; omega
          have hxI : ¬ (x : Int) ≤ (W : Int) := by omega
          go_wp2_with fail
          go_roundw
          case rel => exact ⟨y + 1, _, by go_num, by omega, rfl, by rw [HLU.out, ← hxe]; exact hown, hg, hbq⟩
          case measure => simp [intOf]; omega
    · have hyH2 : y = H + 1 := by omega
      have hyD : decide ((y : Int) ≤ (H : Int)) = false := by simp; omega
      have hyI : ¬ (y : Int) ≤ (H : Int) := by omega
      go_wp2_with ((go_at_call 21; ((with_reducible refine (HL.out _ HG.out).mono ?_); rintro e w5 ⟨rfl, g5⟩)); have HG5 := Lib.hid (HG.out.trans g5); have HO5 := Lib.hid (HO.out.ge g5); clear g5)
      go_ret
      exact ⟨_, rfl, by rw [HF.out, ← hyH2]; exact HO5.out.mono z1, HG5.out⟩
end Go.Proofs.Ytenfkpdbfmeebaa

namespace Go.Proofs.Ytenfkpdbfmeebaa
set_option maxRecDepth 100000
open Go.ChangeShapes Go.WideShapes Go.ChangeAt Go.RowKit Go.Joins

/-- The slice v of n rows of integers. -/
def SlMI (w : World) (v : Value) (n : Nat) (R : List (List Int)) : Prop :=
  ∃ p cap, v = .slice p n cap ∧ ∀ i, i < n → ∃ b o pr cr, p = some ⟨b, o, none⟩ ∧ w.cell? ⟨b, o + i, none⟩ = some (.slice pr (rowL R i).length cr) ∧ SlI w (.slice pr (rowL R i).length cr) (rowL R i)
theorem SlMI.ge {w w' : World} {v : Value} {n : Nat} {R : List (List Int)} (h : SlMI w v n R) (hg : Ge w w') : SlMI w' v n R := by
  obtain ⟨p, cap, hv, hc⟩ := h
  refine ⟨p, cap, hv, fun i hi => ?_⟩
  obtain ⟨b, o, pr, cr, hp, hx, hs⟩ := hc i hi
  exact ⟨b, o, pr, cr, hp, hg.keep hx, SlI.ge hs hg⟩
noncomputable def sqB (R : List (List Int)) : Bool := @decide (sqP R) (Classical.propDecidable _)
noncomputable def wmB (R : List (List Int)) : Bool := @decide (wmP R) (Classical.propDecidable _)
theorem sqB_true {R : List (List Int)} (h : sqP R) : sqB R = true := by exact @decide_eq_true _ (Classical.propDecidable _) h
theorem sqB_false {R : List (List Int)} (h : ¬ sqP R) : sqB R = false := by exact @decide_eq_false _ (Classical.propDecidable _) h
theorem wmB_true {R : List (List Int)} (h : wmP R) : wmB R = true := by exact @decide_eq_true _ (Classical.propDecidable _) h
theorem wmB_false {R : List (List Int)} (h : ¬ wmP R) : wmB R = false := by exact @decide_eq_false _ (Classical.propDecidable _) h
theorem wmP_of {R : List (List Int)} (h : wmB R = true) : wmP R := @of_decide_eq_true _ (Classical.propDecidable _) h
theorem ent_nat (R : List (List Int)) (i j : Nat) : entM R i j = nth (rowL R i) j := by simp [entM, rowL]
theorem sumRow_succ (R : List (List Int)) (i j : Nat) : sumRow R i (j + 1) = sumRow R i j + entM R i j := rfl
theorem rowSq_iff (R : List (List Int)) (i : Nat) : rowSq R i ↔ (rowL R i).length = R.length ∧ ∀ j, j < (rowL R i).length → -1000 ≤ nth (rowL R i) j ∧ nth (rowL R i) j ≤ 1000 := Iff.rfl
theorem entOk_iff (R : List (List Int)) (i j : Nat) : entOk R i j ↔ nth (rowL R i) j = nth (rowL R j) i ∧ (i ≠ j → nth (rowL R i) j ≤ 0) := by unfold entOk; rw [ent_nat, ent_nat]

end Go.Proofs.Ytenfkpdbfmeebaa
