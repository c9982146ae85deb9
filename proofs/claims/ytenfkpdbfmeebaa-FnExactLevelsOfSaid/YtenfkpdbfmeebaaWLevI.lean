/- LevelsOf of impl. No condition. -/
import Derived.Test.YtenfkpdbfmeebaaWOutL
import Derived.Test.YtenfkpdbfmeebaaPlLev2
import Derived.Test.YtenfkpdbfmeebaaWTile2
import Derived.Test.YtenfkpdbfmeebaaWSides
import Derived.Test.YtenfkpdbfmeebaaWTail
import Derived.Deep.QuietTactic
namespace Go.Proofs.Ytenfkpdbfmeebaa
set_option maxRecDepth 100000
open Go.ChangeShapes Go.WideShapes Go.ChangeAt Go.RowKit Go.Joins

theorem low_ge {xs : List Int} {n : Nat} : 0 ≤ lowSq xs n := by
  induction n with
  | zero => exact Int.le_refl _
  | succ n ih => simp only [lowSq]; omega
theorem right_ge0 {xs : List Int} {n : Nat} : 0 ≤ rightSq xs n := by
  induction n with
  | zero => exact Int.le_refl _
  | succ n ih => simp only [rightSq]; omega
/-- The levels of a tiling. -/
def levT (xs : List Int) (n : Nat) : List (List Int) := levU xs n (rightSq xs n).toNat ((lowSq xs n).toNat + 1)
theorem spK_t {xs : List Int} {y : Int} {k : Nat} (h : sy xs k = y ∨ sy xs k + ss xs k = y) : spK xs y (k + 1) = spK xs y k ++ [(sx xs k, sx xs k + ss xs k)] := by
  rw [spK, if_pos (by simpa [onY] using h)]
theorem spK_f {xs : List Int} {y : Int} {k : Nat} (h1 : ¬ sy xs k = y) (h2 : ¬ sy xs k + ss xs k = y) : spK xs y (k + 1) = spK xs y k := by
  rw [spK, if_neg (by simp [onY, h1, h2])]
theorem lit2 (w : World) (a b : Int) : (w.alloc (.cells #[.int .i64 a, .int .i64 b] 3)).ownsRow 0 3 1 (.slice (some ⟨w.heap.size, 0, none⟩) 2 2) 2 (icells [a, b]) :=
  World.ownsRow_lit w #[.int .i64 a, .int .i64 b] 2 (by omega) (by unfold maxLen; omega) (by simp)

set_option maxHeartbeats 6400000 in
theorem iLevT (v : Value) (n : Nat) (xs : List Int) (w : World) (hv : SlF w v n 3 xs) (hm : n ≤ 9223372036854775807) (hb : ∀ j, -9223372036854775808 ≤ nth xs j ∧ nth xs j ≤ 9223372036854775807) (hcap : ∀ p c, v = .slice p n c → n ≤ c) (hB : tileB n xs = true) :
    Calls Try.prog 8 #[v] w fun e w' => ∃ u, e = .returned u ∧ OutL w' w.heap.size 0 0 u (levT xs n) ∧ Ge w w' := by
  obtain ⟨p, cap, rfl, hc⟩ := hv.open
  have HV := Lib.hid hv
  have HC := Lib.hid hc
  have HBd := Lib.hid hb
  have HCap := Lib.hid hcap
  clear hv hc hb hcap
  have HT := Lib.hid (fun w' (g : Ge w w') => iTilingOk (.slice p n cap) n xs w' (HV.out.ge g) hm HBd.out HCap.out)
  rw [hB] at HT
  obtain ⟨h0, h12, hsq, _⟩ : tileP n xs := by
    unfold tileB at hB
    split at hB
    · assumption
    · cases hB
  have HOK : Hid (∀ i, i < n → okSq xs i) := fun i hi => (hsq i hi).1
  have HSi := Lib.hid (fun w' (g : Ge w w') => iSides (.slice p n cap) n xs w' (HV.out.ge g) h12 HOK.out)
  have hr := right_bd n HOK.out
  have hl := low_bd n HOK.out
  have HF : Hid (levT xs n = levU xs n (rightSq xs n).toNat ((lowSq xs n).toNat + 1)) := rfl
  obtain ⟨W, hW⟩ : ∃ W : Nat, rightSq xs n = W := ⟨(rightSq xs n).toNat, by omega⟩
  obtain ⟨H, hH⟩ : ∃ H : Nat, lowSq xs n = H := ⟨(lowSq xs n).toNat, by omega⟩
  have HW := Lib.hid hW
  rw [hW, hH] at HSi HF
  rw [hW] at hr
  rw [hH] at hl
  simp only [Int.toNat_natCast] at HF
  generalize levT xs n = LT at *
  clear hB hsq hW hH HBd HCap
  have oN := OutL.nil w 0 0
  have HN := Lib.hid oN
  clear oN
  have G0 := Ge.alloc (Ge.refl w) (.cells #[] 43)
  have z0 : w.heap.size ≤ (w.alloc (.cells #[] 43)).heap.size := G0.size
  go_enter Try.func8, Try.ntmps8
  go_upto_region 2 with (fail)
  generalize w.alloc (.cells #[] 43) = wA at *
  generalize hbs : w.heap.size = bs at *
  go_wp2_with (first | ((go_at_call 24; ((with_reducible refine (HT.out _ G0).mono ?_); rintro e w1 ⟨rfl, g1⟩)); have G1 := Lib.hid (G0.trans g1); have GA := Lib.hid g1; clear g1) | ((go_at_call 25; ((with_reducible refine (HSi.out _ G1.out).mono ?_); rintro e w2 ⟨rfl, g2⟩)); have G2 := Lib.hid (G1.out.trans g2); have GB := Lib.hid (GA.out.trans g2); clear g2))
  have HN2 := Lib.hid (HN.out.ge GB.out)
  clear HN HT HSi G0 G1 GA GB
  obtain ⟨wz, hwz⟩ : ∃ wz, wz = w2 := ⟨_, rfl⟩
  subst hwz
  have HBs := Lib.hid hbs
  clear hbs
  go_loopw [3, 6] (fun o y wr => ∃ (k : Nat) (u : Value), y = .int .i64 (k : Int) ∧ k ≤ H + 1 ∧ o = u ∧ OutL wr bs 0 0 u (levU xs n W k) ∧ Ge w wr) (fun _ y _ => 402 - (intOf y).toNat)
  case atStart => exact ⟨0, _, rfl, by omega, rfl, HN2.out, G2.out⟩
  case round =>
    obtain ⟨y, u, rfl, hy, rfl, hown, hg⟩ := hrel
    clear HN2 G2
    by_cases hyH : y ≤ H
    · have hyB : (y : Int) ≤ (H : Int) := by omega
      have hyD : decide ((y : Int) ≤ (H : Int)) = true := by simp; omega
      obtain ⟨wa, hwa⟩ : ∃ wa, wa = wr := ⟨_, rfl⟩
      subst hwa
      have HO := Lib.hid hown
      have HG := Lib.hid hg
      have zg := hg.size
      obtain ⟨pu, cu, rfl⟩ := hown.form
      clear hown hg
      obtain ⟨F, hF⟩ : ∃ F, (levU xs n W y).length = F := ⟨_, rfl⟩
      have hF2 := levU_len xs n W y
      have hF3 : y * (W + 1) ≤ 401 * 401 := Nat.mul_le_mul (by omega) (by omega)
      rw [hF] at HO hF2 ⊢
      have HLF := Lib.hid hF
      clear hF
      have oS := OwnL.nil wa
      have HS0 := Lib.hid oS
      clear oS
      go_upto_region 9 with (fail)
      have gS := Ge.alloc (Ge.refl wa) (.cells #[] 43)
      generalize wa.alloc (.cells #[] 43) = ws at *
      go_wp2_with fail
      go_loopw [7, 32] (fun l i wq => ∃ (k : Nat) (s : Value), i = .int .i64 (k : Int) ∧ k ≤ n ∧ l = s ∧ OwnL wq wa.heap.size s ((spK xs y k).map rowP) ∧ Ge wa wq) (fun _ i _ => 13 - (intOf i).toNat)
      case atStart => exact ⟨0, _, rfl, Nat.zero_le _, rfl, HS0.out, gS⟩
      case round =>
        obtain ⟨k, s, rfl, hk, rfl, hsp, hq⟩ := hrel
        by_cases hkn : k < n
        · obtain ⟨b, ofs, rfl, x0, x1, x2⟩ := three_cells HC.out hkn
          have y0 := (HG.out.trans hq).keep x0
          have y1 := (HG.out.trans hq).keep x1
          have y2 := (HG.out.trans hq).keep x2
          clear x0 x1 x2
          obtain ⟨q0, q1, q2, q3, q4, q5⟩ := HOK.out k hkn
          have HKt := Lib.hid (spK_t (xs := xs) (y := (y : Int)) (k := k))
          have HKf := Lib.hid (spK_f (xs := xs) (y := (y : Int)) (k := k))
          have hlen := spK_len xs (y : Int) k
          have HSp := Lib.hid hsp
          have HQ := Lib.hid hq
          have zq := hq.size
          obtain ⟨ps, cs, hps⟩ := OwnL.read hsp rfl
          obtain ⟨rfl, _⟩ := hps
          clear hsp hq
          change wr.cell? _ = some (.int .i64 (sx xs k)) at y0
          change wr.cell? _ = some (.int .i64 (sy xs k)) at y1
          change wr.cell? _ = some (.int .i64 (ss xs k)) at y2
          generalize sx xs k = X at *
          generalize sy xs k = Y at *
          generalize ss xs k = Z at *
          generalize hM : (spK xs (y : Int) k).map rowP = M at *
          have hMl : M.length ≤ k := by rw [← hM]; simpa using hlen
          clear hlen
          have HM := Lib.hid hM
          clear hM
          go_upto_region 12 with (fail)
          have gX := Lib.hid (Ge.alloc (Ge.refl wr) (.cells #[.int .i64 X, .int .i64 Y, .int .i64 Z] 45))
          have c0 : (wr.alloc (.cells #[.int .i64 X, .int .i64 Y, .int .i64 Z] 45)).cell? ⟨wr.heap.size, 0, none⟩ = some (.int .i64 X) := by simp
          have c1 : (wr.alloc (.cells #[.int .i64 X, .int .i64 Y, .int .i64 Z] 45)).cell? ⟨wr.heap.size, 1, none⟩ = some (.int .i64 Y) := by simp
          have c2 : (wr.alloc (.cells #[.int .i64 X, .int .i64 Y, .int .i64 Z] 45)).cell? ⟨wr.heap.size, 2, none⟩ = some (.int .i64 Z) := by simp
          generalize wr.alloc (.cells #[.int .i64 X, .int .i64 Y, .int .i64 Z] 45) = wx at *
          clear y0 y1 y2
          generalize wr.heap.size = px at *
          by_cases hY1 : Y = (y : Int)
          · have HL := Lib.hid (HKt.out (.inl hY1))
            subst hY1
            clear HKt HKf
            go_wp2_with (at_builtin; refine ap_listB rfl _ _ rfl wa.heap.size _ M rfl (HSp.out.ge (Ge.alloc gX.out _)) [X, X + Z] ⟨wx.heap.size, 0, none⟩ 2 2 rfl (lit2 wx X (X + Z)) rfl (by simp) (by omega) (by have := (HQ.out.trans gX.out).size; simp; omega) ?_; intro v7 w7 own7 g7; have HO7 := Lib.hid own7; have HG7 := Lib.hid (g7 wa (HQ.out.trans (Ge.alloc gX.out _)) (Nat.le_refl _)); clear own7 g7)
            go_roundw
            case rel => exact ⟨k + 1, _, by go_num, by omega, rfl, by rw [HL.out, List.map_append, HM.out]; exact HO7.out, HG7.out⟩
            case measure => simp [intOf]; omega
          · by_cases hY2 : Y + Z = (y : Int)
            · have HL := Lib.hid (HKt.out (.inr hY2))
              have tY1 : (Y == (y : Int)) = false := by simpa using hY1
              have tY2 : (Y + Z == (y : Int)) = true := by simpa using hY2
              clear HKt HKf
              go_wp2_with (at_builtin; refine ap_listB rfl _ _ rfl wa.heap.size _ M rfl (HSp.out.ge (Ge.alloc gX.out _)) [X, X + Z] ⟨wx.heap.size, 0, none⟩ 2 2 rfl (lit2 wx X (X + Z)) rfl (by simp) (by omega) (by have := (HQ.out.trans gX.out).size; simp; omega) ?_; intro v7 w7 own7 g7; have HO7 := Lib.hid own7; have HG7 := Lib.hid (g7 wa (HQ.out.trans (Ge.alloc gX.out _)) (Nat.le_refl _)); clear own7 g7)
              go_roundw
              case rel => exact ⟨k + 1, _, by go_num, by omega, rfl, by rw [HL.out, List.map_append, HM.out]; exact HO7.out, HG7.out⟩
              case measure => simp [intOf]; omega
            · have HL := Lib.hid (HKf.out hY1 hY2)
              have tY1 : (Y == (y : Int)) = false := by simpa using hY1
              have tY2 : (Y + Z == (y : Int)) = false := by simpa using hY2
              clear HKt HKf
              go_wp2_with fail
              go_roundw
              case rel => exact ⟨k + 1, _, by go_num, by omega, rfl, by rw [HL.out, HM.out]; exact HSp.out.ge gX.out, HQ.out.trans gX.out⟩
              case measure => simp [intOf]; omega
        · have hkn2 : k = n := by omega
          have hlen := spK_len xs (y : Int) n
          rw [hkn2] at hsp
          have HLev := Lib.hid (fun T => lev_same (y := (y : Int)) (T := T) HOK.out HW.out)
          have HLU : Hid (levU xs n W (y + 1) = levU xs n W y ++ (scanS (covU xs n W y) (W + 1)).1.map (rowY y)) := rfl
          generalize levU xs n W y = LU at *
          generalize (scanS (covU xs n W y) (W + 1)).1 = SC at *
          have hin := spK_in (y := (y : Int)) HOK.out (Nat.le_refl n)
          generalize spK xs (y : Int) n = S at *
          obtain ⟨m, hSm⟩ : ∃ m, S.length = m := ⟨_, rfl⟩
          have hform := OwnL.read hsp (List.length_map rowP)
          obtain ⟨pg, cg, hfe, _⟩ := hform
          subst hfe
          rw [hSm] at hsp hlen ⊢
          have HSort : Hid (Calls Try.prog 26 #[.slice pg m cg, .func (.func 27) #[] #[]] wr fun e w' => e = .returned (.tuple #[]) ∧
              ∃ (T : List Sp) (gs : Nat), T.length = m ∧ joinAll T = SC ∧ (0 < m → pg = some ⟨gs, 0, none⟩) ∧ (0 < m → SpL w' gs m T w'.heap.size) ∧ wa.heap.size ≤ gs ∧ Ge wa w') := by
            by_cases hm0 : m = 0
            · subst hm0
              have hS0 : S = [] := List.eq_nil_of_length_eq_zero hSm
              subst hS0
              haveI : Inhabited Nat := ⟨0⟩
              refine (Try.slices_SortFunc_none (α := Nat) pg cg _ wr).mono ?_
              rintro e w' ⟨rfl, rfl⟩
              exact ⟨rfl, [], wa.heap.size, rfl, HLev.out [] (List.Perm.refl _) (fun i j hi => by simp at hi), fun h => by omega, fun h => by omega, Nat.le_refl _, hq⟩
            · have hsp2 := hsp
              obtain ⟨csx, hx1, _⟩ := hsp2
              rw [List.length_map, hSm] at hx1
              obtain ⟨gs, c', he⟩ := Go.Joins.ownsRow_form hx1 (by omega)
              simp only [Value.slice.injEq] at he
              obtain ⟨rfl, _, rfl⟩ := he
              have hgs := (hx1.lt gs rfl).1
              refine (sortSp wa.heap.size gs m cg S wr hsp hSm (by omega) (by omega)).mono ?_
              rintro e w' ⟨rfl, ⟨T, hT1, hT2, hT3⟩, hgr⟩
              have hTl : T.length = m := by rw [hT1.length_eq]; exact hSm
              exact ⟨rfl, T, gs, hTl, HLev.out T hT1 hT2, fun _ => rfl, fun _ => SpL.of hT3 hTl (by omega), hgs, hq.grown hgr (fun k hk => by simp at hk; omega)⟩
          have HSl := Lib.hid hlen
          clear hsp hq HLev hin hSm
          go_wp2_with (go_at_call 26; ((with_reducible refine (HSort.out).mono ?_); rintro e w5 ⟨rfl, T, gs, hTl, hTj, hTp, hTs, hgs, gT⟩); have HTl := Lib.hid hTl; have HTj := Lib.hid hTj; have HTp := Lib.hid hTp; have HTs := Lib.hid hTs; have GT := Lib.hid gT; clear hTl hTj hTp hTs gT)
          clear HSort
          obtain ⟨B, hB⟩ : ∃ B, B = w5.heap.size := ⟨_, rfl⟩
          have zB := GT.out.size
          have hgB : wa.heap.size ≤ B := by omega
          have hbsB : bs ≤ B := by have := HBs.out; omega
          have HO5 : Hid (OutL w5 bs B F (.slice pu F cu) LU) := by
            have h1 := HO.out.again B
            rw [HLF.out] at h1
            exact h1.ge GT.out
          have HOn : Hid ((Value.slice pu F cu).ownBlock ≠ some gs) := fun h => by
            obtain ⟨csx, hx⟩ := HO.out.own
            have := (hx.lt gs h).2
            omega
          have HB5 : Hid (0 < m → SpL w5 gs m T B) := by rw [hB]; exact HTs.out
          have HB6 : Hid (B ≤ w5.heap.size) := Nat.le_of_eq hB
          have HGt := Lib.hid (HG.out.trans GT.out)
          clear hB HTs HO zB
          go_loopw [3, 67] (fun o i wq => ∃ (k : Nat) (u : Value), i = .int .i64 (k : Int) ∧ k ≤ m ∧ o = u ∧ OutL wq bs B F u (LU ++ (joinAll (T.take k)).map (rowY (y : Int))) ∧ Hid (0 < m → SpL wq gs m T B) ∧ Hid (u.ownBlock ≠ some gs) ∧ Ge w wq ∧ B ≤ wq.heap.size) (fun _ i _ => 13 - (intOf i).toNat)
          case atStart => exact ⟨0, _, rfl, Nat.zero_le _, rfl, by simpa [joinAll] using HO5.out, HB5.out, HOn.out, HGt.out, HB6.out⟩
          case round =>
            obtain ⟨k, u, rfl, hk, rfl, hown, hsp, hun, hg, hBw⟩ := hrel
            by_cases hkm : k < m
            · have hgsB := (hsp.out (by omega)).1
              have hkT : k < T.length := by rw [HTl.out]; exact hkm
              obtain ⟨sp, cq, xs0, hspB, hrow⟩ := (hsp.out (by omega)).2 k (by rw [HTl.out]; exact hkm) hkm
              have x0 : wr.cell? ⟨sp, 0, none⟩ = some (.int .i64 T[k].1) := by rw [hrow.cellAt 0 (by simp)]; rfl
              have x1 : wr.cell? ⟨sp, 1, none⟩ = some (.int .i64 T[k].2) := by rw [hrow.cellAt 1 (by simp)]; rfl
              have hpg := HTp.out (by omega)
              subst hpg
              have HJ : Hid (joinAll (T.take (k + 1)) = joinS (joinAll (T.take k)) T[k]) := by
                show _ = _
                rw [take_snoc (by rw [HTl.out]; exact hkm), joinAll_snoc]
              have HOw := Lib.hid hown
              have HG2 := Lib.hid hg
              have hTk := joinAll_len (T.take k)
              rw [List.length_take] at hTk
              clear hown hg hrow
              generalize joinAll (T.take k) = J at *
              generalize T[k] = X at *
              obtain ⟨X1, X2⟩ := X
              simp only at x0 x1
              rcases List.eq_nil_or_concat J with hJ | ⟨J', l, hJ⟩
              · subst hJ
                simp only [List.map_nil, List.append_nil] at HOw
                obtain ⟨pz, cz, hfe⟩ := HOw.out.form
                rw [HLF.out] at hfe
                subst hfe
                have hF4 : F ≤ 160801 := by omega
                have HLn : Hid (LU.length ≤ 200000) := by show _ ≤ _; rw [HLF.out]; omega
                have tA : decide ((F : Int) - 1 ≥ (F : Int)) = false := by simp; omega
                have tA2 : ¬ (F : Int) ≤ (F : Int) - 1 := by omega
                clear HTp HTj HLU
                go_wp2_with fail
                go_quiet (fail)
                go_wp2_with fail
                have g9 : Ge wr (wr.drewN nq) := Ge.drewN (Ge.refl _) _
                have HOq := Lib.hid (HOw.out.ge g9)
                have HSq : Hid (0 < m → SpL (wr.drewN nq) gs m T B) := fun h => (hsp.out h).ge g9
                have HGq := Lib.hid (HG2.out.trans g9)
                have zq9 := g9.size
                have x0 := g9.keep x0
                have x1 := g9.keep x1
                generalize wr.drewN nq = wq at *
                refine wp_region_head (S := fun w' => w'.cell? ⟨sp, 0, none⟩ = some (.int .i64 X1) ∧ w'.cell? ⟨sp, 1, none⟩ = some (.int .i64 X2)) 10 (by kernel_rfl) (by kernel_rfl) (⟨cell_drew x0, cell_drew x1⟩) (fun hHeld => ?_)
                have gD := Lib.hid (Ge.drew (Ge.refl wq))
                have zD : wq.heap.size ≤ wq.drew.heap.size := gD.out.size
                have x0 := gD.out.keep x0
                have x1 := gD.out.keep x1
                generalize wq.drew = wD at *
                refine head_take 0 (v := ?_) rfl (by kernel_rfl) (by kernel_rfl) (fun _ _ _ h => h) (by assumption) (yields_if (by rfl) ?_) ?_
                rotate_left
                focus (intro w' hSw; (try dsimp only at hSw); go_simp; (try with_reducible rfl))
                (try simp only [Act.put, List.setIfInBounds_toArray, List.set_cons_zero, List.set_cons_succ])
                refine head_take 1 (v := ?_) rfl (by kernel_rfl) (by kernel_rfl) (fun _ _ _ h => h) (by assumption) (yields_if (by rfl) ?_) ?_
                rotate_left
                focus (intro w' hSw; (try dsimp only at hSw); go_simp; (try with_reducible rfl))
                (try simp only [Act.put, List.setIfInBounds_toArray, List.set_cons_zero, List.set_cons_succ])
                refine head_take 2 (v := ?_) rfl (by kernel_rfl) (by kernel_rfl) (fun _ _ _ h => h) (by assumption) (yields_if (by rfl) ?_) ?_
                rotate_left
                focus (intro w' hSw; (try dsimp only at hSw); go_simp; (try with_reducible rfl))
                (try simp only [Act.put, List.setIfInBounds_toArray, List.set_cons_zero, List.set_cons_succ])
                refine head_take 3 (v := ?_) rfl (by kernel_rfl) (by kernel_rfl) (fun _ _ _ h => h) (by assumption) (yields_if (by rfl) ?_) ?_
                rotate_left
                focus (intro w' hSw; (try dsimp only at hSw); go_simp; (try with_reducible rfl))
                (try simp only [Act.put, List.setIfInBounds_toArray, List.set_cons_zero, List.set_cons_succ])
                refine head_take 4 (v := ?_) rfl (by kernel_rfl) (by kernel_rfl) (fun _ _ _ h => h) (by assumption) (yields_if (by rfl) ?_) ?_
                rotate_left
                focus (intro w' hSw; (try dsimp only at hSw); go_simp; (try with_reducible rfl))
                (try simp only [Act.put, List.setIfInBounds_toArray, List.set_cons_zero, List.set_cons_succ])
                refine head_take 5 (v := ?_) rfl (by kernel_rfl) (by kernel_rfl) (fun _ _ _ h => h) (by assumption) (yields_if (by rfl) ?_) ?_
                rotate_left
                focus (intro w' hSw; (try dsimp only at hSw); go_simp; (try with_reducible rfl))
                (try simp only [Act.put, List.setIfInBounds_toArray, List.set_cons_zero, List.set_cons_succ])
                refine head_take 6 (v := ?_) rfl (by kernel_rfl) (by kernel_rfl) (fun _ _ _ h => h) (by assumption) (yields_if (by rfl) ?_) ?_
                rotate_left
                focus (intro w' hSw; (try dsimp only at hSw); go_simp; (try with_reducible rfl))
                (try simp only [Act.put, List.setIfInBounds_toArray, List.set_cons_zero, List.set_cons_succ])
                refine head_take 7 (v := ?_) rfl (by kernel_rfl) (by kernel_rfl) (fun _ _ _ h => h) (by assumption) (yields_if (by rfl) ?_) ?_
                rotate_left
                focus (intro w' hSw; (try dsimp only at hSw); go_simp; (try with_reducible rfl))
                (try simp only [Act.put, List.setIfInBounds_toArray, List.set_cons_zero, List.set_cons_succ])
                refine head_one 8 rfl (by kernel_rfl) (fun K hK => ?_)
                go_simp
                refine hK.out _ _ ⟨cell_alloc x0, cell_alloc x1⟩ (fun hHeld => ?_)
                clear hK K
                (try simp only [Act.put, List.setIfInBounds_toArray, List.set_cons_zero, List.set_cons_succ])
                refine head_one 9 rfl (by kernel_rfl) (fun K hK => ?_)
                go_simp
                refine hK.out _ _ ⟨cell_alloc (cell_alloc x0), cell_alloc (cell_alloc x1)⟩ (fun hHeld => ?_)
                clear hK K
                (try simp only [Act.put, List.setIfInBounds_toArray, List.set_cons_zero, List.set_cons_succ])
                refine head_done (by kernel_rfl) ?_
                refine ap_out (w0 := wq) rfl _ _ rfl bs B F _ (LU) (by rfl) HOq.out (Ge.alloc gD.out _) [(y : Int), X1, X2] wD.heap.size 3 3 rfl (lit3 wD bs (y : Int) X1 X2 (by omega)) zD (by omega) rfl (by simp) (by have := HLn.out; omega) (by simp; omega) ?_
                intro v7 w7 own7 g7 m7 n7
                have HO7 := Lib.hid own7
                have HG7 := Lib.hid (g7 w (HGq.out.trans (Ge.alloc gD.out _)) (Nat.le_of_eq HBs.out))
                have HN7 := Lib.hid (n7 gs (by simp; omega) hun.out)
                have HM7 := Lib.hid m7
                have HZ7 := World.grownBy.size m7
                simp only [World.size_alloc] at HZ7
                clear own7 g7 m7 n7
                (try simp only [Act.put, List.setIfInBounds_toArray, List.set_cons_zero, List.set_cons_succ])
                go_wp2_with fail
                have HS7 : Hid (0 < m → SpL w7 gs m T B) := fun h => by
                  obtain ⟨csx, hx⟩ := (HOq.out.ge (Ge.alloc gD.out (.cells #[.int .i64 (y : Int), .int .i64 X1, .int .i64 X2] 3))).own
                  exact ((HSq.out h).ge (Ge.alloc gD.out _)).mine hx HM7.out hun.out
                go_roundw
                case rel => exact ⟨k + 1, _, by go_num, by omega, rfl, by rw [HJ.out, joinS_nil]; simp only [List.map_cons, List.map_nil, rowY]; exact HO7.out, HS7, HN7, HG7.out, by omega⟩
                case measure => simp [intOf]; omega
              · rw [List.concat_eq_append] at hJ
                subst hJ
                obtain ⟨l1, l2⟩ := l
                have eL : LU ++ (J' ++ [(l1, l2)]).map (rowY (y : Int)) = (LU ++ J'.map (rowY (y : Int))) ++ [[(y : Int), l1, l2]] := by simp [rowY]
                rw [eL] at HOw
                have hQF : F ≤ (LU ++ J'.map (rowY (y : Int))).length := by rw [List.length_append, HLF.out]; omega
                have hQl : (LU ++ J'.map (rowY (y : Int))).length ≤ 160900 := by
                  simp only [List.length_append, List.length_singleton] at hTk
                  rw [List.length_append, HLF.out, List.length_map]
                  omega
                have HQ1 : Hid (LU ++ J'.map (rowY (y : Int)) ++ [[(y : Int), l1, l2]] ++ [[(y : Int), X1, X2]] = LU ++ ((J' ++ [(l1, l2)]) ++ [(X1, X2)]).map (rowY (y : Int))) := by show _ = _; simp [rowY]
                have HQ2 : Hid (LU ++ J'.map (rowY (y : Int)) ++ [[(y : Int), l1, max l2 X2]] = LU ++ (J' ++ [(l1, max l2 X2)]).map (rowY (y : Int))) := by show _ = _; simp [rowY]
                have HJi := Lib.hid (joinS_in J' (l1, l2) (X1, X2))
                have HJo := Lib.hid (joinS_out J' (l1, l2) (X1, X2))
                simp only at HJi HJo
                clear eL
                generalize hQ : LU ++ J'.map (rowY (y : Int)) = Q at *
                clear hQ
                obtain ⟨hd, c, qk, ck, hue, z0, zB, zb, z1, z2, z3, zf, hset⟩ := HOw.out.last hQF
                obtain ⟨pl, hpl⟩ : ∃ pl, Q.length = pl := ⟨_, rfl⟩
                rw [hpl] at hue z0 hQF hQl
                obtain ⟨N, hN⟩ : ∃ N, pl + 1 = N := ⟨_, rfl⟩
                rw [hN] at hue
                subst hue
                have HLn : Hid ((Q ++ [[(y : Int), l1, l2]]).length ≤ 200000) := by show _ ≤ _; rw [List.length_append, hpl]; simp; omega
                have HSet := Lib.hid hset
                have tN : (N : Int) - 1 = (pl : Int) := by omega
                have tN1 : wrap64 ((N : Int) - 1) = (pl : Int) := by rw [tN]; exact IntWalk.wrap64_in _ ⟨by omega, by omega⟩
                have tN2 : pl < N := by omega
                have tN3 : (pl : Int) < (N : Int) := by omega
                have tN4 : (F : Int) ≤ (pl : Int) := by omega
                have tN5 : decide ((pl : Int) ≥ (F : Int)) = true := by simp; omega
                clear HTp HTj HLU hset hpl hN z1 z2 tN
                by_cases hX : X1 ≤ l2
                · have hXd : decide (X1 ≤ l2) = true := by simpa using hX
                  go_wp2_with fail
                  go_quiet (fail)
                  go_wp2_with fail
                  have g9 : Ge wr (wr.drewN nq) := Ge.drewN (Ge.refl _) _
                  have HOq := Lib.hid (HOw.out.ge g9)
                  have HSq : Hid (0 < m → SpL (wr.drewN nq) gs m T B) := fun h => (hsp.out h).ge g9
                  have HGq := Lib.hid (HG2.out.trans g9)
                  have zq9 := g9.size
                  have zf := g9.keepF z3 zf
                  have x1 := g9.keep x1
                  have z0 := g9.keep z0
                  have z3 := g9.keep z3
                  have Hg9 := Lib.hid g9
                  generalize wr.drewN nq = wq at *
                  refine wp_region_head (S := fun w' => w'.cell? ⟨hd, pl, none⟩ = some (.slice (some ⟨qk, 0, none⟩) 3 ck) ∧ w'.cell? ⟨qk, 2, none⟩ = some (.int .i64 l2) ∧ w'.cell? ⟨sp, 1, none⟩ = some (.int .i64 X2)) 15 (by kernel_rfl) (by kernel_rfl) (⟨cell_drew z0, cell_drew z3, cell_drew x1⟩) (fun hHeld => ?_)
                  have gD := Lib.hid (Ge.drew (Ge.refl wq))
                  have zD : wq.heap.size ≤ wq.drew.heap.size := gD.out.size
                  have zf := gD.out.keepF z3 zf
                  have x1 := gD.out.keep x1
                  have z0 := gD.out.keep z0
                  have z3 := gD.out.keep z3
                  generalize wq.drew = wD at *
                  refine head_take 0 (v := ?_) rfl (by kernel_rfl) (by kernel_rfl) (fun _ _ _ h => h) (by assumption) (yields_if (by rfl) ?_) ?_
                  rotate_left
                  focus (intro w' hSw; (try dsimp only at hSw); go_simp; (try with_reducible rfl))
                  (try simp only [Act.put, List.setIfInBounds_toArray, List.set_cons_zero, List.set_cons_succ])
                  refine head_take 1 (v := ?_) rfl (by kernel_rfl) (by kernel_rfl) (fun _ _ _ h => h) (by assumption) (yields_if (by rfl) ?_) ?_
                  rotate_left
                  focus (intro w' hSw; (try dsimp only at hSw); go_simp; (try with_reducible rfl))
                  (try simp only [Act.put, List.setIfInBounds_toArray, List.set_cons_zero, List.set_cons_succ])
                  refine head_take 4 (v := ?_) rfl (by kernel_rfl) (by kernel_rfl) (fun _ _ _ h => h) (by assumption) (yields_if (by rfl) ?_) ?_
                  rotate_left
                  focus (intro w' hSw; (try dsimp only at hSw); go_simp; (try with_reducible rfl))
                  (try simp only [Act.put, List.setIfInBounds_toArray, List.set_cons_zero, List.set_cons_succ])
                  refine head_take 5 (v := ?_) rfl (by kernel_rfl) (by kernel_rfl) (fun _ _ _ h => h) (by assumption) (yields_if (by rfl) ?_) ?_
                  rotate_left
                  focus (intro w' hSw; (try dsimp only at hSw); go_simp; (try with_reducible rfl))
                  (try simp only [Act.put, List.setIfInBounds_toArray, List.set_cons_zero, List.set_cons_succ])
                  refine head_take 10 (v := ?_) rfl (by kernel_rfl) (by kernel_rfl) (fun _ _ _ h => h) (by assumption) (yields_if (by rfl) ?_) ?_
                  rotate_left
                  focus (intro w' hSw; (try dsimp only at hSw); go_simp; (try with_reducible rfl))
                  (try simp only [Act.put, List.setIfInBounds_toArray, List.set_cons_zero, List.set_cons_succ])
                  refine head_take 2 (v := ?_) rfl (by kernel_rfl) (by kernel_rfl) (fun _ _ _ h => h) (by assumption) (yields_if (by rfl) ?_) ?_
                  rotate_left
                  focus (intro w' hSw; (try dsimp only at hSw); go_simp; (try with_reducible rfl))
                  (try simp only [Act.put, List.setIfInBounds_toArray, List.set_cons_zero, List.set_cons_succ])
                  refine head_take 6 (v := ?_) rfl (by kernel_rfl) (by kernel_rfl) (fun _ _ _ h => h) (by assumption) (yields_if (by rfl) ?_) ?_
                  rotate_left
                  focus (intro w' hSw; (try dsimp only at hSw); go_simp; (try with_reducible rfl))
                  (try simp only [Act.put, List.setIfInBounds_toArray, List.set_cons_zero, List.set_cons_succ])
                  refine head_take 11 (v := ?_) rfl (by kernel_rfl) (by kernel_rfl) (fun _ _ _ h => h) (by assumption) (yields_if (by rfl) ?_) ?_
                  rotate_left
                  focus (intro w' hSw; (try dsimp only at hSw); go_simp; (try with_reducible rfl))
                  (try simp only [Act.put, List.setIfInBounds_toArray, List.set_cons_zero, List.set_cons_succ])
                  refine head_take 3 (v := ?_) rfl (by kernel_rfl) (by kernel_rfl) (fun _ _ _ h => h) (by assumption) (yields_if (by rfl) ?_) ?_
                  rotate_left
                  focus (intro w' hSw; (try dsimp only at hSw); go_simp; (try with_reducible rfl))
                  (try simp only [Act.put, List.setIfInBounds_toArray, List.set_cons_zero, List.set_cons_succ])
                  refine head_take 7 (v := ?_) rfl (by kernel_rfl) (by kernel_rfl) (fun _ _ _ h => h) (by assumption) (yields_if (by rfl) ?_) ?_
                  rotate_left
                  focus (intro w' hSw; (try dsimp only at hSw); go_simp; (try with_reducible rfl))
                  (try simp only [Act.put, List.setIfInBounds_toArray, List.set_cons_zero, List.set_cons_succ])
                  refine head_take 12 (v := ?_) rfl (by kernel_rfl) (by kernel_rfl) (fun _ _ _ h => h) (by assumption) (yields_if (by rfl) ?_) ?_
                  rotate_left
                  focus (intro w' hSw; (try dsimp only at hSw); go_simp; (try with_reducible rfl))
                  (try simp only [Act.put, List.setIfInBounds_toArray, List.set_cons_zero, List.set_cons_succ])
                  refine head_take 8 (v := ?_) rfl (by kernel_rfl) (by kernel_rfl) (fun _ _ _ h => h) (by assumption) (yields_if (by rfl) ?_) ?_
                  rotate_left
                  focus (intro w' hSw; (try dsimp only at hSw); go_simp; (try with_reducible rfl))
                  (try simp only [Act.put, List.setIfInBounds_toArray, List.set_cons_zero, List.set_cons_succ])
                  refine head_take 9 (v := ?_) rfl (by kernel_rfl) (by kernel_rfl) (fun _ _ _ h => h) (by assumption) (yields_if (by rfl) ?_) ?_
                  rotate_left
                  focus (intro w' hSw; (try dsimp only at hSw); go_simp; (try with_reducible rfl))
                  (try simp only [Act.put, List.setIfInBounds_toArray, List.set_cons_zero, List.set_cons_succ])
                  refine head_take 13 (v := ?_) rfl (by kernel_rfl) (by kernel_rfl) (fun _ _ _ h => h) (by assumption) (yields_if (by rfl) ?_) ?_
                  rotate_left
                  focus (intro w' hSw; (try dsimp only at hSw); go_simp; (try with_reducible rfl))
                  (try simp only [Act.put, List.setIfInBounds_toArray, List.set_cons_zero, List.set_cons_succ])
                  refine head_take 14 (v := ?_) rfl (by kernel_rfl) (by kernel_rfl) (fun _ _ _ h => h) (by assumption) (yields_if (by rfl) ?_) ?_
                  rotate_left
                  focus (intro w' hSw; (try dsimp only at hSw); go_simp; (try with_reducible rfl))
                  (try simp only [Act.put, List.setIfInBounds_toArray, List.set_cons_zero, List.set_cons_succ])
                  refine head_done (by kernel_rfl) ?_
                  go_wp2_with fail
                  have hS := grown_setL wD qk 2 (.int .i64 (max l2 X2))
                  go_roundw
                  case rel => exact ⟨k + 1, _, by go_num, by omega, rfl, by rw [HJ.out, HJi.out hX, ← HQ2.out]; exact HSet.out wD (max l2 X2) (Hg9.out.trans gD.out), fun h => ((HSq.out h).ge gD.out).set hS zB, hun.out, (HGq.out.trans gD.out).grown hS (fun k hk => by have := HBs.out; simp at hk; omega), by simp; omega⟩
                  case measure => simp [intOf]; omega
                · have hXd : decide (X1 ≤ l2) = false := by simpa using hX
                  have hX2 : ¬ X1 ≤ l2 := hX
                  go_wp2_with fail
                  go_quiet (fail)
                  go_wp2_with fail
                  have g9 : Ge wr (wr.drewN nq) := Ge.drewN (Ge.refl _) _
                  have HOq := Lib.hid (HOw.out.ge g9)
                  have HSq : Hid (0 < m → SpL (wr.drewN nq) gs m T B) := fun h => (hsp.out h).ge g9
                  have HGq := Lib.hid (HG2.out.trans g9)
                  have zq9 := g9.size
                  have x0 := g9.keep x0
                  have x1 := g9.keep x1
                  generalize wr.drewN nq = wq at *
                  refine wp_region_head (S := fun w' => w'.cell? ⟨sp, 0, none⟩ = some (.int .i64 X1) ∧ w'.cell? ⟨sp, 1, none⟩ = some (.int .i64 X2)) 10 (by kernel_rfl) (by kernel_rfl) (⟨cell_drew x0, cell_drew x1⟩) (fun hHeld => ?_)
                  have gD := Lib.hid (Ge.drew (Ge.refl wq))
                  have zD : wq.heap.size ≤ wq.drew.heap.size := gD.out.size
                  have x0 := gD.out.keep x0
                  have x1 := gD.out.keep x1
                  generalize wq.drew = wD at *
                  refine head_take 0 (v := ?_) rfl (by kernel_rfl) (by kernel_rfl) (fun _ _ _ h => h) (by assumption) (yields_if (by rfl) ?_) ?_
                  rotate_left
                  focus (intro w' hSw; (try dsimp only at hSw); go_simp; (try with_reducible rfl))
                  (try simp only [Act.put, List.setIfInBounds_toArray, List.set_cons_zero, List.set_cons_succ])
                  refine head_take 1 (v := ?_) rfl (by kernel_rfl) (by kernel_rfl) (fun _ _ _ h => h) (by assumption) (yields_if (by rfl) ?_) ?_
                  rotate_left
                  focus (intro w' hSw; (try dsimp only at hSw); go_simp; (try with_reducible rfl))
                  (try simp only [Act.put, List.setIfInBounds_toArray, List.set_cons_zero, List.set_cons_succ])
                  refine head_take 2 (v := ?_) rfl (by kernel_rfl) (by kernel_rfl) (fun _ _ _ h => h) (by assumption) (yields_if (by rfl) ?_) ?_
                  rotate_left
                  focus (intro w' hSw; (try dsimp only at hSw); go_simp; (try with_reducible rfl))
                  (try simp only [Act.put, List.setIfInBounds_toArray, List.set_cons_zero, List.set_cons_succ])
                  refine head_take 3 (v := ?_) rfl (by kernel_rfl) (by kernel_rfl) (fun _ _ _ h => h) (by assumption) (yields_if (by rfl) ?_) ?_
                  rotate_left
                  focus (intro w' hSw; (try dsimp only at hSw); go_simp; (try with_reducible rfl))
                  (try simp only [Act.put, List.setIfInBounds_toArray, List.set_cons_zero, List.set_cons_succ])
                  refine head_take 4 (v := ?_) rfl (by kernel_rfl) (by kernel_rfl) (fun _ _ _ h => h) (by assumption) (yields_if (by rfl) ?_) ?_
                  rotate_left
                  focus (intro w' hSw; (try dsimp only at hSw); go_simp; (try with_reducible rfl))
                  (try simp only [Act.put, List.setIfInBounds_toArray, List.set_cons_zero, List.set_cons_succ])
                  refine head_take 5 (v := ?_) rfl (by kernel_rfl) (by kernel_rfl) (fun _ _ _ h => h) (by assumption) (yields_if (by rfl) ?_) ?_
                  rotate_left
                  focus (intro w' hSw; (try dsimp only at hSw); go_simp; (try with_reducible rfl))
                  (try simp only [Act.put, List.setIfInBounds_toArray, List.set_cons_zero, List.set_cons_succ])
                  refine head_take 6 (v := ?_) rfl (by kernel_rfl) (by kernel_rfl) (fun _ _ _ h => h) (by assumption) (yields_if (by rfl) ?_) ?_
                  rotate_left
                  focus (intro w' hSw; (try dsimp only at hSw); go_simp; (try with_reducible rfl))
                  (try simp only [Act.put, List.setIfInBounds_toArray, List.set_cons_zero, List.set_cons_succ])
                  refine head_take 7 (v := ?_) rfl (by kernel_rfl) (by kernel_rfl) (fun _ _ _ h => h) (by assumption) (yields_if (by rfl) ?_) ?_
                  rotate_left
                  focus (intro w' hSw; (try dsimp only at hSw); go_simp; (try with_reducible rfl))
                  (try simp only [Act.put, List.setIfInBounds_toArray, List.set_cons_zero, List.set_cons_succ])
                  refine head_one 8 rfl (by kernel_rfl) (fun K hK => ?_)
                  go_simp
                  refine hK.out _ _ ⟨cell_alloc x0, cell_alloc x1⟩ (fun hHeld => ?_)
                  clear hK K
                  (try simp only [Act.put, List.setIfInBounds_toArray, List.set_cons_zero, List.set_cons_succ])
                  refine head_one 9 rfl (by kernel_rfl) (fun K hK => ?_)
                  go_simp
                  refine hK.out _ _ ⟨cell_alloc (cell_alloc x0), cell_alloc (cell_alloc x1)⟩ (fun hHeld => ?_)
                  clear hK K
                  (try simp only [Act.put, List.setIfInBounds_toArray, List.set_cons_zero, List.set_cons_succ])
                  refine head_done (by kernel_rfl) ?_
                  refine ap_out (w0 := wq) rfl _ _ rfl bs B F _ (Q ++ [[(y : Int), l1, l2]]) (by rfl) HOq.out (Ge.alloc gD.out _) [(y : Int), X1, X2] wD.heap.size 3 3 rfl (lit3 wD bs (y : Int) X1 X2 (by omega)) zD (by omega) rfl (by simp) (by have := HLn.out; omega) (by simp; omega) ?_
                  intro v7 w7 own7 g7 m7 n7
                  have HO7 := Lib.hid own7
                  have HG7 := Lib.hid (g7 w (HGq.out.trans (Ge.alloc gD.out _)) (Nat.le_of_eq HBs.out))
                  have HN7 := Lib.hid (n7 gs (by simp; omega) hun.out)
                  have HM7 := Lib.hid m7
                  have HZ7 := World.grownBy.size m7
                  simp only [World.size_alloc] at HZ7
                  clear own7 g7 m7 n7
                  (try simp only [Act.put, List.setIfInBounds_toArray, List.set_cons_zero, List.set_cons_succ])
                  go_wp2_with fail
                  have HS7 : Hid (0 < m → SpL w7 gs m T B) := fun h => by
                    obtain ⟨csx, hx⟩ := (HOq.out.ge (Ge.alloc gD.out (.cells #[.int .i64 (y : Int), .int .i64 X1, .int .i64 X2] 3))).own
                    exact ((HSq.out h).ge (Ge.alloc gD.out _)).mine hx HM7.out hun.out
                  go_roundw
                  case rel => exact ⟨k + 1, _, by go_num, by omega, rfl, by rw [HJ.out, HJo.out hX, ← HQ1.out]; exact HO7.out, HS7, HN7, HG7.out, by omega⟩
                  case measure => simp [intOf]; omega
            · have hkm2 : k = m := by omega
              have HE : Hid (joinAll (T.take k) = SC) := by
                show _ = _
                rw [hkm2, ← HTl.out, List.take_length]
                exact HTj.out
              clear HTp
              go_wp2_with fail
              go_roundw
              case rel => exact ⟨y + 1, _, by go_num, by omega, rfl, by rw [HLU.out, ← HE.out]; exact hown.zero, hg⟩
              case measure => simp [intOf]; omega
    · have hyH2 : y = H + 1 := by omega
      have hyD : decide ((y : Int) ≤ (H : Int)) = false := by simp; omega
      have hyI : ¬ (y : Int) ≤ (H : Int) := by omega
      go_wp2_with fail
      go_ret
      exact ⟨_, rfl, by rw [HF.out, HBs.out, ← hyH2]; exact hown, hg⟩
end Go.Proofs.Ytenfkpdbfmeebaa
