/- LevelsOf of impl. No condition. l13Covered, LevelsOf of the reference; LevelsOf of both sides for all lists. No condition. Weight matrices: squareOk, l04Matrix, IsWeightMatrix of both sides. No condition. Slices of slices of integers: toIntSS, eqIntSS, szIntSS. No condition. Slices of squares as a law's argument: toSquare, toSquareS, eqSquareS. The laws of TilingOk, HeightOf, WidthOf, walked. No condition. SizesOf, HasEqualSquares of impl and of the reference; the library's Sort and Compact of integers. No condition. -/
import Derived.Test.YtckjkfcphcnpdaaGreatWOutL
import Derived.Test.YtckjkfcphcnpdaaGreatPlLev2
import Derived.Test.YtckjkfcphcnpdaaGreatWTile2
import Derived.Test.YtckjkfcphcnpdaaGreatWSides
import Derived.Test.YtckjkfcphcnpdaaGreatJAa
import Derived.Test.YtckjkfcphcnpdaaGreatWTile3
import Derived.Test.YtckjkfcphcnpdaaGreatWTile5
import Derived.Test.YtckjkfcphcnpdaaGreatWLists
import Derived.Test.YtckjkfcphcnpdaaGreatWIn
import Derived.Test.YtckjkfcphcnpdaaGreatWToInt
import Derived.Test.YtckjkfcphcnpdaaGreatWFlat
import Derived.Test.YtckjkfcphcnpdaaGreatPlSizes
import Derived.Test.YtckjkfcphcnpdaaGreatWEqInt
import Derived.Test.YtckjkfcphcnpdaaGreatWTyInt
import Derived.Test.YtckjkfcphcnpdaaGreatShelf
import Derived.Deep.QuietTactic
import Derived.Below
import Derived.Deep.DeepCutAuto
import Derived.Sort.OwnSortedInts
namespace Go.Proofs.YtckjkfcphcnpdaaGreat
set_option maxRecDepth 100000
open Go.ChangeShapes Go.WideShapes Go.ChangeAt Go.RowKit Go.Joins

theorem low_ge {xs : List Int} {n : Nat} : 0 ≤ lowSq xs n := by
  induction n with
  | zero => exact Int.le_refl _
  | succ n ih => simp only [lowSq]; omega
theorem right_ge0 {xs : List Int} {n : Nat} : 0 ≤ rightSq xs n := by
  induction n with
  | zero => exact Int.le_refl _
  | succ n ih => simp only [rightSq]; omega
/-- The levels of a tiling. -/
def levT (xs : List Int) (n : Nat) : List (List Int) := levU xs n (rightSq xs n).toNat ((lowSq xs n).toNat + 1)
theorem spK_t {xs : List Int} {y : Int} {k : Nat} (h : sy xs k = y ∨ sy xs k + ss xs k = y) : spK xs y (k + 1) = spK xs y k ++ [(sx xs k, sx xs k + ss xs k)] := by
  rw [spK, if_pos (by simpa [onY] using h)]
theorem spK_f {xs : List Int} {y : Int} {k : Nat} (h1 : ¬ sy xs k = y) (h2 : ¬ sy xs k + ss xs k = y) : spK xs y (k + 1) = spK xs y k := by
  rw [spK, if_neg (by simp [onY, h1, h2])]
theorem lit2 (w : World) (a b : Int) : (w.alloc (.cells #[.int .i64 a, .int .i64 b] 3)).ownsRow 0 3 1 (.slice (some ⟨w.heap.size, 0, none⟩) 2 2) 2 (icells [a, b]) :=
  World.ownsRow_lit w #[.int .i64 a, .int .i64 b] 2 (by omega) (by unfold maxLen; omega) (by simp)

set_option maxHeartbeats 6400000 in
theorem iLevT (v : Value) (n : Nat) (xs : List Int) (w : World) (hv : SlF w v n 3 xs) (hm : n ≤ 9223372036854775807) (hb : ∀ j, -9223372036854775808 ≤ nth xs j ∧ nth xs j ≤ 9223372036854775807) (hcap : ∀ p c, v = .slice p n c → n ≤ c) (hB : tileB n xs = true) :
    Calls Tryz.prog 9 #[v] w fun e w' => ∃ u, e = .returned u ∧ OutL w' w.heap.size 0 0 u (levT xs n) ∧ Ge w w' := by
  obtain ⟨p, cap, rfl, hc⟩ := hv.open
  have HV := Lib.hid hv
  have HC := Lib.hid hc
  have HBd := Lib.hid hb
  have HCap := Lib.hid hcap
  clear hv hc hb hcap
  have HT := Lib.hid (fun w' (g : Ge w w') => iTilingOk (.slice p n cap) n xs w' (HV.out.ge g) hm HBd.out HCap.out)
  rw [hB] at HT
  obtain ⟨h0, h12, hsq, _⟩ : tileP n xs := by
    unfold tileB at hB
    split at hB
    · assumption
    · cases hB
  have HOK : Hid (∀ i, i < n → okSq xs i) := fun i hi => (hsq i hi).1
  have HSi := Lib.hid (fun w' (g : Ge w w') => iSides (.slice p n cap) n xs w' (HV.out.ge g) h12 HOK.out)
  have hr := right_bd n HOK.out
  have hl := low_bd n HOK.out
  have HF : Hid (levT xs n = levU xs n (rightSq xs n).toNat ((lowSq xs n).toNat + 1)) := rfl
  obtain ⟨W, hW⟩ : ∃ W : Nat, rightSq xs n = W := ⟨(rightSq xs n).toNat, by omega⟩
  obtain ⟨H, hH⟩ : ∃ H : Nat, lowSq xs n = H := ⟨(lowSq xs n).toNat, by omega⟩
  have HW := Lib.hid hW
  rw [hW, hH] at HSi HF
  rw [hW] at hr
  rw [hH] at hl
  simp only [Int.toNat_natCast] at HF
  generalize levT xs n = LT at *
  clear hB hsq hW hH HBd HCap
  have oN := OutL.nil w 0 0
  have HN := Lib.hid oN
  clear oN
  have G0 := Ge.alloc (Ge.refl w) (.cells #[] 35)
  have z0 : w.heap.size ≤ (w.alloc (.cells #[] 35)).heap.size := G0.size
  go_enter Tryz.func9, Tryz.ntmps9
  go_upto_region 2 with (fail)
  generalize w.alloc (.cells #[] 35) = wA at *
  generalize hbs : w.heap.size = bs at *
  go_wp2_with (first | ((go_at_call 11; ((with_reducible refine (HT.out _ G0).mono ?_); rintro e w1 ⟨rfl, g1⟩)); have G1 := Lib.hid (G0.trans g1); have GA := Lib.hid g1; clear g1) | ((go_at_call 18; ((with_reducible refine (HSi.out _ G1.out).mono ?_); rintro e w2 ⟨rfl, g2⟩)); have G2 := Lib.hid (G1.out.trans g2); have GB := Lib.hid (GA.out.trans g2); clear g2))
  have HN2 := Lib.hid (HN.out.ge GB.out)
  clear HN HT HSi G0 G1 GA GB
  obtain ⟨wz, hwz⟩ : ∃ wz, wz = w2 := ⟨_, rfl⟩
  subst hwz
  have HBs := Lib.hid hbs
  clear hbs
  go_loopw [3, 6] (fun o y wr => ∃ (k : Nat) (u : Value), y = .int .i64 (k : Int) ∧ k ≤ H + 1 ∧ o = u ∧ OutL wr bs 0 0 u (levU xs n W k) ∧ Ge w wr) (fun _ y _ => 402 - (intOf y).toNat)
  case atStart => exact ⟨0, _, rfl, by omega, rfl, HN2.out, G2.out⟩
  case round =>
    obtain ⟨y, u, rfl, hy, rfl, hown, hg⟩ := hrel
    clear HN2 G2
    by_cases hyH : y ≤ H
    · have hyB : (y : Int) ≤ (H : Int) := by omega
      have hyD : decide ((y : Int) ≤ (H : Int)) = true := by simp; omega
      obtain ⟨wa, hwa⟩ : ∃ wa, wa = wr := ⟨_, rfl⟩
      subst hwa
      have HO := Lib.hid hown
      have HG := Lib.hid hg
      have zg := hg.size
      obtain ⟨pu, cu, rfl⟩ := hown.form
      clear hown hg
      obtain ⟨F, hF⟩ : ∃ F, (levU xs n W y).length = F := ⟨_, rfl⟩
      have hF2 := levU_len xs n W y
      have hF3 : y * (W + 1) ≤ 401 * 401 := Nat.mul_le_mul (by omega) (by omega)
      rw [hF] at HO hF2 ⊢
      have HLF := Lib.hid hF
      clear hF
      have oS := OwnL.nil wa
      have HS0 := Lib.hid oS
      clear oS
      go_upto_region 9 with (fail)
      have gS := Ge.alloc (Ge.refl wa) (.cells #[] 35)
      generalize wa.alloc (.cells #[] 35) = ws at *
      go_wp2_with fail
      go_loopw [7, 32] (fun l i wq => ∃ (k : Nat) (s : Value), i = .int .i64 (k : Int) ∧ k ≤ n ∧ l = s ∧ OwnL wq wa.heap.size s ((spK xs y k).map rowP) ∧ Ge wa wq) (fun _ i _ => 13 - (intOf i).toNat)
      case atStart => exact ⟨0, _, rfl, Nat.zero_le _, rfl, HS0.out, gS⟩
      case round =>
        obtain ⟨k, s, rfl, hk, rfl, hsp, hq⟩ := hrel
        by_cases hkn : k < n
        · obtain ⟨b, ofs, rfl, x0, x1, x2⟩ := three_cells HC.out hkn
          have y0 := (HG.out.trans hq).keep x0
          have y1 := (HG.out.trans hq).keep x1
          have y2 := (HG.out.trans hq).keep x2
          clear x0 x1 x2
          obtain ⟨q0, q1, q2, q3, q4, q5⟩ := HOK.out k hkn
          have HKt := Lib.hid (spK_t (xs := xs) (y := (y : Int)) (k := k))
          have HKf := Lib.hid (spK_f (xs := xs) (y := (y : Int)) (k := k))
          have hlen := spK_len xs (y : Int) k
          have HSp := Lib.hid hsp
          have HQ := Lib.hid hq
          have zq := hq.size
          obtain ⟨ps, cs, hps⟩ := OwnL.read hsp rfl
          obtain ⟨rfl, _⟩ := hps
          clear hsp hq
          change wr.cell? _ = some (.int .i64 (sx xs k)) at y0
          change wr.cell? _ = some (.int .i64 (sy xs k)) at y1
          change wr.cell? _ = some (.int .i64 (ss xs k)) at y2
          generalize sx xs k = X at *
          generalize sy xs k = Y at *
          generalize ss xs k = Z at *
          generalize hM : (spK xs (y : Int) k).map rowP = M at *
          have hMl : M.length ≤ k := by rw [← hM]; simpa using hlen
          clear hlen
          have HM := Lib.hid hM
          clear hM
          go_upto_region 12 with (fail)
          have gX := Lib.hid (Ge.alloc (Ge.refl wr) (.cells #[.int .i64 X, .int .i64 Y, .int .i64 Z] 27))
          have c0 : (wr.alloc (.cells #[.int .i64 X, .int .i64 Y, .int .i64 Z] 27)).cell? ⟨wr.heap.size, 0, none⟩ = some (.int .i64 X) := by simp
          have c1 : (wr.alloc (.cells #[.int .i64 X, .int .i64 Y, .int .i64 Z] 27)).cell? ⟨wr.heap.size, 1, none⟩ = some (.int .i64 Y) := by simp
          have c2 : (wr.alloc (.cells #[.int .i64 X, .int .i64 Y, .int .i64 Z] 27)).cell? ⟨wr.heap.size, 2, none⟩ = some (.int .i64 Z) := by simp
          generalize wr.alloc (.cells #[.int .i64 X, .int .i64 Y, .int .i64 Z] 27) = wx at *
          clear y0 y1 y2
          generalize wr.heap.size = px at *
          by_cases hY1 : Y = (y : Int)
          · have HL := Lib.hid (HKt.out (.inl hY1))
            subst hY1
            clear HKt HKf
            go_wp2_with (at_builtin; refine ap_listB rfl _ _ rfl wa.heap.size _ M rfl (HSp.out.ge (Ge.alloc gX.out _)) [X, X + Z] ⟨wx.heap.size, 0, none⟩ 2 2 rfl (lit2 wx X (X + Z)) rfl (by simp) (by omega) (by have := (HQ.out.trans gX.out).size; simp; omega) ?_; intro v7 w7 own7 g7; have HO7 := Lib.hid own7; have HG7 := Lib.hid (g7 wa (HQ.out.trans (Ge.alloc gX.out _)) (Nat.le_refl _)); clear own7 g7)
            go_roundw
            case rel => exact ⟨k + 1, _, by go_num, by omega, rfl, by rw [HL.out, List.map_append, HM.out]; exact HO7.out, HG7.out⟩
            case measure => simp [intOf]; omega
          · by_cases hY2 : Y + Z = (y : Int)
            · have HL := Lib.hid (HKt.out (.inr hY2))
              have tY1 : (Y == (y : Int)) = false := by simpa using hY1
              have tY2 : (Y + Z == (y : Int)) = true := by simpa using hY2
              clear HKt HKf
              go_wp2_with (at_builtin; refine ap_listB rfl _ _ rfl wa.heap.size _ M rfl (HSp.out.ge (Ge.alloc gX.out _)) [X, X + Z] ⟨wx.heap.size, 0, none⟩ 2 2 rfl (lit2 wx X (X + Z)) rfl (by simp) (by omega) (by have := (HQ.out.trans gX.out).size; simp; omega) ?_; intro v7 w7 own7 g7; have HO7 := Lib.hid own7; have HG7 := Lib.hid (g7 wa (HQ.out.trans (Ge.alloc gX.out _)) (Nat.le_refl _)); clear own7 g7)
              go_roundw
              case rel => exact ⟨k + 1, _, by go_num, by omega, rfl, by rw [HL.out, List.map_append, HM.out]; exact HO7.out, HG7.out⟩
              case measure => simp [intOf]; omega
            · have HL := Lib.hid (HKf.out hY1 hY2)
              have tY1 : (Y == (y : Int)) = false := by simpa using hY1
              have tY2 : (Y + Z == (y : Int)) = false := by simpa using hY2
              clear HKt HKf
              go_wp2_with fail
              go_roundw
              case rel => exact ⟨k + 1, _, by go_num, by omega, rfl, by rw [HL.out, HM.out]; exact HSp.out.ge gX.out, HQ.out.trans gX.out⟩
              case measure => simp [intOf]; omega
        · have hkn2 : k = n := by omega
          have hlen := spK_len xs (y : Int) n
          rw [hkn2] at hsp
          have HLev := Lib.hid (fun T => lev_same (y := (y : Int)) (T := T) HOK.out HW.out)
          have HLU : Hid (levU xs n W (y + 1) = levU xs n W y ++ (scanS (covU xs n W y) (W + 1)).1.map (rowY y)) := rfl
          generalize levU xs n W y = LU at *
          generalize (scanS (covU xs n W y) (W + 1)).1 = SC at *
          have hin := spK_in (y := (y : Int)) HOK.out (Nat.le_refl n)
          generalize spK xs (y : Int) n = S at *
          obtain ⟨m, hSm⟩ : ∃ m, S.length = m := ⟨_, rfl⟩
          have hform := OwnL.read hsp (List.length_map rowP)
          obtain ⟨pg, cg, hfe, _⟩ := hform
          subst hfe
          rw [hSm] at hsp hlen ⊢
          have HSort : Hid (Calls Tryz.prog 27 #[.slice pg m cg, .func (.func 28) #[] #[]] wr fun e w' => e = .returned (.tuple #[]) ∧
              ∃ (T : List Sp) (gs : Nat), T.length = m ∧ joinAll T = SC ∧ (0 < m → pg = some ⟨gs, 0, none⟩) ∧ (0 < m → SpL w' gs m T w'.heap.size) ∧ wa.heap.size ≤ gs ∧ Ge wa w') := by
            by_cases hm0 : m = 0
            · subst hm0
              have hS0 : S = [] := List.eq_nil_of_length_eq_zero hSm
              subst hS0
              haveI : Inhabited Nat := ⟨0⟩
              refine (Tryz.slices_SortFunc_none (α := Nat) pg cg _ wr).mono ?_
              rintro e w' ⟨rfl, rfl⟩
              exact ⟨rfl, [], wa.heap.size, rfl, HLev.out [] (List.Perm.refl _) (fun i j hi => by simp at hi), fun h => by omega, fun h => by omega, Nat.le_refl _, hq⟩
            · have hsp2 := hsp
              obtain ⟨csx, hx1, _⟩ := hsp2
              rw [List.length_map, hSm] at hx1
              obtain ⟨gs, c', he⟩ := Go.Joins.ownsRow_form hx1 (by omega)
              simp only [Value.slice.injEq] at he
              obtain ⟨rfl, _, rfl⟩ := he
              have hgs := (hx1.lt gs rfl).1
              refine (sortSp wa.heap.size gs m cg S wr hsp hSm (by omega) (by omega)).mono ?_
              rintro e w' ⟨rfl, ⟨T, hT1, hT2, hT3⟩, hgr⟩
              have hTl : T.length = m := by rw [hT1.length_eq]; exact hSm
              exact ⟨rfl, T, gs, hTl, HLev.out T hT1 hT2, fun _ => rfl, fun _ => SpL.of hT3 hTl (by omega), hgs, hq.grown hgr (fun k hk => by simp at hk; omega)⟩
          have HSl := Lib.hid hlen
          clear hsp hq HLev hin hSm
          go_wp2_with (go_at_call 27; ((with_reducible refine (HSort.out).mono ?_); rintro e w5 ⟨rfl, T, gs, hTl, hTj, hTp, hTs, hgs, gT⟩); have HTl := Lib.hid hTl; have HTj := Lib.hid hTj; have HTp := Lib.hid hTp; have HTs := Lib.hid hTs; have GT := Lib.hid gT; clear hTl hTj hTp hTs gT)
          clear HSort
          obtain ⟨B, hB⟩ : ∃ B, B = w5.heap.size := ⟨_, rfl⟩
          have zB := GT.out.size
          have hgB : wa.heap.size ≤ B := by omega
          have hbsB : bs ≤ B := by have := HBs.out; omega
          have HO5 : Hid (OutL w5 bs B F (.slice pu F cu) LU) := by
            have h1 := HO.out.again B
            rw [HLF.out] at h1
            exact h1.ge GT.out
          have HOn : Hid ((Value.slice pu F cu).ownBlock ≠ some gs) := fun h => by
            obtain ⟨csx, hx⟩ := HO.out.own
            have := (hx.lt gs h).2
            omega
          have HB5 : Hid (0 < m → SpL w5 gs m T B) := by rw [hB]; exact HTs.out
          have HB6 : Hid (B ≤ w5.heap.size) := Nat.le_of_eq hB
          have HGt := Lib.hid (HG.out.trans GT.out)
          clear hB HTs HO zB
          go_loopw [3, 67] (fun o i wq => ∃ (k : Nat) (u : Value), i = .int .i64 (k : Int) ∧ k ≤ m ∧ o = u ∧ OutL wq bs B F u (LU ++ (joinAll (T.take k)).map (rowY (y : Int))) ∧ Hid (0 < m → SpL wq gs m T B) ∧ Hid (u.ownBlock ≠ some gs) ∧ Ge w wq ∧ B ≤ wq.heap.size) (fun _ i _ => 13 - (intOf i).toNat)
          case atStart => exact ⟨0, _, rfl, Nat.zero_le _, rfl, by simpa [joinAll] using HO5.out, HB5.out, HOn.out, HGt.out, HB6.out⟩
          case round =>
            obtain ⟨k, u, rfl, hk, rfl, hown, hsp, hun, hg, hBw⟩ := hrel
            by_cases hkm : k < m
            · have hgsB := (hsp.out (by omega)).1
              have hkT : k < T.length := by rw [HTl.out]; exact hkm
              obtain ⟨sp, cq, xs0, hspB, hrow⟩ := (hsp.out (by omega)).2 k (by rw [HTl.out]; exact hkm) hkm
              have x0 : wr.cell? ⟨sp, 0, none⟩ = some (.int .i64 T[k].1) := by rw [hrow.cellAt 0 (by simp)]; rfl
              have x1 : wr.cell? ⟨sp, 1, none⟩ = some (.int .i64 T[k].2) := by rw [hrow.cellAt 1 (by simp)]; rfl
              have hpg := HTp.out (by omega)
              subst hpg
              have HJ : Hid (joinAll (T.take (k + 1)) = joinS (joinAll (T.take k)) T[k]) := by
                show _ = _
                rw [take_snoc (by rw [HTl.out]; exact hkm), joinAll_snoc]
              have HOw := Lib.hid hown
              have HG2 := Lib.hid hg
              have hTk := joinAll_len (T.take k)
              rw [List.length_take] at hTk
              clear hown hg hrow
              generalize joinAll (T.take k) = J at *
              generalize T[k] = X at *
              obtain ⟨X1, X2⟩ := X
              simp only at x0 x1
              rcases List.eq_nil_or_concat J with hJ | ⟨J', l, hJ⟩
              · subst hJ
                simp only [List.map_nil, List.append_nil] at HOw
                obtain ⟨pz, cz, hfe⟩ := HOw.out.form
                rw [HLF.out] at hfe
                subst hfe
                have hF4 : F ≤ 160801 := by omega
                have HLn : Hid (LU.length ≤ 200000) := by show _ ≤ _; rw [HLF.out]; omega
                have tA : decide ((F : Int) - 1 ≥ (F : Int)) = false := by simp; omega
                have tA2 : ¬ (F : Int) ≤ (F : Int) - 1 := by omega
                clear HTp HTj HLU
                go_wp2_with fail
                go_quiet (fail)
                go_wp2_with fail
                have g9 : Ge wr (wr.drewN nq) := Ge.drewN (Ge.refl _) _
                have HOq := Lib.hid (HOw.out.ge g9)
                have HSq : Hid (0 < m → SpL (wr.drewN nq) gs m T B) := fun h => (hsp.out h).ge g9
                have HGq := Lib.hid (HG2.out.trans g9)
                have zq9 := g9.size
                have x0 := g9.keep x0
                have x1 := g9.keep x1
                generalize wr.drewN nq = wq at *
                refine wp_region_head (S := fun w' => w'.cell? ⟨sp, 0, none⟩ = some (.int .i64 X1) ∧ w'.cell? ⟨sp, 1, none⟩ = some (.int .i64 X2)) 10 (by kernel_rfl) (by kernel_rfl) (⟨cell_drew x0, cell_drew x1⟩) (fun hHeld => ?_)
                have gD := Lib.hid (Ge.drew (Ge.refl wq))
                have zD : wq.heap.size ≤ wq.drew.heap.size := gD.out.size
                have x0 := gD.out.keep x0
                have x1 := gD.out.keep x1
                generalize wq.drew = wD at *
                refine head_take 0 (v := ?_) rfl (by kernel_rfl) (by kernel_rfl) (fun _ _ _ h => h) (by assumption) (yields_if (by rfl) ?_) ?_
                rotate_left
                focus (intro w' hSw; (try dsimp only at hSw); go_simp; (try with_reducible rfl))
                (try simp only [Act.put, List.setIfInBounds_toArray, List.set_cons_zero, List.set_cons_succ])
                refine head_take 1 (v := ?_) rfl (by kernel_rfl) (by kernel_rfl) (fun _ _ _ h => h) (by assumption) (yields_if (by rfl) ?_) ?_
                rotate_left
                focus (intro w' hSw; (try dsimp only at hSw); go_simp; (try with_reducible rfl))
                (try simp only [Act.put, List.setIfInBounds_toArray, List.set_cons_zero, List.set_cons_succ])
                refine head_take 2 (v := ?_) rfl (by kernel_rfl) (by kernel_rfl) (fun _ _ _ h => h) (by assumption) (yields_if (by rfl) ?_) ?_
                rotate_left
                focus (intro w' hSw; (try dsimp only at hSw); go_simp; (try with_reducible rfl))
                (try simp only [Act.put, List.setIfInBounds_toArray, List.set_cons_zero, List.set_cons_succ])
                refine head_take 3 (v := ?_) rfl (by kernel_rfl) (by kernel_rfl) (fun _ _ _ h => h) (by assumption) (yields_if (by rfl) ?_) ?_
                rotate_left
                focus (intro w' hSw; (try dsimp only at hSw); go_simp; (try with_reducible rfl))
                (try simp only [Act.put, List.setIfInBounds_toArray, List.set_cons_zero, List.set_cons_succ])
                refine head_take 4 (v := ?_) rfl (by kernel_rfl) (by kernel_rfl) (fun _ _ _ h => h) (by assumption) (yields_if (by rfl) ?_) ?_
                rotate_left
                focus (intro w' hSw; (try dsimp only at hSw); go_simp; (try with_reducible rfl))
                (try simp only [Act.put, List.setIfInBounds_toArray, List.set_cons_zero, List.set_cons_succ])
                refine head_take 5 (v := ?_) rfl (by kernel_rfl) (by kernel_rfl) (fun _ _ _ h => h) (by assumption) (yields_if (by rfl) ?_) ?_
                rotate_left
                focus (intro w' hSw; (try dsimp only at hSw); go_simp; (try with_reducible rfl))
                (try simp only [Act.put, List.setIfInBounds_toArray, List.set_cons_zero, List.set_cons_succ])
                refine head_take 6 (v := ?_) rfl (by kernel_rfl) (by kernel_rfl) (fun _ _ _ h => h) (by assumption) (yields_if (by rfl) ?_) ?_
                rotate_left
                focus (intro w' hSw; (try dsimp only at hSw); go_simp; (try with_reducible rfl))
                (try simp only [Act.put, List.setIfInBounds_toArray, List.set_cons_zero, List.set_cons_succ])
                refine head_take 7 (v := ?_) rfl (by kernel_rfl) (by kernel_rfl) (fun _ _ _ h => h) (by assumption) (yields_if (by rfl) ?_) ?_
                rotate_left
                focus (intro w' hSw; (try dsimp only at hSw); go_simp; (try with_reducible rfl))
                (try simp only [Act.put, List.setIfInBounds_toArray, List.set_cons_zero, List.set_cons_succ])
                refine head_one 8 rfl (by kernel_rfl) (fun K hK => ?_)
                go_simp
                refine hK.out _ _ ⟨cell_alloc x0, cell_alloc x1⟩ (fun hHeld => ?_)
                clear hK K
                (try simp only [Act.put, List.setIfInBounds_toArray, List.set_cons_zero, List.set_cons_succ])
                refine head_one 9 rfl (by kernel_rfl) (fun K hK => ?_)
                go_simp
                refine hK.out _ _ ⟨cell_alloc (cell_alloc x0), cell_alloc (cell_alloc x1)⟩ (fun hHeld => ?_)
                clear hK K
                (try simp only [Act.put, List.setIfInBounds_toArray, List.set_cons_zero, List.set_cons_succ])
                refine head_done (by kernel_rfl) ?_
                refine ap_out (w0 := wq) rfl _ _ rfl bs B F _ (LU) (by rfl) HOq.out (Ge.alloc gD.out _) [(y : Int), X1, X2] wD.heap.size 3 3 rfl (lit3 wD bs (y : Int) X1 X2 (by omega)) zD (by omega) rfl (by simp) (by have := HLn.out; omega) (by simp; omega) ?_
                intro v7 w7 own7 g7 m7 n7
                have HO7 := Lib.hid own7
                have HG7 := Lib.hid (g7 w (HGq.out.trans (Ge.alloc gD.out _)) (Nat.le_of_eq HBs.out))
                have HN7 := Lib.hid (n7 gs (by simp; omega) hun.out)
                have HM7 := Lib.hid m7
                have HZ7 := World.grownBy.size m7
                simp only [World.size_alloc] at HZ7
                clear own7 g7 m7 n7
                (try simp only [Act.put, List.setIfInBounds_toArray, List.set_cons_zero, List.set_cons_succ])
                go_wp2_with fail
                have HS7 : Hid (0 < m → SpL w7 gs m T B) := fun h => by
                  obtain ⟨csx, hx⟩ := (HOq.out.ge (Ge.alloc gD.out (.cells #[.int .i64 (y : Int), .int .i64 X1, .int .i64 X2] 3))).own
                  exact ((HSq.out h).ge (Ge.alloc gD.out _)).mine hx HM7.out hun.out
                go_roundw
                case rel => exact ⟨k + 1, _, by go_num, by omega, rfl, by rw [HJ.out, joinS_nil]; simp only [List.map_cons, List.map_nil, rowY]; exact HO7.out, HS7, HN7, HG7.out, by omega⟩
                case measure => simp [intOf]; omega
              · rw [List.concat_eq_append] at hJ
                subst hJ
                obtain ⟨l1, l2⟩ := l
                have eL : LU ++ (J' ++ [(l1, l2)]).map (rowY (y : Int)) = (LU ++ J'.map (rowY (y : Int))) ++ [[(y : Int), l1, l2]] := by simp [rowY]
                rw [eL] at HOw
                have hQF : F ≤ (LU ++ J'.map (rowY (y : Int))).length := by rw [List.length_append, HLF.out]; omega
                have hQl : (LU ++ J'.map (rowY (y : Int))).length ≤ 160900 := by
                  simp only [List.length_append, List.length_singleton] at hTk
                  rw [List.length_append, HLF.out, List.length_map]
                  omega
                have HQ1 : Hid (LU ++ J'.map (rowY (y : Int)) ++ [[(y : Int), l1, l2]] ++ [[(y : Int), X1, X2]] = LU ++ ((J' ++ [(l1, l2)]) ++ [(X1, X2)]).map (rowY (y : Int))) := by show _ = _; simp [rowY]
                have HQ2 : Hid (LU ++ J'.map (rowY (y : Int)) ++ [[(y : Int), l1, max l2 X2]] = LU ++ (J' ++ [(l1, max l2 X2)]).map (rowY (y : Int))) := by show _ = _; simp [rowY]
                have HJi := Lib.hid (joinS_in J' (l1, l2) (X1, X2))
                have HJo := Lib.hid (joinS_out J' (l1, l2) (X1, X2))
                simp only at HJi HJo
                clear eL
                generalize hQ : LU ++ J'.map (rowY (y : Int)) = Q at *
                clear hQ
                obtain ⟨hd, c, qk, ck, hue, z0, zB, zb, z1, z2, z3, zf, hset⟩ := HOw.out.last hQF
                obtain ⟨pl, hpl⟩ : ∃ pl, Q.length = pl := ⟨_, rfl⟩
                rw [hpl] at hue z0 hQF hQl
                obtain ⟨N, hN⟩ : ∃ N, pl + 1 = N := ⟨_, rfl⟩
                rw [hN] at hue
                subst hue
                have HLn : Hid ((Q ++ [[(y : Int), l1, l2]]).length ≤ 200000) := by show _ ≤ _; rw [List.length_append, hpl]; simp; omega
                have HSet := Lib.hid hset
                have tN : (N : Int) - 1 = (pl : Int) := by omega
                have tN1 : wrap64 ((N : Int) - 1) = (pl : Int) := by rw [tN]; exact IntWalk.wrap64_in _ ⟨by omega, by omega⟩
                have tN2 : pl < N := by omega
                have tN3 : (pl : Int) < (N : Int) := by omega
                have tN4 : (F : Int) ≤ (pl : Int) := by omega
                have tN5 : decide ((pl : Int) ≥ (F : Int)) = true := by simp; omega
                clear HTp HTj HLU hset hpl hN z1 z2 tN
                by_cases hX : X1 ≤ l2
                · have hXd : decide (X1 ≤ l2) = true := by simpa using hX
                  go_wp2_with fail
                  go_quiet (fail)
                  go_wp2_with fail
                  have g9 : Ge wr (wr.drewN nq) := Ge.drewN (Ge.refl _) _
                  have HOq := Lib.hid (HOw.out.ge g9)
                  have HSq : Hid (0 < m → SpL (wr.drewN nq) gs m T B) := fun h => (hsp.out h).ge g9
                  have HGq := Lib.hid (HG2.out.trans g9)
                  have zq9 := g9.size
                  have zf := g9.keepF z3 zf
                  have x1 := g9.keep x1
                  have z0 := g9.keep z0
                  have z3 := g9.keep z3
                  have Hg9 := Lib.hid g9
                  generalize wr.drewN nq = wq at *
                  refine wp_region_head (S := fun w' => w'.cell? ⟨hd, pl, none⟩ = some (.slice (some ⟨qk, 0, none⟩) 3 ck) ∧ w'.cell? ⟨qk, 2, none⟩ = some (.int .i64 l2) ∧ w'.cell? ⟨sp, 1, none⟩ = some (.int .i64 X2)) 15 (by kernel_rfl) (by kernel_rfl) (⟨cell_drew z0, cell_drew z3, cell_drew x1⟩) (fun hHeld => ?_)
                  have gD := Lib.hid (Ge.drew (Ge.refl wq))
                  have zD : wq.heap.size ≤ wq.drew.heap.size := gD.out.size
                  have zf := gD.out.keepF z3 zf
                  have x1 := gD.out.keep x1
                  have z0 := gD.out.keep z0
                  have z3 := gD.out.keep z3
                  generalize wq.drew = wD at *
                  refine head_take 0 (v := ?_) rfl (by kernel_rfl) (by kernel_rfl) (fun _ _ _ h => h) (by assumption) (yields_if (by rfl) ?_) ?_
                  rotate_left
                  focus (intro w' hSw; (try dsimp only at hSw); go_simp; (try with_reducible rfl))
                  (try simp only [Act.put, List.setIfInBounds_toArray, List.set_cons_zero, List.set_cons_succ])
                  refine head_take 1 (v := ?_) rfl (by kernel_rfl) (by kernel_rfl) (fun _ _ _ h => h) (by assumption) (yields_if (by rfl) ?_) ?_
                  rotate_left
                  focus (intro w' hSw; (try dsimp only at hSw); go_simp; (try with_reducible rfl))
                  (try simp only [Act.put, List.setIfInBounds_toArray, List.set_cons_zero, List.set_cons_succ])
                  refine head_take 4 (v := ?_) rfl (by kernel_rfl) (by kernel_rfl) (fun _ _ _ h => h) (by assumption) (yields_if (by rfl) ?_) ?_
                  rotate_left
                  focus (intro w' hSw; (try dsimp only at hSw); go_simp; (try with_reducible rfl))
                  (try simp only [Act.put, List.setIfInBounds_toArray, List.set_cons_zero, List.set_cons_succ])
                  refine head_take 5 (v := ?_) rfl (by kernel_rfl) (by kernel_rfl) (fun _ _ _ h => h) (by assumption) (yields_if (by rfl) ?_) ?_
                  rotate_left
                  focus (intro w' hSw; (try dsimp only at hSw); go_simp; (try with_reducible rfl))
                  (try simp only [Act.put, List.setIfInBounds_toArray, List.set_cons_zero, List.set_cons_succ])
                  refine head_take 10 (v := ?_) rfl (by kernel_rfl) (by kernel_rfl) (fun _ _ _ h => h) (by assumption) (yields_if (by rfl) ?_) ?_
                  rotate_left
                  focus (intro w' hSw; (try dsimp only at hSw); go_simp; (try with_reducible rfl))
                  (try simp only [Act.put, List.setIfInBounds_toArray, List.set_cons_zero, List.set_cons_succ])
                  refine head_take 2 (v := ?_) rfl (by kernel_rfl) (by kernel_rfl) (fun _ _ _ h => h) (by assumption) (yields_if (by rfl) ?_) ?_
                  rotate_left
                  focus (intro w' hSw; (try dsimp only at hSw); go_simp; (try with_reducible rfl))
                  (try simp only [Act.put, List.setIfInBounds_toArray, List.set_cons_zero, List.set_cons_succ])
                  refine head_take 6 (v := ?_) rfl (by kernel_rfl) (by kernel_rfl) (fun _ _ _ h => h) (by assumption) (yields_if (by rfl) ?_) ?_
                  rotate_left
                  focus (intro w' hSw; (try dsimp only at hSw); go_simp; (try with_reducible rfl))
                  (try simp only [Act.put, List.setIfInBounds_toArray, List.set_cons_zero, List.set_cons_succ])
                  refine head_take 11 (v := ?_) rfl (by kernel_rfl) (by kernel_rfl) (fun _ _ _ h => h) (by assumption) (yields_if (by rfl) ?_) ?_
                  rotate_left
                  focus (intro w' hSw; (try dsimp only at hSw); go_simp; (try with_reducible rfl))
                  (try simp only [Act.put, List.setIfInBounds_toArray, List.set_cons_zero, List.set_cons_succ])
                  refine head_take 3 (v := ?_) rfl (by kernel_rfl) (by kernel_rfl) (fun _ _ _ h => h) (by assumption) (yields_if (by rfl) ?_) ?_
                  rotate_left
                  focus (intro w' hSw; (try dsimp only at hSw); go_simp; (try with_reducible rfl))
                  (try simp only [Act.put, List.setIfInBounds_toArray, List.set_cons_zero, List.set_cons_succ])
                  refine head_take 7 (v := ?_) rfl (by kernel_rfl) (by kernel_rfl) (fun _ _ _ h => h) (by assumption) (yields_if (by rfl) ?_) ?_
                  rotate_left
                  focus (intro w' hSw; (try dsimp only at hSw); go_simp; (try with_reducible rfl))
                  (try simp only [Act.put, List.setIfInBounds_toArray, List.set_cons_zero, List.set_cons_succ])
                  refine head_take 12 (v := ?_) rfl (by kernel_rfl) (by kernel_rfl) (fun _ _ _ h => h) (by assumption) (yields_if (by rfl) ?_) ?_
                  rotate_left
                  focus (intro w' hSw; (try dsimp only at hSw); go_simp; (try with_reducible rfl))
                  (try simp only [Act.put, List.setIfInBounds_toArray, List.set_cons_zero, List.set_cons_succ])
                  refine head_take 8 (v := ?_) rfl (by kernel_rfl) (by kernel_rfl) (fun _ _ _ h => h) (by assumption) (yields_if (by rfl) ?_) ?_
                  rotate_left
                  focus (intro w' hSw; (try dsimp only at hSw); go_simp; (try with_reducible rfl))
                  (try simp only [Act.put, List.setIfInBounds_toArray, List.set_cons_zero, List.set_cons_succ])
                  refine head_take 9 (v := ?_) rfl (by kernel_rfl) (by kernel_rfl) (fun _ _ _ h => h) (by assumption) (yields_if (by rfl) ?_) ?_
                  rotate_left
                  focus (intro w' hSw; (try dsimp only at hSw); go_simp; (try with_reducible rfl))
                  (try simp only [Act.put, List.setIfInBounds_toArray, List.set_cons_zero, List.set_cons_succ])
                  refine head_take 13 (v := ?_) rfl (by kernel_rfl) (by kernel_rfl) (fun _ _ _ h => h) (by assumption) (yields_if (by rfl) ?_) ?_
                  rotate_left
                  focus (intro w' hSw; (try dsimp only at hSw); go_simp; (try with_reducible rfl))
                  (try simp only [Act.put, List.setIfInBounds_toArray, List.set_cons_zero, List.set_cons_succ])
                  refine head_take 14 (v := ?_) rfl (by kernel_rfl) (by kernel_rfl) (fun _ _ _ h => h) (by assumption) (yields_if (by rfl) ?_) ?_
                  rotate_left
                  focus (intro w' hSw; (try dsimp only at hSw); go_simp; (try with_reducible rfl))
                  (try simp only [Act.put, List.setIfInBounds_toArray, List.set_cons_zero, List.set_cons_succ])
                  refine head_done (by kernel_rfl) ?_
                  go_wp2_with fail
                  have hS := grown_setL wD qk 2 (.int .i64 (max l2 X2))
                  go_roundw
                  case rel => exact ⟨k + 1, _, by go_num, by omega, rfl, by rw [HJ.out, HJi.out hX, ← HQ2.out]; exact HSet.out wD (max l2 X2) (Hg9.out.trans gD.out), fun h => ((HSq.out h).ge gD.out).set hS zB, hun.out, (HGq.out.trans gD.out).grown hS (fun k hk => by have := HBs.out; simp at hk; omega), by simp; omega⟩
                  case measure => simp [intOf]; omega
                · have hXd : decide (X1 ≤ l2) = false := by simpa using hX
                  have hX2 : ¬ X1 ≤ l2 := hX
                  go_wp2_with fail
                  go_quiet (fail)
                  go_wp2_with fail
                  have g9 : Ge wr (wr.drewN nq) := Ge.drewN (Ge.refl _) _
                  have HOq := Lib.hid (HOw.out.ge g9)
                  have HSq : Hid (0 < m → SpL (wr.drewN nq) gs m T B) := fun h => (hsp.out h).ge g9
                  have HGq := Lib.hid (HG2.out.trans g9)
                  have zq9 := g9.size
                  have x0 := g9.keep x0
                  have x1 := g9.keep x1
                  generalize wr.drewN nq = wq at *
                  refine wp_region_head (S := fun w' => w'.cell? ⟨sp, 0, none⟩ = some (.int .i64 X1) ∧ w'.cell? ⟨sp, 1, none⟩ = some (.int .i64 X2)) 10 (by kernel_rfl) (by kernel_rfl) (⟨cell_drew x0, cell_drew x1⟩) (fun hHeld => ?_)
                  have gD := Lib.hid (Ge.drew (Ge.refl wq))
                  have zD : wq.heap.size ≤ wq.drew.heap.size := gD.out.size
                  have x0 := gD.out.keep x0
                  have x1 := gD.out.keep x1
                  generalize wq.drew = wD at *
                  refine head_take 0 (v := ?_) rfl (by kernel_rfl) (by kernel_rfl) (fun _ _ _ h => h) (by assumption) (yields_if (by rfl) ?_) ?_
                  rotate_left
                  focus (intro w' hSw; (try dsimp only at hSw); go_simp; (try with_reducible rfl))
                  (try simp only [Act.put, List.setIfInBounds_toArray, List.set_cons_zero, List.set_cons_succ])
                  refine head_take 1 (v := ?_) rfl (by kernel_rfl) (by kernel_rfl) (fun _ _ _ h => h) (by assumption) (yields_if (by rfl) ?_) ?_
                  rotate_left
                  focus (intro w' hSw; (try dsimp only at hSw); go_simp; (try with_reducible rfl))
                  (try simp only [Act.put, List.setIfInBounds_toArray, List.set_cons_zero, List.set_cons_succ])
                  refine head_take 2 (v := ?_) rfl (by kernel_rfl) (by kernel_rfl) (fun _ _ _ h => h) (by assumption) (yields_if (by rfl) ?_) ?_
                  rotate_left
                  focus (intro w' hSw; (try dsimp only at hSw); go_simp; (try with_reducible rfl))
                  (try simp only [Act.put, List.setIfInBounds_toArray, List.set_cons_zero, List.set_cons_succ])
                  refine head_take 3 (v := ?_) rfl (by kernel_rfl) (by kernel_rfl) (fun _ _ _ h => h) (by assumption) (yields_if (by rfl) ?_) ?_
                  rotate_left
                  focus (intro w' hSw; (try dsimp only at hSw); go_simp; (try with_reducible rfl))
                  (try simp only [Act.put, List.setIfInBounds_toArray, List.set_cons_zero, List.set_cons_succ])
                  refine head_take 4 (v := ?_) rfl (by kernel_rfl) (by kernel_rfl) (fun _ _ _ h => h) (by assumption) (yields_if (by rfl) ?_) ?_
                  rotate_left
                  focus (intro w' hSw; (try dsimp only at hSw); go_simp; (try with_reducible rfl))
                  (try simp only [Act.put, List.setIfInBounds_toArray, List.set_cons_zero, List.set_cons_succ])
                  refine head_take 5 (v := ?_) rfl (by kernel_rfl) (by kernel_rfl) (fun _ _ _ h => h) (by assumption) (yields_if (by rfl) ?_) ?_
                  rotate_left
                  focus (intro w' hSw; (try dsimp only at hSw); go_simp; (try with_reducible rfl))
                  (try simp only [Act.put, List.setIfInBounds_toArray, List.set_cons_zero, List.set_cons_succ])
                  refine head_take 6 (v := ?_) rfl (by kernel_rfl) (by kernel_rfl) (fun _ _ _ h => h) (by assumption) (yields_if (by rfl) ?_) ?_
                  rotate_left
                  focus (intro w' hSw; (try dsimp only at hSw); go_simp; (try with_reducible rfl))
                  (try simp only [Act.put, List.setIfInBounds_toArray, List.set_cons_zero, List.set_cons_succ])
                  refine head_take 7 (v := ?_) rfl (by kernel_rfl) (by kernel_rfl) (fun _ _ _ h => h) (by assumption) (yields_if (by rfl) ?_) ?_
                  rotate_left
                  focus (intro w' hSw; (try dsimp only at hSw); go_simp; (try with_reducible rfl))
                  (try simp only [Act.put, List.setIfInBounds_toArray, List.set_cons_zero, List.set_cons_succ])
                  refine head_one 8 rfl (by kernel_rfl) (fun K hK => ?_)
                  go_simp
                  refine hK.out _ _ ⟨cell_alloc x0, cell_alloc x1⟩ (fun hHeld => ?_)
                  clear hK K
                  (try simp only [Act.put, List.setIfInBounds_toArray, List.set_cons_zero, List.set_cons_succ])
                  refine head_one 9 rfl (by kernel_rfl) (fun K hK => ?_)
                  go_simp
                  refine hK.out _ _ ⟨cell_alloc (cell_alloc x0), cell_alloc (cell_alloc x1)⟩ (fun hHeld => ?_)
                  clear hK K
                  (try simp only [Act.put, List.setIfInBounds_toArray, List.set_cons_zero, List.set_cons_succ])
                  refine head_done (by kernel_rfl) ?_
                  refine ap_out (w0 := wq) rfl _ _ rfl bs B F _ (Q ++ [[(y : Int), l1, l2]]) (by rfl) HOq.out (Ge.alloc gD.out _) [(y : Int), X1, X2] wD.heap.size 3 3 rfl (lit3 wD bs (y : Int) X1 X2 (by omega)) zD (by omega) rfl (by simp) (by have := HLn.out; omega) (by simp; omega) ?_
                  intro v7 w7 own7 g7 m7 n7
                  have HO7 := Lib.hid own7
                  have HG7 := Lib.hid (g7 w (HGq.out.trans (Ge.alloc gD.out _)) (Nat.le_of_eq HBs.out))
                  have HN7 := Lib.hid (n7 gs (by simp; omega) hun.out)
                  have HM7 := Lib.hid m7
                  have HZ7 := World.grownBy.size m7
                  simp only [World.size_alloc] at HZ7
                  clear own7 g7 m7 n7
                  (try simp only [Act.put, List.setIfInBounds_toArray, List.set_cons_zero, List.set_cons_succ])
                  go_wp2_with fail
                  have HS7 : Hid (0 < m → SpL w7 gs m T B) := fun h => by
                    obtain ⟨csx, hx⟩ := (HOq.out.ge (Ge.alloc gD.out (.cells #[.int .i64 (y : Int), .int .i64 X1, .int .i64 X2] 3))).own
                    exact ((HSq.out h).ge (Ge.alloc gD.out _)).mine hx HM7.out hun.out
                  go_roundw
                  case rel => exact ⟨k + 1, _, by go_num, by omega, rfl, by rw [HJ.out, HJo.out hX, ← HQ1.out]; exact HO7.out, HS7, HN7, HG7.out, by omega⟩
                  case measure => simp [intOf]; omega
            · have hkm2 : k = m := by omega
              have HE : Hid (joinAll (T.take k) = SC) := by
                show _ = _
                rw [hkm2, ← HTl.out, List.take_length]
                exact HTj.out
              clear HTp
              go_wp2_with fail
              go_roundw
              case rel => exact ⟨y + 1, _, by go_num, by omega, rfl, by rw [HLU.out, ← HE.out]; exact hown.zero, hg⟩
              case measure => simp [intOf]; omega
    · have hyH2 : y = H + 1 := by omega
      have hyD : decide ((y : Int) ≤ (H : Int)) = false := by simp; omega
      have hyI : ¬ (y : Int) ≤ (H : Int) := by omega
      go_wp2_with fail
      go_ret
      exact ⟨_, rfl, by rw [HF.out, HBs.out, ← hyH2]; exact hown, hg⟩
end Go.Proofs.YtckjkfcphcnpdaaGreat

namespace Go.Proofs.YtckjkfcphcnpdaaGreat
set_option maxRecDepth 100000
open Go.ChangeShapes Go.WideShapes Go.ChangeAt Go.RowKit Go.Joins

theorem covN_mono {xs : List Int} {y x : Int} {k : Nat} (h : covN xs y x k = true) : ∀ {n : Nat}, k ≤ n → covN xs y x n = true
  | 0, hk => by rwa [show k = 0 by omega] at h
  | n + 1, hk => by
    by_cases e : k = n + 1
    · rwa [e] at h
    · rw [covN, covN_mono h (n := n) (by omega), Bool.true_or]
theorem covN_hit {xs : List Int} {y x : Int} {k n : Nat} (hk : k < n) (h1 : sy xs k = y ∨ sy xs k + ss xs k = y) (h2 : sx xs k ≤ x) (h3 : x < sx xs k + ss xs k) : covN xs y x n = true :=
  covN_mono (k := k + 1) (by rw [covN]; simp [onY, h1, h2, h3]) hk
theorem covN_miss {xs : List Int} {y x : Int} {k : Nat} (h : covN xs y x k = false) (h1 : ¬ ((sy xs k = y ∨ sy xs k + ss xs k = y) ∧ sx xs k ≤ x ∧ x < sx xs k + ss xs k)) : covN xs y x (k + 1) = false := by
  rw [covN, h, Bool.false_or, Bool.eq_false_iff]
  simp only [onY, ne_eq, Bool.and_eq_true, Bool.or_eq_true, decide_eq_true_eq, and_assoc]
  exact h1

set_option maxHeartbeats 3200000 in
theorem sL13Covered (v : Value) (n : Nat) (xs : List Int) (y x : Int) (w : World) (hv : SlF w v n 3 xs) (hn : n ≤ 12) (hok : ∀ k, k < n → okSq xs k) :
    Calls Tryz.prog 46 #[v, .int .i64 y, .int .i64 x] w fun e w' => e = .returned (.bool (covN xs y x n)) ∧ Ge w w' := by
  obtain ⟨p, cap, rfl, hc⟩ := hv.open
  have HC := Lib.hid hc
  have HK := Lib.hid hok
  clear hv hc hok
  have H1 := Lib.hid (fun k (hk : k < n) => covN_hit (xs := xs) (y := y) (x := x) hk)
  have H2 := Lib.hid (fun k => covN_miss (xs := xs) (y := y) (x := x) (k := k))
  go_enter Tryz.func46, Tryz.ntmps46
  go_wp2_with fail
  go_loopw [11] (fun i wr => ∃ k : Nat, k ≤ n ∧ i = .int .i64 (k : Int) ∧ Hid (covN xs y x k = false) ∧ Ge w wr) (fun i _ => 13 - (intOf i).toNat)
  case atStart => exact ⟨0, Nat.zero_le _, rfl, rfl, Ge.refl _⟩
  case round =>
    obtain ⟨k, hk, rfl, HV, hg⟩ := hrel
    by_cases hlt : k < n
    · obtain ⟨b, ofs, rfl, x0, x1, x2⟩ := three_cells HC.out hlt
      have y0 := hg.keep x0
      have y1 := hg.keep x1
      have y2 := hg.keep x2
      clear x0 x1 x2
      obtain ⟨q0, q1, q2, q3, q4, q5⟩ := HK.out k hlt
      have K1 := Lib.hid (H1.out k hlt)
      have K2 := Lib.hid (H2.out k HV.out)
      clear H1 H2 HV
      change wr.cell? _ = some (.int .i64 (sx xs k)) at y0
      change wr.cell? _ = some (.int .i64 (sy xs k)) at y1
      change wr.cell? _ = some (.int .i64 (ss xs k)) at y2
      generalize sx xs k = X at *
      generalize sy xs k = Y at *
      generalize ss xs k = Z at *
      by_cases hY1 : Y = y
      · have tY : (Y == y) = true := by simpa using hY1
        by_cases hX : X ≤ x
        · have tX : decide (X ≤ x) = true := by simpa using hX
          by_cases hZ : x < X + Z
          · have tZ : decide (x < X + Z) = true := by simpa using hZ
            have HH := Lib.hid (K1.out (.inl hY1) hX hZ)
            clear K1 K2
            go_wp2_with fail
            go_ret
            exact ⟨ret_bool HH.out.symm, by (repeat (first | with_reducible exact Ge.refl _ | assumption | with_reducible refine Ge.drew ?_ | with_reducible refine Ge.drewN ?_ _ | with_reducible refine Ge.alloc ?_ _ | (with_reducible refine Ge.setCell ?_ (by first | (simp; done) | omega | (simp; omega)) _) | with_reducible refine Ge.trans ?_ (by assumption)))⟩
          · have tZ : decide (x < X + Z) = false := by simpa using hZ
            have HM := Lib.hid (K2.out (fun h => by omega))
            clear K1 K2
            go_wp2_with fail
            go_roundw
            case rel => exact ⟨k + 1, by omega, by go_num, HM.out, by (repeat (first | with_reducible exact Ge.refl _ | assumption | with_reducible refine Ge.drew ?_ | with_reducible refine Ge.drewN ?_ _ | with_reducible refine Ge.alloc ?_ _ | (with_reducible refine Ge.setCell ?_ (by first | (simp; done) | omega | (simp; omega)) _) | with_reducible refine Ge.trans ?_ (by assumption)))⟩
            case measure => simp [intOf]; omega
        · have tX : decide (X ≤ x) = false := by simpa using hX
          have HM := Lib.hid (K2.out (fun h => by omega))
          clear K1 K2
          go_wp2_with fail
          go_roundw
          case rel => exact ⟨k + 1, by omega, by go_num, HM.out, by (repeat (first | with_reducible exact Ge.refl _ | assumption | with_reducible refine Ge.drew ?_ | with_reducible refine Ge.drewN ?_ _ | with_reducible refine Ge.alloc ?_ _ | (with_reducible refine Ge.setCell ?_ (by first | (simp; done) | omega | (simp; omega)) _) | with_reducible refine Ge.trans ?_ (by assumption)))⟩
          case measure => simp [intOf]; omega
      · have tY : (Y == y) = false := by simpa using hY1
        by_cases hY2 : Y + Z = y
        · have tY2 : (Y + Z == y) = true := by simpa using hY2
          by_cases hX : X ≤ x
          · have tX : decide (X ≤ x) = true := by simpa using hX
            by_cases hZ : x < X + Z
            · have tZ : decide (x < X + Z) = true := by simpa using hZ
              have HH := Lib.hid (K1.out (.inr hY2) hX hZ)
              clear K1 K2
              go_wp2_with fail
              go_ret
              exact ⟨ret_bool HH.out.symm, by (repeat (first | with_reducible exact Ge.refl _ | assumption | with_reducible refine Ge.drew ?_ | with_reducible refine Ge.drewN ?_ _ | with_reducible refine Ge.alloc ?_ _ | (with_reducible refine Ge.setCell ?_ (by first | (simp; done) | omega | (simp; omega)) _) | with_reducible refine Ge.trans ?_ (by assumption)))⟩
            · have tZ : decide (x < X + Z) = false := by simpa using hZ
              have HM := Lib.hid (K2.out (fun h => by omega))
              clear K1 K2
              go_wp2_with fail
              go_roundw
              case rel => exact ⟨k + 1, by omega, by go_num, HM.out, by (repeat (first | with_reducible exact Ge.refl _ | assumption | with_reducible refine Ge.drew ?_ | with_reducible refine Ge.drewN ?_ _ | with_reducible refine Ge.alloc ?_ _ | (with_reducible refine Ge.setCell ?_ (by first | (simp; done) | omega | (simp; omega)) _) | with_reducible refine Ge.trans ?_ (by assumption)))⟩
              case measure => simp [intOf]; omega
          · have tX : decide (X ≤ x) = false := by simpa using hX
            have HM := Lib.hid (K2.out (fun h => by omega))
            clear K1 K2
            go_wp2_with fail
            go_roundw
            case rel => exact ⟨k + 1, by omega, by go_num, HM.out, by (repeat (first | with_reducible exact Ge.refl _ | assumption | with_reducible refine Ge.drew ?_ | with_reducible refine Ge.drewN ?_ _ | with_reducible refine Ge.alloc ?_ _ | (with_reducible refine Ge.setCell ?_ (by first | (simp; done) | omega | (simp; omega)) _) | with_reducible refine Ge.trans ?_ (by assumption)))⟩
            case measure => simp [intOf]; omega
        · have tY2 : (Y + Z == y) = false := by simpa using hY2
          have HM := Lib.hid (K2.out (fun h => by omega))
          clear K1 K2
          go_wp2_with fail
          go_roundw
          case rel => exact ⟨k + 1, by omega, by go_num, HM.out, by (repeat (first | with_reducible exact Ge.refl _ | assumption | with_reducible refine Ge.drew ?_ | with_reducible refine Ge.drewN ?_ _ | with_reducible refine Ge.alloc ?_ _ | (with_reducible refine Ge.setCell ?_ (by first | (simp; done) | omega | (simp; omega)) _) | with_reducible refine Ge.trans ?_ (by assumption)))⟩
          case measure => simp [intOf]; omega
    · have hkn : k = n := by omega
      subst hkn
      go_wp2_with fail
      go_ret
      exact ⟨ret_bool HV.out.symm, by (repeat (first | with_reducible exact Ge.refl _ | assumption | with_reducible refine Ge.drew ?_ | with_reducible refine Ge.drewN ?_ _ | with_reducible refine Ge.alloc ?_ _ | (with_reducible refine Ge.setCell ?_ (by first | (simp; done) | omega | (simp; omega)) _) | with_reducible refine Ge.trans ?_ (by assumption)))⟩
theorem OwnL.size {w : World} {b : Nat} {v : Value} {L : List (List Int)} (h : OwnL w b v L) (hL : 0 < L.length) : b ≤ w.heap.size := by
  obtain ⟨cs, hx⟩ := h.own
  obtain ⟨g, c, rfl⟩ := Go.Joins.ownsRow_form hx hL
  exact Nat.le_of_lt (Nat.lt_of_le_of_lt (hx.lt g rfl).1 (hx.lt g rfl).2)
theorem scan_on {c : Nat → Bool} {x : Nat} (h : c x = true) (h2 : (scanS c x).2 < 0) : scanS c (x + 1) = ((scanS c x).1, (x : Int)) := by simp only [scanS, if_pos h, if_pos h2]
theorem scan_in {c : Nat → Bool} {x : Nat} (h : c x = true) (h2 : ¬ (scanS c x).2 < 0) : scanS c (x + 1) = scanS c x := by simp only [scanS, if_pos h, if_neg h2]
theorem scan_off {c : Nat → Bool} {x : Nat} (h : c x = false) (h2 : 0 ≤ (scanS c x).2) : scanS c (x + 1) = ((scanS c x).1 ++ [((scanS c x).2, (x : Int))], -1) := by simp only [scanS, if_neg (show ¬ c x = true by rw [h]; decide), if_pos h2]
theorem scan_out {c : Nat → Bool} {x : Nat} (h : c x = false) (h2 : ¬ 0 ≤ (scanS c x).2) : scanS c (x + 1) = scanS c x := by simp only [scanS, if_neg (show ¬ c x = true by rw [h]; decide), if_neg h2]

set_option maxHeartbeats 6400000 in
theorem sLevT (v : Value) (n : Nat) (xs : List Int) (w : World) (hv : SlF w v n 3 xs) (hm : n ≤ 9223372036854775807) (hb : ∀ j, -9223372036854775808 ≤ nth xs j ∧ nth xs j ≤ 9223372036854775807) (hcap : ∀ p c, v = .slice p n c → n ≤ c) (hB : tileB n xs = true) :
    Calls Tryz.prog 19 #[v] w fun e w' => ∃ u, e = .returned u ∧ OwnL w' w.heap.size u (levT xs n) ∧ Ge w w' := by
  obtain ⟨p, cap, rfl, hc⟩ := hv.open
  have HV := Lib.hid hv
  have HBd := Lib.hid hb
  have HCap := Lib.hid hcap
  clear hv hc hb hcap
  have HT := Lib.hid (fun w' (g : Ge w w') => sTilingOk (.slice p n cap) n xs w' (HV.out.ge g) hm HBd.out HCap.out)
  rw [hB] at HT
  obtain ⟨h0, h12, hsq, _⟩ : tileP n xs := by
    unfold tileB at hB
    split at hB
    · assumption
    · cases hB
  have HOK : Hid (∀ i, i < n → okSq xs i) := fun i hi => (hsq i hi).1
  have HR := Lib.hid (fun w' (g : Ge w w') => sL13Right (.slice p n cap) n xs w' (HV.out.ge g) h12 HOK.out)
  have HL := Lib.hid (fun w' (g : Ge w w') => sL13Low (.slice p n cap) n xs w' (HV.out.ge g) h12 HOK.out)
  have HCv := Lib.hid (fun y x w' (g : Ge w w') => sL13Covered (.slice p n cap) n xs y x w' (HV.out.ge g) h12 HOK.out)
  have hr := right_bd n HOK.out
  have hl := low_bd n HOK.out
  have HF : Hid (levT xs n = levU xs n (rightSq xs n).toNat ((lowSq xs n).toNat + 1)) := rfl
  obtain ⟨W, hW⟩ : ∃ W : Nat, rightSq xs n = W := ⟨(rightSq xs n).toNat, by omega⟩
  obtain ⟨H, hH⟩ : ∃ H : Nat, lowSq xs n = H := ⟨(lowSq xs n).toNat, by omega⟩
  rw [hW] at HR HF hr
  rw [hH] at HL HF hl
  simp only [Int.toNat_natCast] at HF
  generalize levT xs n = LT at *
  clear hB hsq hW hH HBd HCap HOK
  go_enter Tryz.func19, Tryz.ntmps19
  go_upto_region 3 with ((go_at_call 43; ((with_reducible refine (HT.out _ (Ge.refl _)).mono ?_); rintro e w1 ⟨rfl, g1⟩)); have G1 := Lib.hid g1; have z1 := g1.size; clear g1)
  have oN := OwnL.nil w1
  have HN := Lib.hid oN
  clear oN
  have gN := Ge.alloc (Ge.refl w1) (.cells #[] 35)
  go_upto_region 4 with (fail)
  have GA := Lib.hid (G1.out.trans gN)
  generalize w1.alloc (.cells #[] 35) = wA at *
  obtain ⟨bs, hbs⟩ : ∃ bs, bs = w1.heap.size := ⟨_, rfl⟩
  rw [← hbs] at HN z1 ⊢
  clear gN hbs
  go_wp2_with ((go_at_call 44; ((with_reducible refine (HR.out _ GA.out).mono ?_); rintro e w2 ⟨rfl, g2⟩)); have G2 := Lib.hid (GA.out.trans g2); have HN2 := Lib.hid (HN.out.ge g2); clear g2)
  obtain ⟨wz, hwz⟩ : ∃ wz, wz = w2 := ⟨_, rfl⟩
  subst hwz
  clear HN HR HT G1 GA
  go_loopw [3, 5] (fun o y wr => ∃ (k : Nat) (u : Value), y = .int .i64 (k : Int) ∧ k ≤ H + 1 ∧ o = u ∧ OwnL wr bs u (levU xs n W k) ∧ Ge w wr ∧ bs ≤ wr.heap.size) (fun _ y _ => 402 - (intOf y).toNat)
  case atStart => exact ⟨0, _, rfl, by omega, rfl, HN2.out, G2.out, (by obtain ⟨cs, hx⟩ := HN2.out.own; exact Nat.le_of_lt (Nat.lt_of_le_of_lt (hx.lt _ rfl).1 (hx.lt _ rfl).2))⟩
  case round =>
    obtain ⟨y, u, rfl, hy, rfl, hown, hg, hbw⟩ := hrel
    clear HN2 G2
    have HO := Lib.hid hown
    have HG := Lib.hid hg
    clear hown hg
    by_cases hyH : y ≤ H
    · have hyB : (y : Int) ≤ (H : Int) := by omega
      have hyD : decide ((y : Int) ≤ (H : Int)) = true := by simp; omega
      have hF2 := levU_len xs n W y
      have hF3 : y * (W + 1) ≤ 401 * 401 := Nat.mul_le_mul (by omega) (by omega)
      have HLU : Hid (levU xs n W (y + 1) = levU xs n W y ++ (scanS (covU xs n W y) (W + 1)).1.map (rowY y)) := rfl
      have HCl : Hid (∀ x, x < W → covU xs n W y x = covN xs y x n) := fun x hx => by simp [covU, hx]
      have HCw : Hid (covU xs n W y W = false) := by show _ = _; simp [covU]
      have HSl := Lib.hid (scan_len (covU xs n W y))
      have HCy := Lib.hid (HCv.out (y : Int))
      generalize hc : covU xs n W (y : Int) = c at *
      clear hc
      generalize levU xs n W y = LU at *
      go_wp2_with ((go_at_call 45; ((with_reducible refine (HL.out _ HG.out).mono ?_); rintro e w5 ⟨rfl, g5⟩)); have HG5 := Lib.hid (HG.out.trans g5); have HO5 := Lib.hid (HO.out.ge g5); have z5 := g5.size; clear g5)
      clear HO HG
      have hbw5 : bs ≤ w5.heap.size := by omega
      go_loopw [3, 6, 7] (fun o f i wq => ∃ (x : Nat) (u : Value), i = .int .i64 (x : Int) ∧ x ≤ W + 1 ∧ f = .int .i64 (scanS c x).2 ∧ o = u ∧ OwnL wq bs u (LU ++ (scanS c x).1.map (rowY (y : Int))) ∧ Ge w wq ∧ bs ≤ wq.heap.size) (fun _ _ i _ => 402 - (intOf i).toNat)
      case atStart => exact ⟨0, _, rfl, by omega, rfl, rfl, by simpa [scanS] using HO5.out, HG5.out, hbw5⟩
      case round =>
        obtain ⟨x, u, rfl, hx, rfl, rfl, hown, hg, hbq⟩ := hrel
        clear HO5 HG5
        have HO := Lib.hid hown
        have HG := Lib.hid hg
        by_cases hxW : x ≤ W
        · have hxB : (x : Int) ≤ (W : Int) := by omega
          have hxD : decide ((x : Int) ≤ (W : Int)) = true := by simp; omega
          have HS1 := Lib.hid (scan_on (c := c) (x := x))
          have HS2 := Lib.hid (scan_in (c := c) (x := x))
          have HS3 := Lib.hid (scan_off (c := c) (x := x))
          have HS4 := Lib.hid (scan_out (c := c) (x := x))
          have hsl := HSl.out x
          obtain ⟨pv, cv, hfe⟩ := OwnL.read hown rfl
          obtain ⟨rfl, _⟩ := hfe
          clear hown hg
          generalize hR : scanS c x = R at *
          obtain ⟨R1, f⟩ := R
          have HR := Lib.hid hR
          clear hR
          simp only at HO hsl HS1 HS2 HS3 HS4 ⊢
          have hMl : (LU ++ R1.map (rowY (y : Int))).length ≤ 200000 := by rw [List.length_append, List.length_map]; omega
          have HM1 : Hid (LU ++ R1.map (rowY (y : Int)) ++ [[(y : Int), f, (x : Int)]] = LU ++ (R1 ++ [(f, (x : Int))]).map (rowY (y : Int))) := by show _ = _; simp [rowY]
          generalize hM : LU ++ R1.map (rowY (y : Int)) = M at *
          have HM := Lib.hid hM
          clear hM
          by_cases hxw : x < W
          · have hwI : (x : Int) < (W : Int) := by omega
            have hwD : decide ((x : Int) < (W : Int)) = true := by simp; omega
            have HCc := Lib.hid (HCy.out (x : Int) wr HG.out)
            rw [← HCl.out x hxw] at HCc
            cases hcx : c x with
            | true =>
              rw [hcx] at HCc
              by_cases hf : f < 0
              · have hfD : decide (f < 0) = true := by simpa using hf
                have HN := Lib.hid (HS1.out hcx hf)
                clear HS1 HS2 HS3 HS4
                go_wp2_with ((go_at_call 46; ((with_reducible refine (HCc.out).mono ?_); rintro e w6 ⟨rfl, g6⟩)); have HG6 := Lib.hid (HG.out.trans g6); have HO6 := Lib.hid (HO.out.ge g6); have z6 := g6.size; clear g6)
                go_roundw
                case rel => exact ⟨x + 1, _, by go_num, by omega, by rw [HN.out], rfl, by rw [HN.out]; show OwnL _ _ _ (LU ++ R1.map _); rw [HM.out]; exact HO6.out, HG6.out, by omega⟩
                case measure => simp [intOf]; omega
              · have hfD : decide (f < 0) = false := by simpa using hf
                have HN := Lib.hid (HS2.out hcx hf)
                clear HS1 HS2 HS3 HS4
                go_wp2_with ((go_at_call 46; ((with_reducible refine (HCc.out).mono ?_); rintro e w6 ⟨rfl, g6⟩)); have HG6 := Lib.hid (HG.out.trans g6); have HO6 := Lib.hid (HO.out.ge g6); have z6 := g6.size; clear g6)
                go_roundw
                case rel => exact ⟨x + 1, _, by go_num, by omega, by rw [HN.out], rfl, by rw [HN.out]; show OwnL _ _ _ (LU ++ R1.map _); rw [HM.out]; exact HO6.out, HG6.out, by omega⟩
                case measure => simp [intOf]; omega
            | false =>
              rw [hcx] at HCc
              by_cases hf : 0 ≤ f
              · have hfD : decide (f ≥ 0) = true := by simpa using hf
                have HN := Lib.hid (HS3.out hcx hf)
                clear HS1 HS2 HS3 HS4
                go_wp2_with (first | ((go_at_call 46; ((with_reducible refine (HCc.out).mono ?_); rintro e w6 ⟨rfl, g6⟩)); have HG6 := Lib.hid (HG.out.trans g6); have HO6 := Lib.hid (HO.out.ge g6); have z6 := g6.size; clear g6) | (at_builtin; refine ap_listB rfl _ _ rfl bs _ M (by rfl) (HO6.out.ge (Ge.alloc (Ge.refl _) _)) [(y : Int), f, (x : Int)] ⟨w6.heap.size, 0, none⟩ 3 3 rfl (lit3 w6 0 (y : Int) f (x : Int) (Nat.zero_le _)) rfl (by simp) (by omega) (by simp; omega) ?_; intro v7 w7 own7 g7; have HO7 := Lib.hid own7; have HG7 := Lib.hid (g7 w (HG6.out.trans (Ge.alloc (Ge.refl _) _)) z1); have HZ7 := Lib.hid (HO7.out.size (by simp)); clear own7 g7))
                go_roundw
                case rel => exact ⟨x + 1, _, by go_num, by omega, by rw [HN.out], rfl, by rw [HN.out, ← HM1.out]; exact HO7.out, HG7.out, HZ7.out⟩
                case measure => simp [intOf]; omega
              · have hfD : decide (f ≥ 0) = false := by simpa using hf
                have HN := Lib.hid (HS4.out hcx hf)
                clear HS1 HS2 HS3 HS4
                go_wp2_with ((go_at_call 46; ((with_reducible refine (HCc.out).mono ?_); rintro e w6 ⟨rfl, g6⟩)); have HG6 := Lib.hid (HG.out.trans g6); have HO6 := Lib.hid (HO.out.ge g6); have z6 := g6.size; clear g6)
                go_roundw
                case rel => exact ⟨x + 1, _, by go_num, by omega, by rw [HN.out], rfl, by rw [HN.out]; show OwnL _ _ _ (LU ++ R1.map _); rw [HM.out]; exact HO6.out, HG6.out, by omega⟩
                case measure => simp [intOf]; omega
          · have hxe : x = W := by omega
            have hcx : c x = false := by rw [hxe]; exact HCw.out
            have hwD : decide ((x : Int) < (W : Int)) = false := by simp; omega
            have hwI : ¬ (x : Int) < (W : Int) := by omega
            clear hxe
            skip
            by_cases hf : 0 ≤ f
            · have hfD : decide (f ≥ 0) = true := by simpa using hf
              have HN := Lib.hid (HS3.out hcx hf)
              clear HS1 HS2 HS3 HS4
              go_wp2_with (at_builtin; refine ap_listB rfl _ _ rfl bs _ M (by rfl) (HO.out.ge (Ge.alloc (Ge.refl _) _)) [(y : Int), f, (x : Int)] ⟨wr.heap.size, 0, none⟩ 3 3 rfl (lit3 wr 0 (y : Int) f (x : Int) (Nat.zero_le _)) rfl (by simp) (by omega) (by simp; omega) ?_; intro v7 w7 own7 g7; have HO7 := Lib.hid own7; have HG7 := Lib.hid (g7 w (HG.out.trans (Ge.alloc (Ge.refl _) _)) z1); have HZ7 := Lib.hid (HO7.out.size (by simp)); clear own7 g7)
              go_roundw
              case rel => exact ⟨x + 1, _, by go_num, by omega, by rw [HN.out], rfl, by rw [HN.out, ← HM1.out]; exact HO7.out, HG7.out, HZ7.out⟩
              case measure => simp [intOf]; omega
            · have hfD : decide (f ≥ 0) = false := by simpa using hf
              have HN := Lib.hid (HS4.out hcx hf)
              clear HS1 HS2 HS3 HS4
              go_wp2_with fail
              go_roundw
              case rel => exact ⟨x + 1, _, by go_num, by omega, by rw [HN.out], rfl, by rw [HN.out]; show OwnL _ _ _ (LU ++ R1.map _); rw [HM.out]; exact HO.out, HG.out, by omega⟩
              case measure => simp [intOf]; omega
        · have hxe : x = W + 1 := by omega
          have hxD : decide ((x : Int) ≤ (W : Int)) = false := by simp; omega
          have hxI : ¬ (x : Int) ≤ (W : Int) := by omega
          go_wp2_with fail
          go_roundw
          case rel => exact ⟨y + 1, _, by go_num, by omega, rfl, by rw [HLU.out, ← hxe]; exact hown, hg, hbq⟩
          case measure => simp [intOf]; omega
    · have hyH2 : y = H + 1 := by omega
      have hyD : decide ((y : Int) ≤ (H : Int)) = false := by simp; omega
      have hyI : ¬ (y : Int) ≤ (H : Int) := by omega
      go_wp2_with ((go_at_call 45; ((with_reducible refine (HL.out _ HG.out).mono ?_); rintro e w5 ⟨rfl, g5⟩)); have HG5 := Lib.hid (HG.out.trans g5); have HO5 := Lib.hid (HO.out.ge g5); clear g5)
      go_ret
      exact ⟨_, rfl, by rw [HF.out, ← hyH2]; exact HO5.out.mono z1, HG5.out⟩
end Go.Proofs.YtckjkfcphcnpdaaGreat

namespace Go.Proofs.YtckjkfcphcnpdaaGreat
set_option maxRecDepth 100000
open Go.ChangeShapes Go.WideShapes Go.ChangeAt Go.RowKit Go.Joins

/-- The slice v of n rows of integers. -/
def SlMI (w : World) (v : Value) (n : Nat) (R : List (List Int)) : Prop :=
  ∃ p cap, v = .slice p n cap ∧ ∀ i, i < n → ∃ b o pr cr, p = some ⟨b, o, none⟩ ∧ w.cell? ⟨b, o + i, none⟩ = some (.slice pr (rowL R i).length cr) ∧ SlI w (.slice pr (rowL R i).length cr) (rowL R i)
theorem SlMI.ge {w w' : World} {v : Value} {n : Nat} {R : List (List Int)} (h : SlMI w v n R) (hg : Ge w w') : SlMI w' v n R := by
  obtain ⟨p, cap, hv, hc⟩ := h
  refine ⟨p, cap, hv, fun i hi => ?_⟩
  obtain ⟨b, o, pr, cr, hp, hx, hs⟩ := hc i hi
  exact ⟨b, o, pr, cr, hp, hg.keep hx, SlI.ge hs hg⟩
noncomputable def sqB (R : List (List Int)) : Bool := @decide (sqP R) (Classical.propDecidable _)
noncomputable def wmB (R : List (List Int)) : Bool := @decide (wmP R) (Classical.propDecidable _)
theorem sqB_true {R : List (List Int)} (h : sqP R) : sqB R = true := by exact @decide_eq_true _ (Classical.propDecidable _) h
theorem sqB_false {R : List (List Int)} (h : ¬ sqP R) : sqB R = false := by exact @decide_eq_false _ (Classical.propDecidable _) h
theorem wmB_true {R : List (List Int)} (h : wmP R) : wmB R = true := by exact @decide_eq_true _ (Classical.propDecidable _) h
theorem wmB_false {R : List (List Int)} (h : ¬ wmP R) : wmB R = false := by exact @decide_eq_false _ (Classical.propDecidable _) h
theorem wmP_of {R : List (List Int)} (h : wmB R = true) : wmP R := @of_decide_eq_true _ (Classical.propDecidable _) h
theorem ent_nat (R : List (List Int)) (i j : Nat) : entM R i j = nth (rowL R i) j := by simp [entM, rowL]
theorem sumRow_succ (R : List (List Int)) (i j : Nat) : sumRow R i (j + 1) = sumRow R i j + entM R i j := rfl
theorem rowSq_iff (R : List (List Int)) (i : Nat) : rowSq R i ↔ (rowL R i).length = R.length ∧ ∀ j, j < (rowL R i).length → -1000 ≤ nth (rowL R i) j ∧ nth (rowL R i) j ≤ 1000 := Iff.rfl
theorem entOk_iff (R : List (List Int)) (i j : Nat) : entOk R i j ↔ nth (rowL R i) j = nth (rowL R j) i ∧ (i ≠ j → nth (rowL R i) j ≤ 0) := by unfold entOk; rw [ent_nat, ent_nat]

end Go.Proofs.YtckjkfcphcnpdaaGreat

namespace Go.Proofs.YtckjkfcphcnpdaaGreat
set_option maxRecDepth 100000
open Go.ChangeShapes Go.WideShapes Go.ChangeAt Go.RowKit Go.Joins

theorem own_someSS {w : World} {base g n cap m : Nat} {e : TypeId} {xs : List Value} (h : w.ownsRow base e m (.slice (some ⟨g, 0, none⟩) n cap) n xs) {j : Nat} (hj : j < n * m) : ∃ u, w.cell? ⟨g, j, none⟩ = some u := by
  have h1 := h.1
  exact ⟨xs[j]'(by omega), by rw [h.cellAt j hj]; exact List.getElem?_eq_getElem (by omega)⟩
theorem inf_rowSS : (Tryz.prog.info? 35).map (fun i => (i.zero, i.size, i.bytes)) = some (some (Value.slice none 0 0), 1, 24) := by kernel_rfl
theorem made_rowsSS (n : Nat) : (madeCells (Value.slice none 0 0).cells (n * 1)).toList = List.replicate n (Value.slice none 0 0) := by
  simp [madeCells, Value.cells, Nat.mod_one]
  rw [List.eq_replicate_iff]; simp

def RowsSS (w : World) (g : Nat) (R : List (List Int)) (cs : List Value) (j : Nat) : Prop :=
  ∀ i, i < j → ∃ pr cr, cs[i]? = some (.slice pr ((rowL R i).length) cr) ∧ w.ownsRow (g + 1) 3 1 (.slice pr ((rowL R i).length) cr) ((rowL R i).length) (icells (rowL R i))
theorem RowsSS.ge {w w' : World} {g : Nat} {R : List (List Int)} {cs : List Value} {j : Nat} (h : RowsSS w g R cs j) (hg : Ge w w') : RowsSS w' g R cs j := fun i hi => by
  obtain ⟨pr, cr, h1, h2⟩ := h i hi
  exact ⟨pr, cr, h1, hg.owns h2⟩
theorem RowsSS.set {w : World} {g : Nat} {R : List (List Int)} {cs : List Value} {j : Nat} (h : RowsSS w g R cs j) (hj : j < cs.length) {pr : Option Addr} {cr : Nat}
    (hv : w.ownsRow (g + 1) 3 1 (.slice pr ((rowL R j).length) cr) ((rowL R j).length) (icells (rowL R j))) :
    RowsSS (w.setCell ⟨g, j, none⟩ (.slice pr ((rowL R j).length) cr)) g R (cs.set j (.slice pr ((rowL R j).length) cr)) (j + 1) := fun i hi => by
  by_cases e : i = j
  · subst e
    exact ⟨pr, cr, by simp [hj], ownsRow_setCell_below hv (show g < g + 1 by omega) _⟩
  · obtain ⟨pr', cr', h1, h2⟩ := h i (by omega)
    exact ⟨pr', cr', by rw [List.getElem?_set_ne (by omega)]; exact h1, ownsRow_setCell_below h2 (show g < g + 1 by omega) _⟩

/-- What is left of L behind the sizes of the rows. -/
def szS1 (R : List (List Int)) : Nat → Int → Int
  | 0, L => L
  | k + 1, L => if L - ((rowL R (R.length - (k + 1))).length : Int) < 0 then -1 else szS1 R k (L - ((rowL R (R.length - (k + 1))).length : Int))
def szSS (L : Int) (R : List (List Int)) : Int := if L - R.length < 0 then -1 else szS1 R R.length (L - R.length)
theorem szS1_small (R : List (List Int)) : ∀ (k : Nat) (L : Int), k ≤ R.length → 0 ≤ L → 0 ≤ szS1 R k L → ∀ i, R.length - k ≤ i → i < R.length → ((rowL R i).length : Int) ≤ L
  | 0, L, _, _, _, i, h1, h2 => by omega
  | k + 1, L, hk, hL, h, i, h1, h2 => by
    simp only [szS1] at h
    split at h
    · omega
    · by_cases e : i = R.length - (k + 1)
      · subst e; omega
      · have := szS1_small R k _ (by omega) (by omega) h i (by omega) h2
        omega
theorem szSS_small {R : List (List Int)} (h : 0 ≤ szSS 1048576 R) : R.length ≤ 1048576 ∧ ∀ i, i < R.length → (rowL R i).length ≤ 1048576 := by
  unfold szSS at h
  split at h
  · omega
  · refine ⟨by omega, fun i hi => ?_⟩
    have := szS1_small R R.length _ (Nat.le_refl _) (by omega) h i (by omega) hi
    omega

end Go.Proofs.YtckjkfcphcnpdaaGreat

namespace Go.Proofs.YtckjkfcphcnpdaaGreat
set_option maxRecDepth 100000
open Go.ChangeShapes Go.WideShapes Go.ChangeAt Go.RowKit Go.Joins

theorem inf_sq : (Tryz.prog.info? 27).map (fun i => (i.zero, i.size, i.bytes)) = some (some (Value.agg #[.int .i64 0, .int .i64 0, .int .i64 0]), 3, 24) := by kernel_rfl
theorem made_sq (n : Nat) : (madeCells (Value.agg #[.int .i64 0, .int .i64 0, .int .i64 0]).cells (n * 3)).toList = icells (List.replicate (n * 3) 0) := by
  apply List.ext_getElem?
  intro j
  have h3 : ((Value.agg #[.int .i64 0, .int .i64 0, .int .i64 0]).cells) = #[.int .i64 0, .int .i64 0, .int .i64 0] := rfl
  by_cases hj : j < n * 3
  · have h4 : j % 3 = 0 ∨ j % 3 = 1 ∨ j % 3 = 2 := by omega
    rcases h4 with h4 | h4 | h4 <;> simp [madeCells, icells, h3, hj, h4]
  · simp [madeCells, icells, hj]

theorem own_some {w : World} {base g n cap m : Nat} {e : TypeId} {xs : List Value} (h : w.ownsRow base e m (.slice (some ⟨g, 0, none⟩) n cap) n xs) {j : Nat} (hj : j < n * m) : ∃ u, w.cell? ⟨g, j, none⟩ = some u := by
  rw [h.cellAt j hj]
  exact ⟨_, List.getElem?_eq_getElem (by have := h.1; omega)⟩
/-- Three cells of a row, written one behind the other. -/
theorem own_three {w w0 : World} {base g n cap : Nat} {e : TypeId} {l : List Int} (h : w.ownsRow base e 3 (.slice (some ⟨g, 0, none⟩) n cap) n (icells l)) (hg : Ge w0 w) (h0 : w0.heap.size ≤ g) (j : Nat) (a b c : Int) :
    (((w.setCell ⟨g, j, none⟩ (.int .i64 a)).setCell ⟨g, j + 1, none⟩ (.int .i64 b)).setCell ⟨g, j + 2, none⟩ (.int .i64 c)).ownsRow base e 3 (.slice (some ⟨g, 0, none⟩) n cap) n (icells (((l.set j a).set (j + 1) b).set (j + 2) c)) ∧
    Ge w0 (((w.setCell ⟨g, j, none⟩ (.int .i64 a)).setCell ⟨g, j + 1, none⟩ (.int .i64 b)).setCell ⟨g, j + 2, none⟩ (.int .i64 c)) := by
  have h1 := h.stored j (.int .i64 a)
  have h2 := h1.1.stored (j + 1) (.int .i64 b)
  have h3 := h2.1.stored (j + 2) (.int .i64 c)
  refine ⟨by have := h3.1; rwa [icells_set, icells_set, icells_set] at this, ?_⟩
  have k : ∀ k, some g = some k → w0.heap.size ≤ k := fun k hk => by simp at hk; omega
  exact ((hg.grown h1.2 k).grown h2.2 k).grown h3.2 k

def eqQ (a b c x y z : Int) : Bool := decide (a = x) && decide (b = y) && decide (c = z)

theorem same_stepQ {xs ys : List Int} {k : Nat} (h : Hid (∀ j, j < k → ∀ i, i < 3 → nth xs (j * 3 + i) = nth ys (j * 3 + i)))
    (he : eqQ (nth xs (k * 3)) (nth xs (k * 3 + 1)) (nth xs (k * 3 + 2)) (nth ys (k * 3)) (nth ys (k * 3 + 1)) (nth ys (k * 3 + 2)) = true) :
    Hid (∀ j, j < k + 1 → ∀ i, i < 3 → nth xs (j * 3 + i) = nth ys (j * 3 + i)) := by
  intro j h1 i hi
  by_cases e : j = k
  · subst e
    simp [eqQ] at he
    obtain ⟨⟨e1, e2⟩, e3⟩ := he
    match i, hi with
    | 0, _ => exact e1
    | 1, _ => exact e2
    | 2, _ => exact e3
  · exact h.out j (by omega) i hi

theorem marked_step3 (l : List Int) (k : Int) (j : Nat) (h : j * 3 + 2 < l.length) :
    (((marked l k (j * 3)).set (j * 3) (k + j * 3)).set (j * 3 + 1) (k + j * 3 + 1)).set (j * 3 + 2) (k + j * 3 + 1 + 1) = marked l k ((j + 1) * 3) := by
  have e1 : k + (j : Int) * 3 = k + ((j * 3 : Nat) : Int) := by simp
  have e2 : k + (j : Int) * 3 + 1 = k + ((j * 3 + 1 : Nat) : Int) := by simp; omega
  have e3 : k + (j : Int) * 3 + 1 + 1 = k + ((j * 3 + 2 : Nat) : Int) := by simp; omega
  rw [e3, e2, e1, marked_step _ _ _ (by omega), marked_step _ _ _ (by omega), marked_step _ _ _ (by omega)]
  congr 1
  omega

end Go.Proofs.YtckjkfcphcnpdaaGreat

namespace Go.Proofs.YtckjkfcphcnpdaaGreat
set_option maxRecDepth 100000
open Go.ChangeShapes Go.WideShapes Go.ChangeAt Go.RowKit Go.Joins

theorem owns_capT {w : World} {base : Nat} {e : TypeId} {sz : Nat} {v : Value} {n : Nat} {xs : List Value} (h : w.ownsRow base e sz v n xs) : ∀ p c, v = .slice p n c → n ≤ c := by
  intro p c hv
  rcases h.2 with ⟨h', h0⟩ | ⟨g, cap, cur, h', _, _, hnc, _⟩
  · omega
  · subst h'
    simp at hv
    omega

def szI (L : Int) (n : Nat) : Int := if L - n < 0 then -1 else L - n
end Go.Proofs.YtckjkfcphcnpdaaGreat

namespace Go.Proofs.YtckjkfcphcnpdaaGreat
set_option maxRecDepth 100000
open Go.ChangeShapes Go.WideShapes Go.ChangeAt Go.RowKit Go.Joins

theorem own_setCellsZ {base g cap n : Nat} {e : TypeId} : ∀ (vs : List Int) (o : Nat) (w : World) (l : List Int), w.ownsRow base e 1 (.slice (some ⟨g, 0, none⟩) n cap) n (icells l) → l.length = n → o + vs.length = n →
    (w.setCells g o (vs.map (Value.int .i64))).ownsRow base e 1 (.slice (some ⟨g, 0, none⟩) n cap) n (icells (l.take o ++ vs)) ∧ w.grownBy (w.setCells g o (vs.map (Value.int .i64))) (some g)
  | [], o, w, l, h, hl, ho => by
    simp at ho
    have : l.take o = l := by rw [ho, ← hl]; exact List.take_length
    simp only [List.map_nil, World.setCells, List.append_nil, this]
    exact ⟨h, World.grownBy.refl _ _⟩
  | v :: r, o, w, l, h, hl, ho => by
    have h1 := h.stored o (.int .i64 v)
    rw [icells_set] at h1
    simp at ho
    have h2 := own_setCellsZ r (o + 1) _ (l.set o v) h1.1 (by simpa using hl) (by omega)
    simp only [List.map_cons, World.setCells]
    refine ⟨?_, grown_trans h1.2 h2.2⟩
    have e1 : (l.set o v).take (o + 1) ++ r = l.take o ++ v :: r := by
      rw [List.take_succ_eq_append_getElem (by simp; omega)]
      simp
      exact List.take_set_of_le (Nat.le_refl _)
    rw [← e1]; exact h2.1
/-- The head of a row that is owned. -/
theorem owns_take {w : World} {base g n c k : Nat} {e : TypeId} {xs : List Value} (h : w.ownsRow base e 1 (.slice (some ⟨g, 0, none⟩) n c) n xs) (hk : k ≤ n) : w.ownsRow base e 1 (.slice (some ⟨g, 0, none⟩) k c) k (xs.take k) := by
  obtain ⟨h1, h2⟩ := h
  refine ⟨by rw [List.length_take]; omega, ?_⟩
  rcases h2 with ⟨h', _⟩ | ⟨g', cap', cur, hv, hb, hheap, hn, hcap, hsz, ht⟩
  · simp at h'
  · simp only [Value.slice.injEq, Option.some.injEq, Addr.mk.injEq, and_true, true_and] at hv
    obtain ⟨rfl, rfl⟩ := hv
    refine .inr ⟨g, c, cur, rfl, hb, hheap, by omega, hcap, hsz, ?_⟩
    rw [← ht, List.take_take]
    congr 1
    omega
theorem sortC (base g n c : Nat) (l : List Int) (w : World) (h : w.ownsRow base 3 1 (.slice (some ⟨g, 0, none⟩) n c) n (icells l)) (hm : n ≤ 1000) :
    Calls Tryz.prog 29 #[.slice (some ⟨g, 0, none⟩) n c] w fun e w' =>
      e = .returned (.tuple #[]) ∧ w'.ownsRow base 3 1 (.slice (some ⟨g, 0, none⟩) n c) n (icells (l.mergeSort fun x y => decide (x ≤ y))) ∧ ∀ w0, Ge w0 w → w0.heap.size ≤ g → Ge w0 w' := by
  have hl : l.length = n := by have := h.1; rw [icells_length] at this; omega
  rcases h.2 with ⟨h', _⟩ | ⟨g', cap', cur, hv, hb, hheap, hn, hcap, hsz, ht⟩
  · simp at h'
  · simp only [Value.slice.injEq, Option.some.injEq, Addr.mk.injEq, and_true, true_and] at hv
    obtain ⟨rfl, rfl⟩ := hv
    have ht' : cur.toList.take l.length = l.map (Value.int .i64) := by rw [hl]; simpa [icells] using ht
    have hH := holds_of_blockI hheap ht'
    have hblk : g < w.heap.size := (Array.getElem?_eq_some_iff.1 hheap).1
    have key := Tryz.slices_Sort_int g 0 c l w hH hblk (by omega)
    rw [hl] at key
    refine key.mono ?_
    rintro e w' ⟨he, n', os, rfl⟩
    have ho := ownsRow_sortedI (w := w) (n := n') (os := os) (base := base) (cap := c) (ss := l) (ts := l.mergeSort fun x y => decide (x ≤ y)) (by simp) hb hheap (by omega) hcap (by simpa using hsz)
    rw [hl] at ho
    exact ⟨he, ho, fun w0 hg0 hgs => hg0.grown (grownBy_sortedI _) (fun k hk => by simp at hk; omega)⟩
theorem compactC (base g n c : Nat) (l : List Int) (w : World) (h : w.ownsRow base 3 1 (.slice (some ⟨g, 0, none⟩) n c) n (icells l)) (hm : n ≤ 1000) :
    Calls Tryz.prog 30 #[.slice (some ⟨g, 0, none⟩) n c] w fun e w' =>
      e = .returned (.slice (some ⟨g, 0, none⟩) (Lib.compact l).length c) ∧ w'.ownsRow base 3 1 (.slice (some ⟨g, 0, none⟩) (Lib.compact l).length c) (Lib.compact l).length (icells (Lib.compact l)) ∧ ∀ w0, Ge w0 w → w0.heap.size ≤ g → Ge w0 w' := by
  have hl : l.length = n := by have := h.1; rw [icells_length] at this; omega
  have hcap : n ≤ c ∧ c ≤ 9223372036854775807 := by
    rcases h.2 with ⟨h', _⟩ | ⟨g', cap', cur, h', _, _, hnc, hmx, _⟩
    · simp at h'
    · simp at h'
      unfold maxLen at hmx
      omega
  have hcell : ∀ k, k < l.length → w.cell? ⟨g, 0 + k, none⟩ = some (.int .i64 (l.getD k 0)) := fun k hk => by
    rw [Nat.zero_add, h.cellAt k (by omega)]
    simp [icells, List.getD, hk]
  have hfr : ∀ k, k < n → w.frozen? ⟨g, 0 + k, none⟩ = false := fun k _ => by rw [Nat.zero_add]; exact h.frozenAt k
  have key := Tryz.slices_Compact_int_cells g 0 n c l w (by omega) (by omega) hcap.1 hcell hfr
  have e3 : l.take n = l := by rw [← hl]; exact List.take_length
  rw [e3] at key
  refine key.mono ?_
  rintro e w' ⟨he, q, hw⟩
  have hle := Lib.compact_length_le l
  have hown : (w.drewN q).ownsRow base 3 1 (.slice (some ⟨g, 0, none⟩) n c) n (icells l) := Ge.owns ((Ge.refl w).drewN q) h
  have h2 := own_setCellsZ (Lib.compact l ++ List.replicate (n - (Lib.compact l).length) 0) 0 (w.drewN q) l hown hl (by simp; omega)
  rw [← hw] at h2
  have h3 := owns_take h2.1 (k := (Lib.compact l).length) (by omega)
  refine ⟨he, ?_, fun w0 hg0 hgs => (hg0.drewN q).grown h2.2 (fun k hk => by simp at hk; omega)⟩
  have e5 : (icells (l.take 0 ++ (Lib.compact l ++ List.replicate (n - (Lib.compact l).length) 0))).take (Lib.compact l).length = icells (Lib.compact l) := by
    simp [icells]
  rw [← e5]; exact h3
theorem ap_intB {w : World} {ops : Array Oper} {rest : List Oper} {o : Oper} {a : Act} {Q : Exit → Act → World → Prop} (hgd : o.guard = none) (s x : Operand)
    (ho : o.op = .call { callee := .builtin .append, args := #[s, x], argTypes := #[35, 35] })
    (base : Nat) (v : Value) (l : List Int) (hs : a.eval s = v) (hown : w.ownsRow base 3 1 v l.length (icells l))
    (y : Int) {b0 : Nat} (hx : a.eval x = .slice (some ⟨b0, 0, none⟩) 1 1) (hb0 : b0 = w.heap.size) (hn : l.length < 1099511627776) (hbase : base ≤ w.heap.size)
    (h : ∀ v' w', w'.ownsRow base 3 1 v' (l ++ [y]).length (icells (l ++ [y])) → Mine w w' v → wpList Tryz.prog ops Q rest (a.put o.dst v') w') :
    wpList Tryz.prog ops Q (o :: rest) a (w.alloc (.cells #[.int .i64 y] 3)) := by
  subst hb0
  exact ap_int hgd s x ho base v l hs hown y hx hn hbase h
theorem owns_nilZ (w : World) (base : Nat) (e : TypeId) : w.ownsRow base e 1 (.slice none 0 0) 0 [] := ⟨rfl, .inl ⟨rfl, rfl⟩⟩

theorem sL03HasZ (v : Value) (l : List Int) (x : Int) (w : World) (h : SlI w v l) (hm : l.length ≤ 1000000) :
    Calls Tryz.prog 62 #[v, .int .i64 x] w fun e w' => e = .returned (.bool (decide (x ∈ l))) ∧ w = w' := by
  obtain ⟨n, hn⟩ : ∃ n, l.length = n := ⟨_, rfl⟩
  obtain ⟨p, cap, rfl, hc⟩ := h.openN hn
  have HC := Lib.hid hc
  have HN := Lib.hid hn
  rw [hn] at hm
  clear h hc hn
  go_enter Tryz.func62, Tryz.ntmps62
  go_wp2_with fail
  go_loop [9] (fun i => ∃ k : Nat, k ≤ n ∧ i = .int .i64 k ∧ Hid (∀ j, j < k → ¬ nth l j = x)) (fun i => n - (intOf i).toNat)
  case atStart => exact ⟨0, Nat.zero_le _, rfl, fun j hj => by omega⟩
  case round =>
    obtain ⟨k, hk, rfl, HA⟩ := hrel
    by_cases hlt : k < n
    · obtain ⟨b, o, rfl, x0⟩ := HC.out k hlt
      by_cases c : nth l k = x
      · have HF : Hid (decide (x ∈ l) = true) := by
          show _ = _
          have hk' : k < l.length := by rw [HN.out]; exact hlt
          rw [nth_eq l k hk'] at c
          exact decide_eq_true (c ▸ List.getElem_mem hk')
        have t : (nth l k == x) = true := by simp [c]
        clear c
        go_wp2_with fail
        go_ret
        exact ⟨ret_bool HF.out.symm, rfl⟩
      · have HA2 : Hid (∀ j, j < k + 1 → ¬ nth l j = x) := fun j hj => by
          by_cases e : j = k
          · subst e; exact c
          · exact HA.out j (by omega)
        have t : (nth l k == x) = false := by simp [c]
        clear c
        go_wp2_with fail
        go_round
        case rel => exact ⟨k + 1, by omega, by go_num, HA2.out⟩
        case measure => simp [intOf]; omega
    · have hkn : k = n := by omega
      subst hkn
      have HF : Hid (decide (x ∈ l) = false) := by
        show _ = _
        refine decide_eq_false fun h => ?_
        obtain ⟨j, hj, e⟩ := List.getElem_of_mem h
        exact HA.out j (by rw [← HN.out]; exact hj) (by rw [nth_eq l j hj]; exact e)
      go_wp2_with fail
      go_ret
      exact ⟨ret_bool HF.out.symm, rfl⟩

set_option maxHeartbeats 1600000 in
theorem iSizesOf (v : Value) (n : Nat) (xs : List Int) (w : World) (hv : SlF w v n 3 xs) (hm : n ≤ 9223372036854775807) (hb : ∀ j, -9223372036854775808 ≤ nth xs j ∧ nth xs j ≤ 9223372036854775807) (hcap : ∀ p c, v = .slice p n c → n ≤ c) :
    Calls Tryz.prog 10 #[v] w fun e w' => ∃ u, e = .returned u ∧ w'.ownsRow w.heap.size 3 1 u (sizesV n xs).length (icells (sizesV n xs)) ∧ Ge w w' := by
  obtain ⟨p, cap, rfl, hc⟩ := hv.open
  have HV := Lib.hid hv
  have HC := Lib.hid hc
  have HBd := Lib.hid hb
  have HCap := Lib.hid hcap
  clear hv hc hb hcap
  have HT := Lib.hid (fun w' (g : Ge w w') => iTilingOk (.slice p n cap) n xs w' (HV.out.ge g) hm HBd.out HCap.out)
  cases hB : tileB n xs with
  | false =>
    have HF := Lib.hid (sizesV_f hB)
    rw [hB] at HT
    go_enter Tryz.func10, Tryz.ntmps10
    go_wp2_with (go_at_call 11; ((with_reducible refine (HT.out _ (Ge.alloc (Ge.refl w) _)).mono ?_); rintro e w1 ⟨rfl, g1⟩))
    exact bodyPost_ret (v := .slice (some ⟨w.heap.size, 0, none⟩) 0 0) (by simp [results, Tryz.results10, go_sem]) rfl ⟨_, rfl, by rw [HF.out]; exact Ge.owns g1 (owns_lit0 _ _ _), by (repeat (first | with_reducible exact Ge.refl _ | assumption | with_reducible refine Ge.drew ?_ | with_reducible refine Ge.drewN ?_ _ | with_reducible refine Ge.alloc ?_ _ | (with_reducible refine Ge.setCell ?_ (by first | (simp; done) | omega | (simp; omega)) _) | with_reducible refine Ge.trans ?_ (by assumption)))⟩
  | true =>
    have HF := sizesV_t hB
    obtain ⟨h0, h12, hsq, _⟩ : tileP n xs := by
      unfold tileB at hB
      split at hB
      · assumption
      · cases hB
    have HOK : Hid (∀ i, i < n → okSq xs i) := fun i hi => (hsq i hi).1
    rw [← compact_sort (sqSizes xs n) 200 (sqSizes_in HOK.out)] at HF
    replace HF := Lib.hid HF
    rw [hB] at HT
    clear hsq
    go_enter Tryz.func10, Tryz.ntmps10
    go_wp2_with (go_at_call 11; ((with_reducible refine (HT.out _ (Ge.alloc (Ge.refl w) _)).mono ?_); rintro e w1 ⟨rfl, g1⟩))
    have olit : w1.ownsRow w.heap.size 3 1 (.slice (some ⟨w.heap.size, 0, none⟩) 0 0) 0 (icells (sqSizes xs 0)) := Ge.owns g1 (owns_lit0 _ _ _)
    go_loopw [3, 13] (fun s i wr => ∃ k : Nat, k ≤ n ∧ i = .int .i64 k ∧ wr.ownsRow w.heap.size 3 1 s (sqSizes xs k).length (icells (sqSizes xs k)) ∧ Ge w wr) (fun _ i _ => n - (intOf i).toNat)
    case atStart => exact ⟨0, Nat.zero_le _, rfl, olit, by (repeat (first | with_reducible exact Ge.refl _ | assumption | with_reducible refine Ge.drew ?_ | with_reducible refine Ge.drewN ?_ _ | with_reducible refine Ge.alloc ?_ _ | (with_reducible refine Ge.setCell ?_ (by first | (simp; done) | omega | (simp; omega)) _) | with_reducible refine Ge.trans ?_ (by assumption)))⟩
    case round =>
      obtain ⟨k, hk, rfl, hown, hg⟩ := hrel
      by_cases hlt : k < n
      · obtain ⟨b, o, rfl, x0, x1, x2⟩ := three_cells HC.out hlt
        have y0 := hg.keep x0
        have y1 := hg.keep x1
        have y2 := hg.keep x2
        clear x0 x1 x2
        change wr.cell? _ = some (.int .i64 (sx xs k)) at y0
        change wr.cell? _ = some (.int .i64 (sy xs k)) at y1
        change wr.cell? _ = some (.int .i64 (ss xs k)) at y2
        have HS := Lib.hid (sqSizes_succ xs k)
        have HL : Hid ((sqSizes xs k).length < 1099511627776) := by
          show _ < _
          rw [sqSizes_length]; omega
        generalize sqSizes xs k = L at *
        generalize sx xs k = X at *
        generalize sy xs k = Y at *
        generalize ss xs k = Z at *
        have own2 : (wr.alloc (.cells #[.int .i64 X, .int .i64 Y, .int .i64 Z] 27)).ownsRow w.heap.size 3 1 u3 L.length (icells L) := hown.alloc _
        have G5 : Ge w (wr.alloc (.cells #[.int .i64 X, .int .i64 Y, .int .i64 Z] 27)) := Ge.alloc hg _
        have Z5 := G5.size
        go_wp2_with (at_builtin; refine ap_intB rfl _ _ rfl w.heap.size u3 L rfl own2 _ rfl (by simp) HL.out Z5 ?_; intro v' w6 own6 hm6)
        go_roundw
        case rel => exact ⟨k + 1, by omega, by go_num, by rw [HS.out]; exact own6, G5.mine own2 (Nat.le_refl _) hm6⟩
        case measure => simp [intOf]; omega
      · have hkn : n = k := by omega
        subst hkn
        rw [sqSizes_length] at hown
        obtain ⟨gs, cs, rfl⟩ := Go.Joins.ownsRow_form hown (by omega)
        have hgs := (hown.lt gs rfl).1
        have n1000 : n ≤ 1000 := by omega
        have HSo := Lib.hid (sortC w.heap.size gs n cs (sqSizes xs n) _ hown n1000)
        generalize sqSizes xs n = L at *
        generalize (L.mergeSort fun x y => decide (x ≤ y)) = M at *
        go_wp2_with (first
          | (go_at_call 29; ((with_reducible refine (HSo.out).mono ?_); rintro e w7 ⟨rfl, o7, k7⟩))
          | (go_at_call 30; ((with_reducible refine (compactC w.heap.size gs n cs M _ o7 n1000).mono ?_); rintro e w8 ⟨rfl, o8, k8⟩)))
        have G8 : Ge w w8 := k8 w (k7 w hg hgs) hgs
        exact bodyPost_ret (v := .slice (some ⟨gs, 0, none⟩) (Lib.compact M).length cs) (by simp [results, Tryz.results10, go_sem]) rfl ⟨_, rfl, by rw [HF.out]; exact o8, G8⟩

theorem mem_snoc_sizes (xs : List Int) (k : Nat) (x : Int) : x ∈ sqSizes xs (k + 1) ↔ x ∈ sqSizes xs k ∨ ss xs k = x := by
  rw [sqSizes_succ]; simp only [List.mem_append, List.mem_cons, List.not_mem_nil, or_false]
  exact ⟨fun h => h.imp id Eq.symm, fun h => h.imp id Eq.symm⟩
/-- The sizes up to K, and the next one if the first j squares have it. -/
def upJ (xs : List Int) (n K j : Nat) : List Int := inUpto (sqSizes xs n) K ++ (if ((K : Int) + 1) ∈ sqSizes xs j then [(K : Int) + 1] else [])
theorem upJ_0 (xs : List Int) (n K : Nat) : upJ xs n K 0 = inUpto (sqSizes xs n) K := by simp [upJ, sqSizes]
theorem upJ_n (xs : List Int) (n K : Nat) : upJ xs n K n = inUpto (sqSizes xs n) (K + 1) := by
  unfold upJ
  by_cases h : ((K : Int) + 1) ∈ sqSizes xs n
  · rw [if_pos h, inUpto_succ_t h]
  · rw [if_neg h, inUpto_succ_f h, List.append_nil]
theorem upJ_same {xs : List Int} {n K j : Nat} (h : ¬ ss xs j = (K : Int) + 1 ∨ ((K : Int) + 1) ∈ upJ xs n K j) : upJ xs n K (j + 1) = upJ xs n K j := by
  unfold upJ
  by_cases c : ((K : Int) + 1) ∈ sqSizes xs j
  · rw [if_pos c, if_pos ((mem_snoc_sizes xs j _).2 (Or.inl c))]
  · rcases h with h | h
    · rw [if_neg c, if_neg (fun k => ((mem_snoc_sizes xs j _).1 k).elim c h)]
    · unfold upJ at h
      rw [if_neg c, List.append_nil] at h
      have := inUpto_mem h
      omega
theorem upJ_new {xs : List Int} {n K j : Nat} (h : ss xs j = (K : Int) + 1) (c : ¬ ((K : Int) + 1) ∈ upJ xs n K j) : upJ xs n K (j + 1) = upJ xs n K j ++ [(K : Int) + 1] := by
  have c2 : ¬ ((K : Int) + 1) ∈ sqSizes xs j := fun k => c (by unfold upJ; rw [if_pos k]; simp)
  unfold upJ
  rw [if_neg c2, if_pos ((mem_snoc_sizes xs j _).2 (Or.inr h)), List.append_nil]
theorem upJ_len (xs : List Int) (n K j : Nat) : (upJ xs n K j).length ≤ K + 1 := by
  unfold upJ inUpto
  rw [List.length_append]
  have h1 := List.length_filter_le (fun k => decide (k ∈ sqSizes xs n)) ((List.range K).map (fun (i : Nat) => (i : Int) + 1))
  rw [List.length_map, List.length_range] at h1
  split <;> simp <;> omega

set_option maxHeartbeats 800000 in
theorem iHasEqualSquares (v : Value) (n : Nat) (xs : List Int) (w : World) (hv : SlF w v n 3 xs) (hm : n ≤ 9223372036854775807) (hb : ∀ j, -9223372036854775808 ≤ nth xs j ∧ nth xs j ≤ 9223372036854775807) (hcap : ∀ p c, v = .slice p n c → n ≤ c) :
    Calls Tryz.prog 12 #[v] w fun e w' => e = .returned (.bool (equalB n xs)) ∧ Ge w w' := by
  obtain ⟨p, cap, rfl, hc⟩ := hv.open
  have HV := Lib.hid hv
  have HBd := Lib.hid hb
  have HCap := Lib.hid hcap
  clear hv hc hb hcap
  have HT := Lib.hid (fun w' (g : Ge w w') => iTilingOk (.slice p n cap) n xs w' (HV.out.ge g) hm HBd.out HCap.out)
  have HSz := Lib.hid (iSizesOf (.slice p n cap) n xs w HV.out hm HBd.out HCap.out)
  have HF : Hid (equalB n xs = (tileB n xs && decide ((sizesV n xs).length < n))) := rfl
  obtain ⟨m, hL⟩ : ∃ m, (sizesV n xs).length = m := ⟨_, rfl⟩
  rw [hL] at HF HSz
  have hmb : m ≤ 9223372036854775807 := by
    rw [← hL]
    cases hB : tileB n xs with
    | false => rw [sizesV_f hB]; simp
    | true =>
      rw [sizesV_t hB, ← upJ_0]
      have := upJ_len xs n 200 0
      omega
  clear hL
  by_cases c : m < n
  · have HF2 : Hid (equalB n xs = tileB n xs) := by show _ = _; rw [HF.out, decide_eq_true c, Bool.and_true]
    clear HF
    generalize tileB n xs = TB at *
    go_enter Tryz.func12, Tryz.ntmps12
    go_wp2_with (first | ((go_at_call 10; ((with_reducible refine (HSz.out).mono ?_); rintro e w1 ⟨u, rfl, o1, g1⟩)); obtain ⟨p1, c1, rfl⟩ := owns_form o1) | (go_at_call 11; ((with_reducible refine (HT.out _ (by (repeat (first | with_reducible exact Ge.refl _ | assumption | with_reducible refine Ge.drew ?_ | with_reducible refine Ge.drewN ?_ _ | with_reducible refine Ge.alloc ?_ _ | (with_reducible refine Ge.setCell ?_ (by first | (simp; done) | omega | (simp; omega)) _) | with_reducible refine Ge.trans ?_ (by assumption))))).mono ?_); rintro e w2 ⟨rfl, g2⟩)))
    go_ret
    exact ⟨ret_bool HF2.out.symm, by (repeat (first | with_reducible exact Ge.refl _ | assumption | with_reducible refine Ge.drew ?_ | with_reducible refine Ge.drewN ?_ _ | with_reducible refine Ge.alloc ?_ _ | (with_reducible refine Ge.setCell ?_ (by first | (simp; done) | omega | (simp; omega)) _) | with_reducible refine Ge.trans ?_ (by assumption)))⟩
  · have HF2 : Hid (equalB n xs = false) := by show _ = _; rw [HF.out, decide_eq_false c, Bool.and_false]
    clear HF
    go_enter Tryz.func12, Tryz.ntmps12
    go_wp2_with (first | ((go_at_call 10; ((with_reducible refine (HSz.out).mono ?_); rintro e w1 ⟨u, rfl, o1, g1⟩)); obtain ⟨p1, c1, rfl⟩ := owns_form o1) | (go_at_call 11; ((with_reducible refine (HT.out _ (by (repeat (first | with_reducible exact Ge.refl _ | assumption | with_reducible refine Ge.drew ?_ | with_reducible refine Ge.drewN ?_ _ | with_reducible refine Ge.alloc ?_ _ | (with_reducible refine Ge.setCell ?_ (by first | (simp; done) | omega | (simp; omega)) _) | with_reducible refine Ge.trans ?_ (by assumption))))).mono ?_); rintro e w2 ⟨rfl, g2⟩)))
    go_ret
    exact ⟨ret_bool HF2.out.symm, by (repeat (first | with_reducible exact Ge.refl _ | assumption | with_reducible refine Ge.drew ?_ | with_reducible refine Ge.drewN ?_ _ | with_reducible refine Ge.alloc ?_ _ | (with_reducible refine Ge.setCell ?_ (by first | (simp; done) | omega | (simp; omega)) _) | with_reducible refine Ge.trans ?_ (by assumption)))⟩
end Go.Proofs.YtckjkfcphcnpdaaGreat
