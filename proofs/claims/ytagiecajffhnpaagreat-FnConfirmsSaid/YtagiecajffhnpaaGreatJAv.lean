/- Tilings: TilingOk of impl. No condition. Tilings: TilingOk, HeightOf, WidthOf of spec and of impl. No condition. FormatSquare. TilingLine of impl and of spec. No condition. spaced of impl, l16Ints of the reference. No condition. FormatFault. FaultLine of impl and of spec. No condition. CommuteTime, TreeChance, HitTime of impl and of the reference. No condition. -/
import Derived.Test.YtagiecajffhnpaaGreatJAu
import Derived.Test.YtagiecajffhnpaaGreatJAe
import Derived.Test.YtagiecajffhnpaaGreatWFlat
import Derived.Test.YtagiecajffhnpaaGreatJAn
namespace Go.Proofs.YtagiecajffhnpaaGreat
set_option maxRecDepth 100000
open Go.ChangeShapes Go.WideShapes Go.ChangeAt Go.RowKit Go.Joins

theorem no_step {xs : List Int} {k j : Nat} (h : Hid (∀ i, i < j → ¬ overSq xs k i)) (hj : ¬ overSq xs k j) : Hid (∀ i, i < j + 1 → ¬ overSq xs k i) := fun i hi => by
  by_cases e : i = j
  · subst e; exact hj
  · exact h.out i (by omega)
theorem good_next {xs : List Int} {k : Nat} (h : Hid (∀ i, i < k → goodSq xs i)) (hk : goodSq xs k) : Hid (∀ i, i < k + 1 → goodSq xs i) := fun i hi => by
  by_cases e : i = k
  · subst e; exact hk
  · exact h.out i (by omega)
set_option maxHeartbeats 3200000 in
theorem iTilingOk (v : Value) (n : Nat) (xs : List Int) (w : World) (hv : SlF w v n 3 xs) (hm : n ≤ 9223372036854775807) (hb : ∀ j, -9223372036854775808 ≤ nth xs j ∧ nth xs j ≤ 9223372036854775807) (hcap : ∀ p c, v = .slice p n c → n ≤ c) :
    Calls Tryz.prog 96 #[v] w fun e w' => e = .returned (.bool (tileB n xs)) ∧ Ge w w' := by
  obtain ⟨p, cap, rfl, hc⟩ := hv.open
  have HV := Lib.hid hv
  have HC := Lib.hid hc
  have HBd := Lib.hid hb
  have hnc := hcap _ _ rfl
  have HCap := Lib.hid hcap
  clear hv hc hb hcap
  by_cases h1 : n < 1
  · have HF : Hid (tileB n xs = false) := tileB_false (fun h => by have := h.1; omega)
    go_enter Tryz.func96, Tryz.ntmps96
    go_wp2_with fail
    go_ret
    exact ⟨ret_bool HF.out.symm, Ge.refl _⟩
  by_cases h12 : 12 < n
  · have HF : Hid (tileB n xs = false) := tileB_false (fun h => by have := h.2.1; omega)
    go_enter Tryz.func96, Tryz.ntmps96
    go_wp2_with fail
    go_ret
    exact ⟨ret_bool HF.out.symm, Ge.refl _⟩
  go_enter Tryz.func96, Tryz.ntmps96
  go_wp2_with fail
  go_loopw [3, 4, 5, 22] (fun a b c i wr => ∃ k : Nat, k ≤ n ∧ i = .int .i64 k ∧ a = .int .i64 (minX xs k) ∧ b = .int .i64 (minY xs k) ∧ c = .int .i64 (areaSq xs k) ∧ Hid (∀ j, j < k → goodSq xs j) ∧ Ge w wr) (fun _ _ _ i _ => n - (intOf i).toNat)
  case atStart => exact ⟨0, Nat.zero_le _, rfl, rfl, rfl, rfl, fun j hj => by omega, Ge.refl _⟩
  case round =>
    obtain ⟨k, hk, rfl, rfl, rfl, rfl, HK, hg⟩ := hrel
    by_cases hlt : k < n
    · obtain ⟨b, o, rfl, x0, x1, x2⟩ := three_cells HC.out hlt
      have y0 := hg.keep x0
      have y1 := hg.keep x1
      have y2 := hg.keep x2
      clear x0 x1 x2
      change wr.cell? _ = some (.int .i64 (sx xs k)) at y0
      change wr.cell? _ = some (.int .i64 (sy xs k)) at y1
      change wr.cell? _ = some (.int .i64 (ss xs k)) at y2
      have HB0 := HBd.out (k * 3)
      have HB1 := HBd.out (k * 3 + 1)
      have HB2 := HBd.out (k * 3 + 2)
      change _ ≤ sx xs k ∧ sx xs k ≤ _ at HB0
      change _ ≤ sy xs k ∧ sy xs k ≤ _ at HB1
      change _ ≤ ss xs k ∧ ss xs k ≤ _ at HB2
      by_cases t1 : sx xs k < 0
      · have HF : Hid (tileB n xs = false) := tileB_false (fun h => by have := (h.2.2.1 k hlt).1.1; omega)
        go_upto_region 7 with (fail)
        go_quiet (fail)
        go_wp2_with fail
        go_ret
        exact ⟨ret_bool HF.out.symm, kge⟩
      by_cases t2 : 200 < sx xs k
      · have HF : Hid (tileB n xs = false) := tileB_false (fun h => by have := (h.2.2.1 k hlt).1.2.1; omega)
        go_upto_region 7 with (fail)
        go_quiet (fail)
        go_wp2_with fail
        go_ret
        exact ⟨ret_bool HF.out.symm, kge⟩
      by_cases t3 : sy xs k < 0
      · have HF : Hid (tileB n xs = false) := tileB_false (fun h => by have := (h.2.2.1 k hlt).1.2.2.1; omega)
        go_upto_region 7 with (fail)
        go_quiet (fail)
        go_wp2_with fail
        go_ret
        exact ⟨ret_bool HF.out.symm, kge⟩
      by_cases t4 : 200 < sy xs k
      · have HF : Hid (tileB n xs = false) := tileB_false (fun h => by have := (h.2.2.1 k hlt).1.2.2.2.1; omega)
        go_upto_region 7 with (fail)
        go_quiet (fail)
        go_wp2_with fail
        go_ret
        exact ⟨ret_bool HF.out.symm, kge⟩
      by_cases t5 : ss xs k < 1
      · have HF : Hid (tileB n xs = false) := tileB_false (fun h => by have := (h.2.2.1 k hlt).1.2.2.2.2.1; omega)
        go_upto_region 7 with (fail)
        go_quiet (fail)
        go_wp2_with fail
        go_ret
        exact ⟨ret_bool HF.out.symm, kge⟩
      by_cases t6 : 200 < ss xs k
      · have HF : Hid (tileB n xs = false) := tileB_false (fun h => by have := (h.2.2.1 k hlt).1.2.2.2.2.2; omega)
        go_upto_region 7 with (fail)
        go_quiet (fail)
        go_wp2_with fail
        go_ret
        exact ⟨ret_bool HF.out.symm, kge⟩
      have OK : Hid (okSq xs k) := ⟨by omega, by omega, by omega, by omega, by omega, by omega⟩
      obtain ⟨bad, hbad⟩ : ∃ bad : Bool, bad = true ↔ (0 < k ∧ ¬ ordSq xs (k - 1) k) := ⟨@decide (0 < k ∧ ¬ ordSq xs (k - 1) k) (Classical.propDecidable _), by simp⟩
      have HBad := Lib.hid hbad
      clear hbad
      go_upto_region 7 with (fail)
      go_cut [68] (fun s wx => s = .bool bad ∧ wx.cell? ⟨wr.heap.size, 0, none⟩ = some (.int .i64 (sx xs k)) ∧ wx.cell? ⟨wr.heap.size, 1, none⟩ = some (.int .i64 (sy xs k)) ∧ wx.cell? ⟨wr.heap.size, 2, none⟩ = some (.int .i64 (ss xs k)) ∧ Ge wr wx)
      case first =>
        by_cases hp : 0 < k
        · obtain ⟨j, rfl⟩ : ∃ j, k = j + 1 := ⟨k - 1, by omega⟩
          obtain ⟨b', o', e', x0, x1, x2⟩ := three_cells HC.out (show j < n by omega)
          simp only [Option.some.injEq, Addr.mk.injEq, and_true] at e'
          obtain ⟨rfl, rfl⟩ := e'
          have z0 := hg.keep x0
          have z1 := hg.keep x1
          have z2 := hg.keep x2
          clear x0 x1 x2
          change wr.cell? _ = some (.int .i64 (sx xs j)) at z0
          change wr.cell? _ = some (.int .i64 (sy xs j)) at z1
          change wr.cell? _ = some (.int .i64 (ss xs j)) at z2
          have w1 : IntKind.i64.wrap (((j + 1 : Nat) : Int) - 1) = (j : Int) := IntWalk.i64_in _ (by omega) |>.trans (by omega)
          have w2 : IntKind.i64.wrap (j : Int) = (j : Int) := IntWalk.i64_in _ (by omega)
          have j0 : (0 : Int) ≤ (j : Int) := by omega
          have j1 : (j : Int) < (n : Int) := by omega
          have w3 : ((j : Int) + 1 - 1) = (j : Int) := by omega
          have lb := World.block_lt_of_cell? wr _ z0
          simp at lb
          have c0 : decide (0 ≤ cmpSq (sx xs j) (sy xs j) (sx xs (j + 1)) (sy xs (j + 1))) = bad := by
            have h1 := HBad.out
            have h2 := @cmpSq_lt (sx xs j) (sy xs j) (sx xs (j + 1)) (sy xs (j + 1))
            have h3 : ordSq xs j (j + 1) ↔ cmpSq (sx xs j) (sy xs j) (sx xs (j + 1)) (sy xs (j + 1)) < 0 := h2.symm
            simp only [Nat.add_sub_cancel, h3] at h1
            cases bad with
            | true => have := h1.1 rfl; simp; omega
            | false =>
              simp
              by_cases h4 : cmpSq (sx xs j) (sy xs j) (sx xs (j + 1)) (sy xs (j + 1)) < 0
              · exact h4
              · exact absurd (h1.2 ⟨by omega, h4⟩) (by simp)
          have hS : ∀ w', Ge (wr.alloc (.cells #[.int .i64 (sx xs (j + 1)), .int .i64 (sy xs (j + 1)), .int .i64 (ss xs (j + 1))] 143)) w' → (w'.cell? ⟨wr.heap.size, 0, none⟩ = some (.int .i64 (sx xs (j + 1))) ∧ w'.cell? ⟨wr.heap.size, 1, none⟩ = some (.int .i64 (sy xs (j + 1))) ∧ w'.cell? ⟨wr.heap.size, 2, none⟩ = some (.int .i64 (ss xs (j + 1))) ∧ w'.cell? ⟨b, o + j * 3, none⟩ = some (.int .i64 (sx xs j)) ∧ w'.cell? ⟨b, o + j * 3 + 1, none⟩ = some (.int .i64 (sy xs j)) ∧ w'.cell? ⟨b, o + j * 3 + 2, none⟩ = some (.int .i64 (ss xs j)) ∧ Ge wr w') := fun w' g => ⟨g.keep (kch), g.keep (kch), g.keep (kch), g.keep (kch), g.keep (kch), g.keep (kch), Ge.trans (kch) g⟩
          go_region_held3 (fun w' => w'.cell? ⟨wr.heap.size, 0, none⟩ = some (.int .i64 (sx xs (j + 1))) ∧ w'.cell? ⟨wr.heap.size, 1, none⟩ = some (.int .i64 (sy xs (j + 1))) ∧ w'.cell? ⟨wr.heap.size, 2, none⟩ = some (.int .i64 (ss xs (j + 1))) ∧ w'.cell? ⟨b, o + j * 3, none⟩ = some (.int .i64 (sx xs j)) ∧ w'.cell? ⟨b, o + j * 3 + 1, none⟩ = some (.int .i64 (sy xs j)) ∧ w'.cell? ⟨b, o + j * 3 + 2, none⟩ = some (.int .i64 (ss xs j)) ∧ Ge wr w') (first | ((with_reducible refine hS _ ?_); exact kch) | fail) (first | (go_at_call 95; ((with_reducible refine (iByPlace _ _ _ _ _ _ _).mono ?_); rintro e w' ⟨rfl, hb⟩); have hz := Ge.size hb; (try simp at hz)) | fail)
          rename_i hHeldX
          obtain ⟨q0, q1, q2, q3, q4, q5, G7⟩ := hHeldX
          clear hS
          go_wp2_with fail
          go_meet
          exact ⟨rfl, q0, q1, q2, G7⟩
        · have hk0 : k = 0 := by omega
          subst hk0
          have hb0 : bad = false := by
            cases bad with
            | true => have := (HBad.out.1 rfl).1; omega
            | false => rfl
          subst hb0
          go_quiet (fail)
          go_wp2_with fail
          go_meet
          exact ⟨rfl, cell_drewN (cell_new rfl rfl), cell_drewN (cell_new rfl rfl), cell_drewN (cell_new rfl rfl), kge⟩
      case rest =>
        obtain ⟨rfl, q0, q1, q2, G7⟩ := hcut
        cases bad with
        | true =>
          have HF : Hid (tileB n xs = false) := tileB_false (fun h => by
            obtain ⟨e1, e2⟩ := HBad.out.1 rfl
            exact e2 ((h.2.2.1 k hlt).2.1 e1))
          go_wp2_with fail
          go_ret
          exact ⟨ret_bool HF.out.symm, kge⟩
        | false =>
          have hkc : k ≤ cap := by omega
          have hkn : k ≤ n := by omega
          go_wp2_with fail
          go_loopw [73] (fun i wi => ∃ j : Nat, j ≤ k ∧ i = .int .i64 j ∧ Hid (∀ i, i < j → ¬ overSq xs k i) ∧ Ge wc wi) (fun i _ => k - (intOf i).toNat)
          case atStart => exact ⟨0, Nat.zero_le _, rfl, fun i hi => by omega, Ge.refl _⟩
          case round =>
            obtain ⟨j, hj, rfl, HN, hgi⟩ := hrel
            by_cases hjk : j < k
            · obtain ⟨b', o', e', x0, x1, x2⟩ := three_cells HC.out (show j < n by omega)
              simp only [Option.some.injEq, Addr.mk.injEq, and_true] at e'
              obtain ⟨rfl, rfl⟩ := e'
              have z0 := hgi.keep (G7.keep (hg.keep x0))
              have z1 := hgi.keep (G7.keep (hg.keep x1))
              have z2 := hgi.keep (G7.keep (hg.keep x2))
              clear x0 x1 x2
              have p0 := hgi.keep q0
              have p1 := hgi.keep q1
              have p2 := hgi.keep q2
              have lz := World.block_lt_of_cell? _ _ p0
              simp at lz
              obtain ⟨r0, r1, r2, r3, r4, r5⟩ := (HK.out j hjk).1
              change wr.cell? _ = some (.int .i64 (sx xs j)) at z0
              change wr.cell? _ = some (.int .i64 (sy xs j)) at z1
              change wr.cell? _ = some (.int .i64 (ss xs j)) at z2
              by_cases c1 : sx xs k < sx xs j + ss xs j
              · by_cases c2 : sx xs j < sx xs k + ss xs k
                · by_cases c3 : sy xs k < sy xs j + ss xs j
                  · by_cases c4 : sy xs j < sy xs k + ss xs k
                    · have HF : Hid (tileB n xs = false) := tileB_false (fun h => (h.2.2.1 k hlt).2.2 j hjk ⟨c1, c2, c3, c4⟩)
                      go_wp2_with fail
                      go_ret
                      exact ⟨ret_bool HF.out.symm, kge⟩
                    · have HN2 : Hid (∀ i, i < j + 1 → ¬ overSq xs k i) := no_step HN (fun h => by unfold overSq at h; omega)
                      go_wp2_with fail
                      go_roundw
                      case rel => exact ⟨j + 1, by omega, by go_num, HN2, kge⟩
                      case measure => simp [intOf]; omega
                  · have HN2 : Hid (∀ i, i < j + 1 → ¬ overSq xs k i) := no_step HN (fun h => by unfold overSq at h; omega)
                    go_wp2_with fail
                    go_roundw
                    case rel => exact ⟨j + 1, by omega, by go_num, HN2, kge⟩
                    case measure => simp [intOf]; omega
                · have HN2 : Hid (∀ i, i < j + 1 → ¬ overSq xs k i) := no_step HN (fun h => by unfold overSq at h; omega)
                  go_wp2_with fail
                  go_roundw
                  case rel => exact ⟨j + 1, by omega, by go_num, HN2, kge⟩
                  case measure => simp [intOf]; omega
              · have HN2 : Hid (∀ i, i < j + 1 → ¬ overSq xs k i) := no_step HN (fun h => by unfold overSq at h; omega)
                go_wp2_with fail
                go_roundw
                case rel => exact ⟨j + 1, by omega, by go_num, HN2, kge⟩
                case measure => simp [intOf]; omega
            · have hjk2 : j = k := by omega
              subst hjk2
              have HG : Hid (∀ i, i < j + 1 → goodSq xs i) := good_next HK ⟨OK.out, fun h0 => Classical.byContradiction fun h => by have := HBad.out.2 ⟨h0, h⟩; simp at this, HN.out⟩
              have p0 := hgi.keep q0
              have p1 := hgi.keep q1
              have p2 := hgi.keep q2
              have HX : Hid (minX xs (j + 1) = min (minX xs j) (sx xs j)) := rfl
              have HY : Hid (minY xs (j + 1) = min (minY xs j) (sy xs j)) := rfl
              have HA : Hid (areaSq xs (j + 1) = areaSq xs j + ss xs j * ss xs j) := rfl
              obtain ⟨m0, m1⟩ := minX_bd j (fun i hi => (HK.out i hi).1)
              obtain ⟨m2, m3⟩ := minY_bd j (fun i hi => (HK.out i hi).1)
              obtain ⟨m4, m5⟩ := area_bd j (fun i hi => (HK.out i hi).1)
              have m6 : ss xs j * ss xs j ≤ 200 * 200 := Int.mul_le_mul (by omega) (by omega) (by omega) (by omega)
              have m7 : 0 ≤ ss xs j * ss xs j := Int.mul_nonneg (by omega) (by omega)
              generalize hq : ss xs j * ss xs j = q at *
              go_wp2_with fail
              go_roundw
              case rel => exact ⟨j + 1, by omega, by go_num, congrArg _ (by rw [HX.out] <;> (split <;> omega)), congrArg _ (by rw [HY.out] <;> (split <;> omega)), congrArg _ (by rw [HA.out]), HG, kge⟩
              case measure => simp [intOf]; omega
    · have hkn : k = n := by omega
      subst hkn
      have hn12 : k ≤ 12 := by omega
      obtain ⟨m0, m1⟩ := minX_bd k (fun i hi => (HK.out i hi).1)
      obtain ⟨m2, m3⟩ := minY_bd k (fun i hi => (HK.out i hi).1)
      obtain ⟨m4, m5⟩ := area_bd k (fun i hi => (HK.out i hi).1)
      obtain ⟨r0, r1⟩ := right_bd k (fun i hi => (HK.out i hi).1)
      obtain ⟨l0, l1⟩ := low_bd k (fun i hi => (HK.out i hi).1)
      have m6 : rightSq xs k * lowSq xs k ≤ 400 * 400 := Int.mul_le_mul (by omega) (by omega) (by omega) (by omega)
      have m7 : 0 ≤ rightSq xs k * lowSq xs k := Int.mul_nonneg (by omega) (by omega)
      have HS : ∀ w', Ge w w' → SlF w' (.slice p k cap) k 3 xs := fun w' g => HV.out.ge g
      have HOK : Hid (∀ i, i < k → okSq xs i) := fun i hi => (HK.out i hi).1
      by_cases e1 : minX xs k = 0
      · have e1b : (minX xs k == 0) = true := by simp [e1]
        by_cases e2 : minY xs k = 0
        · have e2b : (minY xs k == 0) = true := by simp [e2]
          by_cases e3 : areaSq xs k = rightSq xs k * lowSq xs k
          · have e3b : (areaSq xs k == rightSq xs k * lowSq xs k) = true := by simp [e3]
            have HF : Hid (tileB k xs = true) := tileB_true ⟨by omega, by omega, HK.out, e1, e2, e3⟩
            go_wp2_with (go_at_call 125; ((with_reducible refine (iSides _ _ _ _ (HS _ hg) hn12 HOK.out).mono ?_); rintro e w' ⟨rfl, hb⟩))
            go_ret
            exact ⟨ret_bool HF.out.symm, kge⟩
          · have e3b : (areaSq xs k == rightSq xs k * lowSq xs k) = false := by simp [e3]
            have HF : Hid (tileB k xs = false) := tileB_false (fun h => e3 h.2.2.2.2.2)
            go_wp2_with (go_at_call 125; ((with_reducible refine (iSides _ _ _ _ (HS _ hg) hn12 HOK.out).mono ?_); rintro e w' ⟨rfl, hb⟩))
            go_ret
            exact ⟨ret_bool HF.out.symm, kge⟩
        · have e2b : (minY xs k == 0) = false := by simp [e2]
          have HF : Hid (tileB k xs = false) := tileB_false (fun h => e2 h.2.2.2.2.1)
          go_wp2_with (go_at_call 125; ((with_reducible refine (iSides _ _ _ _ (HS _ hg) hn12 HOK.out).mono ?_); rintro e w' ⟨rfl, hb⟩))
          go_ret
          exact ⟨ret_bool HF.out.symm, kge⟩
      · have e1b : (minX xs k == 0) = false := by simp [e1]
        have HF : Hid (tileB k xs = false) := tileB_false (fun h => e1 h.2.2.2.1)
        go_wp2_with (go_at_call 125; ((with_reducible refine (iSides _ _ _ _ (HS _ hg) hn12 HOK.out).mono ?_); rintro e w' ⟨rfl, hb⟩))
        go_ret
        exact ⟨ret_bool HF.out.symm, kge⟩
end Go.Proofs.YtagiecajffhnpaaGreat

namespace Go.Proofs.YtagiecajffhnpaaGreat
set_option maxRecDepth 100000
open Go.ChangeShapes Go.WideShapes Go.ChangeAt Go.RowKit Go.Joins

noncomputable def heightQ (n : Nat) (xs : List Int) : Int := if tileB n xs = true then lowSq xs n else 0
theorem heightQ_t {n : Nat} {xs : List Int} (h : tileB n xs = true) : heightQ n xs = lowSq xs n := by simp [heightQ, h]
theorem heightQ_f {n : Nat} {xs : List Int} (h : tileB n xs = false) : heightQ n xs = 0 := by simp [heightQ, h]

set_option maxHeartbeats 800000 in
theorem iHeightOf (v : Value) (n : Nat) (xs : List Int) (w : World) (hv : SlF w v n 3 xs) (hm : n ≤ 9223372036854775807) (hb : ∀ j, -9223372036854775808 ≤ nth xs j ∧ nth xs j ≤ 9223372036854775807) (hcap : ∀ p c, v = .slice p n c → n ≤ c) :
    Calls Tryz.prog 98 #[v] w fun e w' => e = .returned (.int .i64 (heightQ n xs)) ∧ Ge w w' := by
  obtain ⟨p, cap, rfl, hc⟩ := hv.open
  have HV := Lib.hid hv
  have HBd := Lib.hid hb
  have HCap := Lib.hid hcap
  have HT : Hid (tileB n xs = true → tileP n xs) := fun h => by
    unfold tileB at h
    split at h
    · assumption
    · cases h
  clear hv hc hb hcap
  by_cases hB : tileB n xs = true
  · obtain ⟨_, h12, hsq, _⟩ := HT.out hB
    have HOK : Hid (∀ i, i < n → okSq xs i) := fun i hi => (hsq i hi).1
    clear hsq
    have HF := Lib.hid (heightQ_t hB)
    go_enter Tryz.func98, Tryz.ntmps98
    go_wp2_with (first | (go_at_call 96; ((with_reducible refine (iTilingOk _ n xs _ HV.out hm HBd.out HCap.out).mono ?_); rintro e w' ⟨rfl, hb⟩)) | (go_at_call 125; ((with_reducible refine (iSides _ n xs _ (HV.out.ge hb) h12 HOK.out).mono ?_); rintro e w' ⟨rfl, hr⟩)))
    go_ret
    exact ⟨ret_int HF.out.symm, kge⟩
  · have hB : tileB n xs = false := by simpa using hB
    have HF := Lib.hid (heightQ_f hB)
    go_enter Tryz.func98, Tryz.ntmps98
    go_wp2_with ((go_at_call 96; ((with_reducible refine (iTilingOk _ n xs _ HV.out hm HBd.out HCap.out).mono ?_); rintro e w' ⟨rfl, hb⟩)))
    go_ret
    exact ⟨ret_int HF.out.symm, kge⟩

noncomputable def widthQ (n : Nat) (xs : List Int) : Int := if tileB n xs = true then rightSq xs n else 0
theorem widthQ_t {n : Nat} {xs : List Int} (h : tileB n xs = true) : widthQ n xs = rightSq xs n := by simp [widthQ, h]
theorem widthQ_f {n : Nat} {xs : List Int} (h : tileB n xs = false) : widthQ n xs = 0 := by simp [widthQ, h]

set_option maxHeartbeats 800000 in
theorem iWidthOf (v : Value) (n : Nat) (xs : List Int) (w : World) (hv : SlF w v n 3 xs) (hm : n ≤ 9223372036854775807) (hb : ∀ j, -9223372036854775808 ≤ nth xs j ∧ nth xs j ≤ 9223372036854775807) (hcap : ∀ p c, v = .slice p n c → n ≤ c) :
    Calls Tryz.prog 97 #[v] w fun e w' => e = .returned (.int .i64 (widthQ n xs)) ∧ Ge w w' := by
  obtain ⟨p, cap, rfl, hc⟩ := hv.open
  have HV := Lib.hid hv
  have HBd := Lib.hid hb
  have HCap := Lib.hid hcap
  have HT : Hid (tileB n xs = true → tileP n xs) := fun h => by
    unfold tileB at h
    split at h
    · assumption
    · cases h
  clear hv hc hb hcap
  by_cases hB : tileB n xs = true
  · obtain ⟨_, h12, hsq, _⟩ := HT.out hB
    have HOK : Hid (∀ i, i < n → okSq xs i) := fun i hi => (hsq i hi).1
    clear hsq
    have HF := Lib.hid (widthQ_t hB)
    go_enter Tryz.func97, Tryz.ntmps97
    go_wp2_with (first | (go_at_call 96; ((with_reducible refine (iTilingOk _ n xs _ HV.out hm HBd.out HCap.out).mono ?_); rintro e w' ⟨rfl, hb⟩)) | (go_at_call 125; ((with_reducible refine (iSides _ n xs _ (HV.out.ge hb) h12 HOK.out).mono ?_); rintro e w' ⟨rfl, hr⟩)))
    go_ret
    exact ⟨ret_int HF.out.symm, kge⟩
  · have hB : tileB n xs = false := by simpa using hB
    have HF := Lib.hid (widthQ_f hB)
    go_enter Tryz.func97, Tryz.ntmps97
    go_wp2_with ((go_at_call 96; ((with_reducible refine (iTilingOk _ n xs _ HV.out hm HBd.out HCap.out).mono ?_); rintro e w' ⟨rfl, hb⟩)))
    go_ret
    exact ⟨ret_int HF.out.symm, kge⟩
end Go.Proofs.YtagiecajffhnpaaGreat

namespace Go.Proofs.YtagiecajffhnpaaGreat

open Go.RowKit

def squareTxt (x y z : Int) : List UInt8 := fmtInt z ++ [64] ++ fmtInt x ++ [44] ++ fmtInt y

theorem squareTxt_eq (x y z : Int) : bstr (fmtInt z) ++ (⟨#[64]⟩ : ByteArray) ++ bstr (fmtInt x) ++ (⟨#[44]⟩ : ByteArray) ++ bstr (fmtInt y) = bstr (squareTxt x y z) := by
  show bstr (fmtInt z) ++ bstr [64] ++ bstr (fmtInt x) ++ bstr [44] ++ bstr (fmtInt y) = _
  rw [bstr_append, bstr_append, bstr_append, bstr_append]; rfl

theorem square_z (x y z : Int) : (¬ 9223372036854775807 < (bstr (fmtInt z)).size + 1) ∧ (¬ 9223372036854775807 < (bstr (fmtInt z)).size + 1 + (bstr (fmtInt x)).size) ∧
    (¬ 9223372036854775807 < (bstr (fmtInt z)).size + 1 + (bstr (fmtInt x)).size + 1) ∧ (¬ 9223372036854775807 < (bstr (fmtInt z)).size + 1 + (bstr (fmtInt x)).size + 1 + (bstr (fmtInt y)).size) := by
  have := fmtInt_length x; have := fmtInt_length y; have := fmtInt_length z; rw [bstr_size, bstr_size, bstr_size]; omega

set_option maxHeartbeats 400000 in
theorem iFormatSquare (x y z : Int) (w : World) (hx : -9223372036854775808 ≤ x ∧ x ≤ 9223372036854775807) (hy : -9223372036854775808 ≤ y ∧ y ≤ 9223372036854775807) (hz : -9223372036854775808 ≤ z ∧ z ≤ 9223372036854775807) :
    Calls Tryz.prog 99 #[.agg #[.int .i64 x, .int .i64 y, .int .i64 z]] w fun e w' => e = .returned (.string (bstr (squareTxt x y z))) ∧ Ge w w' := by
  obtain ⟨x0, x1⟩ := hx
  obtain ⟨y0, y1⟩ := hy
  obtain ⟨z0, z1⟩ := hz
  obtain ⟨u1, u2, u3, u4⟩ := square_z x y z
  go_enter Tryz.func99, Tryz.ntmps99
  go_wp2_with fail
  go_region_held3 (fun w' => w'.cell? ⟨w.heap.size, 0, none⟩ = some (.int .i64 x) ∧ w'.cell? ⟨w.heap.size, 1, none⟩ = some (.int .i64 y) ∧ w'.cell? ⟨w.heap.size, 2, none⟩ = some (.int .i64 z) ∧ Ge w w') (exact ⟨by simp, by simp, by simp, kge⟩)
    (first | (go_at_call 6; ((with_reducible refine (iFormatInt _ _ (by assumption) (by assumption)).mono ?_); rintro e w' ⟨rfl, rfl⟩)) | fail)
  go_wp2_with fail
  go_ret
  exact ⟨ret_str (squareTxt_eq _ _ _), kge⟩

end Go.Proofs.YtagiecajffhnpaaGreat

namespace Go.Proofs.YtagiecajffhnpaaGreat
set_option maxRecDepth 100000
open Go.ChangeShapes Go.WideShapes Go.ChangeAt Go.RowKit Go.Joins

def sqTxt (xs : List Int) (j : Nat) : List UInt8 := squareTxt (sx xs j) (sy xs j) (ss xs j)
def sqTxts (xs : List Int) (k : Nat) : List (List UInt8) := (List.range k).map (sqTxt xs)
theorem sqTxts_succ (xs : List Int) (k : Nat) : sqTxts xs (k + 1) = sqTxts xs k ++ [sqTxt xs k] := by simp [sqTxts, List.range_succ]
theorem sqTxts_length (xs : List Int) (k : Nat) : (sqTxts xs k).length = k := by simp [sqTxts]
theorem squareTxt_le (x y z : Int) : (squareTxt x y z).length ≤ 68 := by
  have := fmtInt_length x; have := fmtInt_length y; have := fmtInt_length z
  simp [squareTxt]; omega
/-- The line up to the k-th square. -/
def tilePart (n : Nat) (xs : List Int) (k : Nat) : List UInt8 := fmtInt (rightSq xs n) ++ [32, 120, 32] ++ fmtInt (lowSq xs n) ++ Lib.joinTail [32] (sqTxts xs k)
theorem tilePart_le (n : Nat) (xs : List Int) (k : Nat) : (tilePart n xs k).length ≤ 47 + 69 * k := by
  have h1 := fmtInt_length (rightSq xs n)
  have h2 := fmtInt_length (lowSq xs n)
  have h3 := joinTail_le [32] (sqTxts xs k) 68 (fun x hx => by
    simp only [sqTxts, List.mem_map] at hx
    obtain ⟨j, _, rfl⟩ := hx
    exact squareTxt_le _ _ _)
  rw [sqTxts_length] at h3
  simp [tilePart] at h3 ⊢
  omega
theorem tile_join (n : Nat) (xs : List Int) (k : Nat) : Lib.join ([fmtInt (rightSq xs n), [120], fmtInt (lowSq xs n)] ++ sqTxts xs k) [32] = tilePart n xs k := by
  simp [Lib.join_cons, Lib.joinTail, tilePart]
noncomputable def tileLine (n : Nat) (xs : List Int) : List UInt8 := if tileB n xs = true then tilePart n xs n else []
theorem tileLine_t {n : Nat} {xs : List Int} (h : tileB n xs = true) : bstr (tileLine n xs) = bstr (tilePart n xs n) := by simp [tileLine, h]
theorem tileLine_f {n : Nat} {xs : List Int} (h : tileB n xs = false) : bstr (tileLine n xs) = ⟨#[]⟩ := by simp [tileLine, h, bstr]

set_option maxHeartbeats 1600000 in
theorem iTilingLine (v : Value) (n : Nat) (xs : List Int) (w : World) (hv : SlF w v n 3 xs) (hm : n ≤ 9223372036854775807) (hb : ∀ j, -9223372036854775808 ≤ nth xs j ∧ nth xs j ≤ 9223372036854775807) (hcap : ∀ p c, v = .slice p n c → n ≤ c) :
    Calls Tryz.prog 60 #[v] w fun e w' => e = .returned (.string (bstr (tileLine n xs))) ∧ Ge w w' := by
  obtain ⟨p, cap, rfl, hc⟩ := hv.open
  have HV := Lib.hid hv
  have HC := Lib.hid hc
  have HBd := Lib.hid hb
  have HCap := Lib.hid hcap
  clear hv hc hb hcap
  by_cases hB : tileB n xs = true
  · obtain ⟨h0, h12, hsq, _⟩ : tileP n xs := by
      unfold tileB at hB
      split at hB
      · assumption
      · cases hB
    have HOK : Hid (∀ i, i < n → okSq xs i) := fun i hi => (hsq i hi).1
    obtain ⟨r0, r1⟩ := right_bd n (fun i hi => HOK.out i hi)
    obtain ⟨l0, l1⟩ := low_bd n (fun i hi => HOK.out i hi)
    have HF := Lib.hid (tileLine_t hB)
    have HW := widthQ_t hB
    have HH := heightQ_t hB
    clear hsq
    go_enter Tryz.func60, Tryz.ntmps60
    go_wp2_with (first
      | (go_at_call 96; ((with_reducible refine (iTilingOk _ n xs _ HV.out hm HBd.out HCap.out).mono ?_); rintro e w1 ⟨rfl, g1⟩))
      | (go_at_call 97; ((with_reducible refine (iWidthOf _ n xs _ (HV.out.ge g1) hm HBd.out HCap.out).mono ?_); rintro e w2 ⟨rfl, g2⟩; rw [HW]))
      | (go_at_call 98; ((with_reducible refine (iHeightOf _ n xs _ (HV.out.ge (g1.trans g2)) hm HBd.out HCap.out).mono ?_); rintro e w3 ⟨rfl, g3⟩; rw [HH]))
      | (go_at_call 6; ((with_reducible refine (iFormatInt _ _ (by omega) (by omega)).mono ?_); rintro e w' ⟨rfl, rfl⟩)))
    go_loopw [3, 18] (fun s i wr => ∃ k : Nat, k ≤ n ∧ i = .int .i64 k ∧ wr.ownsRow w.heap.size 9 1 s ([fmtInt (rightSq xs n), [120], fmtInt (lowSq xs n)] ++ sqTxts xs k).length (scells ([fmtInt (rightSq xs n), [120], fmtInt (lowSq xs n)] ++ sqTxts xs k)) ∧ Ge w wr) (fun _ i _ => n - (intOf i).toNat)
    case atStart => exact ⟨0, Nat.zero_le _, rfl, World.ownsRow_lit w3 _ 3 (by have := (g1.trans (g2.trans g3)).size; omega) (by unfold maxLen; omega) rfl, kge⟩
    case round =>
      obtain ⟨k, hk, rfl, hown, hg⟩ := hrel
      by_cases hlt : k < n
      · obtain ⟨b, o, rfl, x0, x1, x2⟩ := three_cells HC.out hlt
        have y0 := hg.keep x0
        have y1 := hg.keep x1
        have y2 := hg.keep x2
        clear x0 x1 x2
        change wr.cell? _ = some (.int .i64 (sx xs k)) at y0
        change wr.cell? _ = some (.int .i64 (sy xs k)) at y1
        change wr.cell? _ = some (.int .i64 (ss xs k)) at y2
        obtain ⟨q0, q1, q2, q3, q4, q5⟩ := HOK.out k hlt
        have HL : Hid (([fmtInt (rightSq xs n), [120], fmtInt (lowSq xs n)] ++ sqTxts xs k).length < 1099511627776) := by
          show _ < _
          rw [List.length_append, sqTxts_length]; simp; omega
        have HS : Hid (([fmtInt (rightSq xs n), [120], fmtInt (lowSq xs n)] ++ sqTxts xs k) ++ [squareTxt (sx xs k) (sy xs k) (ss xs k)] = [fmtInt (rightSq xs n), [120], fmtInt (lowSq xs n)] ++ sqTxts xs (k + 1)) := by
          show _ = _
          rw [sqTxts_succ, List.append_assoc]; rfl
        generalize [fmtInt (rightSq xs n), [120], fmtInt (lowSq xs n)] ++ sqTxts xs k = L at *
        generalize sx xs k = X at *
        generalize sy xs k = Y at *
        generalize ss xs k = Z at *
        go_wp2_with (first
          | (go_at_call 99; ((with_reducible refine (iFormatSquare _ _ _ _ (by omega) (by omega) (by omega)).mono ?_); rintro e w5 ⟨rfl, g5⟩; have own2 := Ge.owns g5 (hown.alloc _); have G5 : Ge w w5 := Ge.trans (Ge.alloc hg _) g5; have Z5 := G5.size))
          | (at_builtin; refine ap_str rfl _ _ rfl w.heap.size u3 L rfl own2 _ rfl HL.out Z5 ?_; intro v' w6 own6 hm6))
        go_roundw
        case rel => exact ⟨k + 1, by omega, by go_num, by have := own6; rwa [HS.out] at this, G5.mine own2 (Nat.le_refl _) hm6⟩
        case measure => simp [intOf]; omega
      · have hkn : k = n := by omega
        subst hkn
        have hj := tile_join k xs k
        have hl := tilePart_le k xs k
        have HJ := Lib.hid hj
        have H1 : Hid (([fmtInt (rightSq xs k), [120], fmtInt (lowSq xs k)] ++ sqTxts xs k).length ≤ 140737488355328) := by
          show _ ≤ _
          rw [List.length_append, sqTxts_length]; simp; omega
        have H2 : Hid ((Lib.join ([fmtInt (rightSq xs k), [120], fmtInt (lowSq xs k)] ++ sqTxts xs k) [32]).length ≤ 140737488355328) := by
          show _ ≤ _
          rw [hj]; omega
        clear hj hl
        obtain ⟨p3, c3, rfl⟩ := owns_form hown
        generalize [fmtInt (rightSq xs k), [120], fmtInt (lowSq xs k)] ++ sqTxts xs k = L at *
        have hJ : Calls Tryz.prog 12 #[.slice p3 L.length c3, .string ⟨#[32]⟩] wr fun en w' => en = .returned (.string (bstr (Lib.join L [32]))) ∧ Ge wr w' := iJoin w.heap.size 9 _ L [32] _ hown H1.out H2.out
        go_wp2_with ((go_at_call 12; ((with_reducible refine (hJ).mono ?_); rintro e w5 ⟨rfl, g5⟩)))
        go_ret
        exact ⟨ret_str (by rw [HF.out, HJ.out]), kge⟩
  · have hB : tileB n xs = false := by simpa using hB
    have HF := Lib.hid (tileLine_f hB)
    go_enter Tryz.func60, Tryz.ntmps60
    go_wp2_with ((go_at_call 96; ((with_reducible refine (iTilingOk _ n xs _ HV.out hm HBd.out HCap.out).mono ?_); rintro e w1 ⟨rfl, g1⟩)))
    go_ret
    exact ⟨ret_str (by rw [HF.out]), kge⟩

end Go.Proofs.YtagiecajffhnpaaGreat

namespace Go.Proofs.YtagiecajffhnpaaGreat
set_option maxRecDepth 100000
open Go.ChangeShapes Go.WideShapes Go.ChangeAt Go.RowKit Go.Joins

def iTx (l : List Int) (k : Nat) : List (List UInt8) := (l.take k).map fmtInt
theorem iTx_succ {l : List Int} {k : Nat} (h : k < l.length) : iTx l (k + 1) = iTx l k ++ [fmtInt (nth l k)] := by
  unfold iTx
  rw [List.take_succ_eq_append_getElem h, nth_eq l k h, List.map_append]
  rfl
theorem iTx_len {l : List Int} {k : Nat} (h : k ≤ l.length) : (iTx l k).length = k := by simp [iTx]; omega
theorem iTx_all (l : List Int) : iTx l l.length = l.map fmtInt := by simp [iTx]
/-- Integers with spaces between them. -/
def spTxt (l : List Int) : List UInt8 := Lib.join (l.map fmtInt) [32]

set_option maxHeartbeats 1600000 in
theorem iSpaced (v : Value) (l : List Int) (n : Nat) (w : World) (hv : SlI w v l) (hn : l.length = n) (hm : n ≤ 2000) (hb : ∀ x ∈ l, -9223372036854775808 ≤ x ∧ x ≤ 9223372036854775807) :
    Calls Tryz.prog 56 #[v] w fun e w' => e = .returned (.string (bstr (spTxt l))) ∧ Ge w w' := by
  obtain ⟨p, cap, rfl, hc⟩ := hv.openN hn
  have HC := Lib.hid hc
  have HB : Hid (∀ k, k < n → -9223372036854775808 ≤ nth l k ∧ nth l k ≤ 9223372036854775807) := by
    show ∀ k, _
    intro k hk
    rw [nth_eq l k (by omega)]
    exact hb _ (List.getElem_mem _)
  have HSs := Lib.hid (fun k (h : k < n) => iTx_succ (l := l) (k := k) (by omega))
  have HLl := Lib.hid (fun k (h : k ≤ n) => iTx_len (l := l) (k := k) (by omega))
  have HA : Hid (iTx l n = l.map fmtInt) := by show _ = _; rw [← hn]; exact iTx_all l
  have HT : Hid (spTxt l = Lib.join (iTx l n) [32]) := by show _ = _; rw [HA.out]; rfl
  have HTl : Hid ((Lib.join (iTx l n) [32]).length ≤ 140737488355328) := by
    show _ ≤ _
    have := join_le [32] (iTx l n) 22 (fun x hx => by
      rw [HA.out] at hx
      obtain ⟨y, _, rfl⟩ := List.mem_map.1 hx
      exact fmtInt_length y)
    rw [HLl.out n (Nat.le_refl _), show ([32] : List UInt8).length = 1 from rfl] at this
    omega
  clear hv hc hn hb
  go_enter Tryz.func56, Tryz.ntmps56
  go_wp2_with fail
  go_loopw [3, 9] (fun s i wr => ∃ k : Nat, k ≤ n ∧ i = .int .i64 k ∧ wr.ownsRow w.heap.size 9 1 s (iTx l k).length (scells (iTx l k)) ∧ Ge w wr) (fun _ i _ => n - (intOf i).toNat)
  case atStart => exact ⟨0, Nat.zero_le _, rfl, owns_lit0 _ _ _, kge⟩
  case round =>
    obtain ⟨k, hk, rfl, hown, hg⟩ := hrel
    by_cases hlt : k < n
    · obtain ⟨b, o, rfl, x0⟩ := HC.out k hlt
      have y0 := hg.keep x0
      clear x0
      obtain ⟨b1, b2⟩ := HB.out k hlt
      have HS := Lib.hid (HSs.out k hlt)
      have hl := HLl.out k hk
      have HL : Hid ((iTx l k).length < 1099511627776) := by
        show _ < _
        omega
      have zg := hg.size
      clear hl
      generalize iTx l k = L at *
      generalize nth l k = X at *
      have HO := Lib.hid hown
      clear hown
      go_wp2_with (first
        | (go_at_call 6; ((with_reducible refine (iFormatInt _ _ b1 b2).mono ?_); rintro e w5 ⟨rfl, rfl⟩; have own2 := HO.out; have G5 : Ge w wr := hg; have Z5 := G5.size))
        | (at_builtin; refine ap_str rfl _ _ rfl w.heap.size u3 L rfl own2 _ rfl HL.out Z5 ?_; intro v' w6 own6 hm6))
      go_roundw
      case rel => exact ⟨k + 1, by omega, by go_num, by have := own6; rwa [← HS.out] at this, G5.mine own2 (Nat.le_refl _) hm6⟩
      case measure => simp [intOf]; omega
    · have hkn : k = n := by omega
      subst hkn
      have HO := Lib.hid hown
      clear hown
      have hlen := HLl.out k (Nat.le_refl _)
      have h3 := HO.out
      rw [hlen] at h3
      obtain ⟨p3, c3, rfl⟩ := owns_form h3
      have hJ : Calls Tryz.prog 12 #[.slice p3 k c3, .string ⟨#[32]⟩] wr fun en w' => en = .returned (.string (bstr (Lib.join (iTx l k) [32]))) ∧ Ge wr w' := iJoin w.heap.size 9 _ (iTx l k) [32] _ HO.out (by omega) HTl.out
      replace hJ := Lib.hid hJ
      clear HO HTl h3 hlen
      go_wp2_with (go_at_call 12; ((with_reducible refine (hJ.out).mono ?_); rintro e w' ⟨rfl, g⟩))
      go_ret
      exact ⟨ret_str (by rw [HT.out]), Ge.trans hg g⟩

end Go.Proofs.YtagiecajffhnpaaGreat

namespace Go.Proofs.YtagiecajffhnpaaGreat

open Go.RowKit

def faultTxt (a b : Int) : List UInt8 := fmtInt a ++ [61] ++ fmtInt b

theorem faultTxt_eq (a b : Int) : bstr (fmtInt a) ++ (⟨#[61]⟩ : ByteArray) ++ bstr (fmtInt b) = bstr (faultTxt a b) := by
  show bstr (fmtInt a) ++ bstr [61] ++ bstr (fmtInt b) = _
  rw [bstr_append, bstr_append]; rfl

theorem fault_z (a b : Int) : (¬ 9223372036854775807 < (bstr (fmtInt a)).size + 1) ∧ (¬ 9223372036854775807 < (bstr (fmtInt a)).size + 1 + (bstr (fmtInt b)).size) := by
  have := fmtInt_length a; have := fmtInt_length b; rw [bstr_size, bstr_size]; omega

set_option maxHeartbeats 400000 in
theorem iFormatFault (a b : Int) (w : World) (ha : -9223372036854775808 ≤ a ∧ a ≤ 9223372036854775807) (hb : -9223372036854775808 ≤ b ∧ b ≤ 9223372036854775807) :
    Calls Tryz.prog 91 #[.agg #[.int .i64 a, .int .i64 b]] w fun e w' => e = .returned (.string (bstr (faultTxt a b))) ∧ Ge w w' := by
  obtain ⟨a0, a1⟩ := ha
  obtain ⟨b0, b1⟩ := hb
  obtain ⟨z1, z2⟩ := fault_z a b
  go_enter Tryz.func91, Tryz.ntmps91
  go_wp2_with fail
  go_region_held3 (fun w' => w'.cell? ⟨w.heap.size, 0, none⟩ = some (.int .i64 a) ∧ w'.cell? ⟨w.heap.size, 1, none⟩ = some (.int .i64 b) ∧ Ge w w') (exact ⟨by simp, by simp, kge⟩)
    (first | (go_at_call 6; ((with_reducible refine (iFormatInt _ _ (by assumption) (by assumption)).mono ?_); rintro e w' ⟨rfl, rfl⟩)) | fail)
  go_wp2_with fail
  go_ret
  exact ⟨ret_str (faultTxt_eq _ _), kge⟩

end Go.Proofs.YtagiecajffhnpaaGreat

namespace Go.Proofs.YtagiecajffhnpaaGreat
set_option maxRecDepth 100000
open Go.ChangeShapes Go.WideShapes Go.ChangeAt Go.RowKit Go.Joins

def fTxts (xs : List Int) (k : Nat) : List (List UInt8) := (List.range k).map fun j => faultTxt (nth xs (j * 2)) (nth xs (j * 2 + 1))
theorem fTxts_succ (xs : List Int) (k : Nat) : fTxts xs (k + 1) = fTxts xs k ++ [faultTxt (nth xs (k * 2)) (nth xs (k * 2 + 1))] := by simp [fTxts, List.range_succ]
theorem fTxts_length (xs : List Int) (k : Nat) : (fTxts xs k).length = k := by simp [fTxts]
theorem fTxts_join (xs : List Int) (k : Nat) : (Lib.join (fTxts xs k) [32]).length ≤ 46 * k := by
  have h := join_le [32] (fTxts xs k) 45 (fun x hx => by
    simp only [fTxts, List.mem_map] at hx
    obtain ⟨j, _, rfl⟩ := hx
    have := fmtInt_length (nth xs (j * 2)); have := fmtInt_length (nth xs (j * 2 + 1))
    simp [faultTxt]; omega)
  rwa [fTxts_length] at h
def faultLine (n : Nat) (xs : List Int) : List UInt8 := if n = 0 then [110, 111, 110, 101] else Lib.join (fTxts xs n) [32]
theorem faultLine_0 {n : Nat} {xs : List Int} (h : n = 0) : bstr (faultLine n xs) = ⟨#[110, 111, 110, 101]⟩ := by simp [faultLine, h, bstr]
theorem faultLine_s {n : Nat} {xs : List Int} (h : ¬ n = 0) : bstr (faultLine n xs) = bstr (Lib.join (fTxts xs n) [32]) := by simp [faultLine, h]

set_option maxHeartbeats 1600000 in
theorem iFaultLine (v : Value) (n : Nat) (xs : List Int) (w : World) (hv : SlF w v n 2 xs) (hm : n ≤ 1048576) (hb : ∀ j, -9223372036854775808 ≤ nth xs j ∧ nth xs j ≤ 9223372036854775807) :
    Calls Tryz.prog 54 #[v] w fun e w' => e = .returned (.string (bstr (faultLine n xs))) ∧ Ge w w' := by
  obtain ⟨p, cap, rfl, hc⟩ := hv.open
  have HC := Lib.hid hc
  have HBd := Lib.hid hb
  clear hv hc hb
  go_enter Tryz.func54, Tryz.ntmps54
  go_wp2_with fail
  go_loopw [3, 9] (fun s i wr => ∃ k : Nat, k ≤ n ∧ i = .int .i64 k ∧ wr.ownsRow w.heap.size 9 1 s (fTxts xs k).length (scells (fTxts xs k)) ∧ Ge w wr) (fun _ i _ => n - (intOf i).toNat)
  case atStart => exact ⟨0, Nat.zero_le _, rfl, owns_lit0 _ _ _, kge⟩
  case round =>
    obtain ⟨k, hk, rfl, hown, hg⟩ := hrel
    by_cases hlt : k < n
    · obtain ⟨b, o, rfl, x0, x1⟩ := two_cells HC.out hlt
      have y0 := hg.keep x0
      have y1 := hg.keep x1
      clear x0 x1
      have B0 := HBd.out (k * 2)
      have B1 := HBd.out (k * 2 + 1)
      have HL : Hid ((fTxts xs k).length < 1099511627776) := by
        show _ < _
        rw [fTxts_length]; omega
      have HS : Hid (fTxts xs k ++ [faultTxt (nth xs (k * 2)) (nth xs (k * 2 + 1))] = fTxts xs (k + 1)) := (fTxts_succ _ _).symm
      generalize fTxts xs k = L at *
      generalize nth xs (k * 2) = X at *
      generalize nth xs (k * 2 + 1) = Y at *
      go_wp2_with (first
        | (go_at_call 91; ((with_reducible refine (iFormatFault _ _ _ B0 B1).mono ?_); rintro e w5 ⟨rfl, g5⟩; have own2 := Ge.owns g5 (hown.alloc _); have G5 : Ge w w5 := Ge.trans (Ge.alloc hg _) g5; have Z5 := G5.size))
        | (at_builtin; refine ap_str rfl _ _ rfl w.heap.size u3 L rfl own2 _ rfl HL.out Z5 ?_; intro v' w6 own6 hm6))
      go_roundw
      case rel => exact ⟨k + 1, by omega, by go_num, by have := own6; rwa [HS.out] at this, G5.mine own2 (Nat.le_refl _) hm6⟩
      case measure => simp [intOf]; omega
    · have hkn : k = n := by omega
      subst hkn
      have hown' := hown
      rw [fTxts_length] at hown
      have H1 : Hid ((fTxts xs k).length ≤ 140737488355328) := by
        show _ ≤ _
        rw [fTxts_length]; omega
      have H2 : Hid ((Lib.join (fTxts xs k) [32]).length ≤ 140737488355328) := by
        show _ ≤ _
        have := fTxts_join xs k; omega
      obtain ⟨p3, c3, rfl⟩ := owns_form hown
      by_cases hz : k = 0
      · have HF := Lib.hid (faultLine_0 (xs := xs) hz)
        have tz : ((k : Int) == 0) = true := by simp [hz]
        clear hz hown'
        go_wp2_with fail
        go_ret
        exact ⟨ret_str (by rw [HF.out]), kge⟩
      · have HF := Lib.hid (faultLine_s (xs := xs) hz)
        have tz : ((k : Int) == 0) = false := by simp [hz]
        have hJ : Calls Tryz.prog 12 #[.slice p3 k c3, .string ⟨#[32]⟩] wr fun en w' => en = .returned (.string (bstr (Lib.join (fTxts xs k) [32]))) ∧ Ge wr w' := iJoin w.heap.size 9 (.slice p3 k c3) (fTxts xs k) [32] _ hown' H1.out H2.out
        clear hz hown'
        go_wp2_with ((go_at_call 12; ((with_reducible refine (hJ).mono ?_); rintro e w5 ⟨rfl, g5⟩)))
        go_ret
        exact ⟨ret_str (by rw [HF.out]), kge⟩

end Go.Proofs.YtagiecajffhnpaaGreat

namespace Go.Proofs.YtagiecajffhnpaaGreat
set_option maxRecDepth 100000
open Go.ChangeShapes Go.WideShapes Go.ChangeAt Go.RowKit Go.Joins

noncomputable def comR (N E S : Int) (m : Nat) (xs : List Int) (a b : Int) : Rt := grdR (node2B N E S m xs a b) (ratioOf (wtAll xs m * forV N E S m xs a b) (treeV N E S m xs))
theorem com_f {N E S : Int} {m : Nat} {xs : List Int} {a b : Int} (h : node2B N E S m xs a b = false) : comR N E S m xs a b = ⟨0, 0⟩ := by unfold comR; rw [h]; rfl
theorem com_t {N E S : Int} {m : Nat} {xs : List Int} {a b : Int} (h : node2B N E S m xs a b = true) : comR N E S m xs a b = ratioOf (wtAll xs m * forV N E S m xs a b) (treeV N E S m xs) := by unfold comR; rw [h]; rfl
set_option maxHeartbeats 1600000 in
theorem iAllWeights (n : Nat) (E S : Int) (s : Value) (m : Nat) (xs : List Int) (w : World) (hs : SlF w s m 3 xs) (hm : m ≤ 10) (hn : n ≤ 5) (hok : ∀ k, k < m → goodW n xs k) :
    Calls Tryz.prog 89 #[.agg #[.int .i64 (n : Int), .int .i64 E, .int .i64 S, s]] w fun e w' => e = .returned (.int .i64 (wtAll xs m)) ∧ Ge w w' := by
  obtain ⟨p, cap, rfl, hc⟩ := hs.open
  have HV := Lib.hid hs
  have HK := Lib.hid hok
  clear hs hc hok
  have HA := Lib.hid (fun (v : Nat) w' (g : Ge w w') => iWeightAt n E S (.slice p m cap) m xs v w' (HV.out.ge g) hm HK.out)
  have HF : Hid (watS xs m n = wtAll xs m) := watS_all HK.out
  go_enter Tryz.func89, Tryz.ntmps89
  go_wp2_with fail
  go_loopw [3, 7] (fun t i wr => ∃ k : Nat, k ≤ n ∧ i = .int .i64 k ∧ t = .int .i64 (watS xs m k) ∧ Ge (w.alloc (.cells #[.int .i64 (n : Int), .int .i64 E, .int .i64 S, .slice p m cap] 33)) wr) (fun _ i _ => n - (intOf i).toNat)
  case atStart => exact ⟨0, Nat.zero_le _, rfl, rfl, kge⟩
  case round =>
    obtain ⟨k, hk, rfl, rfl, hg⟩ := hrel
    have hgw : Ge w wr := kge
    have c0 := hg.keep (cell_new (i := 0) rfl rfl)
    have c1 := hg.keep (cell_new (i := 1) rfl rfl)
    have c2 := hg.keep (cell_new (i := 2) rfl rfl)
    have c3 := hg.keep (cell_new (i := 3) rfl rfl)
    simp at c0 c1 c2 c3
    by_cases hlt : k < n
    · obtain ⟨b0, b1⟩ := watS_bd (m := m) HK.out k
      obtain ⟨d0, d1⟩ := wat_bd (N := (n : Int)) (k : Int) HK.out
      have b2 : watS xs m k ≤ 100000 := by
        have : 200 * (m : Int) * k ≤ 200 * m * 5 := Int.mul_le_mul_of_nonneg_left (by omega) (by omega)
        omega
      have HS : Hid (watS xs m k + wat xs k m = watS xs m (k + 1)) := rfl
      have W1 : wrap64 (watS xs m k + wat xs k m) = watS xs m k + wat xs k m := wr64 _ (by omega) (by omega)
      go_wp2_with (go_at_call 74; ((with_reducible refine (HA.out _ _ (kge)).mono ?_); rintro e w8 ⟨rfl, g8⟩))
      go_roundw
      case rel => exact ⟨k + 1, by omega, by go_num, by rw [← HS.out], kge⟩
      case measure => simp [intOf]; omega
    · have hkn : k = n := by omega
      subst hkn
      go_wp2_with fail
      go_ret
      exact ⟨ret_int HF.out, kge⟩

set_option maxHeartbeats 3200000 in
theorem iCommuteTime (N E S : Int) (s : Value) (m : Nat) (xs : List Int) (a b : Int) (w : World) (hs : SlF w s m 3 xs) (hm : m ≤ 9223372036854775807) :
    Calls Tryz.prog 53 #[.agg #[.int .i64 N, .int .i64 E, .int .i64 S, s], .int .i64 a, .int .i64 b] w fun e w' => e = .returned (.tuple #[.agg #[.int .i64 (comR N E S m xs a b).n, .int .i64 (comR N E S m xs a b).d], .bool (node2B N E S m xs a b)]) ∧ Ge w w' := by
  obtain ⟨p, cap, rfl, hc⟩ := hs.open
  have HV := Lib.hid hs
  clear hs hc
  cases hB : netB N E S m xs with
  | false =>
    have hT := node2_f0 (a := a) (b := b) hB
    have HF := Lib.hid (com_f hT)
    go_enter Tryz.func53, Tryz.ntmps53
    go_wp2_with ((go_at_call 43; ((with_reducible refine (iNetOk N E S _ m xs _ (HV.out.ge (Ge.alloc (Ge.alloc (Ge.refl w) _) _)) hm).mono ?_); rintro e w1 ⟨rfl, gw1⟩); have Gw1 : Ge w w1 := (Ge.trans (kge) gw1); have c0_0 : World.cell? w1 ⟨w.heap.size, 0, none⟩ = some (.int .i64 N) := Ge.keep gw1 kcell; have c0_1 : World.cell? w1 ⟨w.heap.size, 1, none⟩ = some (.int .i64 E) := Ge.keep gw1 kcell; have c0_2 : World.cell? w1 ⟨w.heap.size, 2, none⟩ = some (.int .i64 S) := Ge.keep gw1 kcell; have c0_3 : World.cell? w1 ⟨w.heap.size, 3, none⟩ = some (.slice p m cap) := Ge.keep gw1 kcell; have o1_0 : Own w1 ⟨w.heap.size + 1, 0, none⟩ _ := Ge.own gw1 (kown); have c1_0 := cv_some o1_0.1; have f1_0 := o1_0.2; clear o1_0; have o1_1 : Own w1 ⟨w.heap.size + 1, 1, none⟩ _ := Ge.own gw1 (kown); have c1_1 := cv_some o1_1.1; have f1_1 := o1_1.2; clear o1_1; have zw1 : w.heap.size + 2 ≤ w1.heap.size := (by have := Ge.size gw1; (try simp at this); omega)); rw [hB])
    exact bodyPost_ret (v := .tuple #[.agg #[.int .i64 0, .int .i64 0], .bool false]) (by simp [results, Tryz.results53, go_sem, *]) rfl ⟨by rw [HF.out, hT], kge⟩
  | true =>
    obtain ⟨⟨n1, n2⟩, h10, hK⟩ := net_wires hB
    have HK := Lib.hid hK
    clear hK
    obtain ⟨n, rfl⟩ : ∃ n : Nat, N = (n : Int) := ⟨N.toNat, by omega⟩
    by_cases ha : ¬ (0 ≤ a ∧ a < (n : Int))
    · have ia : nodeB n a = false := nodeB_f ha
      have hT := node2_f1 (E := E) (S := S) (m := m) (xs := xs) (b := b) ha
      have HF := Lib.hid (com_f hT)
      clear ha
      go_enter Tryz.func53, Tryz.ntmps53
      go_wp2_with (first | ((go_at_call 43; ((with_reducible refine (iNetOk (n : Int) E S _ m xs _ (HV.out.ge (Ge.alloc (Ge.alloc (Ge.refl w) _) _)) hm).mono ?_); rintro e w1 ⟨rfl, gw1⟩); have Gw1 : Ge w w1 := (Ge.trans (kge) gw1); have c0_0 : World.cell? w1 ⟨w.heap.size, 0, none⟩ = some (.int .i64 (n : Int)) := Ge.keep gw1 kcell; have c0_1 : World.cell? w1 ⟨w.heap.size, 1, none⟩ = some (.int .i64 E) := Ge.keep gw1 kcell; have c0_2 : World.cell? w1 ⟨w.heap.size, 2, none⟩ = some (.int .i64 S) := Ge.keep gw1 kcell; have c0_3 : World.cell? w1 ⟨w.heap.size, 3, none⟩ = some (.slice p m cap) := Ge.keep gw1 kcell; have o1_0 : Own w1 ⟨w.heap.size + 1, 0, none⟩ _ := Ge.own gw1 (kown); have c1_0 := cv_some o1_0.1; have f1_0 := o1_0.2; clear o1_0; have o1_1 : Own w1 ⟨w.heap.size + 1, 1, none⟩ _ := Ge.own gw1 (kown); have c1_1 := cv_some o1_1.1; have f1_1 := o1_1.2; clear o1_1; have zw1 : w.heap.size + 2 ≤ w1.heap.size := (by have := Ge.size gw1; (try simp at this); omega)); rw [hB]) | (go_at_call 69; ((with_reducible refine (isNodeI n E S _ _ _ rfl).mono ?_); rintro e wn ⟨rfl, gwn⟩); have Gwn : Ge w wn := (Ge.trans (kge) gwn); have c0_0 : World.cell? wn ⟨w.heap.size, 0, none⟩ = some (.int .i64 (n : Int)) := Ge.keep gwn kcell; have c0_1 : World.cell? wn ⟨w.heap.size, 1, none⟩ = some (.int .i64 E) := Ge.keep gwn kcell; have c0_2 : World.cell? wn ⟨w.heap.size, 2, none⟩ = some (.int .i64 S) := Ge.keep gwn kcell; have c0_3 : World.cell? wn ⟨w.heap.size, 3, none⟩ = some (.slice p m cap) := Ge.keep gwn kcell; have o1_0 : Own wn ⟨w.heap.size + 1, 0, none⟩ _ := Ge.own gwn (kown); have c1_0 := cv_some o1_0.1; have f1_0 := o1_0.2; clear o1_0; have o1_1 : Own wn ⟨w.heap.size + 1, 1, none⟩ _ := Ge.own gwn (kown); have c1_1 := cv_some o1_1.1; have f1_1 := o1_1.2; clear o1_1; have zwn : w.heap.size + 2 ≤ wn.heap.size := (by have := Ge.size gwn; (try simp at this); omega)))
      exact bodyPost_ret (v := .tuple #[.agg #[.int .i64 0, .int .i64 0], .bool false]) (by simp [results, Tryz.results53, go_sem, *]) rfl ⟨by rw [HF.out, hT], kge⟩
    replace ha := Classical.not_not.1 ha
    have ia : nodeB n a = true := nodeB_t ha
    by_cases hb : ¬ (0 ≤ b ∧ b < (n : Int))
    · have ib : nodeB n b = false := nodeB_f hb
      have hT := node2_f2 (E := E) (S := S) (m := m) (xs := xs) (a := a) hb
      have HF := Lib.hid (com_f hT)
      clear ha hb
      go_enter Tryz.func53, Tryz.ntmps53
      go_wp2_with (first | ((go_at_call 43; ((with_reducible refine (iNetOk (n : Int) E S _ m xs _ (HV.out.ge (Ge.alloc (Ge.alloc (Ge.refl w) _) _)) hm).mono ?_); rintro e w1 ⟨rfl, gw1⟩); have Gw1 : Ge w w1 := (Ge.trans (kge) gw1); have c0_0 : World.cell? w1 ⟨w.heap.size, 0, none⟩ = some (.int .i64 (n : Int)) := Ge.keep gw1 kcell; have c0_1 : World.cell? w1 ⟨w.heap.size, 1, none⟩ = some (.int .i64 E) := Ge.keep gw1 kcell; have c0_2 : World.cell? w1 ⟨w.heap.size, 2, none⟩ = some (.int .i64 S) := Ge.keep gw1 kcell; have c0_3 : World.cell? w1 ⟨w.heap.size, 3, none⟩ = some (.slice p m cap) := Ge.keep gw1 kcell; have o1_0 : Own w1 ⟨w.heap.size + 1, 0, none⟩ _ := Ge.own gw1 (kown); have c1_0 := cv_some o1_0.1; have f1_0 := o1_0.2; clear o1_0; have o1_1 : Own w1 ⟨w.heap.size + 1, 1, none⟩ _ := Ge.own gw1 (kown); have c1_1 := cv_some o1_1.1; have f1_1 := o1_1.2; clear o1_1; have zw1 : w.heap.size + 2 ≤ w1.heap.size := (by have := Ge.size gw1; (try simp at this); omega)); rw [hB]) | (go_at_call 69; ((with_reducible refine (isNodeI n E S _ _ _ rfl).mono ?_); rintro e wn ⟨rfl, gwn⟩); have Gwn : Ge w wn := (Ge.trans (kge) gwn); have c0_0 : World.cell? wn ⟨w.heap.size, 0, none⟩ = some (.int .i64 (n : Int)) := Ge.keep gwn kcell; have c0_1 : World.cell? wn ⟨w.heap.size, 1, none⟩ = some (.int .i64 E) := Ge.keep gwn kcell; have c0_2 : World.cell? wn ⟨w.heap.size, 2, none⟩ = some (.int .i64 S) := Ge.keep gwn kcell; have c0_3 : World.cell? wn ⟨w.heap.size, 3, none⟩ = some (.slice p m cap) := Ge.keep gwn kcell; have o1_0 : Own wn ⟨w.heap.size + 1, 0, none⟩ _ := Ge.own gwn (kown); have c1_0 := cv_some o1_0.1; have f1_0 := o1_0.2; clear o1_0; have o1_1 : Own wn ⟨w.heap.size + 1, 1, none⟩ _ := Ge.own gwn (kown); have c1_1 := cv_some o1_1.1; have f1_1 := o1_1.2; clear o1_1; have zwn : w.heap.size + 2 ≤ wn.heap.size := (by have := Ge.size gwn; (try simp at this); omega)))
      exact bodyPost_ret (v := .tuple #[.agg #[.int .i64 0, .int .i64 0], .bool false]) (by simp [results, Tryz.results53, go_sem, *]) rfl ⟨by rw [HF.out, hT], kge⟩
    replace hb := Classical.not_not.1 hb
    have ib : nodeB n b = true := nodeB_t hb
    have hT := node2_t hB ha hb
    have HF := Lib.hid (com_t hT)
    clear ha hb
    have c1 := wtAll_bd (N := (n : Int)) HK.out
    have b1 := treeV_bd n E S m xs
    have b2 := wf_bd (N := (n : Int)) (E := E) (S := S) (m := m) (xs := xs) (u := wtAll xs m) (by omega) (by omega) a b
    have W1 : IntKind.i64.wrap (wtAll xs m * forV n E S m xs a b) = wtAll xs m * forV n E S m xs a b := IntWalk.i64_in _ (by omega)
    have M1 := mid (n := treeV n E S m xs) (by omega) (by omega)
    have M2 := mid (n := wtAll xs m * forV n E S m xs a b) (by omega) (by omega)
    have n5 : n ≤ 5 := by omega
    have HA := Lib.hid (fun w' (g : Ge w w') => iAllWeights n E S (.slice p m cap) m xs w' (HV.out.ge g) h10 n5 HK.out)
    have HTr := Lib.hid (fun w' (g : Ge w w') => iTreeSum n E S (.slice p m cap) m xs w' (HV.out.ge g) hm)
    have HFo := Lib.hid (fun w' (g : Ge w w') => iForestSum n E S (.slice p m cap) m xs a b w' (HV.out.ge g) hm)
    have HR := Lib.hid (fun w' => iRatioOf _ _ w' M2 M1)
    go_enter Tryz.func53, Tryz.ntmps53
    go_wp2_with (first | ((go_at_call 43; ((with_reducible refine (iNetOk (n : Int) E S _ m xs _ (HV.out.ge (Ge.alloc (Ge.alloc (Ge.refl w) _) _)) hm).mono ?_); rintro e w1 ⟨rfl, gw1⟩); have Gw1 : Ge w w1 := (Ge.trans (kge) gw1); have c0_0 : World.cell? w1 ⟨w.heap.size, 0, none⟩ = some (.int .i64 (n : Int)) := Ge.keep gw1 kcell; have c0_1 : World.cell? w1 ⟨w.heap.size, 1, none⟩ = some (.int .i64 E) := Ge.keep gw1 kcell; have c0_2 : World.cell? w1 ⟨w.heap.size, 2, none⟩ = some (.int .i64 S) := Ge.keep gw1 kcell; have c0_3 : World.cell? w1 ⟨w.heap.size, 3, none⟩ = some (.slice p m cap) := Ge.keep gw1 kcell; have o1_0 : Own w1 ⟨w.heap.size + 1, 0, none⟩ _ := Ge.own gw1 (kown); have c1_0 := cv_some o1_0.1; have f1_0 := o1_0.2; clear o1_0; have o1_1 : Own w1 ⟨w.heap.size + 1, 1, none⟩ _ := Ge.own gw1 (kown); have c1_1 := cv_some o1_1.1; have f1_1 := o1_1.2; clear o1_1; have zw1 : w.heap.size + 2 ≤ w1.heap.size := (by have := Ge.size gw1; (try simp at this); omega)); rw [hB]) | (go_at_call 69; ((with_reducible refine (isNodeI n E S _ _ _ rfl).mono ?_); rintro e wn ⟨rfl, gwn⟩); have Gwn : Ge w wn := (Ge.trans (kge) gwn); have c0_0 : World.cell? wn ⟨w.heap.size, 0, none⟩ = some (.int .i64 (n : Int)) := Ge.keep gwn kcell; have c0_1 : World.cell? wn ⟨w.heap.size, 1, none⟩ = some (.int .i64 E) := Ge.keep gwn kcell; have c0_2 : World.cell? wn ⟨w.heap.size, 2, none⟩ = some (.int .i64 S) := Ge.keep gwn kcell; have c0_3 : World.cell? wn ⟨w.heap.size, 3, none⟩ = some (.slice p m cap) := Ge.keep gwn kcell; have o1_0 : Own wn ⟨w.heap.size + 1, 0, none⟩ _ := Ge.own gwn (kown); have c1_0 := cv_some o1_0.1; have f1_0 := o1_0.2; clear o1_0; have o1_1 : Own wn ⟨w.heap.size + 1, 1, none⟩ _ := Ge.own gwn (kown); have c1_1 := cv_some o1_1.1; have f1_1 := o1_1.2; clear o1_1; have zwn : w.heap.size + 2 ≤ wn.heap.size := (by have := Ge.size gwn; (try simp at this); omega)))
    go_region_held3 (fun w' => w'.cell? ⟨w.heap.size, 0, none⟩ = some (.int .i64 (n : Int)) ∧ w'.cell? ⟨w.heap.size, 1, none⟩ = some (.int .i64 E) ∧ w'.cell? ⟨w.heap.size, 2, none⟩ = some (.int .i64 S) ∧ w'.cell? ⟨w.heap.size, 3, none⟩ = some (.slice p m cap) ∧ w'.cell? ⟨w.heap.size + 1, 0, none⟩ = some (cv w' ⟨w.heap.size + 1, 0, none⟩) ∧ w'.cell? ⟨w.heap.size + 1, 1, none⟩ = some (cv w' ⟨w.heap.size + 1, 1, none⟩) ∧ w'.frozen? ⟨w.heap.size + 1, 0, none⟩ = false ∧ w'.frozen? ⟨w.heap.size + 1, 1, none⟩ = false ∧ Ge w w') (first | exact ⟨hb.keep (‹_ ∧ _ ∧ _ ∧ _ ∧ _ ∧ _ ∧ _ ∧ _ ∧ _›).1, hb.keep (‹_ ∧ _ ∧ _ ∧ _ ∧ _ ∧ _ ∧ _ ∧ _ ∧ _›).2.1, hb.keep (‹_ ∧ _ ∧ _ ∧ _ ∧ _ ∧ _ ∧ _ ∧ _ ∧ _›).2.2.1, hb.keep (‹_ ∧ _ ∧ _ ∧ _ ∧ _ ∧ _ ∧ _ ∧ _ ∧ _›).2.2.2.1, cv_some (hb.keep (‹_ ∧ _ ∧ _ ∧ _ ∧ _ ∧ _ ∧ _ ∧ _ ∧ _›).2.2.2.2.1), cv_some (hb.keep (‹_ ∧ _ ∧ _ ∧ _ ∧ _ ∧ _ ∧ _ ∧ _ ∧ _›).2.2.2.2.2.1), hb.keepF (‹_ ∧ _ ∧ _ ∧ _ ∧ _ ∧ _ ∧ _ ∧ _ ∧ _›).2.2.2.2.1 (‹_ ∧ _ ∧ _ ∧ _ ∧ _ ∧ _ ∧ _ ∧ _ ∧ _›).2.2.2.2.2.2.1, hb.keepF (‹_ ∧ _ ∧ _ ∧ _ ∧ _ ∧ _ ∧ _ ∧ _ ∧ _›).2.2.2.2.2.1 (‹_ ∧ _ ∧ _ ∧ _ ∧ _ ∧ _ ∧ _ ∧ _ ∧ _›).2.2.2.2.2.2.2.1, Ge.trans (‹_ ∧ _ ∧ _ ∧ _ ∧ _ ∧ _ ∧ _ ∧ _ ∧ _›).2.2.2.2.2.2.2.2 hb⟩ | ((refine ⟨?_, ?_, ?_, ?_, ?_, ?_, ?_, ?_, ?_⟩ <;> (repeat (first | assumption | with_reducible exact Ge.refl _ | with_reducible refine cv_drew ?_ | with_reducible refine cv_alloc ?_ | with_reducible refine cv_set ?_ | with_reducible refine cell_drew ?_ | ((with_reducible refine cell_new ?_ ?_); (focus (simp; done)); rfl) | ((with_reducible refine froz_new (v := undef) ?_ ?_); (focus (simp; done)); rfl) | with_reducible refine cell_drewN ?_ | with_reducible refine cell_alloc ?_ | ((with_reducible refine cell_set ?_ ?_); rotate_left; focus (simp; done)) | with_reducible refine froz_drew ?_ | with_reducible refine froz_set ?_ | with_reducible refine froz_alloc (by assumption) ?_ | with_reducible refine Ge.drew ?_ | with_reducible refine Ge.drewN ?_ _ | with_reducible refine Ge.alloc ?_ _ | ((with_reducible refine Ge.setCell ?_ ?_ _); rotate_left; focus (first | (simp; done) | omega | (simp; omega))) | with_reducible refine Ge.trans ?_ (by assumption)))); done) | ((obtain ⟨s0, s1, s2, s3, s4, s5, s6, s7, s8⟩ := ‹_ ∧ _ ∧ _ ∧ _ ∧ _ ∧ _ ∧ _ ∧ _ ∧ _›); refine ⟨?_, ?_, ?_, ?_, ?_, ?_, ?_, ?_, ?_⟩ <;> (repeat (first | assumption | with_reducible exact Ge.refl _ | with_reducible refine cv_drew ?_ | with_reducible refine cv_alloc ?_ | with_reducible refine cv_set ?_ | with_reducible refine cell_drew ?_ | ((with_reducible refine cell_new ?_ ?_); (focus (simp; done)); rfl) | ((with_reducible refine froz_new (v := undef) ?_ ?_); (focus (simp; done)); rfl) | with_reducible refine cell_drewN ?_ | with_reducible refine cell_alloc ?_ | ((with_reducible refine cell_set ?_ ?_); rotate_left; focus (simp; done)) | with_reducible refine froz_drew ?_ | with_reducible refine froz_set ?_ | with_reducible refine froz_alloc (by assumption) ?_ | with_reducible refine Ge.drew ?_ | with_reducible refine Ge.drewN ?_ _ | with_reducible refine Ge.alloc ?_ _ | ((with_reducible refine Ge.setCell ?_ ?_ _); rotate_left; focus (first | (simp; done) | omega | (simp; omega))) | with_reducible refine Ge.trans ?_ (by assumption))))) (first | (go_at_call 89; ((with_reducible refine (HA.out _ (‹_ ∧ _ ∧ _ ∧ _ ∧ _ ∧ _ ∧ _ ∧ _ ∧ Ge w _›.2.2.2.2.2.2.2.2)).mono ?_); rintro e w' ⟨rfl, hb⟩)) | (go_at_call 85; ((with_reducible refine (HTr.out _ (‹_ ∧ _ ∧ _ ∧ _ ∧ _ ∧ _ ∧ _ ∧ _ ∧ Ge w _›.2.2.2.2.2.2.2.2)).mono ?_); rintro e w' ⟨rfl, hb⟩)) | (go_at_call 90; ((with_reducible refine (HFo.out _ (‹_ ∧ _ ∧ _ ∧ _ ∧ _ ∧ _ ∧ _ ∧ _ ∧ Ge w _›.2.2.2.2.2.2.2.2)).mono ?_); rintro e w' ⟨rfl, hb⟩)) | (go_at_call 81; ((with_reducible refine (HR.out _).mono ?_); rintro e w' ⟨rfl, hb⟩)) | fail); (rename_i hHeldX; obtain ⟨c0_0, c0_1, c0_2, c0_3, c1_0, c1_1, f1_0, f1_1, G9⟩ := hHeldX)
    obtain ⟨r0, r1⟩ := res2W c1_0 c1_1 (by simp)
    clear c1_0 c1_1
    go_wp2_with fail
    exact bodyPost_ret (v := .tuple #[.agg #[.int .i64 (ratioOf (wtAll xs m * forV n E S m xs a b) (treeV n E S m xs)).n, .int .i64 (ratioOf (wtAll xs m * forV n E S m xs a b) (treeV n E S m xs)).d], .bool true]) (by simp [results, Tryz.results53, go_sem, *]) rfl ⟨by rw [HF.out, hT], kge⟩

end Go.Proofs.YtagiecajffhnpaaGreat
