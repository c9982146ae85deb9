/- Weight matrices: squareOk, l04Matrix, IsWeightMatrix of both sides. No condition. -/
import Derived.Test.YtjdhjoifiebpeaaWLists
import Derived.Test.YtjdhjoifiebpeaaWIn
namespace Go.Proofs.Ytjdhjoifiebpeaa
set_option maxRecDepth 100000
open Go.ChangeShapes Go.WideShapes Go.ChangeAt Go.RowKit Go.Joins

/-- The slice v of n rows of integers. -/
def SlMI (w : World) (v : Value) (n : Nat) (R : List (List Int)) : Prop :=
  ∃ p cap, v = .slice p n cap ∧ ∀ i, i < n → ∃ b o pr cr, p = some ⟨b, o, none⟩ ∧ w.cell? ⟨b, o + i, none⟩ = some (.slice pr (rowL R i).length cr) ∧ SlI w (.slice pr (rowL R i).length cr) (rowL R i)
theorem SlMI.ge {w w' : World} {v : Value} {n : Nat} {R : List (List Int)} (h : SlMI w v n R) (hg : Ge w w') : SlMI w' v n R := by
  obtain ⟨p, cap, hv, hc⟩ := h
  refine ⟨p, cap, hv, fun i hi => ?_⟩
  obtain ⟨b, o, pr, cr, hp, hx, hs⟩ := hc i hi
  exact ⟨b, o, pr, cr, hp, hg.keep hx, SlI.ge hs hg⟩
noncomputable def sqB (R : List (List Int)) : Bool := @decide (sqP R) (Classical.propDecidable _)
noncomputable def wmB (R : List (List Int)) : Bool := @decide (wmP R) (Classical.propDecidable _)
theorem sqB_true {R : List (List Int)} (h : sqP R) : sqB R = true := by exact @decide_eq_true _ (Classical.propDecidable _) h
theorem sqB_false {R : List (List Int)} (h : ¬ sqP R) : sqB R = false := by exact @decide_eq_false _ (Classical.propDecidable _) h
theorem wmB_true {R : List (List Int)} (h : wmP R) : wmB R = true := by exact @decide_eq_true _ (Classical.propDecidable _) h
theorem wmB_false {R : List (List Int)} (h : ¬ wmP R) : wmB R = false := by exact @decide_eq_false _ (Classical.propDecidable _) h
theorem wmP_of {R : List (List Int)} (h : wmB R = true) : wmP R := @of_decide_eq_true _ (Classical.propDecidable _) h
theorem ent_nat (R : List (List Int)) (i j : Nat) : entM R i j = nth (rowL R i) j := by simp [entM, rowL]
theorem sumRow_succ (R : List (List Int)) (i j : Nat) : sumRow R i (j + 1) = sumRow R i j + entM R i j := rfl
theorem rowSq_iff (R : List (List Int)) (i : Nat) : rowSq R i ↔ (rowL R i).length = R.length ∧ ∀ j, j < (rowL R i).length → -1000 ≤ nth (rowL R i) j ∧ nth (rowL R i) j ≤ 1000 := Iff.rfl
theorem entOk_iff (R : List (List Int)) (i j : Nat) : entOk R i j ↔ nth (rowL R i) j = nth (rowL R j) i ∧ (i ≠ j → nth (rowL R i) j ≤ 0) := by unfold entOk; rw [ent_nat, ent_nat]

set_option maxHeartbeats 3200000 in
theorem iSquareOk (v : Value) (n : Nat) (R : List (List Int)) (w : World) (hv : SlMI w v n R) (hn : R.length = n) (hm : n ≤ 1048576) (hr : ∀ i, i < n → (rowL R i).length ≤ 1048576) :
    Calls Try.prog 13 #[v] w fun e w' => e = .returned (.bool (sqB R)) ∧ w = w' := by
  obtain ⟨p, cap, rfl, hc⟩ := hv
  have HC := Lib.hid hc
  have HR := Lib.hid hr
  have HT : Hid (sqP R → sqB R = true) := sqB_true
  have HF : Hid (¬ sqP R → sqB R = false) := sqB_false
  have HI : Hid (sqP R ↔ n ≤ 5 ∧ ∀ i, i < n → rowSq R i) := by
    show _ ↔ _
    unfold sqP; rw [hn]
  have HQ : Hid (∀ i, rowSq R i ↔ (rowL R i).length = n ∧ ∀ j, j < (rowL R i).length → -1000 ≤ nth (rowL R i) j ∧ nth (rowL R i) j ≤ 1000) := by
    show ∀ i, _
    intro i
    rw [rowSq_iff, hn]
  clear hc hr hn
  generalize sqB R = SQ at *
  by_cases h5 : n ≤ 5
  · go_enter Try.func13, Try.ntmps13
    go_wp2_with fail
    go_loop [12] (fun i => ∃ k : Nat, k ≤ n ∧ i = .int .i64 k ∧ Hid (∀ i, i < k → rowSq R i)) (fun i => n - (intOf i).toNat)
    case atStart => exact ⟨0, Nat.zero_le _, rfl, fun j hj => by omega⟩
    case round =>
      obtain ⟨k, hk, rfl, HA⟩ := hrel
      by_cases hlt : k < n
      · obtain ⟨b, o, pr, cr, rfl, x0, hs⟩ := HC.out k hlt
        have hrl := HR.out k hlt
        have HQk := Lib.hid (HQ.out k)
        have HNo : Hid (¬ rowSq R k → SQ = false) := fun g => HF.out (fun h => g ((HI.out.1 h).2 k hlt))
        obtain ⟨r, hrr⟩ : ∃ r, (rowL R k).length = r := ⟨_, rfl⟩
        rw [hrr] at x0 hs hrl HQk
        have HSl := Lib.hid hs
        obtain ⟨p2, c2, he, hrow⟩ := hs.openN hrr
        simp only [Value.slice.injEq] at he
        obtain ⟨rfl, _, rfl⟩ := he
        have HRow := Lib.hid hrow
        clear hs hrow hrr
        generalize rowL R k = l at *
        by_cases hrn : r = n
        · subst hrn
          have tn : ((r : Int) != (r : Int)) = false := by simp
          go_wp2_with fail
          go_loop [23] (fun i => ∃ j : Nat, j ≤ r ∧ i = .int .i64 j ∧ Hid (∀ j', j' < j → -1000 ≤ nth l j' ∧ nth l j' ≤ 1000)) (fun i => r - (intOf i).toNat)
          case atStart => exact ⟨0, Nat.zero_le _, rfl, fun j hj => by omega⟩
          case round =>
            obtain ⟨j, hj, rfl, HB⟩ := hrel
            by_cases hlj : j < r
            · obtain ⟨b2, o2, rfl, y0⟩ := HRow.out j hlj
              have HX : Hid (¬ (-1000 ≤ nth l j ∧ nth l j ≤ 1000) → SQ = false) := fun g => HNo.out (fun h => g ((HQk.out.1 h).2 j hlj))
              have HY : Hid ((-1000 ≤ nth l j ∧ nth l j ≤ 1000) → ∀ j', j' < j + 1 → -1000 ≤ nth l j' ∧ nth l j' ≤ 1000) := fun g j' hj' => by
                by_cases e : j' = j
                · subst e; exact g
                · exact HB.out j' (by omega)
              generalize nth l j = X at *
              by_cases c1 : X < -1000
              · have HS0 := Lib.hid (HX.out (fun g => by omega))
                go_wp2_with fail
                go_ret
                exact ⟨ret_bool HS0.out.symm, rfl⟩
              · by_cases c2 : 1000 < X
                · have HS0 := Lib.hid (HX.out (fun g => by omega))
                  go_wp2_with fail
                  go_ret
                  exact ⟨ret_bool HS0.out.symm, rfl⟩
                · have HY2 := Lib.hid (HY.out (by omega))
                  go_wp2_with fail
                  go_round
                  case rel => exact ⟨j + 1, by omega, by go_num, HY2.out⟩
                  case measure => simp [intOf]; omega
            · have hjn : j = r := by omega
              subst hjn
              have HA2 : Hid (∀ i, i < k + 1 → rowSq R i) := fun i hi => by
                by_cases e : i = k
                · subst e; exact HQk.out.2 ⟨by trivial, HB.out⟩
                · exact HA.out i (by omega)
              go_wp2_with fail
              go_round
              case rel => exact ⟨k + 1, by omega, by go_num, HA2.out⟩
              case measure => simp [intOf]; omega
        · have HS0 := Lib.hid (HNo.out (fun h => hrn (HQk.out.1 h).1))
          have tn : ((r : Int) != (n : Int)) = true := by simp; omega
          go_wp2_with fail
          go_ret
          exact ⟨ret_bool HS0.out.symm, rfl⟩
      · have hkn : k = n := by omega
        subst hkn
        have HS0 := Lib.hid (HT.out (HI.out.2 ⟨h5, HA.out⟩))
        go_wp2_with fail
        go_ret
        exact ⟨ret_bool HS0.out.symm, rfl⟩
  · have HS0 := Lib.hid (HF.out (fun h => h5 (HI.out.1 h).1))
    go_enter Try.func13, Try.ntmps13
    go_wp2_with fail
    go_ret
    exact ⟨ret_bool HS0.out.symm, rfl⟩

set_option maxHeartbeats 3200000 in
theorem iIsWeightMatrix (v : Value) (n : Nat) (R : List (List Int)) (w : World) (hv : SlMI w v n R) (hn : R.length = n) (hm : n ≤ 1048576) (hr : ∀ i, i < n → (rowL R i).length ≤ 1048576) :
    Calls Try.prog 6 #[v] w fun e w' => e = .returned (.bool (wmB R)) ∧ w = w' := by
  have HS := Lib.hid (iSquareOk v n R w hv hn hm hr)
  obtain ⟨p, cap, rfl, hc⟩ := hv
  have HT : Hid (wmP R → wmB R = true) := wmB_true
  have HF : Hid (¬ wmP R → wmB R = false) := wmB_false
  have HI : Hid (wmP R ↔ 1 ≤ n ∧ sqP R ∧ ∀ i, i < n → rowWm R i) := by
    show _ ↔ _
    unfold wmP; rw [hn]
  have HQ : Hid (∀ i, rowWm R i ↔ (∀ j, j < n → entOk R i j) ∧ sumRow R i n = 0) := by
    show ∀ i, _
    intro i
    unfold rowWm; rw [hn]
  have HE := Lib.hid (entOk_iff R)
  have HSs := Lib.hid (sumRow_succ R)
  have HEn := Lib.hid (ent_nat R)
  have HS00 : Hid (∀ i, sumRow R i 0 = 0) := fun _ => rfl
  generalize wmB R = WM at *
  by_cases h1 : 1 ≤ n
  · by_cases h5 : sqP R
    · rw [sqB_true h5] at HS
      have HSb : Hid (∀ i, i < n → ∀ j, j ≤ n → -(1000 * (j : Int)) ≤ sumRow R i j ∧ sumRow R i j ≤ 1000 * (j : Int)) := by
        show ∀ i, _
        intro i hi j hj
        exact sumRow_bd h5 (by omega) j (by omega)
      have HXb : Hid (∀ i j : Nat, -1000 ≤ entM R i j ∧ entM R i j ≤ 1000) := fun i j => ent_bd h5 i j
      have HC : Hid (∀ i, i < n → ∃ b o pr cr, p = some ⟨b, o, none⟩ ∧ w.cell? ⟨b, o + i, none⟩ = some (.slice pr n cr) ∧ ∀ j, j < n → ∃ b2 o2, pr = some ⟨b2, o2, none⟩ ∧ w.cell? ⟨b2, o2 + j, none⟩ = some (.int .i64 (entM R i j))) := by
        show ∀ i, _
        intro i hi
        obtain ⟨b, o, pr, cr, hp, hx, hs⟩ := hc i hi
        have hl : (rowL R i).length = n := by
          have := (h5.2 i (by omega)).1
          rw [← hn]; exact this
        rw [hl] at hx hs
        obtain ⟨p2, c2, he, hrow⟩ := hs.openN hl
        simp only [Value.slice.injEq] at he
        obtain ⟨rfl, _, rfl⟩ := he
        refine ⟨b, o, pr, cr, hp, hx, fun j hj => ?_⟩
        rw [ent_nat]
        exact hrow j hj
      have hn5 : n ≤ 5 := by have := h5.1; omega
      replace h5 := Lib.hid h5
      have tk : inB (n : Int) 1 5 = true := by simp [inB]; omega
      clear hc hr hn
      go_enter Try.func6, Try.ntmps6
      go_wp2_with (go_at_call 13; ((with_reducible refine (HS.out).mono ?_); rintro e w0 ⟨rfl, rfl⟩))
      go_loop [18] (fun i => ∃ k : Nat, k ≤ n ∧ i = .int .i64 k ∧ Hid (∀ i, i < k → rowWm R i)) (fun i => n - (intOf i).toNat)
      case atStart => exact ⟨0, Nat.zero_le _, rfl, fun j hj => by omega⟩
      case round =>
        obtain ⟨k, hk, rfl, HA⟩ := hrel
        by_cases hlt : k < n
        · obtain ⟨b, o, pr, cr, rfl, x0, hrow⟩ := HC.out k hlt
          have HRow := Lib.hid hrow
          have HNo : Hid (¬ rowWm R k → WM = false) := fun g => HF.out (fun h => g ((HI.out.1 h).2.2 k hlt))
          have HSk := Lib.hid (HSs.out k)
          have HS0k := Lib.hid (HS00.out k)
          have HSbk := Lib.hid (HSb.out k hlt)
          clear hrow
          go_wp2_with fail
          go_loop [5, 25] (fun s i => ∃ j : Nat, j ≤ n ∧ i = .int .i64 j ∧ s = .int .i64 (sumRow R k j) ∧ Hid (∀ j', j' < j → entOk R k j')) (fun _ i => n - (intOf i).toNat)
          case atStart => exact ⟨0, Nat.zero_le _, rfl, by rw [HS0k.out], fun j hj => by omega⟩
          case round =>
            obtain ⟨j, hj, rfl, rfl, HB⟩ := hrel
            by_cases hlj : j < n
            · obtain ⟨b2, o2, rfl, y0⟩ := HRow.out j hlj
              obtain ⟨b3, o3, pr3, cr3, he3, z0, hrow3⟩ := HC.out j hlj
              simp only [Option.some.injEq, Addr.mk.injEq, and_true] at he3
              obtain ⟨rfl, rfl⟩ := he3
              obtain ⟨b4, o4, rfl, z1⟩ := hrow3 k hlt
              have hxb := HXb.out k j
              have hsb := HSbk.out j (by omega)
              have hj5 : (j : Int) ≤ 5 := by omega
              have HSn := Lib.hid (HSk.out j)
              have HX : Hid (¬ entOk R k j → WM = false) := fun g => HNo.out (fun h => g (((HQ.out k).1 h).1 j hlj))
              have HE1 : Hid (entOk R k j ↔ entM R k j = entM R j k ∧ (k ≠ j → entM R k j ≤ 0)) := Iff.rfl
              have HY : Hid (entOk R k j → ∀ j', j' < j + 1 → entOk R k j') := fun g j' hj' => by
                by_cases e : j' = j
                · subst e; exact g
                · exact HB.out j' (by omega)
              clear hrow3
              generalize entM R k j = X at *
              generalize entM R j k = Y at *
              generalize sumRow R k j = SJ at *
              by_cases c1 : X = Y
              · subst c1
                have t1 : (X != X) = false := by simp
                by_cases c2 : k = j
                · subst c2
                  have t2 : ((k : Int) != (k : Int)) = false := by simp
                  have HY2 := Lib.hid (HY.out (HE1.out.2 ⟨rfl, fun h => absurd rfl h⟩))
                  go_wp2_with fail
                  go_round
                  case rel => exact ⟨k + 1, by omega, by go_num, by rw [HSn.out], HY2.out⟩
                  case measure => simp [intOf]; omega
                · have t2 : ((k : Int) != (j : Int)) = true := by simp; omega
                  by_cases c3 : 0 < X
                  · have HS0 := Lib.hid (HX.out (fun g => by have := (HE1.out.1 g).2 c2; omega))
                    go_wp2_with fail
                    go_ret
                    exact ⟨ret_bool HS0.out.symm, rfl⟩
                  · have HY2 := Lib.hid (HY.out (HE1.out.2 ⟨rfl, fun _ => by omega⟩))
                    go_wp2_with fail
                    go_round
                    case rel => exact ⟨j + 1, by omega, by go_num, by rw [HSn.out], HY2.out⟩
                    case measure => simp [intOf]; omega
              · have HS0 := Lib.hid (HX.out (fun g => c1 (HE1.out.1 g).1))
                have t1 : (X != Y) = true := by simpa using c1
                go_wp2_with fail
                go_ret
                exact ⟨ret_bool HS0.out.symm, rfl⟩
            · have hjn : j = n := by omega
              subst hjn
              have HQk := Lib.hid (HQ.out k)
              by_cases c0 : sumRow R k j = 0
              · have HA2 : Hid (∀ i, i < k + 1 → rowWm R i) := fun i hi => by
                  by_cases e : i = k
                  · subst e; exact HQk.out.2 ⟨HB.out, c0⟩
                  · exact HA.out i (by omega)
                have t0 : (sumRow R k j != 0) = false := by simpa using c0
                clear c0
                generalize sumRow R k j = SJ at *
                go_wp2_with fail
                go_round
                case rel => exact ⟨k + 1, by omega, by go_num, HA2.out⟩
                case measure => simp [intOf]; omega
              · have HS0 := Lib.hid (HNo.out (fun h => c0 (HQk.out.1 h).2))
                have t0 : (sumRow R k j != 0) = true := by simpa using c0
                clear c0
                generalize sumRow R k j = SJ at *
                go_wp2_with fail
                go_ret
                exact ⟨ret_bool HS0.out.symm, rfl⟩
        · have hkn : k = n := by omega
          subst hkn
          have HS0 := Lib.hid (HT.out (HI.out.2 ⟨h1, h5.out, HA.out⟩))
          go_wp2_with fail
          go_ret
          exact ⟨ret_bool HS0.out.symm, rfl⟩
    · rw [sqB_false h5] at HS
      have HS0 := Lib.hid (HF.out (fun h => h5 (HI.out.1 h).2.1))
      clear h5 hc hr hn
      go_enter Try.func6, Try.ntmps6
      skip
      go_wp2_with (go_at_call 13; ((with_reducible refine (HS.out).mono ?_); rintro e w0 ⟨rfl, rfl⟩))
      go_ret
      exact ⟨ret_bool HS0.out.symm, rfl⟩
  · have HS0 := Lib.hid (HF.out (fun h => h1 (HI.out.1 h).1))
    have hn0 : n = 0 := by omega
    subst hn0
    have tk : inB ((0 : Nat) : Int) 1 5 = false := by decide
    clear hc hr hn
    go_enter Try.func6, Try.ntmps6
    go_wp2_with (go_at_call 13; ((with_reducible refine (HS.out).mono ?_); rintro e w0 ⟨rfl, rfl⟩))
    go_ret
    exact ⟨ret_bool HS0.out.symm, rfl⟩

end Go.Proofs.Ytjdhjoifiebpeaa
