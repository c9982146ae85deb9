/- markRatioS, heldRatioS. No condition. -/
import Derived.Test.YtmcnfhpjjmbdmaaWFlat
import Derived.Test.YtmcnfhpjjmbdmaaWEqInt
namespace Go.Proofs.Ytmcnfhpjjmbdmaa
set_option maxRecDepth 100000
open Go.ChangeShapes Go.WideShapes Go.ChangeAt Go.RowKit Go.Joins

theorem marked_stepR (l : List Int) (k : Int) (j : Nat) (h : j * 2 + 1 < l.length) :
    ((marked l k (j * 2)).set (j * 2) (k + j * 2)).set (j * 2 + 1) (k + j * 2 + 1) = marked l k ((j + 1) * 2) := by
  have e1 : k + (j : Int) * 2 = k + ((j * 2 : Nat) : Int) := by simp
  have e2 : k + (j : Int) * 2 + 1 = k + ((j * 2 + 1 : Nat) : Int) := by simp; omega
  rw [e2, e1, marked_step _ _ _ (by omega), marked_step _ _ _ (by omega)]
  congr 1
  omega

set_option maxHeartbeats 800000 in
theorem lMarkRatioS (base e : Nat) (v : Value) (n : Nat) (xs : List Int) (k : Int) (w : World) (h : w.ownsRow base e 2 v n (icells xs)) (hk0 : 0 ≤ k) (hk : k + n * 2 ≤ 4611686018427387904) :
    Calls Try.prog 9 #[v, .int .i64 k] w fun en w' => en = .returned (.int .i64 (k + n * 2)) ∧ Mine w w' v ∧ w'.ownsRow base e 2 v n (icells (upFrom k (n * 2))) := by
  have hlen : xs.length = n * 2 := by have := h.1; rwa [icells_length] at this
  rcases owns_cases h with ⟨rfl, rfl⟩ | ⟨g, cap, rfl⟩
  · go_enter Try.func9, Try.ntmps9
    go_wp2_with fail
    go_loopw [1, 5] (fun m i wr => m = .int .i64 k ∧ i = .int .i64 0 ∧ w = wr) (fun _ _ _ => 0)
    case atStart => exact ⟨rfl, rfl, rfl⟩
    case round =>
      obtain ⟨rfl, rfl, rfl⟩ := hrel
      go_wp2_with fail
      go_ret
      have hx : xs = upFrom k 0 := by simpa [upFrom] using hlen
      exact ⟨ret_int (by simp), World.grownBy.refl _ _, by rw [← hx]; exact h⟩
  · have HN := Lib.hid hlen
    clear hlen
    go_enter Try.func9, Try.ntmps9
    go_wp2_with fail
    go_loopw [1, 5] (fun m i wr => ∃ j : Nat, j ≤ n ∧ i = .int .i64 j ∧ m = .int .i64 (k + j * 2) ∧ wr.ownsRow base e 2 (.slice (some ⟨g, 0, none⟩) n cap) n (icells (marked xs k (j * 2))) ∧ w.grownBy wr (some g)) (fun _ i _ => n - (intOf i).toNat)
    case atStart => exact ⟨0, Nat.zero_le _, rfl, by simp, by rw [Nat.zero_mul, marked_zero]; exact h, World.grownBy.refl _ _⟩
    case round =>
      obtain ⟨j, hj, rfl, rfl, hown, hg⟩ := hrel
      by_cases hlt : j < n
      · have st1 := hown.stored (j * 2) (.int .i64 (k + j * 2))
        have st2 := st1.1.stored (j * 2 + 1) (.int .i64 (k + j * 2 + 1))
        have f1 := hown.frozenAt (j * 2)
        have f2 := hown.frozenAt (j * 2 + 1)
        obtain ⟨u1, c1⟩ : ∃ u, wr.cell? ⟨g, j * 2, none⟩ = some u := by
          rw [hown.cellAt (j * 2) (by omega)]; exact ⟨_, List.getElem?_eq_getElem (by have := hown.1; omega)⟩
        obtain ⟨u2, c2⟩ : ∃ u, wr.cell? ⟨g, j * 2 + 1, none⟩ = some u := by
          rw [hown.cellAt (j * 2 + 1) (by omega)]; exact ⟨_, List.getElem?_eq_getElem (by have := hown.1; omega)⟩
        have T1 := Lib.hid st1.2
        have T2 := Lib.hid st2
        clear st1 st2
        go_wp2_with fail
        go_roundw
        case rel =>
          refine ⟨j + 1, by omega, by go_num, by go_num, ?_, grown_trans (grown_trans hg T1.out) T2.out.2⟩
          have := T2.out.1
          rwa [icells_set, icells_set, marked_stepR xs k j (by have := HN.out; omega)] at this
        case measure => simp [intOf]; omega
      · have hjn : j = n := by omega
        have hfin : marked xs k (j * 2) = upFrom k (n * 2) := by rw [hjn, ← HN.out, marked_all]
        rw [hfin] at hown
        clear hfin
        go_wp2_with fail
        go_ret
        exact ⟨ret_int (by omega), hg, hown⟩

set_option maxHeartbeats 800000 in
theorem lHeldRatioS (v : Value) (n : Nat) (k : Int) (w : World) (h : Sl w v n 2 (icells (upFrom k (n * 2)))) (hk0 : 0 ≤ k) (hk : k + n * 2 ≤ 4611686018427387904) :
    Calls Try.prog 10 #[v, .int .i64 k] w fun en w' => en = .returned (.int .i64 (k + n * 2)) ∧ w = w' := by
  have h' : SlF w v n 2 (upFrom k (n * 2)) := h
  obtain ⟨p, c, rfl, hc⟩ := h'.open
  clear h h'
  go_enter Try.func10, Try.ntmps10
  go_wp2_with fail
  go_loop [1, 5] (fun m i => ∃ j : Nat, j ≤ n ∧ i = .int .i64 j ∧ m = .int .i64 (k + j * 2)) (fun _ i => n - (intOf i).toNat)
  case atStart => exact ⟨0, Nat.zero_le _, rfl, by simp⟩
  case round =>
    obtain ⟨j, hj, rfl, rfl⟩ := hrel
    by_cases hlt : j < n
    · obtain ⟨b, o, rfl, x1, x2⟩ := two_cells hc hlt
      have e1 : nth (upFrom k (n * 2)) (j * 2) = k + j * 2 := by rw [nth_upFrom _ _ _ (by omega)]; simp
      have e2 : nth (upFrom k (n * 2)) (j * 2 + 1) = k + j * 2 + 1 := by rw [nth_upFrom _ _ _ (by omega)]; simp; omega
      rw [e1] at x1
      rw [e2] at x2
      clear hc e1 e2
      go_wp2_with fail
      go_round
      case rel => exact ⟨j + 1, by omega, by go_num, by go_num⟩
      case measure => simp [intOf]; omega
    · go_wp2_with fail
      go_ret
      exact ⟨ret_int (by omega), rfl⟩
end Go.Proofs.Ytmcnfhpjjmbdmaa
