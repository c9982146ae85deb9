/- The law of SizesOf, walked. No condition. -/
import Derived.Test.YtenfkpdbfmeebaaWTileLaws
import Derived.Test.YtenfkpdbfmeebaaWSizes
namespace Go.Proofs.Ytenfkpdbfmeebaa
set_option maxRecDepth 100000
open Go.ChangeShapes Go.WideShapes Go.ChangeAt Go.RowKit Go.Joins

/-- A younger row is not touched by what is done to an older one. -/
theorem owns_apart2 {w2 w w' : World} {b1 b2 e1 e2 s1 s2 : Nat} {v1 v2 : Value} {n1 n2 : Nat} {x1 x2 : List Value}
    (h2 : w2.ownsRow b2 e2 s2 v2 n2 x2) (h1 : w.ownsRow b1 e1 s1 v1 n1 x1) (hb : w2.heap.size ≤ b1) (hm : Mine w w' v2) : w'.ownsRow b1 e1 s1 v1 n1 x1 := by
  refine h1.kept hm ?_
  cases hv : v1.ownBlock with
  | none => exact .inl rfl
  | some k =>
    right
    intro e
    have := (h1.lt k hv).1
    have := (h2.lt k e.symm).2
    omega

set_option maxHeartbeats 800000 in
theorem lMarkSquareS (base e : Nat) (v : Value) (n : Nat) (xs : List Int) (k : Int) (w : World) (h : w.ownsRow base e 3 v n (icells xs)) (hk0 : 0 ≤ k) (hk : k + n * 3 ≤ 4611686018427387904) :
    Calls Try.prog 11 #[v, .int .i64 k] w fun en w' => en = .returned (.int .i64 (k + n * 3)) ∧ Mine w w' v ∧ w'.ownsRow base e 3 v n (icells (upFrom k (n * 3))) := by
  have hlen : xs.length = n * 3 := by have := h.1; rwa [icells_length] at this
  rcases owns_cases h with ⟨rfl, rfl⟩ | ⟨g, cap, rfl⟩
  · go_enter Try.func11, Try.ntmps11
    go_wp2_with fail
    go_loopw [1, 5] (fun m i wr => m = .int .i64 k ∧ i = .int .i64 0 ∧ w = wr) (fun _ _ _ => 0)
    case atStart => exact ⟨rfl, rfl, rfl⟩
    case round =>
      obtain ⟨rfl, rfl, rfl⟩ := hrel
      go_wp2_with fail
      go_ret
      have hx : xs = upFrom k 0 := by simpa [upFrom] using hlen
      exact ⟨ret_int (by simp), World.grownBy.refl _ _, by rw [← hx]; exact h⟩
  · have HN := Lib.hid hlen
    clear hlen
    go_enter Try.func11, Try.ntmps11
    go_wp2_with fail
    go_loopw [1, 5] (fun m i wr => ∃ j : Nat, j ≤ n ∧ i = .int .i64 j ∧ m = .int .i64 (k + j * 3) ∧ wr.ownsRow base e 3 (.slice (some ⟨g, 0, none⟩) n cap) n (icells (marked xs k (j * 3))) ∧ w.grownBy wr (some g)) (fun _ i _ => n - (intOf i).toNat)
    case atStart => exact ⟨0, Nat.zero_le _, rfl, by simp, by rw [Nat.zero_mul, marked_zero]; exact h, World.grownBy.refl _ _⟩
    case round =>
      obtain ⟨j, hj, rfl, rfl, hown, hg⟩ := hrel
      by_cases hlt : j < n
      · have st1 := hown.stored (j * 3) (.int .i64 (k + j * 3))
        have st2 := st1.1.stored (j * 3 + 1) (.int .i64 (k + j * 3 + 1))
        have st3 := st2.1.stored (j * 3 + 2) (.int .i64 (k + j * 3 + 1 + 1))
        have f1 := hown.frozenAt (j * 3)
        have f2 := hown.frozenAt (j * 3 + 1)
        have f3 := hown.frozenAt (j * 3 + 2)
        obtain ⟨u1, c1⟩ : ∃ u, wr.cell? ⟨g, j * 3, none⟩ = some u := by
          rw [hown.cellAt (j * 3) (by omega)]; exact ⟨_, List.getElem?_eq_getElem (by have := hown.1; omega)⟩
        obtain ⟨u2, c2⟩ : ∃ u, wr.cell? ⟨g, j * 3 + 1, none⟩ = some u := by
          rw [hown.cellAt (j * 3 + 1) (by omega)]; exact ⟨_, List.getElem?_eq_getElem (by have := hown.1; omega)⟩
        obtain ⟨u3, c3⟩ : ∃ u, wr.cell? ⟨g, j * 3 + 2, none⟩ = some u := by
          rw [hown.cellAt (j * 3 + 2) (by omega)]; exact ⟨_, List.getElem?_eq_getElem (by have := hown.1; omega)⟩
        have T1 := Lib.hid st1.2
        have T2 := Lib.hid st2.2
        have T3 := Lib.hid st3
        clear st1 st2 st3
        go_wp2_with fail
        go_roundw
        case rel =>
          refine ⟨j + 1, by omega, by go_num, by go_num, ?_, grown_trans (grown_trans (grown_trans hg T1.out) T2.out) T3.out.2⟩
          have := T3.out.1
          rwa [icells_set, icells_set, icells_set, marked_step3 xs k j (by have := HN.out; omega)] at this
        case measure => simp [intOf]; omega
      · have hjn : j = n := by omega
        have hfin : marked xs k (j * 3) = upFrom k (n * 3) := by rw [hjn, ← HN.out, marked_all]
        rw [hfin] at hown
        clear hfin
        go_wp2_with fail
        go_ret
        exact ⟨ret_int (by omega), hg, hown⟩


theorem sizesV_le (n : Nat) (xs : List Int) : (sizesV n xs).length ≤ 201 := by
  cases hB : tileB n xs with
  | false => rw [sizesV_f hB]; simp
  | true =>
    rw [sizesV_t hB, ← upJ_0]
    exact upJ_len xs n 200 0

end Go.Proofs.Ytenfkpdbfmeebaa
