/- eqIntS, markIntS, heldIntS. -/
import Derived.Test.YtckjkfcphcnpdaaGreatWSl
namespace Go.Proofs.YtckjkfcphcnpdaaGreat

open Go.RowKit

theorem same_step {la lb : List Int} {k : Nat} (h : Hid (∀ j, j < k → nth la j = nth lb j)) (he : nth la k = nth lb k) : Hid (∀ j, j < k + 1 → nth la j = nth lb j) := by
  intro j h1
  by_cases e : j = k
  · subst e; exact he
  · exact h.out j (by omega)

/-- k, k + 1, .. -/
def upFrom (k : Int) (n : Nat) : List Int := (List.range n).map fun (i : Nat) => k + (i : Int)
theorem upFrom_length (k : Int) (n : Nat) : (upFrom k n).length = n := by simp [upFrom]
theorem nth_upFrom (k : Int) (n i : Nat) (h : i < n) : nth (upFrom k n) i = k + i := by
  rw [nth_eq _ _ (by rw [upFrom_length]; exact h)]; simp [upFrom]
/-- The first j cells are marked. -/
def marked (l : List Int) (k : Int) (j : Nat) : List Int := upFrom k j ++ l.drop j
theorem marked_zero (l : List Int) (k : Int) : marked l k 0 = l := by simp [marked, upFrom]
theorem marked_length (l : List Int) (k : Int) (j : Nat) (h : j ≤ l.length) : (marked l k j).length = l.length := by simp [marked, upFrom_length]; omega
theorem marked_all (l : List Int) (k : Int) : marked l k l.length = upFrom k l.length := by simp [marked]
theorem marked_step (l : List Int) (k : Int) (j : Nat) (h : j < l.length) : (marked l k j).set j (k + j) = marked l k (j + 1) := by
  apply List.ext_getElem
  · simp [marked_length _ _ _ (Nat.le_of_lt h), marked_length _ _ _ (show j + 1 ≤ l.length from h)]
  · intro i h1 h2
    rw [List.getElem_set]
    simp only [marked, upFrom]
    by_cases e : j = i
    · subst e
      rw [if_pos rfl, List.getElem_append_left (by simp)]
      simp
    · rw [if_neg e]
      by_cases e2 : i < j
      · rw [List.getElem_append_left (by simp; omega), List.getElem_append_left (by simp; omega)]; simp
      · rw [List.getElem_append_right (by simp; omega), List.getElem_append_right (by simp; omega)]
        simp
        congr 1
        omega

theorem icells_set (l : List Int) (j : Nat) (x : Int) : (icells l).set j (.int .i64 x) = icells (l.set j x) := by simp [icells, List.map_set]

theorem grown_trans {a b c : World} {row : Option Nat} (h : a.grownBy b row) (k : b.grownBy c row) : a.grownBy c row :=
  ⟨k.os.trans h.os, k.tape.trans h.tape, k.output.trans h.output, Nat.le_trans h.size k.size, fun i hi hne => (k.block i (Nat.lt_of_lt_of_le hi h.size) hne).trans (h.block i hi hne)⟩

theorem owns_cases {w : World} {base : Nat} {e : TypeId} {sz : Nat} {v : Value} {n : Nat} {xs : List Value} (h : w.ownsRow base e sz v n xs) :
    (v = .slice none 0 0 ∧ n = 0) ∨ ∃ g cap, v = .slice (some ⟨g, 0, none⟩) n cap := by
  rcases h.2 with hn | ⟨g, cap, cur, rfl, _⟩
  · exact .inl hn
  · exact .inr ⟨g, cap, rfl⟩

end Go.Proofs.YtckjkfcphcnpdaaGreat
