/- eqIntS, markIntS, heldIntS. -/
import Derived.Test.YtagiecajffhnpaaGreatWSl
namespace Go.Proofs.YtagiecajffhnpaaGreat

open Go.RowKit

theorem icells_set (l : List Int) (j : Nat) (x : Int) : (icells l).set j (.int .i64 x) = icells (l.set j x) := by simp [icells, List.map_set]

theorem grown_trans {a b c : World} {row : Option Nat} (h : a.grownBy b row) (k : b.grownBy c row) : a.grownBy c row :=
  ⟨k.os.trans h.os, k.tape.trans h.tape, k.output.trans h.output, Nat.le_trans h.size k.size, fun i hi hne => (k.block i (Nat.lt_of_lt_of_le hi h.size) hne).trans (h.block i hi hne)⟩

theorem owns_cases {w : World} {base : Nat} {e : TypeId} {sz : Nat} {v : Value} {n : Nat} {xs : List Value} (h : w.ownsRow base e sz v n xs) :
    (v = .slice none 0 0 ∧ n = 0) ∨ ∃ g cap, v = .slice (some ⟨g, 0, none⟩) n cap := by
  rcases h.2 with hn | ⟨g, cap, cur, rfl, _⟩
  · exact .inl hn
  · exact .inr ⟨g, cap, rfl⟩

end Go.Proofs.YtagiecajffhnpaaGreat
