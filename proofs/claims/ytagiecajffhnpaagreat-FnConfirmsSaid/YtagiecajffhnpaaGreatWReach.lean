/- l03Has, l03Reach of spec. No condition. -/
import Derived.Test.YtagiecajffhnpaaGreatPlNetOk
import Derived.Test.YtagiecajffhnpaaGreatWTyInt
import Derived.Test.YtagiecajffhnpaaGreatWEqInt
import Derived.Test.YtagiecajffhnpaaGreatWLaw
import Derived.Deep.DeepCutAuto
import Derived.Deep.QuietTactic
namespace Go.Proofs.YtagiecajffhnpaaGreat
set_option maxRecDepth 100000
open Go.ChangeShapes Go.WideShapes Go.ChangeAt Go.RowKit Go.Joins

theorem own_nth {w : World} {base g n cap : Nat} {e : TypeId} {l : List Int} (h : w.ownsRow base e 1 (.slice (some ⟨g, 0, none⟩) n cap) n (icells l)) {j : Nat} (hj : j < n) : w.cell? ⟨g, j, none⟩ = some (.int .i64 (nth l j)) := by
  have hl : l.length = n := by have := h.1; rw [icells_length] at this; omega
  rw [h.cellAt j (by omega)]
  simp [icells, hl, hj, nth_eq]
end Go.Proofs.YtagiecajffhnpaaGreat
