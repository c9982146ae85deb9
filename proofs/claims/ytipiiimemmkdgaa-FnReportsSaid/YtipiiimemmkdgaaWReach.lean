/- l03Has, l03Reach of spec. No condition. -/
import Derived.Test.YtipiiimemmkdgaaPlNetOk
import Derived.Test.YtipiiimemmkdgaaWTyInt
import Derived.Test.YtipiiimemmkdgaaWEqInt
import Derived.Test.YtipiiimemmkdgaaWLaw
import Derived.Deep.DeepCutAuto
import Derived.Deep.QuietTactic
namespace Go.Proofs.Ytipiiimemmkdgaa
set_option maxRecDepth 100000
open Go.ChangeShapes Go.WideShapes Go.ChangeAt Go.RowKit Go.Joins

theorem own_nth {w : World} {base g n cap : Nat} {e : TypeId} {l : List Int} (h : w.ownsRow base e 1 (.slice (some ⟨g, 0, none⟩) n cap) n (icells l)) {j : Nat} (hj : j < n) : w.cell? ⟨g, j, none⟩ = some (.int .i64 (nth l j)) := by
  have hl : l.length = n := by have := h.1; rw [icells_length] at this; omega
  rw [h.cellAt j (by omega)]
  simp [icells, hl, hj, nth_eq]
theorem iprs_len (l : List (Nat × Nat)) : (iprs l).length = l.length := by simp [iprs]
theorem iprs_snoc (l : List (Nat × Nat)) (a b : Nat) : iprs (l ++ [(a, b)]) = iprs l ++ [((a : Int), (b : Int))] := by simp [iprs]
theorem prs_length (xs : List Int) (m : Nat) : (prs xs m).length = m := by simp [prs]
theorem qs_stop {l : List (Int × Int)} {p : Nat} (h : ¬ p < (qs l p).length) : ∀ d, qs l (p + d) = qs l p ∧ ¬ (p + d) < (qs l (p + d)).length := by
  intro d
  induction d with
  | zero => exact ⟨rfl, h⟩
  | succ d ih =>
    have e : qs l (p + (d + 1)) = qs l (p + d) := by
      show qs l (p + d + 1) = _
      rw [qs, if_neg ih.2]
    rw [e]
    exact ⟨ih.1, by have := ih.2; omega⟩

end Go.Proofs.Ytipiiimemmkdgaa
