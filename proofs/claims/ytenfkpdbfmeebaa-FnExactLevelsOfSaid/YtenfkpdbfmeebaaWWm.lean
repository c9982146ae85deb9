/- Weight matrices: squareOk, l04Matrix, IsWeightMatrix of both sides. No condition. -/
import Derived.Test.YtenfkpdbfmeebaaWLists
import Derived.Test.YtenfkpdbfmeebaaWIn
namespace Go.Proofs.Ytenfkpdbfmeebaa
set_option maxRecDepth 100000
open Go.ChangeShapes Go.WideShapes Go.ChangeAt Go.RowKit Go.Joins

/-- The slice v of n rows of integers. -/
def SlMI (w : World) (v : Value) (n : Nat) (R : List (List Int)) : Prop :=
  ∃ p cap, v = .slice p n cap ∧ ∀ i, i < n → ∃ b o pr cr, p = some ⟨b, o, none⟩ ∧ w.cell? ⟨b, o + i, none⟩ = some (.slice pr (rowL R i).length cr) ∧ SlI w (.slice pr (rowL R i).length cr) (rowL R i)
theorem SlMI.ge {w w' : World} {v : Value} {n : Nat} {R : List (List Int)} (h : SlMI w v n R) (hg : Ge w w') : SlMI w' v n R := by
  obtain ⟨p, cap, hv, hc⟩ := h
  refine ⟨p, cap, hv, fun i hi => ?_⟩
  obtain ⟨b, o, pr, cr, hp, hx, hs⟩ := hc i hi
  exact ⟨b, o, pr, cr, hp, hg.keep hx, SlI.ge hs hg⟩
noncomputable def sqB (R : List (List Int)) : Bool := @decide (sqP R) (Classical.propDecidable _)
noncomputable def wmB (R : List (List Int)) : Bool := @decide (wmP R) (Classical.propDecidable _)
theorem sqB_true {R : List (List Int)} (h : sqP R) : sqB R = true := by exact @decide_eq_true _ (Classical.propDecidable _) h
theorem sqB_false {R : List (List Int)} (h : ¬ sqP R) : sqB R = false := by exact @decide_eq_false _ (Classical.propDecidable _) h
theorem wmB_true {R : List (List Int)} (h : wmP R) : wmB R = true := by exact @decide_eq_true _ (Classical.propDecidable _) h
theorem wmB_false {R : List (List Int)} (h : ¬ wmP R) : wmB R = false := by exact @decide_eq_false _ (Classical.propDecidable _) h
theorem wmP_of {R : List (List Int)} (h : wmB R = true) : wmP R := @of_decide_eq_true _ (Classical.propDecidable _) h
theorem ent_nat (R : List (List Int)) (i j : Nat) : entM R i j = nth (rowL R i) j := by simp [entM, rowL]
theorem sumRow_succ (R : List (List Int)) (i j : Nat) : sumRow R i (j + 1) = sumRow R i j + entM R i j := rfl
theorem rowSq_iff (R : List (List Int)) (i : Nat) : rowSq R i ↔ (rowL R i).length = R.length ∧ ∀ j, j < (rowL R i).length → -1000 ≤ nth (rowL R i) j ∧ nth (rowL R i) j ≤ 1000 := Iff.rfl
theorem entOk_iff (R : List (List Int)) (i j : Nat) : entOk R i j ↔ nth (rowL R i) j = nth (rowL R j) i ∧ (i ≠ j → nth (rowL R i) j ≤ 0) := by unfold entOk; rw [ent_nat, ent_nat]

end Go.Proofs.Ytenfkpdbfmeebaa
