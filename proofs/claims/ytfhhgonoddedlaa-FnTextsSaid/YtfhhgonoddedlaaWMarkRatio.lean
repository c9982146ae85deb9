/- markRatioS, heldRatioS. No condition. -/
import Derived.Test.YtfhhgonoddedlaaWFlat
import Derived.Test.YtfhhgonoddedlaaWEqInt
namespace Go.Proofs.Ytfhhgonoddedlaa
set_option maxRecDepth 100000
open Go.ChangeShapes Go.WideShapes Go.ChangeAt Go.RowKit Go.Joins

theorem marked_stepR (l : List Int) (k : Int) (j : Nat) (h : j * 2 + 1 < l.length) :
    ((marked l k (j * 2)).set (j * 2) (k + j * 2)).set (j * 2 + 1) (k + j * 2 + 1) = marked l k ((j + 1) * 2) := by
  have e1 : k + (j : Int) * 2 = k + ((j * 2 : Nat) : Int) := by simp
  have e2 : k + (j : Int) * 2 + 1 = k + ((j * 2 + 1 : Nat) : Int) := by simp; omega
  rw [e2, e1, marked_step _ _ _ (by omega), marked_step _ _ _ (by omega)]
  congr 1
  omega

end Go.Proofs.Ytfhhgonoddedlaa
