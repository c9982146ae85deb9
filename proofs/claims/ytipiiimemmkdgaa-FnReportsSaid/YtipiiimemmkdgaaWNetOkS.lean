/- NetOk of spec. No condition. -/
import Derived.Test.YtipiiimemmkdgaaWReach
import Derived.Test.YtipiiimemmkdgaaWIn
namespace Go.Proofs.Ytipiiimemmkdgaa
set_option maxRecDepth 100000
open Go.ChangeShapes Go.WideShapes Go.ChangeAt Go.RowKit Go.Joins

theorem good_nextWS {N : Int} {xs : List Int} {k : Nat} (h : Hid (∀ i, i < k → goodW N xs i)) (hk : goodW N xs k) : Hid (∀ i, i < k + 1 → goodW N xs i) := fun i hi => by
  by_cases e : i = k
  · subst e; exact hk
  · exact h.out i (by omega)

end Go.Proofs.Ytipiiimemmkdgaa
