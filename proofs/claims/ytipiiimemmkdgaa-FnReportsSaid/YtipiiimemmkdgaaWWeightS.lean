/- l03Find, WeightBetween of spec. No condition. -/
import Derived.Test.YtipiiimemmkdgaaWWeight
namespace Go.Proofs.Ytipiiimemmkdgaa
set_option maxRecDepth 100000
open Go.ChangeShapes Go.WideShapes Go.ChangeAt Go.RowKit Go.Joins

theorem no_wire2 {xs : List Int} {a b : Int} {k : Nat} (h : Hid (∀ j, j < k → ¬ isW xs a b j)) (hk : ¬ isW xs a b k) : Hid (∀ j, j < k + 1 → ¬ isW xs a b j) := fun j hj => by
  by_cases e : j = k
  · subst e; exact hk
  · exact h.out j (by omega)

end Go.Proofs.Ytipiiimemmkdgaa
