/- slices.SortFunc of at most 12 squares that are in order. No condition. -/
import Derived.Test.YtckjkfcphcnpdaaGreatWTile
import Derived.Test.YtckjkfcphcnpdaaGreatWFlat
import Derived.Test.YtckjkfcphcnpdaaGreatShelf
namespace Go.Proofs.YtckjkfcphcnpdaaGreat
set_option maxRecDepth 100000
open Go.ChangeShapes Go.WideShapes Go.ChangeAt Go.RowKit Go.Joins

/-- Each square stands behind the one before it. -/
def ordC (n : Nat) (xs : List Int) : Prop := ∀ k, k + 1 < n → ¬ cmpSq (nth xs ((k + 1) * 3)) (nth xs ((k + 1) * 3 + 1)) (nth xs (k * 3)) (nth xs (k * 3 + 1)) < 0
end Go.Proofs.YtckjkfcphcnpdaaGreat
