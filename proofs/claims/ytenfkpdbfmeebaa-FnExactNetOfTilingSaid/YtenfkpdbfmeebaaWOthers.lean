/- slices.Contains of integers; others of impl, l04Without of the reference. No condition. -/
import Derived.Test.YtenfkpdbfmeebaaWMatO
namespace Go.Proofs.Ytenfkpdbfmeebaa
set_option maxRecDepth 100000
open Go.ChangeShapes Go.WideShapes Go.ChangeAt Go.RowKit Go.Joins

theorem owns_lit1 (w : World) (e : TypeId) (size b : Nat) (hb : b = w.heap.size) : (w.alloc (.cells #[] e)).ownsRow b e size (.slice (some ⟨b, 0, none⟩) 0 0) 0 [] := by
  subst hb; exact owns_lit0 _ _ _
end Go.Proofs.Ytenfkpdbfmeebaa
