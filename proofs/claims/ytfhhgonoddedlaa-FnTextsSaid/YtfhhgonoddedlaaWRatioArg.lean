/- Slices of Ratio as a law's argument: toRatio, toRatioS, eqRatio, eqRatioS, szRatioS. -/
import Derived.Test.YtfhhgonoddedlaaWToInt
import Derived.Test.YtfhhgonoddedlaaWFlat
namespace Go.Proofs.Ytfhhgonoddedlaa
set_option maxRecDepth 100000
open Go.ChangeShapes Go.WideShapes Go.ChangeAt Go.RowKit Go.Joins

theorem inf_Ratio : (Try.prog.info? 39).map (fun i => (i.zero, i.size, i.bytes)) = some (some (Value.agg #[.int .i64 0, .int .i64 0]), 2, 16) := by kernel_rfl
theorem made_Ratio (n : Nat) : (madeCells (Value.agg #[.int .i64 0, .int .i64 0]).cells (n * 2)).toList = icells (List.replicate (n * 2) 0) := by
  apply List.ext_getElem?
  intro j
  have h3 : ((Value.agg #[.int .i64 0, .int .i64 0]).cells) = #[.int .i64 0, .int .i64 0] := rfl
  by_cases hj : j < n * 2
  · have h4 : j % 2 = 0 ∨ j % 2 = 1 := by omega
    rcases h4 with h4 | h4 <;> simp [madeCells, icells, h3, hj, h4]
  · simp [madeCells, icells, hj]
theorem own_some_Ratio {w : World} {base g n cap m : Nat} {e : TypeId} {xs : List Value} (h : w.ownsRow base e m (.slice (some ⟨g, 0, none⟩) n cap) n xs) {j : Nat} (hj : j < n * m) : ∃ u, w.cell? ⟨g, j, none⟩ = some u := by
  rw [h.cellAt j hj]
  exact ⟨_, List.getElem?_eq_getElem (by have := h.1; omega)⟩
theorem own_set_Ratio {w w0 : World} {base g n cap : Nat} {e : TypeId} {l : List Int} (h : w.ownsRow base e 2 (.slice (some ⟨g, 0, none⟩) n cap) n (icells l)) (hg : Ge w0 w) (h0 : w0.heap.size ≤ g) (j : Nat) (a b : Int) :
    ((w.setCell ⟨g, j, none⟩ (.int .i64 a)).setCell ⟨g, j + 1, none⟩ (.int .i64 b)).ownsRow base e 2 (.slice (some ⟨g, 0, none⟩) n cap) n (icells ((l.set j a).set (j + 1) b)) ∧
    Ge w0 ((w.setCell ⟨g, j, none⟩ (.int .i64 a)).setCell ⟨g, j + 1, none⟩ (.int .i64 b)) := by
  have h1 := h.stored j (.int .i64 a)
  have h2 := h1.1.stored (j + 1) (.int .i64 b)
  refine ⟨by have := h2.1; rwa [icells_set, icells_set] at this, ?_⟩
  have k : ∀ k, some g = some k → w0.heap.size ≤ k := fun k hk => by simp at hk; omega
  exact (hg.grown h1.2 k).grown h2.2 k

end Go.Proofs.Ytfhhgonoddedlaa
