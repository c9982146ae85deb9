/- Clone, Delete of []int; matrices of integers. No condition. -/
import Derived.Test.YtenfkpdbfmeebaaWEqInt
import Derived.Test.YtenfkpdbfmeebaaWTyInt
import Derived.Test.YtenfkpdbfmeebaaWLaw
import Derived.Test.YtenfkpdbfmeebaaPlDet
import Derived.Test.YtenfkpdbfmeebaaShelf
namespace Go.Proofs.Ytenfkpdbfmeebaa
set_option maxRecDepth 100000
open Go.ChangeShapes Go.WideShapes Go.ChangeAt Go.RowKit Go.Joins

theorem own_setCells {base g cap n : Nat} {e : TypeId} : ∀ (vs : List Int) (o : Nat) (w : World) (l : List Int), w.ownsRow base e 1 (.slice (some ⟨g, 0, none⟩) n cap) n (icells l) → l.length = n → o + vs.length = n →
    (w.setCells g o (vs.map (Value.int .i64))).ownsRow base e 1 (.slice (some ⟨g, 0, none⟩) n cap) n (icells (l.take o ++ vs)) ∧ w.grownBy (w.setCells g o (vs.map (Value.int .i64))) (some g)
  | [], o, w, l, h, hl, ho => by
    simp at ho
    have : l.take o = l := by rw [ho, ← hl]; exact List.take_length
    simp only [List.map_nil, World.setCells, List.append_nil, this]
    exact ⟨h, World.grownBy.refl _ _⟩
  | v :: r, o, w, l, h, hl, ho => by
    have h1 := h.stored o (.int .i64 v)
    rw [icells_set] at h1
    simp at ho
    have h2 := own_setCells r (o + 1) _ (l.set o v) h1.1 (by simpa using hl) (by omega)
    simp only [List.map_cons, World.setCells]
    refine ⟨?_, grown_trans h1.2 h2.2⟩
    have e1 : (l.set o v).take (o + 1) ++ r = l.take o ++ v :: r := by
      rw [List.take_succ_eq_append_getElem (by simp; omega)]
      simp
      exact List.take_set_of_le (Nat.le_refl _)
    rw [← e1]; exact h2.1

/-- A matrix of N rows of N integers. -/
def SlMM (w : World) (v : Value) (N : Nat) (M : Int → Int → Int) : Prop :=
  ∃ p cap, v = .slice p N cap ∧ ∀ i, i < N → ∃ b o pr cr, p = some ⟨b, o, none⟩ ∧ w.cell? ⟨b, o + i, none⟩ = some (.slice pr N cr) ∧ ∀ j, j < N → ∃ br or, pr = some ⟨br, or, none⟩ ∧ w.cell? ⟨br, or + j, none⟩ = some (.int .i64 (M i j))
theorem SlMM.ge {w w' : World} {v : Value} {N : Nat} {M : Int → Int → Int} (h : SlMM w v N M) (hg : Ge w w') : SlMM w' v N M := by
  obtain ⟨p, cap, hv, hc⟩ := h
  refine ⟨p, cap, hv, fun i hi => ?_⟩
  obtain ⟨b, o, pr, cr, hp, hx, hr⟩ := hc i hi
  refine ⟨b, o, pr, cr, hp, hg.keep hx, fun j hj => ?_⟩
  obtain ⟨br, or, hq, hy⟩ := hr j hj
  exact ⟨br, or, hq, hg.keep hy⟩
end Go.Proofs.Ytenfkpdbfmeebaa
