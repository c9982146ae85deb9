/- det of impl. No condition. -/
import Derived.Test.YtenfkpdbfmeebaaWDet0
import Derived.Test.YtenfkpdbfmeebaaPlLap
import Derived.Deep.DeepCutAuto
namespace Go.Proofs.Ytenfkpdbfmeebaa
set_option maxRecDepth 100000
open Go.ChangeShapes Go.WideShapes Go.ChangeAt Go.RowKit Go.Joins

theorem tail_slice {w : World} {b o c m : Nat} {r : Int} {rs : List Int} (hm : rs.length = m) (h : SlI w (.slice (some ⟨b, o, none⟩) (m + 1) c) (r :: rs)) : SlI w (.slice (some ⟨b, o + 1, none⟩) m (c - 1)) rs := by
  subst hm
  obtain ⟨p, c', he, hc⟩ := h.openN (n := rs.length + 1) rfl
  simp only [Value.slice.injEq, true_and] at he
  obtain ⟨rfl, rfl⟩ := he
  refine ⟨by simp [icells_length], _, _, rfl, fun i u hu => ?_⟩
  have hi : i < rs.length := by have := (List.getElem?_eq_some_iff.1 hu).1; rwa [icells_length] at this
  obtain ⟨b', o', e, hx⟩ := hc (i + 1) (by omega)
  simp only [Option.some.injEq, Addr.mk.injEq, and_true] at e
  obtain ⟨rfl, rfl⟩ := e
  refine ⟨b, o + 1, rfl, ?_⟩
  rw [show o + 1 + i = o + (i + 1) by omega, hx, ← hu]
  simp [icells, nth, hi]
theorem tail_slice1 {w : World} {b o c m : Nat} {r : Int} {rs : List Int} (hm : rs.length = m) (hc : m + 1 ≤ c) (h : SlI w (.slice (some ⟨b, o, none⟩) (m + 1) c) (r :: rs)) : ∃ (at' : Addr) (cq : Nat), (c = 1 ∧ at' = ⟨b, o, none⟩ ∧ cq = c - 1 ∨ c ≠ 1 ∧ at' = ⟨b, o + 1, none⟩ ∧ cq = c - 1) ∧ (m ≤ cq) ∧ SlI w (.slice (some at') m cq) rs := by
  by_cases h1 : c = 1
  · have : m = 0 := by omega
    subst this
    refine ⟨_, _, .inl ⟨h1, rfl, rfl⟩, by omega, ?_⟩
    obtain rfl := List.eq_nil_of_length_eq_zero hm
    exact ⟨rfl, _, _, rfl, fun i u hu => by simp [icells] at hu⟩
  · exact ⟨_, _, .inr ⟨h1, rfl, rfl⟩, by omega, tail_slice hm h⟩



end Go.Proofs.Ytenfkpdbfmeebaa
