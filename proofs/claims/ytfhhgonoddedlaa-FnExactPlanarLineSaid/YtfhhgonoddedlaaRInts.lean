/- A slice of integers as a law's argument. -/
import Derived.Test.YtfhhgonoddedlaaRBase
import Derived.Test.YtfhhgonoddedlaaWSl
namespace Go.Proofs.Ytfhhgonoddedlaa

open Go.ChangeShapes Go.WideShapes Go.ChangeAt Go.RowKit Go.Joins

theorem arg_ints {H : Type} {enc : TypeId × Value → H} {P : Program} {W : World} {r : Reach} {b0 : Nat} {t e : TypeId} {v : Value} {d : DataW H} {ps : List MemPlace}
    (ht : P.underlying t = some (.slice e)) (he : P.underlying e = some (.int .i64)) (hc : P.cellsOf e = 1) (hval : Value.okWide P W r b0 t v)
    (h : DataW.Trod enc P W 0 (fun _ => true) true t v d ps) : ∃ l, SlI W v l ∧ l.length ≤ 9223372036854775807 ∧ ∀ x ∈ l, InInt x := by
  obtain ⟨a0, len, cap, rfl⟩ := okWide_slice ht hval
  obtain ⟨fuel, hf⟩ := h
  rcases open_ints ht he hc hf with ⟨hcs, hx⟩ | ⟨a, len', cap', zs, hcs, _, hl, hm, hz, hx, hcell, hwz⟩
  · simp [Value.cells] at hcs
    obtain ⟨rfl, rfl, rfl⟩ := hcs
    exact ⟨[], ⟨rfl, none, 0, rfl, fun i u hu => by simp [icells] at hu⟩, by simp, by simp⟩
  · simp [Value.cells] at hcs
    obtain ⟨rfl, rfl, rfl⟩ := hcs
    simp only [if_true] at hz
    have hlen : (zs.take len).length = len := by rw [List.length_take]; omega
    unfold maxLen at hm
    refine ⟨zs.take len, ⟨by simp [icells_length], some a, cap, by rw [hlen], fun i u hu => ?_⟩, by omega, fun x hx => i64_of_wf (hwz x (List.mem_of_mem_take hx))⟩
    have hi : i < len := by
      have := (List.getElem?_eq_some_iff.1 hu).1
      rw [icells_length] at this
      omega
    have hc' := hcell i (by omega)
    obtain ⟨b, off, spot⟩ := a
    have hspot : spot = none := World.cell?_spot (by simpa [Addr.add] using hcell 0 (by omega))
    subst hspot
    refine ⟨b, off, rfl, ?_⟩
    have hadd : (⟨b, off, none⟩ : Addr).add i = ⟨b, off + i, none⟩ := by unfold Addr.add; split <;> simp_all
    rw [hadd] at hc'
    rw [hc', ← hu]
    simp [icells, hi, List.getD]
    rw [List.getElem?_eq_getElem (by omega)]
    simp
end Go.Proofs.Ytfhhgonoddedlaa
