/- A slice of bytes as a law's argument. -/
import Derived.Test.YtmcnfhpjjmbdmaaRBase
import Derived.Test.YtmcnfhpjjmbdmaaWCur
namespace Go.Proofs.Ytmcnfhpjjmbdmaa

open Go.ChangeShapes Go.WideShapes Go.ChangeAt Go.RowKit Go.Joins

theorem u8_of_wf {x : Int} (h : (Lit.int .u8 x).wf = true) : 0 ≤ x ∧ x ≤ 255 := by
  simp [Lit.wf, IntKind.min, IntKind.max, IntKind.signed, IntKind.bits] at h
  omega

theorem arg_bytes {H : Type} {enc : TypeId × Value → H} {P : Program} {W : World} {r : Reach} {b0 : Nat} {t e : TypeId} {v : Value} {d : DataW H} {ps : List MemPlace}
    (ht : P.underlying t = some (.slice e)) (he : P.underlying e = some (.int .u8)) (hc : P.cellsOf e = 1) (hval : Value.okWide P W r b0 t v)
    (h : DataW.Trod enc P W 0 (fun _ => true) true t v d ps) : ∃ p n cap, v = .slice p n cap ∧ SlB W p n ∧ n ≤ 9223372036854775807 := by
  obtain ⟨a0, len, cap, rfl⟩ := okWide_slice ht hval
  obtain ⟨fuel, hf⟩ := h
  rcases open_ints ht he hc hf with ⟨hcs, hx⟩ | ⟨a, len', cap', zs, hcs, _, hl, hm, hz, hx, hcell, hwz⟩
  · simp [Value.cells] at hcs
    obtain ⟨rfl, rfl, rfl⟩ := hcs
    exact ⟨_, _, _, rfl, fun i hi => by omega, by omega⟩
  · simp [Value.cells] at hcs
    obtain ⟨rfl, rfl, rfl⟩ := hcs
    simp only [if_true] at hz
    unfold maxLen at hm
    refine ⟨_, _, _, rfl, fun i hi => ?_, by omega⟩
    have hc' := hcell i (by omega)
    obtain ⟨b, off, spot⟩ := a
    have hspot : spot = none := World.cell?_spot (by simpa [Addr.add] using hcell 0 (by omega))
    subst hspot
    have hadd : (⟨b, off, none⟩ : Addr).add i = ⟨b, off + i, none⟩ := by unfold Addr.add; split <;> simp_all
    rw [hadd] at hc'
    have hmem : zs.getD i 0 ∈ zs := by
      simp only [List.getD]
      rw [List.getElem?_eq_getElem (by omega)]
      exact List.getElem_mem _
    have hb := u8_of_wf (hwz _ hmem)
    exact ⟨b, off, _, rfl, hc', hb.1, hb.2⟩
end Go.Proofs.Ytmcnfhpjjmbdmaa
