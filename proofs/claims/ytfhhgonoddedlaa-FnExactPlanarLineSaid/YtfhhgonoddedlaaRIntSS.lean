/- A slice of slices of integers as a law's argument. -/
import Derived.Test.YtfhhgonoddedlaaRInts
import Derived.Test.YtfhhgonoddedlaaWWm
namespace Go.Proofs.Ytfhhgonoddedlaa

open Go.ChangeShapes Go.WideShapes Go.ChangeAt Go.RowKit Go.Joins Go.Deep

theorem arg_ints_cells {H : Type} {enc : TypeId × Value → H} {P : Program} {W : World} {t e : TypeId} {v : Value} {fuel : Nat} {x : DataW H × List MemPlace}
    (ht : P.underlying t = some (.slice e)) (he : P.underlying e = some (.int .i64)) (hc : P.cellsOf e = 1)
    (hf : DataW.trod enc P W 0 (fun _ => true) true fuel t [v] = some x) : ∃ l p c, v = .slice p l.length c ∧ SlI W v l ∧ l.length ≤ 9223372036854775807 ∧ ∀ j, -9223372036854775808 ≤ nth l j ∧ nth l j ≤ 9223372036854775807 := by
  rcases open_ints ht he hc hf with ⟨hcs, hx⟩ | ⟨a, len, cap, zs, hcs, _, hl, hm, hz, hx, hcell, hwz⟩
  · simp at hcs
    subst hcs
    exact ⟨[], none, 0, rfl, ⟨rfl, none, 0, rfl, fun i u hu => by simp [icells] at hu⟩, by simp, by simp [nth]⟩
  · simp at hcs
    subst hcs
    simp only [if_true] at hz
    have hlen : (zs.take len).length = len := by rw [List.length_take]; omega
    unfold maxLen at hm
    refine ⟨zs.take len, some a, cap, by rw [hlen], ⟨by simp [icells_length], some a, cap, by rw [hlen], fun i u hu => ?_⟩, by omega, fun j => ?_⟩
    · have hi : i < len := by
        have := (List.getElem?_eq_some_iff.1 hu).1
        rw [icells_length] at this
        omega
      have hc' := hcell i (by omega)
      obtain ⟨b, off, spot⟩ := a
      have hspot : spot = none := World.cell?_spot (by simpa [Addr.add] using hcell 0 (by omega))
      subst hspot
      refine ⟨b, off, rfl, ?_⟩
      have hadd : (⟨b, off, none⟩ : Addr).add i = ⟨b, off + i, none⟩ := by unfold Addr.add; split <;> simp_all
      rw [hadd] at hc'
      rw [hc', ← hu]
      simp [icells, hi, List.getD]
      rw [List.getElem?_eq_getElem (by omega)]
      simp
    · by_cases hj : j < len
      · rw [nth_eq _ _ (by omega)]
        have := i64_of_wf (hwz _ (List.mem_of_mem_take (List.getElem_mem (l := zs.take len) (by omega : j < (zs.take len).length))))
        simpa [InInt] using this
      · unfold nth
        rw [List.getD_eq_getElem?_getD, List.getElem?_eq_none (by omega)]
        simp

theorem arg_intss {H : Type} {enc : TypeId × Value → H} {P : Program} {W : World} {r : Reach} {b0 : Nat} {tt t e : TypeId} {v : Value} {d : DataW H} {ps : List MemPlace}
    (htt : P.underlying tt = some (.slice t)) (hC1 : P.cellsOf t = 1) (ht : P.underlying t = some (.slice e)) (he : P.underlying e = some (.int .i64)) (hC : P.cellsOf e = 1) (hval : Value.okWide P W r b0 tt v)
    (h : DataW.Trod enc P W 0 (fun _ => true) true tt v d ps) : ∃ n R, SlMI W v n R ∧ R.length = n ∧ n ≤ 9223372036854775807 ∧ (∀ i, i < n → (rowL R i).length ≤ 9223372036854775807) ∧
      (∀ i, i < n → ∀ j, -9223372036854775808 ≤ nth (rowL R i) j ∧ nth (rowL R i) j ≤ 9223372036854775807) := by
  obtain ⟨a0, len, cap, rfl⟩ := okWide_slice htt hval
  obtain ⟨fuel, hf⟩ := h
  rcases Go.Deep.open_slice1 htt hC1 hf with ⟨hcs, hx⟩ | ⟨a, len', cap', m, n, V, D, Pl, hcs, hb, hl, hm, hmm, _, hx⟩
  · simp [Value.cells] at hcs
    obtain ⟨rfl, rfl, rfl⟩ := hcs
    exact ⟨0, [], ⟨none, 0, rfl, fun i hi => by omega⟩, rfl, by omega, fun i hi => by omega, fun i hi => by omega⟩
  · simp [Value.cells] at hcs
    obtain ⟨rfl, rfl, rfl⟩ := hcs
    simp only [if_true] at hmm
    subst hmm
    unfold maxLen at hm
    have each : ∀ i, i < len → ∃ q : List Int, ∃ p c, V i = .slice p q.length c ∧ SlI W (.slice p q.length c) q ∧ q.length ≤ 9223372036854775807 ∧ (∀ j, -9223372036854775808 ≤ nth q j ∧ nth q j ≤ 9223372036854775807) ∧ W.cell? (a.add i) = some (.slice p q.length c) := by
      intro i hi
      obtain ⟨h1, h2⟩ := hx i (by omega)
      obtain ⟨l, p, c, hv, hs, hk, hbd⟩ := arg_ints_cells ht he hC h2
      rw [hv] at hs h1
      exact ⟨l, p, c, hv, hs, hk, hbd, h1⟩
    obtain ⟨q, hq⟩ := Go.Deep.choose_lt each
    have hg : ∀ i, i < len → rowL ((List.range len).map q) i = q i := fun i hi => by simp [rowL, hi]
    refine ⟨len, (List.range len).map q, ⟨some a, _, rfl, fun i hi => ?_⟩, by simp, by omega, fun i hi => ?_, fun i hi j => ?_⟩
    · obtain ⟨p, c, _, hs, _, _, hc⟩ := hq i hi
      obtain ⟨b, off, spot⟩ := a
      obtain ⟨p0, c0, _, _, _, _, h0⟩ := hq 0 (by omega)
      have h00 : W.cell? ⟨b, off, spot⟩ = some (.slice p0 (q 0).length c0) := by simpa [Addr.add] using h0
      have hspot : spot = none := World.cell?_spot h00
      subst hspot
      have hadd : (⟨b, off, none⟩ : Addr).add i = ⟨b, off + i, none⟩ := by unfold Addr.add; split <;> simp_all
      rw [hadd] at hc
      rw [hg i hi]
      exact ⟨b, off, p, c, rfl, hc, hs⟩
    · obtain ⟨_, _, _, _, hk, _⟩ := hq i hi
      rw [hg i hi]; exact hk
    · obtain ⟨_, _, _, _, _, hbd, _⟩ := hq i hi
      rw [hg i hi]; exact hbd j
end Go.Proofs.Ytfhhgonoddedlaa
