/- A slice of structs of three integers as a law's argument. -/
import Derived.Test.YtenfkpdbfmeebaaRBase
import Derived.Test.YtenfkpdbfmeebaaWFlat
import Derived.Deep.Slices
namespace Go.Proofs.Ytenfkpdbfmeebaa

open Go.ChangeShapes Go.WideShapes Go.ChangeAt Go.RowKit Go.Joins Go.Deep

theorem arg_flat3 {H : Type} {enc : TypeId × Value → H} {P : Program} {W : World} {r : Reach} {b0 : Nat} {t e : TypeId} {f0 f1 f2 : Field} {v : Value} {d : DataW H} {ps : List MemPlace}
    (ht : P.underlying t = some (.slice e)) (he : P.underlying e = some (.struct #[f0, f1, f2])) (hone : oneCellFields P #[f0, f1, f2] = true) (hC : P.cellsOf e = 3)
    (hi0 : P.underlying f0.type = some (.int .i64)) (hi1 : P.underlying f1.type = some (.int .i64)) (hi2 : P.underlying f2.type = some (.int .i64)) (hval : Value.okWide P W r b0 t v)
    (h : DataW.Trod enc P W 0 (fun _ => true) true t v d ps) : ∃ n l, SlF W v n 3 l ∧ n ≤ 9223372036854775807 ∧ (∀ j, -9223372036854775808 ≤ nth l j ∧ nth l j ≤ 9223372036854775807) ∧ ∀ p c, v = .slice p n c → n ≤ c := by
  obtain ⟨a0, len, cap, rfl⟩ := okWide_slice ht hval
  obtain ⟨fuel, hf⟩ := h
  rcases Go.Deep.open_slice ht hf with ⟨hcs, hx⟩ | ⟨a, len', cap', m, n, D, Pl, hcs, hb, hl, hm, hmm, _, hx⟩
  · simp [Value.cells] at hcs
    obtain ⟨rfl, rfl, rfl⟩ := hcs
    exact ⟨0, [], ⟨rfl, none, 0, rfl, fun i u hu => by simp [icells] at hu⟩, by simp, by simp [nth], fun p c h => by omega⟩
  · simp [Value.cells] at hcs
    obtain ⟨rfl, rfl, rfl⟩ := hcs
    simp only [if_true] at hmm
    subst hmm
    unfold maxLen at hm
    have each : ∀ k, k < len * 3 → ∃ x : Int, W.cell? (a.add k) = some (.int .i64 x) ∧ InInt x := by
      intro k hk
      obtain ⟨cs', h1, h2⟩ := hx (k / 3) (by omega)
      rw [hC] at h1
      obtain ⟨_, hlen, hcell⟩ := World.cells?_some h1
      obtain ⟨y0, y1, y2, n', _, _, g0, g1, g2⟩ := trod_struct3 he h2
      obtain ⟨o0, k0⟩ := hone_of hone 0 f0 rfl
      obtain ⟨o1, k1⟩ := hone_of hone 1 f1 rfl
      obtain ⟨o2, k2⟩ := hone_of hone 2 f2 rfl
      match cs', hlen with
      | [v0, v1, v2], _ =>
        simp [o0, o1, o2, k0, k1, k2] at g0 g1 g2
        obtain ⟨x0, e0, _, w0⟩ := DataW.trod_int hi0 g0
        obtain ⟨x1, e1, _, w1⟩ := DataW.trod_int hi1 g1
        obtain ⟨x2, e2, _, w2⟩ := DataW.trod_int hi2 g2
        simp at e0 e1 e2
        subst e0 e1 e2
        have hadd : ∀ j, (a.add (k / 3 * 3)).add j = a.add (k / 3 * 3 + j) := fun j => Go.Deep.add_add _ _ _
        have c0 := hcell 0 (by omega)
        have c1 := hcell 1 (by omega)
        have c2 := hcell 2 (by omega)
        rw [hadd] at c0 c1 c2
        have h4 : k % 3 = 0 ∨ k % 3 = 1 ∨ k % 3 = 2 := by omega
        rcases h4 with h4 | h4 | h4
        · rw [show k / 3 * 3 + 0 = k by omega] at c0
          exact ⟨x0, by simpa using c0, i64_of_wf w0⟩
        · rw [show k / 3 * 3 + 1 = k by omega] at c1
          exact ⟨x1, by simpa using c1, i64_of_wf w1⟩
        · rw [show k / 3 * 3 + 2 = k by omega] at c2
          exact ⟨x2, by simpa using c2, i64_of_wf w2⟩
    obtain ⟨q, hq⟩ := Go.Deep.choose_lt each
    refine ⟨len, (List.range (len * 3)).map q, ⟨by simp [icells_length], some a, _, rfl, fun i u hu => ?_⟩, by omega, fun j => ?_, fun p c h => by simp at h; omega⟩
    · have hi : i < len * 3 := by
        have := (List.getElem?_eq_some_iff.1 hu).1
        simpa [icells_length] using this
      obtain ⟨hc', _⟩ := hq i hi
      obtain ⟨b, off, spot⟩ := a
      have hspot : spot = none := World.cell?_spot (by simpa [Addr.add] using (hq 0 (by omega)).1)
      subst hspot
      refine ⟨b, off, rfl, ?_⟩
      have hadd : (⟨b, off, none⟩ : Addr).add i = ⟨b, off + i, none⟩ := by unfold Addr.add; split <;> simp_all
      rw [hadd] at hc'
      rw [hc', ← hu]
      simp [icells, hi]
    · by_cases hj : j < len * 3
      · have := (hq j hj).2
        rw [nth_eq _ _ (by simpa using hj)]
        simpa [InInt] using this
      · simp [nth, hj]
theorem arg_flat2 {H : Type} {enc : TypeId × Value → H} {P : Program} {W : World} {r : Reach} {b0 : Nat} {t e : TypeId} {f0 f1 : Field} {v : Value} {d : DataW H} {ps : List MemPlace}
    (ht : P.underlying t = some (.slice e)) (he : P.underlying e = some (.struct #[f0, f1])) (hone : oneCellFields P #[f0, f1] = true) (hC : P.cellsOf e = 2)
    (hi0 : P.underlying f0.type = some (.int .i64)) (hi1 : P.underlying f1.type = some (.int .i64)) (hval : Value.okWide P W r b0 t v)
    (h : DataW.Trod enc P W 0 (fun _ => true) true t v d ps) : ∃ n l, SlF W v n 2 l ∧ n ≤ 9223372036854775807 ∧ (∀ j, -9223372036854775808 ≤ nth l j ∧ nth l j ≤ 9223372036854775807) ∧ ∀ p c, v = .slice p n c → n ≤ c := by
  obtain ⟨a0, len, cap, rfl⟩ := okWide_slice ht hval
  obtain ⟨fuel, hf⟩ := h
  rcases Go.Deep.open_slice ht hf with ⟨hcs, hx⟩ | ⟨a, len', cap', m, n, D, Pl, hcs, hb, hl, hm, hmm, _, hx⟩
  · simp [Value.cells] at hcs
    obtain ⟨rfl, rfl, rfl⟩ := hcs
    exact ⟨0, [], ⟨rfl, none, 0, rfl, fun i u hu => by simp [icells] at hu⟩, by simp, by simp [nth], fun p c h => by omega⟩
  · simp [Value.cells] at hcs
    obtain ⟨rfl, rfl, rfl⟩ := hcs
    simp only [if_true] at hmm
    subst hmm
    unfold maxLen at hm
    have each : ∀ k, k < len * 2 → ∃ x : Int, W.cell? (a.add k) = some (.int .i64 x) ∧ InInt x := by
      intro k hk
      obtain ⟨cs', h1, h2⟩ := hx (k / 2) (by omega)
      rw [hC] at h1
      obtain ⟨_, hlen, hcell⟩ := World.cells?_some h1
      obtain ⟨y0, y1, n', _, _, g0, g1⟩ := trod_struct2 he h2
      obtain ⟨o0, k0⟩ := hone_of hone 0 f0 rfl
      obtain ⟨o1, k1⟩ := hone_of hone 1 f1 rfl
      match cs', hlen with
      | [v0, v1], _ =>
        simp [o0, o1, k0, k1] at g0 g1
        obtain ⟨x0, e0, _, w0⟩ := DataW.trod_int hi0 g0
        obtain ⟨x1, e1, _, w1⟩ := DataW.trod_int hi1 g1
        simp at e0 e1
        subst e0 e1
        have hadd : ∀ j, (a.add (k / 2 * 2)).add j = a.add (k / 2 * 2 + j) := fun j => Go.Deep.add_add _ _ _
        have c0 := hcell 0 (by omega)
        have c1 := hcell 1 (by omega)
        rw [hadd] at c0 c1
        have h4 : k % 2 = 0 ∨ k % 2 = 1 := by omega
        rcases h4 with h4 | h4
        · rw [show k / 2 * 2 + 0 = k by omega] at c0
          exact ⟨x0, by simpa using c0, i64_of_wf w0⟩
        · rw [show k / 2 * 2 + 1 = k by omega] at c1
          exact ⟨x1, by simpa using c1, i64_of_wf w1⟩
    obtain ⟨q, hq⟩ := Go.Deep.choose_lt each
    refine ⟨len, (List.range (len * 2)).map q, ⟨by simp [icells_length], some a, _, rfl, fun i u hu => ?_⟩, by omega, fun j => ?_, fun p c h => by simp at h; omega⟩
    · have hi : i < len * 2 := by
        have := (List.getElem?_eq_some_iff.1 hu).1
        simpa [icells_length] using this
      obtain ⟨hc', _⟩ := hq i hi
      obtain ⟨b, off, spot⟩ := a
      have hspot : spot = none := World.cell?_spot (by simpa [Addr.add] using (hq 0 (by omega)).1)
      subst hspot
      refine ⟨b, off, rfl, ?_⟩
      have hadd : (⟨b, off, none⟩ : Addr).add i = ⟨b, off + i, none⟩ := by unfold Addr.add; split <;> simp_all
      rw [hadd] at hc'
      rw [hc', ← hu]
      simp [icells, hi]
    · by_cases hj : j < len * 2
      · have := (hq j hj).2
        rw [nth_eq _ _ (by simpa using hj)]
        simpa [InInt] using this
      · simp [nth, hj]
end Go.Proofs.Ytenfkpdbfmeebaa
