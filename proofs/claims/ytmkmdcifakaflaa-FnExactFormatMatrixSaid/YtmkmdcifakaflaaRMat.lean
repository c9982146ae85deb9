/- A slice of slices of structs of two integers as a law's argument. -/
import Derived.Test.YtmkmdcifakaflaaRFlat
import Derived.Test.YtmkmdcifakaflaaWMat
namespace Go.Proofs.Ytmkmdcifakaflaa

open Go.ChangeShapes Go.WideShapes Go.ChangeAt Go.RowKit Go.Joins Go.Deep

theorem arg_flat2_cells {H : Type} {enc : TypeId × Value → H} {P : Program} {W : World} {t e : TypeId} {f0 f1 : Field} {v : Value} {fuel : Nat} {x : DataW H × List MemPlace}
    (ht : P.underlying t = some (.slice e)) (he : P.underlying e = some (.struct #[f0, f1])) (hone : oneCellFields P #[f0, f1] = true) (hC : P.cellsOf e = 2)
    (hi0 : P.underlying f0.type = some (.int .i64)) (hi1 : P.underlying f1.type = some (.int .i64))
    (hf : DataW.trod enc P W 0 (fun _ => true) true fuel t [v] = some x) : ∃ n l p c, v = .slice p n c ∧ SlF W v n 2 l ∧ n ≤ 9223372036854775807 ∧ (∀ j, -9223372036854775808 ≤ nth l j ∧ nth l j ≤ 9223372036854775807) ∧ n ≤ c := by
  rcases Go.Deep.open_slice ht hf with ⟨hcs, hx⟩ | ⟨a, len', cap', m, n, D, Pl, hcs, hb, hl, hm, hmm, _, hx⟩
  · simp at hcs
    subst hcs
    exact ⟨0, [], none, 0, rfl, ⟨rfl, none, 0, rfl, fun i u hu => by simp [icells] at hu⟩, by simp, by simp [nth], by omega⟩
  · simp at hcs
    subst hcs
    simp only [if_true] at hmm
    subst hmm
    unfold maxLen at hm
    have each : ∀ k, k < len' * 2 → ∃ x : Int, W.cell? (a.add k) = some (.int .i64 x) ∧ InInt x := by
      intro k hk
      obtain ⟨cs', h1, h2⟩ := hx (k / 2) (by omega)
      rw [hC] at h1
      obtain ⟨_, hlen, hcell⟩ := World.cells?_some h1
      obtain ⟨y0, y1, n', _, _, g0, g1⟩ := trod_struct2 he h2
      obtain ⟨o0, k0⟩ := hone_of hone 0 f0 rfl
      obtain ⟨o1, k1⟩ := hone_of hone 1 f1 rfl
      match cs', hlen with
      | [v0, v1], _ =>
        simp [o0, o1, k0, k1] at g0 g1
        obtain ⟨x0, e0, _, w0⟩ := DataW.trod_int hi0 g0
        obtain ⟨x1, e1, _, w1⟩ := DataW.trod_int hi1 g1
        simp at e0 e1
        subst e0 e1
        have hadd : ∀ j, (a.add (k / 2 * 2)).add j = a.add (k / 2 * 2 + j) := fun j => Go.Deep.add_add _ _ _
        have c0 := hcell 0 (by omega)
        have c1 := hcell 1 (by omega)
        rw [hadd] at c0 c1
        have h4 : k % 2 = 0 ∨ k % 2 = 1 := by omega
        rcases h4 with h4 | h4
        · rw [show k / 2 * 2 + 0 = k by omega] at c0
          exact ⟨x0, by simpa using c0, i64_of_wf w0⟩
        · rw [show k / 2 * 2 + 1 = k by omega] at c1
          exact ⟨x1, by simpa using c1, i64_of_wf w1⟩
    obtain ⟨q, hq⟩ := Go.Deep.choose_lt each
    refine ⟨len', (List.range (len' * 2)).map q, some a, _, rfl, ⟨by simp [icells_length], some a, _, rfl, fun i u hu => ?_⟩, by omega, fun j => ?_, hl⟩
    · have hi : i < len' * 2 := by
        have := (List.getElem?_eq_some_iff.1 hu).1
        simpa [icells_length] using this
      obtain ⟨hc', _⟩ := hq i hi
      obtain ⟨b, off, spot⟩ := a
      have hspot : spot = none := World.cell?_spot (by simpa [Addr.add] using (hq 0 (by omega)).1)
      subst hspot
      refine ⟨b, off, rfl, ?_⟩
      have hadd : (⟨b, off, none⟩ : Addr).add i = ⟨b, off + i, none⟩ := by unfold Addr.add; split <;> simp_all
      rw [hadd] at hc'
      rw [hc', ← hu]
      simp [icells, hi]
    · by_cases hj : j < len' * 2
      · have := (hq j hj).2
        rw [nth_eq _ _ (by simpa using hj)]
        simpa [InInt] using this
      · simp [nth, hj]

theorem rget {R : List (Nat × List Int)} {n i : Nat} {q : Nat → Nat × List Int} (h : R = (List.range n).map q) (hi : i < n) : rlen R i = (q i).1 ∧ rdat R i = (q i).2 := by
  subst h
  simp [rlen, rdat, hi]

theorem arg_mat {H : Type} {enc : TypeId × Value → H} {P : Program} {W : World} {r : Reach} {b0 : Nat} {tt t e : TypeId} {f0 f1 : Field} {v : Value} {d : DataW H} {ps : List MemPlace}
    (htt : P.underlying tt = some (.slice t)) (hC1 : P.cellsOf t = 1) (ht : P.underlying t = some (.slice e)) (he : P.underlying e = some (.struct #[f0, f1])) (hone : oneCellFields P #[f0, f1] = true) (hC : P.cellsOf e = 2)
    (hi0 : P.underlying f0.type = some (.int .i64)) (hi1 : P.underlying f1.type = some (.int .i64)) (hval : Value.okWide P W r b0 tt v)
    (h : DataW.Trod enc P W 0 (fun _ => true) true tt v d ps) : ∃ n R, SlM W v n R ∧ R.length = n ∧ n ≤ 9223372036854775807 ∧ (∀ i, i < n → rlen R i ≤ 9223372036854775807) ∧
      (∀ i, i < n → ∀ j, -9223372036854775808 ≤ nth (rdat R i) j ∧ nth (rdat R i) j ≤ 9223372036854775807) := by
  obtain ⟨a0, len, cap, rfl⟩ := okWide_slice htt hval
  obtain ⟨fuel, hf⟩ := h
  rcases Go.Deep.open_slice1 htt hC1 hf with ⟨hcs, hx⟩ | ⟨a, len', cap', m, n, V, D, Pl, hcs, hb, hl, hm, hmm, _, hx⟩
  · simp [Value.cells] at hcs
    obtain ⟨rfl, rfl, rfl⟩ := hcs
    exact ⟨0, [], ⟨none, 0, rfl, fun i hi => by omega⟩, rfl, by omega, fun i hi => by omega, fun i hi => by omega⟩
  · simp [Value.cells] at hcs
    obtain ⟨rfl, rfl, rfl⟩ := hcs
    simp only [if_true] at hmm
    subst hmm
    unfold maxLen at hm
    have each : ∀ i, i < len → ∃ q : Nat × List Int, ∃ p c, V i = .slice p q.1 c ∧ SlF W (.slice p q.1 c) q.1 2 q.2 ∧ q.1 ≤ 9223372036854775807 ∧ (∀ j, -9223372036854775808 ≤ nth q.2 j ∧ nth q.2 j ≤ 9223372036854775807) ∧ W.cell? (a.add i) = some (.slice p q.1 c) := by
      intro i hi
      obtain ⟨h1, h2⟩ := hx i (by omega)
      obtain ⟨k, l, p, c, hv, hs, hk, hbd, _⟩ := arg_flat2_cells ht he hone hC hi0 hi1 h2
      rw [hv] at hs h1
      exact ⟨(k, l), p, c, hv, hs, hk, hbd, h1⟩
    obtain ⟨q, hq⟩ := Go.Deep.choose_lt each
    have hg : ∀ i, i < len → rlen ((List.range len).map q) i = (q i).1 ∧ rdat ((List.range len).map q) i = (q i).2 := fun i hi => rget rfl hi
    refine ⟨len, (List.range len).map q, ⟨some a, _, rfl, fun i hi => ?_⟩, by simp, by omega, fun i hi => ?_, fun i hi j => ?_⟩
    · obtain ⟨p, c, _, hs, _, _, hc⟩ := hq i hi
      obtain ⟨b, off, spot⟩ := a
      obtain ⟨p0, c0, _, _, _, _, h0⟩ := hq 0 (by omega)
      have h00 : W.cell? ⟨b, off, spot⟩ = some (.slice p0 (q 0).1 c0) := by simpa [Addr.add] using h0
      have hspot : spot = none := World.cell?_spot h00
      subst hspot
      have hadd : (⟨b, off, none⟩ : Addr).add i = ⟨b, off + i, none⟩ := by unfold Addr.add; split <;> simp_all
      rw [hadd] at hc
      rw [(hg i hi).1, (hg i hi).2]
      exact ⟨b, off, p, c, rfl, hc, hs⟩
    · obtain ⟨_, _, _, _, hk, _⟩ := hq i hi
      rw [(hg i hi).1]; exact hk
    · obtain ⟨_, _, _, _, _, hbd, _⟩ := hq i hi
      rw [(hg i hi).2]; exact hbd j
end Go.Proofs.Ytmkmdcifakaflaa
