/- Worlds that differ in one cell; slices of rows that are filled one after another. No condition. -/
import Derived.Test.YtenfkpdbfmeebaaWTail
import Derived.Test.YtenfkpdbfmeebaaWFlat
import Derived.Test.YtenfkpdbfmeebaaWLaw
namespace Go.Proofs.Ytenfkpdbfmeebaa
set_option maxRecDepth 100000
open Go.ChangeShapes Go.WideShapes Go.ChangeAt Go.RowKit Go.Joins

/-- All but one cell is as it was. -/
def GeY (b : Addr) (w w' : World) : Prop := (∀ a v, a ≠ b → w.cell? a = some v → w'.cell? a = some v) ∧ (∀ a v, w.cell? a = some v → w.frozen? a = false → w'.frozen? a = false) ∧ w.heap.size ≤ w'.heap.size
theorem GeY.refl (b : Addr) (w : World) : GeY b w w := ⟨fun _ _ _ h => h, fun _ _ _ h => h, Nat.le_refl _⟩
theorem GeY.ge {b : Addr} {w w' w'' : World} (h : GeY b w w') (hb : ∃ u, w'.cell? b = some u) (hg : Ge w' w'') : GeY b w w'' := by
  refine ⟨fun a v hne hc => hg.keep (h.1 a v hne hc), fun a v hc hf => ?_, Nat.le_trans h.2.2 hg.size⟩
  by_cases e : a = b
  · subst e
    obtain ⟨u, hu⟩ := hb
    exact hg.keepF hu (h.2.1 a v hc hf)
  · exact hg.keepF (h.1 a v e hc) (h.2.1 a v hc hf)
theorem GeY.set {b : Addr} {w w' : World} (h : GeY b w w') (x : Value) : GeY b w (w'.setCell b x) := by
  refine ⟨fun a v hne hc => ?_, fun a v hc hf => ?_, by simpa using h.2.2⟩
  · rw [World.cell?_setCell_other _ _ _ _ (fun e => hne e.symm)]; exact h.1 a v hne hc
  · have := h.2.1 a v hc hf
    simpa using this
theorem GeY.mine {b : Addr} {w w' w'' : World} {base e sz n : Nat} {v : Value} {xs : List Value} (h : GeY b w w') (ho : w'.ownsRow base e sz v n xs) (hb : w.heap.size ≤ base) (hm : Mine w' w'' v) : GeY b w w'' := by
  refine ⟨fun a u hne hc => mine_cell hm (h.1 a u hne hc) (before_row ho (Nat.lt_of_lt_of_le (World.block_lt_of_cell? _ _ hc) hb)), fun a u hc hf => ?_, Nat.le_trans h.2.2 (World.grownBy.size hm)⟩
  have hlt := World.block_lt_of_cell? _ _ hc
  have hne := before_row ho (b := a.block) (Nat.lt_of_lt_of_le hlt hb)
  rw [World.frozen?_of_block (World.grownBy.block hm a.block (Nat.lt_of_lt_of_le hlt h.2.2) (fun e => hne _ e.symm rfl))]
  exact h.2.1 a u hc hf
theorem Sl.gey {b : Addr} {w w' : World} {v u : Value} {n sz : Nat} {l : List Int} (h : Sl w v n sz (icells l)) (hy : GeY b w w') (hb : w.cell? b = some u) (hu : ∀ x, u ≠ .int .i64 x) : Sl w' v n sz (icells l) := by
  obtain ⟨h1, p, cap, hv, hc⟩ := h
  refine ⟨h1, p, cap, hv, fun i y hy' => ?_⟩
  obtain ⟨b', o, hp, hcell⟩ := hc i y hy'
  refine ⟨b', o, hp, hy.1 _ _ (fun e => ?_) hcell⟩
  rw [← e, hcell] at hb
  have hmem := List.mem_of_getElem? hy'
  simp only [icells, List.mem_map] at hmem
  obtain ⟨x, _, rfl⟩ := hmem
  exact hu x (by simpa using hb.symm)
theorem grown_setY (w : World) (b i : Nat) (x : Value) : w.grownBy (w.setCell ⟨b, i, none⟩ x) (some b) := by
  refine ⟨rfl, rfl, rfl, by simp, fun k _ hne => ?_⟩
  have : b ≠ k := fun e => hne (by rw [e])
  simp [World.setCell, Array.getElem?_modify, this]
theorem owns_setY {w : World} {base e sz n b o : Nat} {v : Value} {xs : List Value} (h : w.ownsRow base e sz v n xs) (hb : b < base) (x : Value) : (w.setCell ⟨b, o, none⟩ x).ownsRow base e sz v n xs := by
  refine h.kept (grown_setY w b o x) ?_
  cases hv : v.ownBlock with
  | none => exact .inl rfl
  | some k =>
    right
    intro e
    have := (h.lt k hv).1
    simp at e
    omega
theorem mine_frozY {w w' : World} {v : Value} (hm : Mine w w' v) {a : Addr} {u : Value} (h : w.cell? a = some u) (hf : w.frozen? a = false) (hne : ∀ k, v.ownBlock = some k → a.block ≠ k) : w'.frozen? a = false := by
  rw [World.frozen?_of_block (World.grownBy.block hm a.block (World.block_lt_of_cell? _ _ h) (fun e => hne _ e.symm rfl))]
  exact hf
/-- The first i of E rows (in block G) are filled: row a with the integers D a, sz an element. -/
def RowsY (w : World) (G E i sz : Nat) (D : Nat → List Int) : Prop :=
  ∀ a, a < E → w.frozen? ⟨G, a, none⟩ = false ∧ (∃ u, w.cell? ⟨G, a, none⟩ = some u ∧ (∀ x, u ≠ .int .i64 x) ∧ (a < i → Sl w u E sz (icells (D a))) ∧ (i ≤ a → u = .slice none 0 0))
theorem RowsY.init {w : World} {B G E sz : Nat} {e : TypeId} {D : Nat → List Int} (h : w.ownsRow B e 1 (.slice (some ⟨G, 0, none⟩) E E) E (List.replicate E (.slice none 0 0))) : RowsY w G E 0 sz D := fun a ha =>
  ⟨h.frozenAt a, .slice none 0 0, by rw [h.cellAt a (by omega)]; simp [ha], fun x hx => (by cases hx), fun h => absurd h (Nat.not_lt_zero _), fun _ => rfl⟩
theorem RowsY.at {w : World} {G E i sz : Nat} {D : Nat → List Int} (h : RowsY w G E i sz D) (hi : i < E) : w.cell? ⟨G, i, none⟩ = some (.slice none 0 0) ∧ w.frozen? ⟨G, i, none⟩ = false := by
  obtain ⟨h1, u, h2, _, _, h5⟩ := h i hi
  rw [h5 (Nat.le_refl _)] at h2
  exact ⟨h2, h1⟩
theorem RowsY.next {w w' : World} {G E i sz : Nat} {D : Nat → List Int} {u : Value} (h : RowsY w G E i sz D) (hi : i < E) (hy : GeY ⟨G, i, none⟩ w w') (hc : w'.cell? ⟨G, i, none⟩ = some u) (hu : ∀ x, u ≠ .int .i64 x)
    (hs : Sl w' u E sz (icells (D i))) : RowsY w' G E (i + 1) sz D := fun a ha => by
  have h0 := h.at hi
  obtain ⟨h1, v, h2, h3, h4, h5⟩ := h a ha
  refine ⟨hy.2.1 _ _ h2 h1, ?_⟩
  by_cases e : a = i
  · subst e
    exact ⟨u, hc, hu, fun _ => hs, fun h => by omega⟩
  · exact ⟨v, hy.1 _ _ (fun h => by simp at h) h2, h3, fun h => Sl.gey (h4 (by omega)) hy h0.1 (fun x hx => by cases hx), fun h => h5 (by omega)⟩
theorem RowsY.ge {w w' : World} {G E i sz : Nat} {D : Nat → List Int} (h : RowsY w G E i sz D) (hg : Ge w w') : RowsY w' G E i sz D := fun a ha => by
  obtain ⟨h1, v, h2, h3, h4, h5⟩ := h a ha
  exact ⟨hg.keepF h2 h1, v, hg.keep h2, h3, fun h => Sl.ge (h4 h) hg, h5⟩
/-- E rows, row a with the integers D a. -/
def SlRows (w : World) (v : Value) (E sz : Nat) (D : Nat → List Int) : Prop :=
  ∃ b o c, v = .slice (some ⟨b, o, none⟩) E c ∧ ∀ a, a < E → ∃ p k, w.cell? ⟨b, o + a, none⟩ = some (.slice p E k) ∧ Sl w (.slice p E k) E sz (icells (D a))
theorem SlRows.ge {w w' : World} {v : Value} {E sz : Nat} {D : Nat → List Int} (h : SlRows w v E sz D) (hg : Ge w w') : SlRows w' v E sz D := by
  obtain ⟨b, o, c, hv, hc⟩ := h
  refine ⟨b, o, c, hv, fun a ha => ?_⟩
  obtain ⟨p, k, h1, h2⟩ := hc a ha
  exact ⟨p, k, hg.keep h1, Sl.ge h2 hg⟩
theorem RowsY.rows {w : World} {G E sz : Nat} {D : Nat → List Int} (h : RowsY w G E E sz D) : SlRows w (.slice (some ⟨G, 0, none⟩) E E) E sz D := by
  refine ⟨G, 0, E, rfl, fun a ha => ?_⟩
  obtain ⟨_, v, h2, _, h4, _⟩ := h a ha
  have h5 := h4 ha
  obtain ⟨_, p, k, hv, _⟩ := h5
  refine ⟨p, k, by rw [Nat.zero_add, h2, hv], by rw [← hv]; exact h4 ha⟩
end Go.Proofs.Ytenfkpdbfmeebaa
