/- What ParseNet gives; worlds that differ in one cell. No condition. -/
import Derived.Test.YtfhhgonoddedlaaPlPNet
namespace Go.Proofs.Ytfhhgonoddedlaa
set_option maxRecDepth 100000
open Go.ChangeShapes Go.WideShapes Go.ChangeAt Go.RowKit Go.Joins

noncomputable def pnV (s : List UInt8) (i : Nat) : Int := if pnB (hdI s) s = true then pv (tnth (hdI s) i) else 0
noncomputable def pnM (s : List UInt8) : Nat := if pnB (hdI s) s = true then (pieces [32] s).length - 1 else 0
noncomputable def pnX (s : List UInt8) : List Int := if pnB (hdI s) s = true then wX (pieces [32] s) ((pieces [32] s).length - 1) else []
theorem pn_f {s : List UInt8} (h : pnB (hdI s) s = false) : (∀ i, pnV s i = 0) ∧ pnM s = 0 ∧ pnX s = [] := by simp [pnV, pnM, pnX, h]
theorem pn_t {s : List UInt8} (h : pnB (hdI s) s = true) : (∀ i, pnV s i = pv (tnth (hdI s) i)) ∧ pnM s = (pieces [32] s).length - 1 ∧ pnX s = wX (pieces [32] s) ((pieces [32] s).length - 1) := by simp [pnV, pnM, pnX, h]
/-- A network and whether there is one: that of the text s. -/
def GivesP (w : World) (s : List UInt8) (e : Ending) (w' : World) : Prop :=
  ∃ v, e = .returned (.tuple #[.agg #[.int .i64 (pnV s 0), .int .i64 (pnV s 1), .int .i64 (pnV s 2), v], .bool (pnB (hdI s) s)]) ∧ w'.ownsRow w.heap.size 81 3 v (pnM s) (icells (pnX s)) ∧ Ge w w'
theorem owns_nil3 (w : World) (base : Nat) (e : TypeId) : w.ownsRow base e 3 (.slice none 0 0) 0 [] := ⟨rfl, .inl ⟨rfl, rfl⟩⟩
theorem gives_f {w w' : World} {s : List UInt8} (h : pnB (hdI s) s = false) (hg : Ge w w') : GivesP w s (.returned (.tuple #[.agg #[.int .i64 0, .int .i64 0, .int .i64 0, .slice none 0 0], .bool false])) w' := by
  obtain ⟨h1, h2, h3⟩ := pn_f h
  exact ⟨_, by rw [h1, h1, h1, h], by rw [h2, h3]; exact owns_nil3 _ _ _, hg⟩
theorem trimS (x : List UInt8) (w : World) (hx : x.length ≤ 1048576) : Calls Try.prog 56 #[.string (bstr x), .string ⟨#[58]⟩] w fun e w' => e = .returned (.string (bstr (Lib.trimSuffix x [58]))) ∧ w = w' :=
  (Try.strings_TrimSuffix (bstr x) ⟨#[58]⟩ w (by rw [bstr_size]; omega)).mono fun e w' ⟨he, hw⟩ => ⟨by rw [he, bstr_data]; rfl, hw.symm⟩
theorem trimS_le (x : List UInt8) : (Lib.trimSuffix x [58]).length ≤ x.length := by
  unfold Lib.trimSuffix
  split
  · simp
  · omega
theorem own_strP {w : World} {base g n cap : Nat} {e : TypeId} {l : List (List UInt8)} (h : w.ownsRow base e 1 (.slice (some ⟨g, 0, none⟩) n cap) n (scells l)) {j : Nat} (hj : j < n) : w.cell? ⟨g, j, none⟩ = some (.string (bstr (tnth l j))) := by
  have hl : l.length = n := by have := h.1; rw [scells_length] at this; omega
  rw [h.cellAt j (by omega)]
  simp [scells, hl, hj, tnth_eq]
/-- All but one cell is as it was. -/
def GeX (b : Addr) (w w' : World) : Prop := (∀ a v, a ≠ b → w.cell? a = some v → w'.cell? a = some v) ∧ (∀ a v, w.cell? a = some v → w.frozen? a = false → w'.frozen? a = false) ∧ w.heap.size ≤ w'.heap.size
theorem GeX.refl (b : Addr) (w : World) : GeX b w w := ⟨fun _ _ _ h => h, fun _ _ _ h => h, Nat.le_refl _⟩
theorem GeX.ge {b : Addr} {w w' w'' : World} (h : GeX b w w') (hb : ∃ u, w'.cell? b = some u) (hg : Ge w' w'') : GeX b w w'' := by
  refine ⟨fun a v hne hc => hg.keep (h.1 a v hne hc), fun a v hc hf => ?_, Nat.le_trans h.2.2 hg.size⟩
  by_cases e : a = b
  · subst e
    obtain ⟨u, hu⟩ := hb
    exact hg.keepF hu (h.2.1 a v hc hf)
  · exact hg.keepF (h.1 a v e hc) (h.2.1 a v hc hf)
theorem GeX.set {b : Addr} {w w' : World} (h : GeX b w w') (x : Value) : GeX b w (w'.setCell b x) := by
  refine ⟨fun a v hne hc => ?_, fun a v hc hf => ?_, by simpa using h.2.2⟩
  · rw [World.cell?_setCell_other _ _ _ _ (fun e => hne e.symm)]; exact h.1 a v hne hc
  · have := h.2.1 a v hc hf
    simpa using this
theorem GeX.mine {b : Addr} {w w' w'' : World} {base e n : Nat} {v : Value} {xs : List Value} (h : GeX b w w') (ho : w'.ownsRow base e 3 v n xs) (hb : w.heap.size ≤ base) (hm : Mine w' w'' v) : GeX b w w'' := by
  refine ⟨fun a u hne hc => mine_cell hm (h.1 a u hne hc) (before_row ho (Nat.lt_of_lt_of_le (World.block_lt_of_cell? _ _ hc) hb)), fun a u hc hf => ?_, Nat.le_trans h.2.2 (World.grownBy.size hm)⟩
  have hlt := World.block_lt_of_cell? _ _ hc
  have hne := before_row ho (b := a.block) (Nat.lt_of_lt_of_le hlt hb)
  rw [World.frozen?_of_block (World.grownBy.block hm a.block (Nat.lt_of_lt_of_le hlt h.2.2) (fun e => hne _ e.symm rfl))]
  exact h.2.1 a u hc hf
end Go.Proofs.Ytfhhgonoddedlaa
