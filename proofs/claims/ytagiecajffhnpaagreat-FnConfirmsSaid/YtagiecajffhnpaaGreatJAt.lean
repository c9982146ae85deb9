/- Plain law: a network is read back from its text. No program in sight but in the imports. What ParseNet gives; worlds that differ in one cell. No condition. ParseNet of impl: the walk. No condition. ParseNet of the reference: the walk. No condition. eqWire, eqWireS, markWireS, heldWireS, eqNet, markNet, heldNet. ParseNet: both sides, and the law. No condition. slices.SortFunc of at most 12 squares that are in order. No condition. -/
import Derived.Test.YtagiecajffhnpaaGreatJAs
import Derived.Test.YtagiecajffhnpaaGreatJAn
import Derived.Test.YtagiecajffhnpaaGreatJAb
import Derived.Test.YtagiecajffhnpaaGreatJAa
import Derived.Test.YtagiecajffhnpaaGreatWFlat
import Derived.Test.YtagiecajffhnpaaGreatWEqInt
import Derived.Test.YtagiecajffhnpaaGreatWLaw
import Derived.Test.YtagiecajffhnpaaGreatJAc
import Derived.Test.YtagiecajffhnpaaGreatShelf
namespace Go.Proofs.YtagiecajffhnpaaGreat

open Go.RowKit

theorem spl_free {b s : List UInt8} : ∀ k, (∀ i, i < k → ¬ bnth s i ∈ b) → spl b s k = ([], 0)
  | 0, _ => rfl
  | k + 1, h => by rw [spl_out (h k (by omega)), spl_free k (fun i hi => h i (by omega))]
theorem bnth_left {x y : List UInt8} {i : Nat} (h : i < x.length) : bnth (x ++ y) i ∈ x := by
  have : bnth (x ++ y) i = x[i] := by simp [bnth, List.getD_eq_getElem?_getD, List.getElem?_append_left h, h]
  rw [this]; exact List.getElem_mem h
theorem bnth_mid {x y : List UInt8} {c : UInt8} : bnth (x ++ c :: y) x.length = c := by simp [bnth, List.getD_eq_getElem?_getD]
theorem bnth_right {x y : List UInt8} {c : UInt8} (j : Nat) : bnth (x ++ c :: y) (x.length + 1 + j) = bnth y j := by
  unfold bnth
  rw [List.getD_eq_getElem?_getD, List.getD_eq_getElem?_getD, List.getElem?_append_right (by omega), show x.length + 1 + j - x.length = j + 1 by omega, List.getElem?_cons_succ]
theorem drop_right {x y : List UInt8} {c : UInt8} (q : Nat) : (x ++ c :: y).drop (x.length + 1 + q) = y.drop q := by
  rw [show x ++ c :: y = (x ++ [c]) ++ y by simp, List.drop_append, List.drop_eq_nil_of_le (by simp)]
  simp
theorem spl_right {b x y : List UInt8} {c : UInt8} (hx : ∀ z ∈ x, ¬ z ∈ b) (hc : c ∈ b) : ∀ j, spl b (x ++ c :: y) (x.length + 1 + j) = (x :: (spl b y j).1, x.length + 1 + (spl b y j).2)
  | 0 => by
    have h0 : spl b (x ++ c :: y) x.length = ([], 0) := spl_free _ (fun i hi => hx _ (bnth_left hi))
    rw [Nat.add_zero, spl_in (by rw [bnth_mid]; exact hc), h0]
    simp [spl]
  | j + 1 => by
    have ih := spl_right hx hc j (y := y)
    by_cases h : bnth y j ∈ b
    · rw [show x.length + 1 + (j + 1) = (x.length + 1 + j) + 1 by omega, spl_in (by rw [bnth_right]; exact h), ih, spl_in h]
      simp only [drop_right, List.cons_append, Prod.mk.injEq]
      refine ⟨?_, by omega⟩
      rw [show x.length + 1 + j - (x.length + 1 + (spl b y j).2) = j - (spl b y j).2 by omega]
    · rw [show x.length + 1 + (j + 1) = (x.length + 1 + j) + 1 by omega, spl_out (by rw [bnth_right]; exact h), ih, spl_out h]
theorem pieces_cons {b x y : List UInt8} {c : UInt8} (hx : ∀ z ∈ x, ¬ z ∈ b) (hc : c ∈ b) : pieces b (x ++ c :: y) = x :: pieces b y := by
  unfold pieces
  have e : (x ++ c :: y).length = x.length + 1 + y.length := by simp; omega
  rw [e, spl_right hx hc]
  simp only [drop_right, List.cons_append]
theorem pieces_none {b x : List UInt8} (hx : ∀ z ∈ x, ¬ z ∈ b) : pieces b x = [x] := by
  unfold pieces
  rw [spl_free _ (fun i hi => hx _ (by have := bnth_left (y := []) hi; simpa using this))]
  simp

theorem fmt_chars {n : Int} (hn : in64 n) : ∀ c ∈ fmtInt n, c.toNat = 45 ∨ isDig c := fun c hc => by
  unfold in64 at hn
  obtain ⟨h1, _, _, _⟩ := fmtNat_facts 19 n.natAbs (by omega) (by omega) (by omega)
  unfold fmtInt at hc
  split at hc
  · rcases List.mem_cons.1 hc with h | h
    · left; rw [h]; rfl
    · exact Or.inr (h1 c h)
  · exact Or.inr (h1 c hc)
theorem fmt_not {n : Int} (hn : in64 n) (b : List UInt8) (hb : ∀ c ∈ b, c.toNat ≠ 45 ∧ ¬ isDig c) : ∀ z ∈ fmtInt n, ¬ z ∈ b := fun z hz hzb => by
  rcases fmt_chars hn z hz with h | h
  · exact (hb z hzb).1 h
  · exact (hb z hzb).2 h
theorem seps_ok : (∀ c ∈ [(32 : UInt8)], c.toNat ≠ 45 ∧ ¬ isDig c) ∧ (∀ c ∈ [(47 : UInt8)], c.toNat ≠ 45 ∧ ¬ isDig c) ∧ (∀ c ∈ [(47 : UInt8), 58], c.toNat ≠ 45 ∧ ¬ isDig c) := by
  unfold isDig
  simp
theorem trim_58 (a : List UInt8) : Lib.trimSuffix (a ++ [58]) [58] = a := by
  unfold Lib.trimSuffix Lib.hasSuffix
  have : ([58] : List UInt8).isSuffixOf (a ++ [58]) = true := by rw [List.isSuffixOf_iff_suffix]; exact List.suffix_append _ _
  rw [if_pos this]
  simp
theorem head_i {N E S : Int} (hN : in64 N) (hE : in64 E) (hS : in64 S) : pieces [47] (Lib.trimSuffix (netHead N E S) [58]) = [fmtInt N, fmtInt E, fmtInt S] := by
  unfold netHead
  rw [trim_58]
  have e : fmtInt N ++ [47] ++ fmtInt E ++ [47] ++ fmtInt S = fmtInt N ++ 47 :: (fmtInt E ++ 47 :: fmtInt S) := by simp
  rw [e, pieces_cons (fmt_not hN _ seps_ok.2.1) (by simp), pieces_cons (fmt_not hE _ seps_ok.2.1) (by simp), pieces_none (fmt_not hS _ seps_ok.2.1)]
theorem head_s {N E S : Int} (hN : in64 N) (hE : in64 E) (hS : in64 S) : (pieces [47, 58] (netHead N E S)).take 3 = [fmtInt N, fmtInt E, fmtInt S] := by
  unfold netHead
  have e : fmtInt N ++ [47] ++ fmtInt E ++ [47] ++ fmtInt S ++ [58] = fmtInt N ++ 47 :: (fmtInt E ++ 47 :: (fmtInt S ++ 58 :: [])) := by simp
  rw [e, pieces_cons (fmt_not hN _ seps_ok.2.2) (by simp), pieces_cons (fmt_not hE _ seps_ok.2.2) (by simp), pieces_cons (fmt_not hS _ seps_ok.2.2) (by simp)]
  rfl
theorem part_head (N E S : Int) (xs : List Int) : ∀ m, ∃ r, netPart N E S xs m = netHead N E S ++ r ∧ (r = [] ∨ ∃ y, r = 32 :: y)
  | 0 => ⟨[], by simp [netPart], Or.inl rfl⟩
  | m + 1 => by
    obtain ⟨r, h1, h2⟩ := part_head N E S xs m
    refine ⟨r ++ wireTxt xs m, by simp only [netPart, h1, List.append_assoc], Or.inr ?_⟩
    rcases h2 with rfl | ⟨y, rfl⟩
    · exact ⟨_, by simp only [wireTxt, List.nil_append, List.cons_append, List.append_assoc]; rfl⟩
    · exact ⟨y ++ wireTxt xs m, by simp⟩
theorem head_no32 {N E S : Int} (hN : in64 N) (hE : in64 E) (hS : in64 S) : ∀ z ∈ netHead N E S, ¬ z ∈ [(32 : UInt8)] := fun z hz h => by
  simp only [netHead, List.mem_append, List.mem_cons, List.not_mem_nil, or_false] at hz
  simp only [List.mem_cons, List.not_mem_nil, or_false] at h
  subst h
  rcases hz with ((((h | h) | h) | h) | h) | h
  · exact fmt_not hN _ seps_ok.1 _ h (by simp)
  · exact absurd h (by decide)
  · exact fmt_not hE _ seps_ok.1 _ h (by simp)
  · exact absurd h (by decide)
  · exact fmt_not hS _ seps_ok.1 _ h (by simp)
  · exact absurd h (by decide)
theorem first_word {N E S : Int} (hN : in64 N) (hE : in64 E) (hS : in64 S) (xs : List Int) (m : Nat) : tnth (pieces [32] (netPart N E S xs m)) 0 = netHead N E S := by
  obtain ⟨r, h1, h2⟩ := part_head N E S xs m
  rw [h1]
  rcases h2 with rfl | ⟨y, rfl⟩
  · rw [List.append_nil, pieces_none (head_no32 hN hE hS)]; rfl
  · rw [pieces_cons (head_no32 hN hE hS) (by simp)]; rfl
/-- The heads that the two sides read. -/
def hdI (s : List UInt8) : List (List UInt8) := pieces [47] (Lib.trimSuffix (tnth (pieces [32] s) 0) [58])
def hdS (s : List UInt8) : List (List UInt8) := (pieces [47, 58] (tnth (pieces [32] s) 0)).take 3
noncomputable def hdOk (h : List (List UInt8)) : Bool := allB h && decide (h.length = 3)
/-- The numbers of the first k wires. -/
noncomputable def wX (l : List (List UInt8)) : Nat → List Int
  | 0 => []
  | k + 1 => wX l k ++ [pv (tnth (pieces [45, 61] (tnth l (k + 1))) 0), pv (tnth (pieces [45, 61] (tnth l (k + 1))) 1), pv (tnth (pieces [45, 61] (tnth l (k + 1))) 2)]
noncomputable def wiresOk (l : List (List UInt8)) (m : Nat) : Bool := (List.range m).all fun j => hdOk (pieces [45, 61] (tnth l (j + 1)))
theorem wiresOk_t {l : List (List UInt8)} {m : Nat} (h : ∀ j, j < m → hdOk (pieces [45, 61] (tnth l (j + 1))) = true) : wiresOk l m = true := by
  simp only [wiresOk, List.all_eq_true, List.mem_range]; exact h
theorem wiresOk_f {l : List (List UInt8)} {m j : Nat} (hj : j < m) (h : hdOk (pieces [45, 61] (tnth l (j + 1))) = false) : wiresOk l m = false := by
  cases c : wiresOk l m with
  | false => rfl
  | true =>
    simp only [wiresOk, List.all_eq_true, List.mem_range] at c
    rw [c j hj] at h; cases h
noncomputable def pnB (h : List (List UInt8)) (s : List UInt8) : Bool :=
  hdOk h && (wiresOk (pieces [32] s) ((pieces [32] s).length - 1) && decide (netTxt (pv (tnth h 0)) (pv (tnth h 1)) (pv (tnth h 2)) ((pieces [32] s).length - 1) (wX (pieces [32] s) ((pieces [32] s).length - 1)) = s))
theorem pnB_hd {h : List (List UInt8)} {s : List UInt8} (c : hdOk h = false) : pnB h s = false := by unfold pnB; rw [c]; rfl
theorem pnB_w {h : List (List UInt8)} {s : List UInt8} (c : wiresOk (pieces [32] s) ((pieces [32] s).length - 1) = false) : pnB h s = false := by unfold pnB; rw [c]; simp
theorem net_in {N E S : Int} {m : Nat} {xs : List Int} (h : netB N E S m xs = true) : in64 N ∧ in64 E ∧ in64 S := by
  obtain ⟨h1, h2, h3, _⟩ := netP_of h
  unfold in64
  omega
/-- A text that is read is that of a valid network; both heads are the same. -/
theorem pn_facts {h : List (List UInt8)} {s : List UInt8} (hh : h = hdI s ∨ h = hdS s) (c : pnB h s = true) :
    netB (pv (tnth h 0)) (pv (tnth h 1)) (pv (tnth h 2)) ((pieces [32] s).length - 1) (wX (pieces [32] s) ((pieces [32] s).length - 1)) = true ∧ hdI s = h ∧ hdS s = h := by
  unfold pnB at c
  simp only [Bool.and_eq_true, decide_eq_true_eq] at c
  obtain ⟨c1, c2, c3⟩ := c
  generalize wX (pieces [32] s) ((pieces [32] s).length - 1) = xs at c3 ⊢
  generalize ((pieces [32] s).length - 1) = m at c2 c3 ⊢
  have hlen : h.length = 3 := by unfold hdOk at c1; simp only [Bool.and_eq_true, decide_eq_true_eq] at c1; exact c1.2
  cases hB : netB (pv (tnth h 0)) (pv (tnth h 1)) (pv (tnth h 2)) m xs with
  | false =>
    exfalso
    have : s = [] := by rw [← c3]; unfold netTxt; rw [hB]; rfl
    subst this
    have e : pieces [32] ([] : List UInt8) = [[]] := rfl
    rcases hh with rfl | rfl
    · have : hdI [] = [[]] := rfl
      rw [this] at hlen; simp at hlen
    · have : hdS [] = [[]] := rfl
      rw [this] at hlen; simp at hlen
  | true =>
    obtain ⟨iN, iE, iS⟩ := net_in hB
    have hs : s = netPart (pv (tnth h 0)) (pv (tnth h 1)) (pv (tnth h 2)) xs m := by rw [← c3]; unfold netTxt; rw [hB]; rfl
    have hw : tnth (pieces [32] s) 0 = netHead (pv (tnth h 0)) (pv (tnth h 1)) (pv (tnth h 2)) := by rw [hs]; exact first_word iN iE iS xs m
    have eI : hdI s = [fmtInt (pv (tnth h 0)), fmtInt (pv (tnth h 1)), fmtInt (pv (tnth h 2))] := by unfold hdI; rw [hw]; exact head_i iN iE iS
    have eS : hdS s = [fmtInt (pv (tnth h 0)), fmtInt (pv (tnth h 1)), fmtInt (pv (tnth h 2))] := by unfold hdS; rw [hw]; exact head_s iN iE iS
    refine ⟨rfl, ?_, ?_⟩
    · rcases hh with e | e
      · exact e.symm
      · rw [eI, ← eS]; exact e.symm
    · rcases hh with e | e
      · rw [eS, ← eI]; exact e.symm
      · exact e.symm
end Go.Proofs.YtagiecajffhnpaaGreat

namespace Go.Proofs.YtagiecajffhnpaaGreat
set_option maxRecDepth 100000
open Go.ChangeShapes Go.WideShapes Go.ChangeAt Go.RowKit Go.Joins

noncomputable def pnV (s : List UInt8) (i : Nat) : Int := if pnB (hdI s) s = true then pv (tnth (hdI s) i) else 0
noncomputable def pnM (s : List UInt8) : Nat := if pnB (hdI s) s = true then (pieces [32] s).length - 1 else 0
noncomputable def pnX (s : List UInt8) : List Int := if pnB (hdI s) s = true then wX (pieces [32] s) ((pieces [32] s).length - 1) else []
theorem pn_f {s : List UInt8} (h : pnB (hdI s) s = false) : (∀ i, pnV s i = 0) ∧ pnM s = 0 ∧ pnX s = [] := by simp [pnV, pnM, pnX, h]
theorem pn_t {s : List UInt8} (h : pnB (hdI s) s = true) : (∀ i, pnV s i = pv (tnth (hdI s) i)) ∧ pnM s = (pieces [32] s).length - 1 ∧ pnX s = wX (pieces [32] s) ((pieces [32] s).length - 1) := by simp [pnV, pnM, pnX, h]
/-- A network and whether there is one: that of the text s. -/
def GivesP (w : World) (s : List UInt8) (e : Ending) (w' : World) : Prop :=
  ∃ v, e = .returned (.tuple #[.agg #[.int .i64 (pnV s 0), .int .i64 (pnV s 1), .int .i64 (pnV s 2), v], .bool (pnB (hdI s) s)]) ∧ w'.ownsRow w.heap.size 45 3 v (pnM s) (icells (pnX s)) ∧ Ge w w'
theorem owns_nil3 (w : World) (base : Nat) (e : TypeId) : w.ownsRow base e 3 (.slice none 0 0) 0 [] := ⟨rfl, .inl ⟨rfl, rfl⟩⟩
theorem gives_f {w w' : World} {s : List UInt8} (h : pnB (hdI s) s = false) (hg : Ge w w') : GivesP w s (.returned (.tuple #[.agg #[.int .i64 0, .int .i64 0, .int .i64 0, .slice none 0 0], .bool false])) w' := by
  obtain ⟨h1, h2, h3⟩ := pn_f h
  exact ⟨_, by rw [h1, h1, h1, h], by rw [h2, h3]; exact owns_nil3 _ _ _, hg⟩
theorem trimS (x : List UInt8) (w : World) (hx : x.length ≤ 1048576) : Calls Tryz.prog 32 #[.string (bstr x), .string ⟨#[58]⟩] w fun e w' => e = .returned (.string (bstr (Lib.trimSuffix x [58]))) ∧ w = w' :=
  (Tryz.strings_TrimSuffix (bstr x) ⟨#[58]⟩ w (by rw [bstr_size]; omega)).mono fun e w' ⟨he, hw⟩ => ⟨by rw [he, bstr_data]; rfl, hw.symm⟩
theorem trimS_le (x : List UInt8) : (Lib.trimSuffix x [58]).length ≤ x.length := by
  unfold Lib.trimSuffix
  split
  · simp
  · omega
theorem own_strP {w : World} {base g n cap : Nat} {e : TypeId} {l : List (List UInt8)} (h : w.ownsRow base e 1 (.slice (some ⟨g, 0, none⟩) n cap) n (scells l)) {j : Nat} (hj : j < n) : w.cell? ⟨g, j, none⟩ = some (.string (bstr (tnth l j))) := by
  have hl : l.length = n := by have := h.1; rw [scells_length] at this; omega
  rw [h.cellAt j (by omega)]
  simp [scells, hl, hj, tnth_eq]
/-- All but one cell is as it was. -/
def GeX (b : Addr) (w w' : World) : Prop := (∀ a v, a ≠ b → w.cell? a = some v → w'.cell? a = some v) ∧ (∀ a v, w.cell? a = some v → w.frozen? a = false → w'.frozen? a = false) ∧ w.heap.size ≤ w'.heap.size
theorem GeX.refl (b : Addr) (w : World) : GeX b w w := ⟨fun _ _ _ h => h, fun _ _ _ h => h, Nat.le_refl _⟩
theorem GeX.ge {b : Addr} {w w' w'' : World} (h : GeX b w w') (hb : ∃ u, w'.cell? b = some u) (hg : Ge w' w'') : GeX b w w'' := by
  refine ⟨fun a v hne hc => hg.keep (h.1 a v hne hc), fun a v hc hf => ?_, Nat.le_trans h.2.2 hg.size⟩
  by_cases e : a = b
  · subst e
    obtain ⟨u, hu⟩ := hb
    exact hg.keepF hu (h.2.1 a v hc hf)
  · exact hg.keepF (h.1 a v e hc) (h.2.1 a v hc hf)
theorem GeX.set {b : Addr} {w w' : World} (h : GeX b w w') (x : Value) : GeX b w (w'.setCell b x) := by
  refine ⟨fun a v hne hc => ?_, fun a v hc hf => ?_, by simpa using h.2.2⟩
  · rw [World.cell?_setCell_other _ _ _ _ (fun e => hne e.symm)]; exact h.1 a v hne hc
  · have := h.2.1 a v hc hf
    simpa using this
theorem GeX.mine {b : Addr} {w w' w'' : World} {base e n : Nat} {v : Value} {xs : List Value} (h : GeX b w w') (ho : w'.ownsRow base e 3 v n xs) (hb : w.heap.size ≤ base) (hm : Mine w' w'' v) : GeX b w w'' := by
  refine ⟨fun a u hne hc => mine_cell hm (h.1 a u hne hc) (before_row ho (Nat.lt_of_lt_of_le (World.block_lt_of_cell? _ _ hc) hb)), fun a u hc hf => ?_, Nat.le_trans h.2.2 (World.grownBy.size hm)⟩
  have hlt := World.block_lt_of_cell? _ _ hc
  have hne := before_row ho (b := a.block) (Nat.lt_of_lt_of_le hlt hb)
  rw [World.frozen?_of_block (World.grownBy.block hm a.block (Nat.lt_of_lt_of_le hlt h.2.2) (fun e => hne _ e.symm rfl))]
  exact h.2.1 a u hc hf
end Go.Proofs.YtagiecajffhnpaaGreat

namespace Go.Proofs.YtagiecajffhnpaaGreat
set_option maxRecDepth 100000
open Go.ChangeShapes Go.WideShapes Go.ChangeAt Go.RowKit Go.Joins

/-- The result's block is there and may be written. -/
def ResB (w : World) (b : Nat) : Prop := w.cell? ⟨b, 0, none⟩ = some (cv w ⟨b, 0, none⟩) ∧ w.cell? ⟨b, 1, none⟩ = some (cv w ⟨b, 1, none⟩) ∧ w.cell? ⟨b, 2, none⟩ = some (cv w ⟨b, 2, none⟩) ∧ w.cell? ⟨b, 3, none⟩ = some (cv w ⟨b, 3, none⟩) ∧
  w.frozen? ⟨b, 0, none⟩ = false ∧ w.frozen? ⟨b, 1, none⟩ = false ∧ w.frozen? ⟨b, 2, none⟩ = false ∧ w.frozen? ⟨b, 3, none⟩ = false
theorem ResB.new (w : World) (cs : Array Value) (t : TypeId) (h : cs.size = 4) : ResB (w.alloc (.cells cs t)) w.heap.size := by
  have k : ∀ i, i < 4 → ∃ v, cs[i]? = some v := fun i hi => ⟨_, Array.getElem?_eq_getElem (by omega)⟩
  obtain ⟨v0, h0⟩ := k 0 (by omega)
  obtain ⟨v1, h1⟩ := k 1 (by omega)
  obtain ⟨v2, h2⟩ := k 2 (by omega)
  obtain ⟨v3, h3⟩ := k 3 (by omega)
  exact ⟨cv_some (cell_new rfl h0), cv_some (cell_new rfl h1), cv_some (cell_new rfl h2), cv_some (cell_new rfl h3), froz_new rfl h0, froz_new rfl h1, froz_new rfl h2, froz_new rfl h3⟩
theorem ResB.ge {w w' : World} {b : Nat} (h : ResB w b) (hg : Ge w w') : ResB w' b := by
  obtain ⟨b0, b1, b2, b3, b4, b5, b6, b7⟩ := h
  exact ⟨cv_some (hg.keep b0), cv_some (hg.keep b1), cv_some (hg.keep b2), cv_some (hg.keep b3), hg.keepF b0 b4, hg.keepF b1 b5, hg.keepF b2 b6, hg.keepF b3 b7⟩

theorem inf_WireP : (Tryz.prog.info? 45).map (fun i => (i.zero, i.size, i.bytes)) = some (some (Value.agg #[.int .i64 0, .int .i64 0, .int .i64 0]), 3, 24) := by kernel_rfl
theorem run_wire {w : World} (base : Nat) (v : Value) (n : Nat) (l : List Int) (hown : w.ownsRow base 45 3 v n (icells l)) (hb : base ≤ w.heap.size) (y1 y2 y3 : Int) (hn : n < 1099511627776) :
    ∃ v' w', (Builtin.append_ #[31, 31] 31 #[v, .slice (some ⟨w.heap.size, 0, none⟩) 1 1]).run Tryz.prog (w.alloc (.cells #[.int .i64 y1, .int .i64 y2, .int .i64 y3] 45)) = .ok v' w' ∧
      w'.ownsRow base 45 3 v' (n + 1) (icells (l ++ [y1, y2, y3])) ∧ Mine (w.alloc (.cells #[.int .i64 y1, .int .i64 y2, .int .i64 y3] 45)) w' v := by
  obtain ⟨i, hi1, hi2, hi3, hi4⟩ := info_parts inf_WireP
  obtain ⟨v', w', h1, h2, h3, _⟩ := run_append_own (P := Tryz.prog) (w := w.alloc (.cells #[.int .i64 y1, .int .i64 y2, .int .i64 y3] 45)) base 31 31 45 i _ 3 24 Tryz.underlying31 hi1 hi2 hi3 hi4 rfl (by decide) v n (icells l) (hown.alloc _) ⟨w.heap.size, 0, none⟩ 1 1 [.int .i64 y1, .int .i64 y2, .int .i64 y3] rfl (fun j u hu => by
      have hadd : (⟨w.heap.size, 0, none⟩ : Addr).add j = ⟨w.heap.size, j, none⟩ := by unfold Addr.add; split <;> simp_all
      rw [hadd, cell_of_row (w.alloc (.cells #[.int .i64 y1, .int .i64 y2, .int .i64 y3] 45)) w.heap.size j _ _ (0, 0) (heap_alloc_new w _)]
      simpa using hu) (by simp [Value.oneCell']) (by unfold maxLen; omega) (by
      have : (n + 1) * 24 ≤ (n + 1) * 100 := Nat.mul_le_mul_left _ (by decide)
      omega) (by simp; omega)
  exact ⟨v', w', h1, by simpa [icells] using h2, h3⟩
theorem step_run {W W' : World} {o : Oper} {a : Act} {K : Act → World → Prop} {Q : Exit → Act → World → Prop} {v y v8 : Value} (s x : Operand)
    (ho : o.op = .call { callee := .builtin .append, args := #[s, x], argTypes := #[31, 31] }) (hty : o.type = 31) (hs : a.eval s = v) (hx : a.eval x = y)
    (hr : (Builtin.append_ #[31, 31] 31 #[v, y]).run Tryz.prog W = .ok v8 W') (h : K (a.put o.dst v8) W') : o.wp Tryz.prog a W K Q := by
  unfold Oper.wp execOp
  simp only [ho, resolve, invoke, builtin, Sem.run_bind, Sem.run_pure, Result.andThen_ok, List.map_toArray, List.map_cons, List.map_nil, hs, hx, hty, hr]
  exact h
theorem grown_set (w : World) (b o : Nat) (x : Value) : w.grownBy (w.setCell ⟨b, o, none⟩ x) (some b) := by
  refine ⟨rfl, rfl, rfl, by simp, fun k _ hne => ?_⟩
  have : b ≠ k := fun e => hne (by rw [e])
  simp [World.setCell, Array.getElem?_modify, this]
theorem owns_set {w : World} {base e sz n b o : Nat} {v : Value} {xs : List Value} (h : w.ownsRow base e sz v n xs) (hb : b < base) (x : Value) : (w.setCell ⟨b, o, none⟩ x).ownsRow base e sz v n xs := by
  refine h.kept (grown_set w b o x) ?_
  cases hv : v.ownBlock with
  | none => exact .inl rfl
  | some k =>
    right
    intro e
    have := (h.lt k hv).1
    simp at e
    omega
theorem mine_froz {w w' : World} {v : Value} (hm : Mine w w' v) {a : Addr} {u : Value} (h : w.cell? a = some u) (hf : w.frozen? a = false) (hne : ∀ k, v.ownBlock = some k → a.block ≠ k) : w'.frozen? a = false := by
  rw [World.frozen?_of_block (World.grownBy.block hm a.block (World.block_lt_of_cell? _ _ h) (fun e => hne _ e.symm rfl))]
  exact hf
theorem pnB_n {s : List UInt8} {h : List (List UInt8)} (k : ¬ netTxt (pv (tnth h 0)) (pv (tnth h 1)) (pv (tnth h 2)) ((pieces [32] s).length - 1) (wX (pieces [32] s) ((pieces [32] s).length - 1)) = s) : pnB h s = false := by
  unfold pnB; rw [decide_eq_false k]; simp
theorem gives_t {w w' : World} {s : List UInt8} {v : Value} (h : hdOk (hdI s) = true) (h1 : wiresOk (pieces [32] s) ((pieces [32] s).length - 1) = true)
    (h2 : netTxt (pv (tnth (hdI s) 0)) (pv (tnth (hdI s) 1)) (pv (tnth (hdI s) 2)) ((pieces [32] s).length - 1) (wX (pieces [32] s) ((pieces [32] s).length - 1)) = s)
    (ho : w'.ownsRow w.heap.size 45 3 v ((pieces [32] s).length - 1) (icells (wX (pieces [32] s) ((pieces [32] s).length - 1)))) (hg : Ge w w') :
    GivesP w s (.returned (.tuple #[.agg #[.int .i64 (pv (tnth (hdI s) 0)), .int .i64 (pv (tnth (hdI s) 1)), .int .i64 (pv (tnth (hdI s) 2)), v], .bool true])) w' := by
  have hb : pnB (hdI s) s = true := by unfold pnB; rw [h, h1, decide_eq_true h2]; rfl
  obtain ⟨k1, k2, k3⟩ := pn_t hb
  exact ⟨v, by rw [k1, k1, k1, hb], by rw [k2, k3]; exact ho, hg⟩
theorem ResB.gex {w w' : World} {b g : Nat} (h : ResB w b) (hx : GeX ⟨g, 3, none⟩ w w') (hne : b ≠ g) : ResB w' b := by
  obtain ⟨b0, b1, b2, b3, b4, b5, b6, b7⟩ := h
  have n : ∀ i, (⟨b, i, none⟩ : Addr) ≠ ⟨g, 3, none⟩ := fun i e => hne (congrArg Addr.block e)
  exact ⟨cv_some (hx.1 _ _ (n 0) b0), cv_some (hx.1 _ _ (n 1) b1), cv_some (hx.1 _ _ (n 2) b2), cv_some (hx.1 _ _ (n 3) b3), hx.2.1 _ _ b0 b4, hx.2.1 _ _ b1 b5, hx.2.1 _ _ b2 b6, hx.2.1 _ _ b3 b7⟩

set_option maxHeartbeats 3200000 in
theorem iParseNetA (s : List UInt8) (w : World) (hm : s.length ≤ 1048576) (hbad : hdOk (hdI s) = false) : Calls Tryz.prog 20 #[.string (bstr s)] w (GivesP w s) := by
  have GF := Lib.hid (fun w' (g : Ge w w') => gives_f (pnB_hd (s := s) hbad) g)
  have HS : Hid (∀ w, Calls Tryz.prog 15 #[.string (bstr s), .string ⟨#[32]⟩] w (GivesS w (pieces [32] s))) := fun w => iSplitAny s [32] w hm
  have hpos : 0 < (pieces [32] s).length := by unfold pieces; simp
  have hle0 : (tnth (pieces [32] s) 0).length ≤ 1048576 := by
    rw [tnth_eq _ _ hpos]; exact Nat.le_trans (pieces_le _ (List.getElem_mem hpos)) hm
  have hle1 := Nat.le_trans (trimS_le (tnth (pieces [32] s) 0)) hle0
  have HTr := Lib.hid (fun w => trimS (tnth (pieces [32] s) 0) w hle0)
  have HH : Hid (∀ w, Calls Tryz.prog 15 #[.string (bstr (Lib.trimSuffix (tnth (pieces [32] s) 0) [58])), .string ⟨#[47]⟩] w (GivesS w (hdI s))) := fun w => iSplitAny (Lib.trimSuffix (tnth (pieces [32] s) 0) [58]) [47] w hle1
  have hlH := pieces_len [47] (Lib.trimSuffix (tnth (pieces [32] s) 0) [58])
  have HIn := Lib.hid (fun v w h => iInts v (hdI s) w h (by unfold hdI; omega) (fun x hx => Nat.le_trans (pieces_le x hx) hle1))
  obtain ⟨n, hn⟩ : ∃ n, (pieces [32] s).length = n := ⟨_, rfl⟩
  have HN := Lib.hid hn
  have hn0 : 0 < n := by omega
  have hR : (numsR (hdI s)).length ≤ 1048577 := by
    unfold numsR
    split
    · rw [nums_length]; unfold hdI; omega
    · simp
  have FR0 : ∀ w', Ge (w.alloc (.cells #[.int .i64 0, .int .i64 0, .int .i64 0, .slice none 0 0] 33)) w' → ResB w' w.heap.size := fun w' g => (ResB.new w _ _ rfl).ge g
  unfold hdOk at hbad
  clear hle0 hle1 hlH hpos hn
  generalize pieces [32] s = l at *
  generalize hL0 : tnth l 0 = L0 at *
  generalize Lib.trimSuffix L0 [58] = L1 at *
  generalize hdI s = H at *
  generalize hRR : numsR H = R at *
  cases hA : allB H with
  | false =>
    unfold GivesN at HIn
    rw [hA, hRR] at HIn
    go_enter Tryz.func20, Tryz.ntmps20
    go_wp2_with (first
    | (go_at_call 15; ((with_reducible refine (HS.out _).mono ?_); rintro e w1 ⟨v1, rfl, o1, g1⟩); rw [HN.out] at o1; obtain ⟨gl, cl, rfl⟩ := Go.Joins.ownsRow_form o1 hn0; have y0 := own_strP o1 hn0; have RB := FR0 _ g1; have gw1 : Ge w w1 := Ge.trans (Ge.alloc (Ge.refl w) _) g1)
    | (go_at_call 32; ((with_reducible refine (HTr.out _).mono ?_); rintro e w' ⟨rfl, rfl⟩))
    | (go_at_call 15; ((with_reducible refine (HH.out _).mono ?_); rintro e w2 ⟨v2, rfl, o2, g2⟩); replace RB := RB.ge g2)
    | (go_at_call 21; ((with_reducible refine (HIn.out _ _ (SlS.of_owns o2)).mono ?_); rintro e w3 ⟨v3, rfl, o3, g3⟩); obtain ⟨p3, c3, rfl⟩ := owns_form o3; replace RB := RB.ge g3; obtain ⟨b0, b1, b2, b3, b4, b5, b6, b7⟩ := RB))
    exact bodyPost_ret (v := .tuple #[.agg #[.int .i64 0, .int .i64 0, .int .i64 0, .slice none 0 0], .bool false]) (by simp [results, Tryz.results20, go_sem, *]) rfl (GF.out _ (kge))
  | true =>
    have hRl : R.length = H.length := by rw [← hRR]; unfold numsR; rw [if_pos hA, nums_length]
    have hk : ¬ H.length = 3 := by rw [hA] at hbad; simpa using hbad
    have tk : ((R.length : Int) != 3) = true := by simp; omega
    unfold GivesN at HIn
    rw [hA, hRR] at HIn
    clear hRl hk hRR
    go_enter Tryz.func20, Tryz.ntmps20
    go_wp2_with (first
    | (go_at_call 15; ((with_reducible refine (HS.out _).mono ?_); rintro e w1 ⟨v1, rfl, o1, g1⟩); rw [HN.out] at o1; obtain ⟨gl, cl, rfl⟩ := Go.Joins.ownsRow_form o1 hn0; have y0 := own_strP o1 hn0; have RB := FR0 _ g1; have gw1 : Ge w w1 := Ge.trans (Ge.alloc (Ge.refl w) _) g1)
    | (go_at_call 32; ((with_reducible refine (HTr.out _).mono ?_); rintro e w' ⟨rfl, rfl⟩))
    | (go_at_call 15; ((with_reducible refine (HH.out _).mono ?_); rintro e w2 ⟨v2, rfl, o2, g2⟩); replace RB := RB.ge g2)
    | (go_at_call 21; ((with_reducible refine (HIn.out _ _ (SlS.of_owns o2)).mono ?_); rintro e w3 ⟨v3, rfl, o3, g3⟩); obtain ⟨p3, c3, rfl⟩ := owns_form o3; replace RB := RB.ge g3; obtain ⟨b0, b1, b2, b3, b4, b5, b6, b7⟩ := RB))
    exact bodyPost_ret (v := .tuple #[.agg #[.int .i64 0, .int .i64 0, .int .i64 0, .slice none 0 0], .bool false]) (by simp [results, Tryz.results20, go_sem, *]) rfl (GF.out _ (kge))

set_option maxHeartbeats 6400000 in
theorem iParseNetB (s : List UInt8) (w : World) (hm : s.length ≤ 1048576) (hok : hdOk (hdI s) = true) : Calls Tryz.prog 20 #[.string (bstr s)] w (GivesP w s) := by
  have HS : Hid (∀ w, Calls Tryz.prog 15 #[.string (bstr s), .string ⟨#[32]⟩] w (GivesS w (pieces [32] s))) := fun w => iSplitAny s [32] w hm
  have hpos : 0 < (pieces [32] s).length := by unfold pieces; simp
  have hle0 : (tnth (pieces [32] s) 0).length ≤ 1048576 := by
    rw [tnth_eq _ _ hpos]; exact Nat.le_trans (pieces_le _ (List.getElem_mem hpos)) hm
  have hle1 := Nat.le_trans (trimS_le (tnth (pieces [32] s) 0)) hle0
  have HTr := Lib.hid (fun w => trimS (tnth (pieces [32] s) 0) w hle0)
  have HH : Hid (∀ w, Calls Tryz.prog 15 #[.string (bstr (Lib.trimSuffix (tnth (pieces [32] s) 0) [58])), .string ⟨#[47]⟩] w (GivesS w (hdI s))) := fun w => iSplitAny (Lib.trimSuffix (tnth (pieces [32] s) 0) [58]) [47] w hle1
  have hlH := pieces_len [47] (Lib.trimSuffix (tnth (pieces [32] s) 0) [58])
  have HIn := Lib.hid (fun v w h => iInts v (hdI s) w h (by unfold hdI; omega) (fun x hx => Nat.le_trans (pieces_le x hx) hle1))
  have HPW := Lib.hid (fun j (hj : j < (pieces [32] s).length - 1) (c : hdOk (pieces [45, 61] (tnth (pieces [32] s) (j + 1))) = false) w' (g : Ge w w') => gives_f (w := w) (pnB_w (wiresOk_f hj c)) g)
  have HGt := Lib.hid (fun (h1 : wiresOk (pieces [32] s) ((pieces [32] s).length - 1) = true) (h2 : netTxt (pv (tnth (hdI s) 0)) (pv (tnth (hdI s) 1)) (pv (tnth (hdI s) 2)) ((pieces [32] s).length - 1) (wX (pieces [32] s) ((pieces [32] s).length - 1)) = s) v w' ho (g : Ge w w') => gives_t (w := w) (v := v) hok h1 h2 ho g)
  have HGf := Lib.hid (fun (h2 : ¬ netTxt (pv (tnth (hdI s) 0)) (pv (tnth (hdI s) 1)) (pv (tnth (hdI s) 2)) ((pieces [32] s).length - 1) (wX (pieces [32] s) ((pieces [32] s).length - 1)) = s) w' (g : Ge w w') => gives_f (w := w) (pnB_n h2) g)
  have HLe := Lib.hid (fun i (hi : i < (pieces [32] s).length) => (by rw [tnth_eq _ _ hi]; exact Nat.le_trans (pieces_le _ (List.getElem_mem hi)) hm : (tnth (pieces [32] s) i).length ≤ 1048576))
  obtain ⟨n, hn⟩ : ∃ n, (pieces [32] s).length = n := ⟨_, rfl⟩
  rw [hn] at HPW HLe HGt HGf
  have HN := Lib.hid hn
  obtain ⟨m, rfl⟩ : ∃ m, n = m + 1 := ⟨n - 1, by omega⟩
  have hn0 : 0 < m + 1 := by omega
  simp only [Nat.add_sub_cancel] at HPW HGt HGf
  have FR0 : ∀ w', Ge (w.alloc (.cells #[.int .i64 0, .int .i64 0, .int .i64 0, .slice none 0 0] 33)) w' → ResB w' w.heap.size := fun w' g => (ResB.new w _ _ rfl).ge g
  simp only [hdOk, Bool.and_eq_true, decide_eq_true_eq] at hok
  obtain ⟨hA, h3⟩ := hok
  have hRR : numsR (hdI s) = [pv (tnth (hdI s) 0), pv (tnth (hdI s) 1), pv (tnth (hdI s) 2)] := by unfold numsR; rw [if_pos hA, h3]; rfl
  have hnB : m ≤ 1048577 := by have := pieces_len [32] s; omega
  clear hle0 hle1 hlH hpos hn
  generalize pieces [32] s = l at *
  generalize hL0 : tnth l 0 = L0 at *
  generalize Lib.trimSuffix L0 [58] = L1 at *
  unfold GivesN at HIn
  rw [hA, hRR] at HIn
  generalize hdI s = H at *
  generalize hNN : pv (tnth H 0) = N at *
  generalize hEE : pv (tnth H 1) = E at *
  generalize hSS : pv (tnth H 2) = S at *
  go_enter Tryz.func20, Tryz.ntmps20
  go_upto_region 5 with (first
    | (go_at_call 15; ((with_reducible refine (HS.out _).mono ?_); rintro e w1 ⟨v1, rfl, o1, g1⟩); rw [HN.out] at o1; obtain ⟨gl, cl, rfl⟩ := Go.Joins.ownsRow_form o1 hn0; have y0 := own_strP o1 hn0; have RB := FR0 _ g1; have gw1 : Ge w w1 := Ge.trans (Ge.alloc (Ge.refl w) _) g1)
    | (go_at_call 32; ((with_reducible refine (HTr.out _).mono ?_); rintro e w' ⟨rfl, rfl⟩))
    | (go_at_call 15; ((with_reducible refine (HH.out _).mono ?_); rintro e w2 ⟨v2, rfl, o2, g2⟩); replace RB := RB.ge g2)
    | (go_at_call 21; ((with_reducible refine (HIn.out _ _ (SlS.of_owns o2)).mono ?_); rintro e w3 ⟨v3, rfl, o3, g3⟩); obtain ⟨gr, cr, rfl⟩ := Go.Joins.ownsRow_form (n := 3) o3 (by omega); replace RB := RB.ge g3; obtain ⟨b0, b1, b2, b3, b4, b5, b6, b7⟩ := RB))
  have x0 : w3.cell? ⟨gr, 0, none⟩ = some (.int .i64 N) := o3.cellAt 0 (by omega)
  have x1 : w3.cell? ⟨gr, 1, none⟩ = some (.int .i64 E) := o3.cellAt 1 (by omega)
  have x2 : w3.cell? ⟨gr, 2, none⟩ = some (.int .i64 S) := o3.cellAt 2 (by omega)
  go_cut [7] (fun sx wx => sx = .pointer (some ⟨w3.heap.size, 0, none⟩) ∧ wx.cell? ⟨w3.heap.size, 0, none⟩ = some (.int .i64 N) ∧ wx.cell? ⟨w3.heap.size, 1, none⟩ = some (.int .i64 E) ∧ wx.cell? ⟨w3.heap.size, 2, none⟩ = some (.int .i64 S) ∧ wx.cell? ⟨w3.heap.size, 3, none⟩ = some (.slice none 0 0) ∧ wx.frozen? ⟨w3.heap.size, 3, none⟩ = false ∧ Ge w3 wx)
  case first =>
    have hS : ∀ w', Ge w3 w' → (w'.cell? ⟨gr, 0, none⟩ = some (.int .i64 N) ∧ w'.cell? ⟨gr, 1, none⟩ = some (.int .i64 E) ∧ w'.cell? ⟨gr, 2, none⟩ = some (.int .i64 S) ∧ Ge w3 w') := fun w' g => ⟨g.keep x0, g.keep x1, g.keep x2, g⟩
    go_region_held3 (fun w' => w'.cell? ⟨gr, 0, none⟩ = some (.int .i64 N) ∧ w'.cell? ⟨gr, 1, none⟩ = some (.int .i64 E) ∧ w'.cell? ⟨gr, 2, none⟩ = some (.int .i64 S) ∧ Ge w3 w') (first | ((with_reducible refine hS _ ?_); exact kch) | fail) (fail)
    all_goals
      go_wp2_with fail
      go_meet
      exact ⟨rfl, cell_drew (cell_new rfl rfl), cell_drew (cell_new rfl rfl), cell_drew (cell_new rfl rfl), cell_drew (cell_new rfl rfl), froz_drew (froz_new rfl (v := .slice none 0 0) rfl), Ge.drew (Ge.alloc (Ge.refl _) _)⟩
  obtain ⟨rfl, k0, k1, k2, k3, kf, gB⟩ := hcut
  have ow := Ge.owns ((g2.trans g3).trans gB) o1
  have OW := Lib.hid ow
  have HW : ∀ (a : Addr) (q : Nat), (cl = 1 ∧ a = ⟨gl, 0, none⟩ ∨ a = ⟨gl, 1, none⟩) → ∀ j, j < m → ∃ b o, a = ⟨b, o, none⟩ ∧ wc.cell? ⟨b, o + j, none⟩ = some (.string (bstr (tnth l (j + 1)))) := fun a q ha j hj => by
    rcases ha with ⟨h1, rfl⟩ | rfl
    · exfalso
      rcases OW.out.2 with ⟨h', _⟩ | ⟨g', cap', cur, h', _, _, hnc, _⟩
      · simp at h'
      · simp at h'
        omega
    · exact ⟨gl, 1, rfl, by rw [Nat.add_comm 1 j]; exact own_strP OW.out (by omega)⟩
  clear ow
  go_upto_region 6 with (fail)
  go_cut [42, 43, 44] (fun v k i wx => ∃ (a : Addr) (q : Nat), v = .slice (some a) m q ∧ k = .int .i64 (m : Int) ∧ i = .int .i64 ((0 : Nat) : Int) ∧ wc = wx ∧ Hid (∀ j, j < m → ∃ b o, a = ⟨b, o, none⟩ ∧ wc.cell? ⟨b, o + j, none⟩ = some (.string (bstr (tnth l (j + 1))))))
  case first =>
    by_cases hcl : cl = 1
    · have hc1 : (cl = 1) = True := eq_true hcl
      go_wp2_with fail
      go_meet
      exact ⟨⟨gl, 0, none⟩, 0, rfl, rfl, rfl, rfl, HW _ 0 (Or.inl ⟨hcl, rfl⟩)⟩
    · have hc1 : (cl = 1) = False := eq_false hcl
      go_wp2_with fail
      go_meet
      exact ⟨⟨gl, 1, none⟩, cl - 1, rfl, rfl, rfl, rfl, HW _ 0 (Or.inr rfl)⟩
  obtain ⟨ad, qd, rfl, rfl, rfl, rfl, HWd⟩ := hcut
  clear HW
  have RBc := Lib.hid (ResB.ge (⟨b0, b1, b2, b3, b4, b5, b6, b7⟩ : ResB w3 w.heap.size) gB)
  have gwc : Ge w wc := Ge.trans gw1 (Ge.trans (Ge.trans g2 g3) gB)
  have zgb := World.block_lt_of_cell? _ _ k0
  simp at zgb
  have zrb : w.heap.size < w3.heap.size := World.block_lt_of_cell? _ _ b0
  clear b0 b1 b2 b3 b4 b5 b6 b7 x0 x1 x2 o3 y0 o2
  generalize w3.heap.size = G at *
  go_wp2_with fail
  go_loopw [44] (fun i wr => ∃ (j : Nat) (u : Value), j ≤ m ∧ i = .int .i64 j ∧ Hid (∀ e, e < j → hdOk (pieces [45, 61] (tnth l (e + 1))) = true) ∧ wr.cell? ⟨G, 3, none⟩ = some u ∧ wr.frozen? ⟨G, 3, none⟩ = false ∧ wr.ownsRow wc.heap.size 45 3 u j (icells (wX l j)) ∧ GeX ⟨G, 3, none⟩ wc wr ∧ Ge w wr) (fun i _ => m - (intOf i).toNat)
  case atStart => exact ⟨0, _, Nat.zero_le _, rfl, fun e he => by omega, k3, kf, owns_nil3 _ _ _, GeX.refl _ _, kge⟩
  case round =>
    obtain ⟨j, u, hj, rfl, HOk, c3, cf, hown, hx, hg⟩ := hrel
    have RBr := RBc.out.gex hx (by omega)
    have d0 := hx.1 ⟨G, 0, none⟩ _ (by simp) k0
    have d1 := hx.1 ⟨G, 1, none⟩ _ (by simp) k1
    have d2 := hx.1 ⟨G, 2, none⟩ _ (by simp) k2
    by_cases hlt : j < m
    · obtain ⟨b, o, rfl, z0⟩ := HWd.out j hlt
      have zw := hx.1 ⟨b, o + j, none⟩ _ (fun e => by rw [e, k3] at z0; cases z0) z0
      have hT : (tnth l (j + 1)).length ≤ 1048576 := HLe.out (j + 1) (by omega)
      have HSw : Hid (∀ w, Calls Tryz.prog 15 #[.string (bstr (tnth l (j + 1))), .string ⟨#[45, 61]⟩] w (GivesS w (pieces [45, 61] (tnth l (j + 1))))) := fun w => iSplitAny (tnth l (j + 1)) [45, 61] w hT
      have hpl := pieces_len [45, 61] (tnth l (j + 1))
      have HIw := Lib.hid (fun v w h => iInts v (pieces [45, 61] (tnth l (j + 1))) w h (by omega) (fun x hx => Nat.le_trans (pieces_le x hx) hT))
      have hRl : (numsR (pieces [45, 61] (tnth l (j + 1)))).length ≤ 1048577 := by
        unfold numsR
        split
        · rw [nums_length]; omega
        · simp
      have HBad := Lib.hid (fun c w' g => HPW.out j hlt c w' g)
      have HSt : Hid (wX l j ++ [pv (tnth (pieces [45, 61] (tnth l (j + 1))) 0), pv (tnth (pieces [45, 61] (tnth l (j + 1))) 1), pv (tnth (pieces [45, 61] (tnth l (j + 1))) 2)] = wX l (j + 1)) := rfl
      unfold GivesN at HIw
      generalize hTj : tnth l (j + 1) = T at *
      have HTj := Lib.hid hTj
      clear hTj
      generalize hP : pieces [45, 61] T = P at *
      clear hpl hT
      by_cases hA2 : allB P = true
      · by_cases hP3 : P.length = 3
        · have hRX : numsR P = [pv (tnth P 0), pv (tnth P 1), pv (tnth P 2)] := by unfold numsR; rw [if_pos hA2, hP3]; rfl
          have hok2 : hdOk P = true := by unfold hdOk; rw [hA2, hP3]; rfl
          have HOk2 : Hid (∀ e, e < j + 1 → hdOk (pieces [45, 61] (tnth l (e + 1))) = true) := fun e he => by
            by_cases ee : e = j
            · rw [ee, HTj.out, hP]; exact hok2
            · exact HOk.out e (by omega)
          rw [hA2, hRX] at HIw
          generalize pv (tnth P 0) = X at *
          generalize pv (tnth P 1) = Y at *
          generalize pv (tnth P 2) = Z at *
          generalize wX l j = L at *
          clear HBad hRX hok2 hP3 hRl HOk
          go_wp2_with (first
            | (go_at_call 15; ((with_reducible refine (HSw.out _).mono ?_); rintro e w5 ⟨v5, rfl, o5, g5⟩))
            | (go_at_call 21; ((with_reducible refine (HIw.out _ _ (SlS.of_owns o5)).mono ?_); rintro e w6 ⟨v6, rfl, o6, g6⟩); obtain ⟨gr2, cr2, rfl⟩ := Go.Joins.ownsRow_form (n := 3) o6 (by omega)))
          have g56 := Ge.trans g5 g6
          have r0 : w6.cell? ⟨gr2, 0, none⟩ = some (.int .i64 X) := o6.cellAt 0 (by omega)
          have r1 : w6.cell? ⟨gr2, 1, none⟩ = some (.int .i64 Y) := o6.cellAt 1 (by omega)
          have r2 : w6.cell? ⟨gr2, 2, none⟩ = some (.int .i64 Z) := o6.cellAt 2 (by omega)
          have s3 := g56.keep c3
          have s4 := g56.keepF c3 cf
          have own6 := Ge.owns g56 hown
          have hx6 := hx.ge ⟨_, c3⟩ g56
          have hgr := (o6.lt gr2 rfl).1
          have zz := g5.size
          have bu : ∀ k, u.ownBlock = some k → gr2 ≠ k := fun k hk e => by have := (hown.lt k hk).2; omega
          have bG : ∀ k, u.ownBlock = some k → G ≠ k := fun k hk e => by have := (hown.lt k hk).1; omega
          clear c3 cf
          have hx6e : ∃ z, w6.cell? ⟨G, 3, none⟩ = some z := ⟨_, s3⟩
          have zG6 : G < w6.heap.size := World.block_lt_of_cell? _ _ s3
          have zr6 : gr2 < w6.heap.size := World.block_lt_of_cell? _ _ r0
          have HOwn := Lib.hid (Ge.owns (Ge.drew (Ge.refl w6)) own6)
          have HZ6 : Hid (wc.heap.size ≤ w6.drew.heap.size) := hx6.2.2
          have hjn : j < 1099511627776 := by omega
          have k3' : (w6.drew.alloc (.cells #[.int .i64 X, .int .i64 Y, .int .i64 Z] 45)).cell? ⟨G, 3, none⟩ = some u := cell_alloc s3
          have k4' : (w6.drew.alloc (.cells #[.int .i64 X, .int .i64 Y, .int .i64 Z] 45)).frozen? ⟨G, 3, none⟩ = false := Ge.keepF (Ge.alloc (Ge.drew (Ge.refl w6)) _) s3 s4
          have K3 := Lib.hid k3'
          have K4 := Lib.hid k4'
          clear k3' k4'
          obtain ⟨v8, w8, hr8, own8, m8⟩ := run_wire wc.heap.size u j L HOwn.out HZ6.out X Y Z hjn
          obtain ⟨p8, c8, rfl⟩ := owns_form own8
          have HR8 := Lib.hid hr8
          have t3 := mine_cell m8 K3.out bG
          have t4 := mine_froz m8 K3.out K4.out bG
          have q0 := mine_cell m8 (cell_alloc (o := .cells #[.int .i64 X, .int .i64 Y, .int .i64 Z] 45) (cell_drew r0)) bu
          have q1 := mine_cell m8 (cell_alloc (o := .cells #[.int .i64 X, .int .i64 Y, .int .i64 Z] 45) (cell_drew r1)) bu
          have q2 := mine_cell m8 (cell_alloc (o := .cells #[.int .i64 X, .int .i64 Y, .int .i64 Z] 45) (cell_drew r2)) bu
          have gA : Ge w (w6.drew.alloc (.cells #[.int .i64 X, .int .i64 Y, .int .i64 Z] 45)) := Ge.alloc (Ge.drew (Ge.trans hg g56)) _
          have G8 : Ge w w8 := gA.mine (HOwn.out.alloc _) (by omega) m8
          have hx8 : GeX ⟨G, 3, none⟩ wc w8 := GeX.mine (hx6.ge hx6e (Ge.alloc (Ge.drew (Ge.refl _)) _)) (HOwn.out.alloc _) (Nat.le_refl _) m8
          have fin0 := cell_same2 (u := .slice p8 (j + 1) c8) (cv_some t3)
          have HFin := Lib.hid (And.intro fin0 (And.intro (froz_set (b := ⟨G, 3, none⟩) (u := .slice p8 (j + 1) c8) t4) (And.intro (owns_set (o := 3) own8 zgb (.slice p8 (j + 1) c8)) (And.intro (hx8.set (.slice p8 (j + 1) c8)) (Ge.setCell G8 (p := ⟨G, 3, none⟩) (by show w.heap.size ≤ G; omega) (.slice p8 (j + 1) c8))))))
          rw [HSt.out] at HFin
          clear fin0 hx8 G8 gA own8 m8 hr8
          refine wp_region_head (S := fun w' => w'.cell? ⟨G, 3, none⟩ = some u ∧ w'.cell? ⟨gr2, 0, none⟩ = some (.int .i64 X) ∧ w'.cell? ⟨gr2, 1, none⟩ = some (.int .i64 Y) ∧ w'.cell? ⟨gr2, 2, none⟩ = some (.int .i64 Z)) 15 (by kernel_rfl) (by kernel_rfl) (⟨cell_drew s3, cell_drew r0, cell_drew r1, cell_drew r2⟩) (fun hHeld => ?_)
          refine head_takeR 0 (v := ?_) rfl ?_ ?_; rotate_left; (focus (intro w' hSw; (try dsimp only at hSw); go_simp; (try with_reducible rfl))); (try simp only [Act.put, hnA, hnC])
          refine head_takeR 1 (v := ?_) rfl ?_ ?_; rotate_left; (focus (intro w' hSw; (try dsimp only at hSw); go_simp; (try with_reducible rfl))); (try simp only [Act.put, hnA, hnC])
          refine head_takeR 2 (v := ?_) rfl ?_ ?_; rotate_left; (focus (intro w' hSw; (try dsimp only at hSw); go_simp; (try with_reducible rfl))); (try simp only [Act.put, hnA, hnC])
          refine head_takeR 3 (v := ?_) rfl ?_ ?_; rotate_left; (focus (intro w' hSw; (try dsimp only at hSw); go_simp; (try with_reducible rfl))); (try simp only [Act.put, hnA, hnC])
          refine head_takeR 4 (v := ?_) rfl ?_ ?_; rotate_left; (focus (intro w' hSw; (try dsimp only at hSw); go_simp; (try with_reducible rfl))); (try simp only [Act.put, hnA, hnC])
          refine head_takeR 5 (v := ?_) rfl ?_ ?_; rotate_left; (focus (intro w' hSw; (try dsimp only at hSw); go_simp; (try with_reducible rfl))); (try simp only [Act.put, hnA, hnC])
          refine head_takeR 6 (v := ?_) rfl ?_ ?_; rotate_left; (focus (intro w' hSw; (try dsimp only at hSw); go_simp; (try with_reducible rfl))); (try simp only [Act.put, hnA, hnC])
          refine head_takeR 7 (v := ?_) rfl ?_ ?_; rotate_left; (focus (intro w' hSw; (try dsimp only at hSw); go_simp; (try with_reducible rfl))); (try simp only [Act.put, hnA, hnC])
          refine head_takeR 8 (v := ?_) rfl ?_ ?_; rotate_left; (focus (intro w' hSw; (try dsimp only at hSw); go_simp; (try with_reducible rfl))); (try simp only [Act.put, hnA, hnC])
          refine head_takeR 9 (v := ?_) rfl ?_ ?_; rotate_left; (focus (intro w' hSw; (try dsimp only at hSw); go_simp; (try with_reducible rfl))); (try simp only [Act.put, hnA, hnC])
          refine head_takeR 10 (v := ?_) rfl ?_ ?_; rotate_left; (focus (intro w' hSw; (try dsimp only at hSw); go_simp; (try with_reducible rfl))); (try simp only [Act.put, hnA, hnC])
          refine head_takeR 11 (v := ?_) rfl ?_ ?_; rotate_left; (focus (intro w' hSw; (try dsimp only at hSw); go_simp; (try with_reducible rfl))); (try simp only [Act.put, hnA, hnC])
          refine head_one 12 rfl (by kernel_rfl) (fun K hK => ?_)
          go_simp
          refine hK.out _ _ ⟨cell_alloc (cell_drew s3), cell_alloc (cell_drew r0), cell_alloc (cell_drew r1), cell_alloc (cell_drew r2)⟩ (fun hHeld => ?_)
          clear hK K
          (try simp only [Act.put, hnA, hnB, hnC])
          refine head_one 13 rfl (by kernel_rfl) (fun K hK => ?_)
          rw [if_pos (by rfl)]
          refine step_run _ _ rfl rfl (v := u) rfl rfl HR8.out ?_
          refine hK.out _ _ ⟨t3, q0, q1, q2⟩ (fun hHeld => ?_)
          clear hK K
          (try simp only [Act.put, hnA, hnC])
          refine head_takeR 14 (v := ?_) rfl ?_ ?_; rotate_left; (focus (intro w' hSw; (try dsimp only at hSw); go_simp; (try with_reducible rfl))); (try simp only [Act.put, hnA, hnC])
          refine head_done (by kernel_rfl) ?_
          go_wp2_with fail
          go_roundw
          case rel => exact ⟨j + 1, .slice p8 (j + 1) c8, by omega, by go_num, HOk2.out, HFin.out.1, HFin.out.2.1, HFin.out.2.2.1, HFin.out.2.2.2.1, HFin.out.2.2.2.2⟩
          case measure => simp [intOf]; omega
        · have hbad2 : hdOk P = false := by unfold hdOk; rw [decide_eq_false hP3, Bool.and_false]
          have GF2 := Lib.hid (fun w' g => HBad.out hbad2 w' g)
          have hRk : (numsR P).length = P.length := by unfold numsR; rw [if_pos hA2, nums_length]
          have tk : (((numsR P).length : Int) != 3) = true := by simp; omega
          rw [hA2] at HIw
          generalize numsR P = R2 at *
          clear HBad hRk hP3
          go_wp2_with (first
            | (go_at_call 15; ((with_reducible refine (HSw.out _).mono ?_); rintro e w5 ⟨v5, rfl, o5, g5⟩); replace RBr := RBr.ge g5)
            | (go_at_call 21; ((with_reducible refine (HIw.out _ _ (SlS.of_owns o5)).mono ?_); rintro e w6 ⟨v6, rfl, o6, g6⟩); obtain ⟨p6, c6, rfl⟩ := owns_form o6; replace RBr := RBr.ge g6; obtain ⟨b0, b1, b2, b3, b4, b5, b6, b7⟩ := RBr))
          exact bodyPost_ret (v := .tuple #[.agg #[.int .i64 0, .int .i64 0, .int .i64 0, .slice none 0 0], .bool false]) (by simp [results, Tryz.results20, go_sem, *]) rfl (GF2.out _ (kge))
      · have hA3 : allB P = false := by simpa using hA2
        have hbad2 : hdOk P = false := by unfold hdOk; rw [hA3]; rfl
        have GF2 := Lib.hid (fun w' g => HBad.out hbad2 w' g)
        rw [hA3] at HIw
        generalize numsR P = R2 at *
        clear HBad
        go_wp2_with (first
          | (go_at_call 15; ((with_reducible refine (HSw.out _).mono ?_); rintro e w5 ⟨v5, rfl, o5, g5⟩); replace RBr := RBr.ge g5)
          | (go_at_call 21; ((with_reducible refine (HIw.out _ _ (SlS.of_owns o5)).mono ?_); rintro e w6 ⟨v6, rfl, o6, g6⟩); obtain ⟨p6, c6, rfl⟩ := owns_form o6; replace RBr := RBr.ge g6; obtain ⟨b0, b1, b2, b3, b4, b5, b6, b7⟩ := RBr))
        exact bodyPost_ret (v := .tuple #[.agg #[.int .i64 0, .int .i64 0, .int .i64 0, .slice none 0 0], .bool false]) (by simp [results, Tryz.results20, go_sem, *]) rfl (GF2.out _ (kge))
    · have hjm : m = j := by omega
      subst hjm
      have HFm := Lib.hid (iFormatNet N E S u m (wX l m) wr (SlF.of_owns hown) (by omega))
      have hwk := wiresOk_t HOk.out
      have HG2 := Lib.hid (fun h2 w' ho g => HGt.out hwk h2 u w' ho g)
      clear hwk HGt
      generalize wX l m = L at *
      obtain ⟨pu, cu, rfl⟩ := owns_form hown
      have zwc : w.heap.size < wc.heap.size := by omega
      by_cases hT : netTxt N E S m L = s
      · have HG3 := Lib.hid (fun w' ho g => HG2.out hT w' ho g)
        rw [hT] at HFm
        clear hT HG2 HGf
        go_wp2_with (go_at_call 23; ((with_reducible refine (HFm.out).mono ?_); rintro e w9 ⟨rfl, g9⟩); have e0 := g9.keep d0; have e1 := g9.keep d1; have e2 := g9.keep d2; have e3 := g9.keep c3; replace RBr := RBr.ge g9; obtain ⟨b0, b1, b2, b3, b4, b5, b6, b7⟩ := RBr; have own9 := Ge.owns g9 hown)
        exact bodyPost_ret (v := .tuple #[.agg #[.int .i64 N, .int .i64 E, .int .i64 S, .slice pu m cu], .bool true]) (by simp [results, Tryz.results20, go_sem, *]) rfl (HG3.out _ (by refine owns_mono (base := wc.heap.size) ?_ (by omega); repeat (first | exact own9 | refine owns_set ?_ zwc _)) (kge))
      · have GF3 := Lib.hid (fun w' g => HGf.out hT w' g)
        have tn := bstr_neq hT
        clear HG2 HGf
        generalize netTxt N E S m L = TX at *
        go_wp2_with (go_at_call 23; ((with_reducible refine (HFm.out).mono ?_); rintro e w9 ⟨rfl, g9⟩); have e0 := g9.keep d0; have e1 := g9.keep d1; have e2 := g9.keep d2; have e3 := g9.keep c3; replace RBr := RBr.ge g9; obtain ⟨b0, b1, b2, b3, b4, b5, b6, b7⟩ := RBr; have own9 := Ge.owns g9 hown)
        exact bodyPost_ret (v := .tuple #[.agg #[.int .i64 0, .int .i64 0, .int .i64 0, .slice none 0 0], .bool false]) (by simp [results, Tryz.results20, go_sem, *]) rfl (GF3.out _ (kge))

end Go.Proofs.YtagiecajffhnpaaGreat

namespace Go.Proofs.YtagiecajffhnpaaGreat
set_option maxRecDepth 100000
open Go.ChangeShapes Go.WideShapes Go.ChangeAt Go.RowKit Go.Joins

end Go.Proofs.YtagiecajffhnpaaGreat

namespace Go.Proofs.YtagiecajffhnpaaGreat

open Go.RowKit

/-- The value v reads as the network n. -/
def IsNet (w : World) (v : Value) (n : Nt) : Prop := ∃ s, v = .agg #[.int .i64 n.nodes, .int .i64 n.ends, .int .i64 n.scale, s] ∧ SlF w s n.wires.length 3 (flatW n.wires)
/-- The value v is the network n, in memory of its own from block base on. -/
def OwnsNet (w : World) (base : Nat) (v : Value) (n : Nt) : Prop :=
  ∃ s, v = .agg #[.int .i64 n.nodes, .int .i64 n.ends, .int .i64 n.scale, s] ∧ w.ownsRow base 45 3 s n.wires.length (icells (flatW n.wires))
theorem OwnsNet.is {w : World} {base : Nat} {v : Value} {n : Nt} (h : OwnsNet w base v n) : IsNet w v n := by
  obtain ⟨s, hv, ho⟩ := h; exact ⟨s, hv, SlF.of_owns ho⟩
theorem IsNet.ge {w w' : World} {v : Value} {n : Nt} (h : IsNet w v n) (hg : Ge w w') : IsNet w' v n := by
  obtain ⟨s, hv, ho⟩ := h; exact ⟨s, hv, ho.ge hg⟩
theorem OwnsNet.ge {w w' : World} {base : Nat} {v : Value} {n : Nt} (h : OwnsNet w base v n) (hg : Ge w w') : OwnsNet w' base v n := by
  obtain ⟨s, hv, ho⟩ := h; exact ⟨s, hv, hg.owns ho⟩

end Go.Proofs.YtagiecajffhnpaaGreat

namespace Go.Proofs.YtagiecajffhnpaaGreat
set_option maxRecDepth 100000
open Go.ChangeShapes Go.WideShapes Go.ChangeAt Go.RowKit Go.Joins

/-- A network of its own memory, and whether there is one. -/
def GivesNB (w : World) (n : Nt) (B : Bool) (e : Ending) (w' : World) : Prop :=
  ∃ s, e = .returned (.tuple #[.agg #[.int .i64 n.nodes, .int .i64 n.ends, .int .i64 n.scale, s], .bool B]) ∧ w'.ownsRow w.heap.size 45 3 s n.wires.length (icells (flatW n.wires)) ∧ Ge w w'
noncomputable def wL (l : List (List UInt8)) : Nat → List Wr
  | 0 => []
  | k + 1 => wL l k ++ [⟨pv (tnth (pieces [45, 61] (tnth l (k + 1))) 0), pv (tnth (pieces [45, 61] (tnth l (k + 1))) 1), pv (tnth (pieces [45, 61] (tnth l (k + 1))) 2)⟩]
theorem wL_flat (l : List (List UInt8)) : ∀ k, flatW (wL l k) = wX l k ∧ (wL l k).length = k
  | 0 => ⟨rfl, rfl⟩
  | k + 1 => by
    obtain ⟨h1, h2⟩ := wL_flat l k
    refine ⟨?_, by simp [wL, h2]⟩
    simp only [wL, wX, flatW_append, h1, flatW]
/-- The network that a text names. -/
noncomputable def pnN (s : List UInt8) : Nt := ⟨pnV s 0, pnV s 1, pnV s 2, if pnB (hdI s) s = true then wL (pieces [32] s) ((pieces [32] s).length - 1) else []⟩
theorem pnN_w (s : List UInt8) : (pnN s).wires.length = pnM s ∧ flatW (pnN s).wires = pnX s := by
  unfold pnN pnM pnX
  simp only
  split
  · exact ⟨(wL_flat _ _).2, (wL_flat _ _).1⟩
  · exact ⟨rfl, rfl⟩
theorem givesNB {w w' : World} {s : List UInt8} {e : Ending} (h : GivesP w s e w') : GivesNB w (pnN s) (pnB (hdI s) s) e w' := by
  obtain ⟨v, h1, h2, h3⟩ := h
  exact ⟨v, h1, by rw [(pnN_w s).1, (pnN_w s).2]; exact h2, h3⟩
theorem iParseNet (s : List UInt8) (w : World) (hm : s.length ≤ 1048576) : Calls Tryz.prog 20 #[.string (bstr s)] w (GivesNB w (pnN s) (pnB (hdI s) s)) := by
  cases h : hdOk (hdI s) with
  | true => exact (iParseNetB s w hm h).mono fun _ _ => givesNB
  | false => exact (iParseNetA s w hm h).mono fun _ _ => givesNB
end Go.Proofs.YtagiecajffhnpaaGreat

namespace Go.Proofs.YtagiecajffhnpaaGreat
set_option maxRecDepth 100000
open Go.ChangeShapes Go.WideShapes Go.ChangeAt Go.RowKit Go.Joins

/-- Each square stands behind the one before it. -/
def ordC (n : Nat) (xs : List Int) : Prop := ∀ k, k + 1 < n → ¬ cmpSq (nth xs ((k + 1) * 3)) (nth xs ((k + 1) * 3 + 1)) (nth xs (k * 3)) (nth xs (k * 3 + 1)) < 0
set_option maxHeartbeats 3200000 in
theorem insSq (v : Value) (n : Nat) (xs : List Int) (w : World) (h : SlF w v n 3 xs) (hn : n ≤ 12) (ho : ordC n xs) (fv : Value) (hf : fv = .func (.func 95) #[] #[]) :
    Calls Tryz.prog 135 #[v, .int .i64 0, .int .i64 (n : Int), fv] w fun e w' => e = .returned (.tuple #[]) ∧ Ge w w' := by
  subst hf
  obtain ⟨p, c, rfl, hc⟩ := h.open
  have HC := Lib.hid hc
  have HO := Lib.hid ho
  clear h hc ho
  go_enter Tryz.func135, Tryz.ntmps135
  go_wp2_with fail
  go_loopw [8] (fun i wr => ∃ k : Nat, 1 ≤ k ∧ (k ≤ n ∨ k = 1) ∧ i = .int .i64 k ∧ Ge w wr) (fun i _ => (n + 1) - (intOf i).toNat)
  case atStart => exact ⟨1, by omega, .inr rfl, by go_num, Ge.refl _⟩
  case round =>
    obtain ⟨k, hk1, hk, rfl, hg⟩ := hrel
    by_cases hlt : k < n
    · obtain ⟨k', hk'⟩ : ∃ k', k = k' + 1 := ⟨k - 1, by omega⟩
      obtain ⟨b, o, rfl, x0, x1, x2⟩ := three_cells HC.out hlt
      obtain ⟨b', o', he, y0, y1, y2⟩ := three_cells HC.out (show k' < n by omega)
      simp only [Option.some.injEq, Addr.mk.injEq, and_true] at he
      obtain ⟨rfl, rfl⟩ := he
      have ho := HO.out k' (by omega)
      rw [← hk'] at ho
      replace x0 := hg.keep x0
      replace x1 := hg.keep x1
      replace x2 := hg.keep x2
      replace y0 := hg.keep y0
      replace y1 := hg.keep y1
      replace y2 := hg.keep y2
      generalize nth xs (k * 3) = X0 at *
      generalize nth xs (k * 3 + 1) = X1 at *
      generalize nth xs (k * 3 + 2) = X2 at *
      generalize nth xs (k' * 3) = Y0 at *
      generalize nth xs (k' * 3 + 1) = Y1 at *
      generalize nth xs (k' * 3 + 2) = Y2 at *
      have HB := Lib.hid (fun w' => iByPlace X0 X1 X2 Y0 Y1 Y2 w')
      generalize cmpSq X0 X1 Y0 Y1 = CM at *
      have i0 : (0 : Int) ≤ (k' : Int) := by omega
      have i1 : (k' : Int) < (n : Int) := by omega
      have i2 : k' < n := by omega
      subst hk'
      have i3 : (0 : Int) < ((k' + 1 : Nat) : Int) := by omega
      have i5 : ((k' + 1 : Nat) : Int) < (n : Int) := by omega
      have i6 : k' + 1 < n := by omega
      have i7 : (k' : Int) + 1 < (n : Int) := by omega
      have i8 : (0 : Int) ≤ (k' : Int) + 1 := by omega
      have i9 : (0 : Int) < (k' : Int) + 1 := by omega
      have tw : IntKind.i64.wrap ((k' : Int) + 1 - 1) = (k' : Int) := by rw [show (k' : Int) + 1 - 1 = (k' : Int) by omega]; exact IntWalk.i64_in _ (by omega)
      have tw2 : IntKind.i64.wrap (k' : Int) = (k' : Int) := IntWalk.i64_in _ (by omega)
      go_wp2_with fail
      obtain ⟨wa, hwa⟩ : ∃ wa, wa = wr := ⟨_, rfl⟩
      subst hwa
      go_loopw [9] (fun j wr => j = .int .i64 ((k' : Int) + 1) ∧ wr = wa) (fun _ _ => 0)
      case atStart => exact ⟨by go_num, rfl⟩
      case round =>
        obtain ⟨rfl, rfl⟩ := hrel
        go_wp2_with fail
        have hS : ∀ w', Ge wr w' → (w'.cell? ⟨b, o + (k' + 1) * 3, none⟩ = some (.int .i64 X0) ∧ w'.cell? ⟨b, o + (k' + 1) * 3 + 1, none⟩ = some (.int .i64 X1) ∧ w'.cell? ⟨b, o + (k' + 1) * 3 + 2, none⟩ = some (.int .i64 X2) ∧ w'.cell? ⟨b, o + k' * 3, none⟩ = some (.int .i64 Y0) ∧ w'.cell? ⟨b, o + k' * 3 + 1, none⟩ = some (.int .i64 Y1) ∧ w'.cell? ⟨b, o + k' * 3 + 2, none⟩ = some (.int .i64 Y2) ∧ Ge wr w') := fun w' g => ⟨g.keep (kch), g.keep (kch), g.keep (kch), g.keep (kch), g.keep (kch), g.keep (kch), Ge.trans (kch) g⟩
        go_region_held3 (fun w' => w'.cell? ⟨b, o + (k' + 1) * 3, none⟩ = some (.int .i64 X0) ∧ w'.cell? ⟨b, o + (k' + 1) * 3 + 1, none⟩ = some (.int .i64 X1) ∧ w'.cell? ⟨b, o + (k' + 1) * 3 + 2, none⟩ = some (.int .i64 X2) ∧ w'.cell? ⟨b, o + k' * 3, none⟩ = some (.int .i64 Y0) ∧ w'.cell? ⟨b, o + k' * 3 + 1, none⟩ = some (.int .i64 Y1) ∧ w'.cell? ⟨b, o + k' * 3 + 2, none⟩ = some (.int .i64 Y2) ∧ Ge wr w') (first | ((with_reducible refine hS _ ?_); exact kch) | fail) (first | (go_at_call 95; ((with_reducible refine (HB.out _).mono ?_); rintro e w' ⟨rfl, hb⟩); have hz := Ge.size hb; (try simp at hz)) | fail)
        rename_i hHeldX
        obtain ⟨q0, q1, q2, q3, q4, q5, G7⟩ := hHeldX
        clear hS
        go_wp2_with fail
        go_roundw
        case rel => exact ⟨k' + 2, by omega, by omega, by go_num, Ge.trans hg G7⟩
        case measure => simp [intOf]; omega
    · go_wp2_with fail
      exact bodyPost_end (v := .tuple #[]) (by simp [results, Tryz.results135, go_sem]) rfl ⟨rfl, hg⟩

set_option maxHeartbeats 1600000 in
theorem pdqSq (v : Value) (n : Nat) (xs : List Int) (lim : Int) (w : World) (h : SlF w v n 3 xs) (hn : n ≤ 12) (ho : ordC n xs) (fv : Value) (hf : fv = .func (.func 95) #[] #[]) :
    Calls Tryz.prog 123 #[v, .int .i64 0, .int .i64 (n : Int), .int .i64 lim, fv] w fun e w' => e = .returned (.tuple #[]) ∧ Ge w w' := by
  have HI := Lib.hid (insSq v n xs w h hn ho fv hf)
  obtain ⟨p, c, rfl, hc⟩ := h.open
  clear h hc ho
  subst hf
  go_enter Tryz.func123, Tryz.ntmps123
  go_wp2_with fail
  go_loopw [1, 2] (fun a b wr => a = .int .i64 0 ∧ b = .int .i64 (n : Int) ∧ wr = w) (fun _ _ _ => 0)
  case atStart => exact ⟨rfl, rfl, rfl⟩
  case round =>
    obtain ⟨rfl, rfl, rfl⟩ := hrel
    go_wp2_with (go_at_call 135; ((with_reducible refine (HI.out).mono ?_); rintro e w' ⟨rfl, g⟩))
    exact bodyPost_ret (v := .tuple #[]) (by simp [results, Tryz.results123, go_sem]) rfl ⟨rfl, g⟩

set_option maxHeartbeats 1600000 in
theorem sortSq (v : Value) (n : Nat) (xs : List Int) (w : World) (h : SlF w v n 3 xs) (hn : n ≤ 12) (ho : ordC n xs) (fv : Value) (hf : fv = .func (.func 95) #[] #[]) :
    Calls Tryz.prog 94 #[v, fv] w fun e w' => e = .returned (.tuple #[]) ∧ Ge w w' := by
  have HP := Lib.hid (fun lim w' (g : Ge w w') => pdqSq v n xs lim w' (h.ge g) hn ho fv hf)
  have HL := Lib.hid (fun w' => Tryz.bits_Len (n : Int) w' (by omega) (by omega))
  obtain ⟨p, c, rfl, hc⟩ := h.open
  clear h hc ho
  subst hf
  go_enter Tryz.func94, Tryz.ntmps94
  go_wp2_with (first
    | (go_at_call 124; ((with_reducible refine (HL.out _).mono ?_); rintro e w' ⟨rfl, rfl⟩))
    | (go_at_call 123; ((with_reducible refine (HP.out _ _ (Ge.refl _)).mono ?_); rintro e w' ⟨rfl, g⟩)))
  exact bodyPost_end (v := .tuple #[]) (by simp [results, Tryz.results94, go_sem]) rfl ⟨rfl, g⟩
end Go.Proofs.YtagiecajffhnpaaGreat
