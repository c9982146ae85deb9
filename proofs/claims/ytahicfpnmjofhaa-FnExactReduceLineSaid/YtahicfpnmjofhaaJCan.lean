/- l03Put of the reference: a wire put into a list of wires. No condition. A network in a variable of the call's own. No condition. A region that draws its order: the first n operations under a condition S on the world, then a tail in one forced order. No program in sight. Worlds that differ in one cell; slices of rows that are filled one after another. No condition. l03Drop, l03Canon of the reference. No condition. The nodes that are no terminals; appending to a row of one. No condition. The neighbors of a node: WiresAt of impl, l07Near of the reference; the first node with a number of neighbors. No condition. The first node that is no terminal and has a number of neighbors. No condition. -/
import Derived.Test.YtahicfpnmjofhaaJPut
import Derived.Test.YtahicfpnmjofhaaWRes
import Derived.Test.YtahicfpnmjofhaaWFlat
import Derived.Test.YtahicfpnmjofhaaWEqInt
import Derived.Test.YtahicfpnmjofhaaWDet0
import Derived.Test.YtahicfpnmjofhaaWLaw
import Derived.Test.YtahicfpnmjofhaaWBase
import Derived.Test.YtahicfpnmjofhaaWRatio
import Derived.Test.YtahicfpnmjofhaaWDetS5
import Derived.Test.YtahicfpnmjofhaaWOthers
import Derived.Test.YtahicfpnmjofhaaPlResp
import Derived.Test.YtahicfpnmjofhaaWWeight
import Derived.Test.YtahicfpnmjofhaaWWeightS
import Derived.Test.YtahicfpnmjofhaaWNetOkI2
import Derived.Test.YtahicfpnmjofhaaWNetOkS
import Derived.Maps.AppendAt
namespace Go.Proofs.Ytahicfpnmjofhaa
set_option maxRecDepth 100000
open Go.ChangeShapes Go.WideShapes Go.ChangeAt Go.RowKit Go.Joins

theorem inf_Wire3 : (Try.prog.info? 45).map (fun i => (i.zero, i.size, i.bytes)) = some (some (Value.agg #[.int .i64 0, .int .i64 0, .int .i64 0]), 3, 24) := by kernel_rfl
theorem ap_wire {w : World} {ops : Array Oper} {rest : List Oper} {o : Oper} {a : Act} {Q : Exit → Act → World → Prop} (hgd : o.guard = none) (s x : Operand)
    (ho : o.op = .call { callee := .builtin .append, args := #[s, x], argTypes := #[27, 27] })
    (base : Nat) (v : Value) (n : Nat) (l : List Int) (hs : a.eval s = v) (hown : w.ownsRow base 45 3 v n (icells l))
    (y1 y2 y3 : Int) {b0 : Nat} (hx : a.eval x = .slice (some ⟨b0, 0, none⟩) 1 1) (hb0 : b0 = w.heap.size) (hn : n < 1099511627776) (hbase : base ≤ w.heap.size)
    (h : ∀ v' w', w'.ownsRow base 45 3 v' (n + 1) (icells (l ++ [y1, y2, y3])) → Mine w w' v → (v'.ownBlock = v.ownBlock ∨ ∃ b, v'.ownBlock = some b ∧ w.heap.size ≤ b) → wpList Try.prog ops Q rest (a.put o.dst v') w') :
    wpList Try.prog ops Q (o :: rest) a (w.alloc (.cells #[.int .i64 y1, .int .i64 y2, .int .i64 y3] 45)) := by
  subst hb0
  obtain ⟨i, hi1, hi2, hi3, hi4⟩ := info_parts inf_Wire3
  refine Go.wpList_append_own_at _ hgd s x 27 ho base 45 i _ 3 24 Try.underlying27 hi1 hi2 hi3 hi4 rfl (by decide) v n (icells l) hs (hown.alloc _) ⟨w.heap.size, 0, none⟩ 1 1 [.int .i64 y1, .int .i64 y2, .int .i64 y3] hx rfl ?_ (by simp [Value.oneCell']) (by unfold maxLen; omega) ?_ (by simp; omega) ?_
  · intro j u hu
    have hadd : (⟨w.heap.size, 0, none⟩ : Addr).add j = ⟨w.heap.size, j, none⟩ := by unfold Addr.add; split <;> simp_all
    rw [hadd, cell_of_row (w.alloc (.cells #[.int .i64 y1, .int .i64 y2, .int .i64 y3] 45)) w.heap.size j _ _ (0, 0) (heap_alloc_new w _)]
    simpa using hu
  · have : (n + 1) * 24 ≤ (n + 1) * 100 := Nat.mul_le_mul_left _ (by decide)
    omega
  · intro v' w' h2 h3 _ h5
    refine h v' w' (by simpa [icells] using h2) (Mine.alloc _ h3) ?_
    rcases h5 with h5 | h5
    · exact .inl h5
    · exact .inr ⟨_, h5, by simp⟩
theorem grown_setN (w : World) (b o : Nat) (x : Value) : w.grownBy (w.setCell ⟨b, o, none⟩ x) (some b) := by
  refine ⟨rfl, rfl, rfl, by simp, fun k _ hne => ?_⟩
  have : b ≠ k := fun e => hne (by rw [e])
  simp [World.setCell, Array.getElem?_modify, this]
theorem mine_frozN {w w' : World} {v : Value} (hm : Mine w w' v) {a : Addr} {u : Value} (h : w.cell? a = some u) (hf : w.frozen? a = false) (hne : ∀ k, v.ownBlock = some k → a.block ≠ k) : w'.frozen? a = false := by
  rw [World.frozen?_of_block (World.grownBy.block hm a.block (World.block_lt_of_cell? _ _ h) (fun e => hne _ e.symm rfl))]
  exact hf
/-- The row's block is the first, or a late one. -/
def Blk (v : Value) (z a : Nat) : Prop := v.ownBlock = some z ∨ ∃ b, v.ownBlock = some b ∧ a ≤ b
theorem Blk.next {v v' : Value} {z a b : Nat} (h : Blk v z a) (hz : a ≤ b) (h2 : v'.ownBlock = v.ownBlock ∨ ∃ c, v'.ownBlock = some c ∧ b ≤ c) : Blk v' z a := by
  rcases h2 with h2 | ⟨c, h2, h3⟩
  · unfold Blk; rw [h2]; exact h
  · exact Or.inr ⟨c, h2, by omega⟩
theorem Blk.ne {v : Value} {z a g : Nat} (h : Blk v z a) (h1 : z < g) (h2 : g < a) : ∀ k, v.ownBlock = some k → g ≠ k := fun k hk e => by
  rcases h with h | ⟨b, h, h3⟩
  · rw [h] at hk; cases hk; omega
  · rw [h] at hk; cases hk; omega
theorem flatW_snoc (l : List Wr) (e : Wr) : flatW (l ++ [e]) = flatW l ++ [e.a, e.b, e.w] := by rw [flatW_append]; rfl
theorem take_snocW (l : List Wr) (k : Nat) (h : k < l.length) : l.take (k + 1) = l.take k ++ [nthW l k] := by
  rw [List.take_succ_eq_append_getElem h, nthW_eq l k h]
theorem wire_cells {w : World} {p : Option Addr} {l : List Wr} {n : Nat} (h : ∀ i, i < n * 3 → ∃ b o, p = some ⟨b, o, none⟩ ∧ w.cell? ⟨b, o + i, none⟩ = some (.int .i64 (nth (flatW l) i))) (hn : l.length = n) {k : Nat} (hk : k < n) :
    ∃ b o, p = some ⟨b, o, none⟩ ∧ w.cell? ⟨b, o + k * 3, none⟩ = some (.int .i64 (nthW l k).a) ∧ w.cell? ⟨b, o + k * 3 + 1, none⟩ = some (.int .i64 (nthW l k).b) ∧ w.cell? ⟨b, o + k * 3 + 2, none⟩ = some (.int .i64 (nthW l k).w) := by
  obtain ⟨b, o, hp, c0, c1, c2⟩ := three_cells h hk
  obtain ⟨e0, e1, e2⟩ := flatW_get l k (by omega)
  unfold nth at c0 c1 c2
  rw [e0] at c0
  rw [e1] at c1
  rw [e2] at c2
  exact ⟨b, o, hp, c0, c1, c2⟩
/-- The weight so far. -/
def addS (add : Bool) (A B x : Int) (l : List Wr) : Int := x + (if add = true then sameS A B l else 0)
/-- The first loop of l03Put: what stands behind k rounds. -/
def Put1 (w wr : World) (v : Value) (A B x : Int) (add : Bool) (l : List Wr) (k : Nat) : Prop :=
  wr.ownsRow w.heap.size 45 3 v (dropE A B (l.take k)).length (icells (flatW (dropE A B (l.take k)))) ∧ Blk v w.heap.size (w.heap.size + 2) ∧
  wr.cell? ⟨w.heap.size + 1, 0, none⟩ = some (.int .i64 A) ∧ wr.cell? ⟨w.heap.size + 1, 1, none⟩ = some (.int .i64 B) ∧ wr.cell? ⟨w.heap.size + 1, 2, none⟩ = some (.int .i64 (addS add A B x (l.take k))) ∧
  wr.frozen? ⟨w.heap.size + 1, 2, none⟩ = false ∧ w.heap.size + 2 ≤ wr.heap.size ∧ Ge w wr
theorem Put1.start (w : World) (A B x : Int) (add : Bool) (l : List Wr) : Put1 w ((w.alloc (.cells #[] 45)).alloc (.cells #[.int .i64 A, .int .i64 B, .int .i64 x] 45)) (.slice (some ⟨w.heap.size, 0, none⟩) 0 0) A B x add l 0 := by
  have e : w.heap.size + 1 = (w.alloc (.cells #[] 45)).heap.size := by simp
  refine ⟨Ge.owns (Ge.alloc (Ge.refl _) _) (owns_lit0 _ _ _), Or.inl rfl, cell_new e rfl, cell_new e rfl, ?_, froz_new (v := .int .i64 x) e rfl, by simp, Ge.alloc (Ge.alloc (Ge.refl _) _) _⟩
  have : addS add A B x (l.take 0) = x := by unfold addS; simp [sameS]
  rw [this]
  exact cell_new e rfl
theorem drop_in {A B : Int} {l : List Wr} {k : Nat} (hk : k < l.length) (h : isE A B (nthW l k) = true) : dropE A B (l.take (k + 1)) = dropE A B (l.take k) := by
  rw [take_snocW l k hk, dropE_snoc, if_pos h]
theorem drop_out {A B : Int} {l : List Wr} {k : Nat} (hk : k < l.length) (h : isE A B (nthW l k) = false) : dropE A B (l.take (k + 1)) = dropE A B (l.take k) ++ [nthW l k] := by
  rw [take_snocW l k hk, dropE_snoc, if_neg (by simp [h])]
theorem addS_in {A B x : Int} {l : List Wr} {k : Nat} (hk : k < l.length) (h : isE A B (nthW l k) = true) : addS true A B x (l.take (k + 1)) = addS true A B x (l.take k) + (nthW l k).w := by
  unfold addS
  rw [if_pos rfl, if_pos rfl, take_snocW l k hk, sameS_snoc, if_pos h]; omega
theorem addS_out {A B x : Int} {add : Bool} {l : List Wr} {k : Nat} (hk : k < l.length) (h : isE A B (nthW l k) = false) : addS add A B x (l.take (k + 1)) = addS add A B x (l.take k) := by
  unfold addS
  rw [take_snocW l k hk, sameS_snoc, h]; simp
/-- A round that leaves the list as it is, no weight is added. -/
theorem Put1.skip {w wr : World} {v : Value} {A B x : Int} {l : List Wr} {k : Nat} (h : Put1 w wr v A B x false l k) (hk : k < l.length) (he : isE A B (nthW l k) = true) {wr' : World} (hg : Ge wr wr') : Put1 w wr' v A B x false l (k + 1) := by
  obtain ⟨h1, h2, h3, h4, h5, h6, h7, h8⟩ := h
  refine ⟨by rw [drop_in hk he]; exact hg.owns h1, h2, hg.keep h3, hg.keep h4, ?_, hg.keepF h5 h6, Nat.le_trans h7 hg.size, h8.trans hg⟩
  have e : addS false A B x (l.take (k + 1)) = addS false A B x (l.take k) := by unfold addS; simp
  rw [e]; exact hg.keep h5
/-- A round that adds a weight. -/
theorem Put1.plus {w wr : World} {v : Value} {A B x : Int} {l : List Wr} {k : Nat} (h : Put1 w wr v A B x true l k) (hk : k < l.length) (he : isE A B (nthW l k) = true) {wr' : World} (hg : Ge wr wr') {y : Int} (hy : y = addS true A B x (l.take k) + (nthW l k).w) :
    Put1 w (wr'.setCell ⟨w.heap.size + 1, 2, none⟩ (.int .i64 y)) v A B x true l (k + 1) := by
  obtain ⟨h1, h2, h3, h4, h5, h6, h7, h8⟩ := h
  refine ⟨?_, h2, cell_set2 (by simp) (hg.keep h3), cell_set2 (by simp) (hg.keep h4), ?_, froz_set (hg.keepF h5 h6), by simpa using Nat.le_trans h7 hg.size, Ge.setCell (h8.trans hg) (by simp) _⟩
  · rw [drop_in hk he]
    have h1' := hg.owns h1
    refine h1'.kept (grown_setN wr' (w.heap.size + 1) 2 (.int .i64 y)) ?_
    cases hv : v.ownBlock with
    | none => exact .inl rfl
    | some c => exact .inr (fun e => h2.ne (g := w.heap.size + 1) (by omega) (by omega) c hv (by simpa using e.symm))
  · rw [addS_in hk he, ← hy]
    exact World.cell?_setCell_same _ _ _ (hg.keep h5)
theorem Put1.ge {w wr wr' : World} {v : Value} {A B x : Int} {add : Bool} {l : List Wr} {k : Nat} (h : Put1 w wr v A B x add l k) (hg : Ge wr wr') : Put1 w wr' v A B x add l k := by
  obtain ⟨h1, h2, h3, h4, h5, h6, h7, h8⟩ := h
  exact ⟨hg.owns h1, h2, hg.keep h3, hg.keep h4, hg.keep h5, hg.keepF h5 h6, Nat.le_trans h7 hg.size, h8.trans hg⟩
/-- A round that appends the wire. -/
theorem Put1.app {w wr : World} {v : Value} {A B x : Int} {add : Bool} {l : List Wr} {k : Nat} (h : Put1 w wr v A B x add l k) (hk : k < l.length) (he : isE A B (nthW l k) = false) {wr' w' : World} {v' : Value} (hg : Ge wr wr') (hm : Mine wr' w' v)
    (ho : w'.ownsRow w.heap.size 45 3 v' ((dropE A B (l.take k)).length + 1) (icells (flatW (dropE A B (l.take k)) ++ [(nthW l k).a, (nthW l k).b, (nthW l k).w])))
    (hb : v'.ownBlock = v.ownBlock ∨ ∃ b, v'.ownBlock = some b ∧ wr'.heap.size ≤ b) : Put1 w w' v' A B x add l (k + 1) := by
  obtain ⟨h1, h2, h3, h4, h5, h6, h7, h8⟩ := h
  have ne := h2.ne (g := w.heap.size + 1) (by omega) (by omega)
  have z := hg.size
  refine ⟨?_, h2.next (by omega) hb, mine_cell hm (hg.keep h3) ne, mine_cell hm (hg.keep h4) ne, ?_, ?_, Nat.le_trans h7 (Nat.le_trans z (World.grownBy.size hm)), Ge.mine (h8.trans hg) (hg.owns h1) (Nat.le_refl _) hm⟩
  · rw [drop_out hk he, flatW_snoc]
    simpa using ho
  · rw [addS_out hk he]; exact mine_cell hm (hg.keep h5) ne
  · exact mine_frozN hm (hg.keep h5) (hg.keepF h5 h6) ne
/-- The second loop: what stands behind k rounds. -/
def Put2 (w2 wr : World) (v : Value) (B2 : Nat) (X : Wr) (D : List Wr) (k : Nat) : Prop :=
  wr.ownsRow B2 45 3 v (insP X (D.take k)).1.length (icells (flatW (insP X (D.take k)).1)) ∧ Ge w2 wr
theorem Put2.one {w2 wr wr' w' : World} {v v' : Value} {B2 : Nat} {X : Wr} {D : List Wr} {k : Nat} (h : Put2 w2 wr v B2 X D k) (hk : k < D.length) (hb : w2.heap.size ≤ B2) (hg : Ge wr wr') (hm : Mine wr' w' v)
    (hc : (insP X (D.take k)).2 = true ∨ gtE X.a X.b (nthW D k) = false)
    (ho : w'.ownsRow B2 45 3 v' ((insP X (D.take k)).1.length + 1) (icells (flatW (insP X (D.take k)).1 ++ [(nthW D k).a, (nthW D k).b, (nthW D k).w]))) :
    Put2 w2 w' v' B2 X D (k + 1) ∧ (insP X (D.take (k + 1))).2 = (insP X (D.take k)).2 := by
  have e : insP X (D.take (k + 1)) = ((insP X (D.take k)).1 ++ [nthW D k], (insP X (D.take k)).2) := by
    rw [take_snocW D k hk, insP_snoc]
    rcases hc with hc | hc
    · rw [if_pos hc, hc]
    · by_cases d : (insP X (D.take k)).2 = true
      · rw [if_pos d, d]
      · rw [if_neg d, if_neg (by simp [hc])]
        have : (insP X (D.take k)).2 = false := by simpa using d
        rw [this]
  refine ⟨⟨?_, Ge.mine (h.2.trans hg) (hg.owns h.1) hb hm⟩, by rw [e]⟩
  rw [e]
  simp only [flatW_snoc, List.length_append, List.length_singleton]
  exact ho
theorem Put2.two {w2 wr wr' wa w' : World} {v va v' : Value} {B2 : Nat} {X : Wr} {D : List Wr} {k : Nat} (h : Put2 w2 wr v B2 X D k) (hk : k < D.length) (hb : w2.heap.size ≤ B2) (hg : Ge wr wr') (hm : Mine wr' wa v) (hma : Mine wa w' va)
    (hc : (insP X (D.take k)).2 = false) (hc2 : gtE X.a X.b (nthW D k) = true)
    (hoa : wa.ownsRow B2 45 3 va ((insP X (D.take k)).1.length + 1) (icells (flatW (insP X (D.take k)).1 ++ [X.a, X.b, X.w])))
    (ho : w'.ownsRow B2 45 3 v' ((insP X (D.take k)).1.length + 1 + 1) (icells (flatW (insP X (D.take k)).1 ++ [X.a, X.b, X.w] ++ [(nthW D k).a, (nthW D k).b, (nthW D k).w]))) :
    Put2 w2 w' v' B2 X D (k + 1) ∧ (insP X (D.take (k + 1))).2 = true := by
  have e : insP X (D.take (k + 1)) = ((insP X (D.take k)).1 ++ [X, nthW D k], true) := by
    rw [take_snocW D k hk, insP_snoc, if_neg (by simp [hc]), if_pos hc2]
  refine ⟨⟨?_, Ge.mine (Ge.mine (h.2.trans hg) (hg.owns h.1) hb hm) hoa hb hma⟩, by rw [e]⟩
  rw [e]
  have e2 : (insP X (D.take k)).1 ++ [X, nthW D k] = ((insP X (D.take k)).1 ++ [X]) ++ [nthW D k] := by simp
  simp only
  rw [e2, flatW_snoc, flatW_snoc]
  simpa using ho
theorem Put2.done {w w2 wr : World} {v : Value} {X : Wr} {D : List Wr} {k : Nat} (h : Put2 w2 wr v w2.heap.size X D k) (hk : D.length = k) (hd : (insP X (D.take k)).2 = true) (hw : Ge w w2) : wr.ownsRow w.heap.size 45 3 v (insW X D).length (icells (flatW (insW X D))) ∧ Ge w wr := by
  rw [List.take_of_length_le (by omega)] at hd
  have e : insW X D = (insP X D).1 := by unfold insW; rw [if_pos hd]
  have h1 := h.1
  rw [List.take_of_length_le (by omega)] at h1
  rw [e]
  exact ⟨owns_mono h1 hw.size, hw.trans h.2⟩
theorem Put2.last {w w2 wr w' : World} {v v' : Value} {X : Wr} {D : List Wr} {k : Nat} (h : Put2 w2 wr v w2.heap.size X D k) (hk : D.length = k) (hd : (insP X (D.take k)).2 = false) (hw : Ge w w2) (hm : Mine wr w' v)
    (ho : w'.ownsRow w2.heap.size 45 3 v' ((insP X (D.take k)).1.length + 1) (icells (flatW (insP X (D.take k)).1 ++ [X.a, X.b, X.w]))) : w'.ownsRow w.heap.size 45 3 v' (insW X D).length (icells (flatW (insW X D))) ∧ Ge w w' := by
  rw [List.take_of_length_le (by omega)] at hd ho
  have e : insW X D = (insP X D).1 ++ [X] := by unfold insW; rw [if_neg (by simp [hd])]
  rw [e, flatW_snoc]
  refine ⟨owns_mono (by simpa using ho) hw.size, hw.trans (Ge.mine h.2 h.1 (Nat.le_refl _) hm)⟩
theorem drop_le (A B : Int) (l : List Wr) (k : Nat) (h : l.length ≤ 1000000) : (dropE A B (l.take k)).length ≤ 1000000 := by
  have h1 := dropE_len A B (l.take k)
  have h2 : (l.take k).length ≤ l.length := List.length_take_le' _ _
  omega
theorem ins_le (X : Wr) (D : List Wr) (k : Nat) (h : D.length ≤ 1000000) : (insP X (D.take k)).1.length ≤ 1000001 := by
  have h1 := insP_len X (D.take k)
  have h2 : (D.take k).length ≤ D.length := List.length_take_le' _ _
  split at h1 <;> omega

set_option maxHeartbeats 3200000 in
theorem sL03Put (v : Value) (l : List Wr) (a b x : Int) (add : Bool) (w : World) (hs : SlF w v l.length 3 (flatW l)) (hl : l.length ≤ 1000000)
    (hB : ∀ k, k ≤ l.length → -9000000000000000000 ≤ addS add (min a b) (max a b) x (l.take k) ∧ addS add (min a b) (max a b) x (l.take k) ≤ 9000000000000000000) :
    Calls Try.prog 43 #[v, .int .i64 a, .int .i64 b, .int .i64 x, .bool add] w fun e w' => ∃ u, e = .returned u ∧ (w'.ownsRow w.heap.size 45 3 u (putW l a b x add).length (icells (flatW (putW l a b x add))) ∧ Ge w w') := by
  have HPut : Hid (putW l a b x add = insW ⟨min a b, max a b, addS add (min a b) (max a b) x l⟩ (dropE (min a b) (max a b) l)) := rfl
  have HBd := Lib.hid hB
  obtain ⟨n, hn⟩ : ∃ n, l.length = n := ⟨_, rfl⟩
  have HN := Lib.hid hn
  rw [hn] at hl hs
  obtain ⟨p, cap, rfl, hc⟩ := hs.open
  have HC : Hid (∀ wr, Ge w wr → ∀ k, k < n → ∃ b o, p = some ⟨b, o, none⟩ ∧ wr.cell? ⟨b, o + k * 3, none⟩ = some (.int .i64 (nthW l k).a) ∧ wr.cell? ⟨b, o + k * 3 + 1, none⟩ = some (.int .i64 (nthW l k).b) ∧ wr.cell? ⟨b, o + k * 3 + 2, none⟩ = some (.int .i64 (nthW l k).w)) := fun wr g k hk => by
    obtain ⟨b, o, hp, c0, c1, c2⟩ := wire_cells hc hn hk
    exact ⟨b, o, hp, g.keep c0, g.keep c1, g.keep c2⟩
  have HSt := Lib.hid (Put1.start w (min a b) (max a b) x add l)
  clear hs hc hn hB
  go_enter Try.func43, Try.ntmps43
  go_wp2_with fail
  generalize min a b = A at *
  generalize max a b = B at *
  go_loopw [11, 29] (fun u i wr => ∃ k : Nat, k ≤ n ∧ i = .int .i64 k ∧ Hid (Put1 w wr u A B x add l k)) (fun _ i _ => n - (intOf i).toNat)
  case atStart => exact ⟨0, Nat.zero_le _, rfl, HSt.out⟩
  case round =>
    obtain ⟨k, hk, rfl, HP⟩ := hrel
    obtain ⟨h1, h2, h3, h4, h5, h6, h7, h8⟩ := HP.out
    have z1 : w.heap.size + 1 < wr.heap.size := by omega
    by_cases hlt : k < n
    · obtain ⟨b0, o0, rfl, c0, c1, c2⟩ := HC.out wr h8 k hlt
      have hkl : k < l.length := by rw [HN.out]; exact hlt
      cases he : isE A B (nthW l k) with
      | false =>
        have HApp := Lib.hid (fun wr' w' v' hg hm ho hb => Put1.app HP.out hkl he (wr' := wr') (w' := w') (v' := v') hg hm ho hb)
        have HD := Lib.hid (drop_le A B l k (by rw [HN.out]; exact hl))
        have hne : ¬ ((nthW l k).a = A ∧ (nthW l k).b = B) := fun h => by rw [isE_t h] at he; cases he
        generalize dropE A B (l.take k) = D at *
        generalize nthW l k = E at *
        generalize addS add A B x (l.take k) = Y at *
        obtain ⟨ea, eb, ew⟩ := E
        dsimp only at *
        generalize flatW D = FD at *
        generalize D.length = dn at *
        have ho := h1.alloc (.cells #[.int .i64 ea, .int .i64 eb, .int .i64 ew] 45)
        clear he hkl h1
        by_cases t1 : ea = A
        · have t2 : ¬ eb = B := fun h => hne ⟨t1, h⟩
          have q1 : (ea == A) = true := by simp [t1]
          have q2 : (eb == B) = false := by simp [t2]
          clear t1 t2 hne
          go_wp2_with (at_builtin; refine ap_wire rfl _ _ rfl w.heap.size _ _ _ rfl ho ea eb ew rfl (by simp) (by have := HD.out; omega) (by simp; omega) ?_; intro v' w6 own6 hm6 hb6)
          go_roundw
          case rel => exact ⟨k + 1, by omega, by go_num, HApp.out _ _ _ (Ge.alloc (Ge.refl _) _) hm6 own6 hb6⟩
          case measure => simp [intOf]; omega
        · have q1 : (ea == A) = false := by simp [t1]
          clear t1 hne
          go_wp2_with (at_builtin; refine ap_wire rfl _ _ rfl w.heap.size _ _ _ rfl ho ea eb ew rfl (by simp) (by have := HD.out; omega) (by simp; omega) ?_; intro v' w6 own6 hm6 hb6)
          go_roundw
          case rel => exact ⟨k + 1, by omega, by go_num, HApp.out _ _ _ (Ge.alloc (Ge.refl _) _) hm6 own6 hb6⟩
          case measure => simp [intOf]; omega
      | true =>
        obtain ⟨t1, t2⟩ := isE_of he
        have q1 : ((nthW l k).a == A) = true := by simp [t1]
        have q2 : ((nthW l k).b == B) = true := by simp [t2]
        cases add with
        | false =>
          have HSk := Lib.hid (fun wr' hg => Put1.skip HP.out hkl he (wr' := wr') hg)
          generalize nthW l k = E at *
          obtain ⟨ea, eb, ew⟩ := E
          dsimp only at *
          clear he hkl h1 t1 t2
          go_wp2_with fail
          go_roundw
          case rel => exact ⟨k + 1, by omega, by go_num, HSk.out _ (Ge.alloc (Ge.refl _) _)⟩
          case measure => simp [intOf]; omega
        | true =>
          have HPl := Lib.hid (fun wr' hg y hy => Put1.plus HP.out hkl he (wr' := wr') hg (y := y) hy)
          have b1 := HBd.out (k + 1) (by omega)
          rw [addS_in hkl he] at b1
          generalize addS true A B x (l.take k) = Y at *
          generalize nthW l k = E at *
          obtain ⟨ea, eb, ew⟩ := E
          dsimp only at *
          clear he hkl h1 t1 t2
          go_wp2_with fail
          go_roundw
          case rel => exact ⟨k + 1, by omega, by go_num, Put1.ge (HPl.out _ (Ge.refl _) _ rfl) (Ge.alloc (Ge.refl _) _)⟩
          case measure => simp [intOf]; omega
    · have hkn : k = n := by omega
      subst hkn
      rw [List.take_of_length_le (by rw [HN.out]; exact Nat.le_refl _)] at h1 h5
      have hdl := drop_le A B l l.length (by rw [HN.out]; exact hl)
      rw [List.take_of_length_le (Nat.le_refl _)] at hdl
      have HD := Lib.hid (fun kk => ins_le ⟨A, B, addS add A B x l⟩ (dropE A B l) kk hdl)
      generalize addS add A B x l = Y at *
      generalize dropE A B l = D at *
      have Hs1 := SlF.of_owns h1
      obtain ⟨d, hd⟩ : ∃ d, D.length = d := ⟨_, rfl⟩
      have HDn := Lib.hid hd
      rw [hd] at h1 Hs1 hdl
      obtain ⟨p2, cap2, rfl, hc2⟩ := Hs1.open
      have HC2 : Hid (∀ wq, Ge wr wq → ∀ k, k < d → ∃ b o, p2 = some ⟨b, o, none⟩ ∧ wq.cell? ⟨b, o + k * 3, none⟩ = some (.int .i64 (nthW D k).a) ∧ wq.cell? ⟨b, o + k * 3 + 1, none⟩ = some (.int .i64 (nthW D k).b) ∧ wq.cell? ⟨b, o + k * 3 + 2, none⟩ = some (.int .i64 (nthW D k).w)) := fun wq g k hk => by
        obtain ⟨b, o, hp, c0, c1, c2⟩ := wire_cells hc2 hd hk
        exact ⟨b, o, hp, g.keep c0, g.keep c1, g.keep c2⟩
      have HSt2 : Hid (Put2 wr (wr.alloc (.cells #[] 45)) (.slice (some ⟨wr.heap.size, 0, none⟩) 0 0) wr.heap.size ⟨A, B, Y⟩ D 0) := ⟨owns_lit0 _ _ _, Ge.alloc (Ge.refl _) _⟩
      clear h1 Hs1 hc2 hd h2 h6 HP HBd HC
      go_wp2_with fail
      obtain ⟨wo, hwo⟩ : ∃ wo : World, wo = wr := ⟨_, rfl⟩
      subst hwo
      go_loopw [11, 13, 61] (fun u dn i wr => ∃ k : Nat, k ≤ d ∧ i = .int .i64 k ∧ dn = .bool (insP ⟨A, B, Y⟩ (D.take k)).2 ∧ Hid (Put2 wo wr u wo.heap.size ⟨A, B, Y⟩ D k)) (fun _ _ i _ => d - (intOf i).toNat)
      case atStart => exact ⟨0, Nat.zero_le _, rfl, rfl, HSt2.out⟩
      case round =>
        obtain ⟨k, hk2, rfl, rfl, HP2⟩ := hrel
        obtain ⟨g1, g2⟩ := HP2.out
        have x0 := g2.keep h3
        have x1 := g2.keep h4
        have x2 := g2.keep h5
        have z2 : w.heap.size + 1 < wr.heap.size := Nat.lt_of_lt_of_le z1 g2.size
        have z3 := g2.size
        have HI := Lib.hid (HD.out k)
        by_cases hlt2 : k < d
        · obtain ⟨b1, o1, rfl, c0, c1, c2⟩ := HC2.out wr g2 k hlt2
          have hkd : k < D.length := by rw [HDn.out]; exact hlt2
          cases hdn : (insP ⟨A, B, Y⟩ (D.take k)).2 with
          | true =>
            have HOne := Lib.hid (fun wr' w' v' hg hm ho => Put2.one HP2.out hkd (Nat.le_refl _) (wr' := wr') (w' := w') (v' := v') hg hm (Or.inl hdn) ho)
            rw [hdn] at HOne
            generalize nthW D k = E at *
            obtain ⟨ea, eb, ew⟩ := E
            dsimp only at *
            generalize (insP ⟨A, B, Y⟩ (D.take k)).1.length = il at *
            generalize flatW (insP ⟨A, B, Y⟩ (D.take k)).1 = FI at *
            have ho1 := g1.alloc (.cells #[.int .i64 ea, .int .i64 eb, .int .i64 ew] 45)
            clear hkd hdn g1
            go_wp2_with (at_builtin; refine ap_wire rfl _ _ rfl wo.heap.size _ _ _ rfl ho1 ea eb ew rfl (by simp) (by have := HI.out; omega) (by simp; omega) ?_; intro v' w6 own6 hm6 hb6)
            go_roundw
            case rel => exact ⟨k + 1, by omega, by go_num, by rw [(HOne.out _ _ _ (Ge.alloc (Ge.refl _) _) hm6 own6).2], (HOne.out _ _ _ (Ge.alloc (Ge.refl _) _) hm6 own6).1⟩
            case measure => simp [intOf]; omega
          | false =>
            cases hg : gtE A B (nthW D k) with
            | false =>
              have HOne := Lib.hid (fun wr' w' v' hg1 hm ho => Put2.one HP2.out hkd (Nat.le_refl _) (wr' := wr') (w' := w') (v' := v') hg1 hm (Or.inr hg) ho)
              rw [hdn] at HOne
              have hng : ¬ (A < (nthW D k).a ∨ (nthW D k).a = A ∧ B < (nthW D k).b) := fun h => by rw [gtE_t h] at hg; cases hg
              generalize nthW D k = E at *
              obtain ⟨ea, eb, ew⟩ := E
              dsimp only at *
              generalize (insP ⟨A, B, Y⟩ (D.take k)).1.length = il at *
              generalize flatW (insP ⟨A, B, Y⟩ (D.take k)).1 = FI at *
              have ho1 := g1.alloc (.cells #[.int .i64 ea, .int .i64 eb, .int .i64 ew] 45)
              have q1 : decide (A < ea) = false := by simp; omega
              have q1' : ¬ A < ea := by omega
              clear hkd hdn g1 hg
              by_cases t1 : ea = A
              · have q2 : (ea == A) = true := by simp [t1]
                have q3 : decide (B < eb) = false := by simp; omega
                have q3' : ¬ B < eb := by omega
                clear t1 hng
                go_wp2_with (at_builtin; refine ap_wire rfl _ _ rfl wo.heap.size _ _ _ rfl ho1 ea eb ew rfl (by simp) (by have := HI.out; omega) (by simp; omega) ?_; intro v' w6 own6 hm6 hb6)
                go_roundw
                case rel => exact ⟨k + 1, by omega, by go_num, by rw [(HOne.out _ _ _ (Ge.alloc (Ge.refl _) _) hm6 own6).2], (HOne.out _ _ _ (Ge.alloc (Ge.refl _) _) hm6 own6).1⟩
                case measure => simp [intOf]; omega
              · have q2 : (ea == A) = false := by simp [t1]
                clear t1 hng
                go_wp2_with (at_builtin; refine ap_wire rfl _ _ rfl wo.heap.size _ _ _ rfl ho1 ea eb ew rfl (by simp) (by have := HI.out; omega) (by simp; omega) ?_; intro v' w6 own6 hm6 hb6)
                go_roundw
                case rel => exact ⟨k + 1, by omega, by go_num, by rw [(HOne.out _ _ _ (Ge.alloc (Ge.refl _) _) hm6 own6).2], (HOne.out _ _ _ (Ge.alloc (Ge.refl _) _) hm6 own6).1⟩
                case measure => simp [intOf]; omega
            | true =>
              have HTwo := Lib.hid (fun wr' wa w' va v' hg1 hm hma hoa ho => Put2.two HP2.out hkd (Nat.le_refl _) (wr' := wr') (wa := wa) (w' := w') (va := va) (v' := v') hg1 hm hma hdn hg hoa ho)
              have hyg := gtE_of hg
              generalize nthW D k = E at *
              obtain ⟨ea, eb, ew⟩ := E
              dsimp only at *
              generalize (insP ⟨A, B, Y⟩ (D.take k)).1.length = il at *
              generalize flatW (insP ⟨A, B, Y⟩ (D.take k)).1 = FI at *
              have ho1 := g1.alloc (.cells #[.int .i64 ea, .int .i64 eb, .int .i64 ew] 45)
              have NB := Lib.hid (behind_row g1 (Nat.le_refl _))
              have E0 : Hid ((wr.alloc (.cells #[.int .i64 ea, .int .i64 eb, .int .i64 ew] 45)).cell? ⟨wr.heap.size, 0, none⟩ = some (.int .i64 ea)) := cell_new rfl rfl
              have E1 : Hid ((wr.alloc (.cells #[.int .i64 ea, .int .i64 eb, .int .i64 ew] 45)).cell? ⟨wr.heap.size, 1, none⟩ = some (.int .i64 eb)) := cell_new rfl rfl
              have E2 : Hid ((wr.alloc (.cells #[.int .i64 ea, .int .i64 eb, .int .i64 ew] 45)).cell? ⟨wr.heap.size, 2, none⟩ = some (.int .i64 ew)) := cell_new rfl rfl
              clear hkd hdn g1 hg
              by_cases t0 : A < ea
              · have q1 : decide (A < ea) = true := by simp [t0]
                clear hyg
                go_wp2_with (first
                  | (at_builtin; refine ap_wire rfl _ _ rfl wo.heap.size _ _ _ rfl ho1 A B Y rfl (by simp) (by have := HI.out; omega) (by simp; omega) ?_; intro va wa owna hma hba; clear ho1; have e0 := mine_cell hma E0.out NB.out; have e1 := mine_cell hma E1.out NB.out; have e2 := mine_cell hma E2.out NB.out; have za : wo.heap.size ≤ wa.heap.size := by (have := World.grownBy.size hma; simp at this; omega))
                  | (at_builtin; refine ap_wire rfl _ _ rfl wo.heap.size _ _ _ rfl owna ea eb ew rfl rfl (by have := HI.out; omega) za ?_; intro v' w6 own6 hm6 hb6))
                go_roundw
                case rel => exact ⟨k + 1, by omega, by go_num, by rw [(HTwo.out _ _ _ _ _ (Ge.alloc (Ge.refl _) _) hma hm6 owna own6).2], (HTwo.out _ _ _ _ _ (Ge.alloc (Ge.refl _) _) hma hm6 owna own6).1⟩
                case measure => simp [intOf]; omega
              · have q1 : decide (A < ea) = false := by simp; omega
                obtain ⟨t1, t2⟩ : ea = A ∧ B < eb := by omega
                have q2 : (ea == A) = true := by simp [t1]
                have q3 : decide (B < eb) = true := by simp [t2]
                clear hyg t1
                go_wp2_with (first
                  | (at_builtin; refine ap_wire rfl _ _ rfl wo.heap.size _ _ _ rfl ho1 A B Y rfl (by simp) (by have := HI.out; omega) (by simp; omega) ?_; intro va wa owna hma hba; clear ho1; have e0 := mine_cell hma E0.out NB.out; have e1 := mine_cell hma E1.out NB.out; have e2 := mine_cell hma E2.out NB.out; have za : wo.heap.size ≤ wa.heap.size := by (have := World.grownBy.size hma; simp at this; omega))
                  | (at_builtin; refine ap_wire rfl _ _ rfl wo.heap.size _ _ _ rfl owna ea eb ew rfl rfl (by have := HI.out; omega) za ?_; intro v' w6 own6 hm6 hb6))
                go_roundw
                case rel => exact ⟨k + 1, by omega, by go_num, by rw [(HTwo.out _ _ _ _ _ (Ge.alloc (Ge.refl _) _) hma hm6 owna own6).2], (HTwo.out _ _ _ _ _ (Ge.alloc (Ge.refl _) _) hma hm6 owna own6).1⟩
                case measure => simp [intOf]; omega
        · have hkn : k = d := by omega
          subst hkn
          cases hdn : (insP ⟨A, B, Y⟩ (D.take k)).2 with
          | true =>
            have HF := Lib.hid (Put2.done HP2.out HDn.out hdn h8)
            clear hdn g1
            go_wp2_with fail
            go_ret
            exact ⟨_, rfl, by rw [HPut.out]; exact HF.out⟩
          | false =>
            have HLast := Lib.hid (fun w' v' hm ho => Put2.last HP2.out HDn.out hdn h8 (w' := w') (v' := v') hm ho)
            generalize (insP ⟨A, B, Y⟩ (D.take k)).1.length = il at *
            generalize flatW (insP ⟨A, B, Y⟩ (D.take k)).1 = FI at *
            clear hdn
            go_wp2_with (at_builtin; refine ap_wire rfl _ _ rfl wo.heap.size _ _ _ rfl g1 A B Y rfl rfl (by have := HI.out; omega) z3 ?_; intro v' w6 own6 hm6 hb6)
            go_ret
            exact ⟨_, rfl, by rw [HPut.out]; exact HLast.out _ _ hm6 own6⟩
end Go.Proofs.Ytahicfpnmjofhaa

namespace Go.Proofs.Ytahicfpnmjofhaa
set_option maxRecDepth 100000
open Go.ChangeShapes Go.WideShapes Go.ChangeAt Go.RowKit Go.Joins

/-- A network in a variable of the call's own, and the result's block. -/
structure NetAt (w : World) (R G : Nat) (n : Nat) (E S : Int) (v : Value) (l : List Wr) : Prop where
  c0 : w.cell? ⟨G, 0, none⟩ = some (.int .i64 (n : Int))
  c1 : w.cell? ⟨G, 1, none⟩ = some (.int .i64 E)
  c2 : w.cell? ⟨G, 2, none⟩ = some (.int .i64 S)
  c3 : w.cell? ⟨G, 3, none⟩ = some v
  f3 : w.frozen? ⟨G, 3, none⟩ = false
  own : w.ownsRow (G + 1) 45 3 v l.length (icells (flatW l))
  res : ∀ i, i < 4 → ∃ u, w.cell? ⟨R, i, none⟩ = some u ∧ w.frozen? ⟨R, i, none⟩ = false
theorem NetAt.ge {w w' : World} {R G n : Nat} {E S : Int} {v : Value} {l : List Wr} (h : NetAt w R G n E S v l) (hg : Ge w w') : NetAt w' R G n E S v l :=
  ⟨hg.keep h.c0, hg.keep h.c1, hg.keep h.c2, hg.keep h.c3, hg.keepF h.c3 h.f3, hg.owns h.own, fun i hi => by obtain ⟨u, h1, h2⟩ := h.res i hi; exact ⟨u, hg.keep h1, hg.keepF h1 h2⟩⟩
theorem NetAt.put {w : World} {R G n : Nat} {E S : Int} {v v' : Value} {l l' : List Wr} (h : NetAt w R G n E S v l) (hR : R < G) (ho : w.ownsRow (G + 1) 45 3 v' l'.length (icells (flatW l'))) : NetAt (w.setCell ⟨G, 3, none⟩ v') R G n E S v' l' :=
  ⟨cell_set2 (by simp) h.c0, cell_set2 (by simp) h.c1, cell_set2 (by simp) h.c2, World.cell?_setCell_same _ _ _ h.c3, froz_set h.f3, by
    refine ho.kept (grown_setN w G 3 v') ?_
    cases hv : v'.ownBlock with
    | none => exact .inl rfl
    | some k =>
      right
      intro e'
      have := (ho.lt k hv).1
      simp at e'
      omega, fun i hi => by
    obtain ⟨u, h1, h2⟩ := h.res i hi
    exact ⟨u, cell_set2 (fun e => by have := congrArg Addr.block e; simp at this; omega) h1, froz_set h2⟩⟩
/-- A block of four cells that may be written. -/
def ResD (w : World) (R : Nat) : Prop := ∀ i, i < 4 → ∃ u, w.cell? ⟨R, i, none⟩ = some u ∧ w.frozen? ⟨R, i, none⟩ = false
theorem ResD.new (w : World) (v0 v1 v2 v3 : Value) (t : TypeId) : ResD (w.alloc (.cells #[v0, v1, v2, v3] t)) w.heap.size := fun i hi => by
  have k : ∃ u, (#[v0, v1, v2, v3] : Array Value)[i]? = some u := ⟨_, Array.getElem?_eq_getElem (by simpa using hi)⟩
  obtain ⟨u, hu⟩ := k
  exact ⟨u, cell_new rfl hu, froz_new rfl hu⟩
theorem ResD.ge {w w' : World} {R : Nat} (h : ResD w R) (hg : Ge w w') : ResD w' R := fun i hi => by
  obtain ⟨u, h1, h2⟩ := h i hi
  exact ⟨u, hg.keep h1, hg.keepF h1 h2⟩
theorem NetAt.start {w : World} {R n : Nat} {E S : Int} (hr : ResD w R) : NetAt (w.alloc (.cells #[.int .i64 (n : Int), .int .i64 E, .int .i64 S, .slice none 0 0] 29)) R w.heap.size n E S (.slice none 0 0) [] :=
  ⟨cell_new rfl rfl, cell_new rfl rfl, cell_new rfl rfl, cell_new rfl rfl, froz_new rfl (v := .slice none 0 0) rfl, ⟨rfl, .inl ⟨rfl, rfl⟩⟩, hr.ge (Ge.alloc (Ge.refl _) _)⟩
theorem NetAt.setE {w : World} {R G n : Nat} {E S E' : Int} {v : Value} {l : List Wr} (h : NetAt w R G n E S v l) (hR : R < G) : NetAt (w.setCell ⟨G, 1, none⟩ (.int .i64 E')) R G n E' S v l :=
  ⟨cell_set2 (by simp) h.c0, World.cell?_setCell_same _ _ _ h.c1, cell_set2 (by simp) h.c2, cell_set2 (by simp) h.c3, froz_set h.f3, by
    refine h.own.kept (grown_setN w G 1 _) ?_
    cases hv : v.ownBlock with
    | none => exact .inl rfl
    | some k =>
      right
      intro e'
      have := (h.own.lt k hv).1
      simp at e'
      omega, fun i hi => by
    obtain ⟨u, h1, h2⟩ := h.res i hi
    exact ⟨u, cell_set2 (fun e => by have := congrArg Addr.block e; simp at this; omega) h1, froz_set h2⟩⟩
theorem own_setD {w : World} {base e sz n R i : Nat} {v x : Value} {xs : List Value} (h : w.ownsRow base e sz v n xs) (hR : R < base) : (w.setCell ⟨R, i, none⟩ x).ownsRow base e sz v n xs := by
  refine h.kept (grown_setN w R i x) ?_
  cases hv : v.ownBlock with
  | none => exact .inl rfl
  | some k =>
    right
    intro e'
    have := (h.lt k hv).1
    simp at e'
    omega
theorem NetAt.app {w w1 w8 : World} {R G n : Nat} {E S : Int} {v v8 : Value} {l : List Wr} {x : Wr} (h : NetAt w R G n E S v l) (hR : R < G) (hg : Ge w w1) (hm : Mine w1 w8 v)
    (ho : w8.ownsRow (G + 1) 45 3 v8 (l.length + 1) (icells (flatW l ++ [x.a, x.b, x.w]))) :
    NetAt (w8.setCell ⟨G, 3, none⟩ v8) R G n E S v8 (l ++ [x]) ∧ w8.cell? ⟨G, 3, none⟩ = some v ∧ w8.frozen? ⟨G, 3, none⟩ = false := by
  have h1 := h.ge hg
  have nG := before_row h1.own (b := G) (by omega)
  have nR := before_row h1.own (b := R) (by omega)
  have k3 := mine_cell hm h1.c3 nG
  have kf := mine_frozN hm h1.c3 h1.f3 nG
  refine ⟨⟨cell_set2 (by simp) (mine_cell hm h1.c0 nG), cell_set2 (by simp) (mine_cell hm h1.c1 nG), cell_set2 (by simp) (mine_cell hm h1.c2 nG), World.cell?_setCell_same _ _ _ k3, froz_set kf, ?_, fun i hi => ?_⟩, k3, kf⟩
  · have : (l ++ [x]).length = l.length + 1 := by simp
    rw [this, flatW_snoc]
    exact own_setD ho (by omega)
  · obtain ⟨u, r1, r2⟩ := h1.res i hi
    exact ⟨u, cell_set2 (fun e => by have := congrArg Addr.block e; simp at this; omega) (mine_cell hm r1 nR), froz_set (mine_frozN hm r1 r2 nR)⟩
theorem NetAt.setS {w : World} {R G n : Nat} {E S S' : Int} {v : Value} {l : List Wr} (h : NetAt w R G n E S v l) (hR : R < G) : NetAt (w.setCell ⟨G, 2, none⟩ (.int .i64 S')) R G n E S' v l :=
  ⟨cell_set2 (by simp) h.c0, cell_set2 (by simp) h.c1, World.cell?_setCell_same _ _ _ h.c2, cell_set2 (by simp) h.c3, froz_set h.f3, own_setD h.own (by omega), fun i hi => by
    obtain ⟨u, h1, h2⟩ := h.res i hi
    exact ⟨u, cell_set2 (fun e => by have := congrArg Addr.block e; simp at this; omega) h1, froz_set h2⟩⟩
theorem NetAt.setW {w : World} {R G n q m cap j : Nat} {E S : Int} {l l' : List Wr} {x : Int} (h : NetAt w R G n E S (.slice (some ⟨q, 0, none⟩) m cap) l) (hR : R < G) (hm : l.length = m) (hl : l'.length = m) (hf : flatW l' = (flatW l).set j x) :
    NetAt (w.setCell ⟨q, j, none⟩ (.int .i64 x)) R G n E S (.slice (some ⟨q, 0, none⟩) m cap) l' ∧ G < q := by
  subst hm
  have hs := h.own.stored j (.int .i64 x)
  have hq := (h.own.lt q rfl).1
  have k : ∀ i : Nat, (⟨q, j, none⟩ : Addr) ≠ ⟨G, i, none⟩ := fun i e => by have := congrArg Addr.block e; simp at this; omega
  refine ⟨⟨cell_set2 (k 0) h.c0, cell_set2 (k 1) h.c1, cell_set2 (k 2) h.c2, cell_set2 (k 3) h.c3, froz_set h.f3, ?_, fun i hi => ?_⟩, by omega⟩
  · rw [hl, hf, ← icells_set]
    exact hs.1
  · obtain ⟨u, h1, h2⟩ := h.res i hi
    exact ⟨u, cell_set2 (fun e => by have := congrArg Addr.block e; simp at this; omega) h1, froz_set h2⟩
end Go.Proofs.Ytahicfpnmjofhaa

namespace Go.Proofs.Ytahicfpnmjofhaa

open Go

section
variable {P : Program} {ops : Array Oper} {Q : Exit → Act → World → Prop} {md : Region.Mode} {S : World → Prop}

/-- Whatever order the first n operations take: S holds behind each, and at their end L. -/
def wpAnyT (P : Program) (md : Region.Mode) (ops : Array Oper) (Q : Exit → Act → World → Prop) (S : World → Prop) (n : Nat) (L : Array Bool → Act → World → Prop) : Nat → Array Bool → Act → World → Prop
  | 0, listed, a, w => L listed a w
  | f + 1, listed, a, w => Region.ready md ops listed ≠ [] ∧ ∀ i ∈ Region.ready md ops listed, i < n ∧ wpOp P ops Q i (fun a' w' => S w' ∧ wpAnyT P md ops Q S n L f (listed.setIfInBounds i true) a' w') a w

theorem wpAny_of_T {n g : Nat} {L : Array Bool → Act → World → Prop} (hL : ∀ listed a w, L listed a w → wpAny P md ops Q g listed a w) :
    ∀ (f : Nat) (listed : Array Bool) (a : Act) (w : World), wpAnyT P md ops Q S n L f listed a w → wpAny P md ops Q (f + g) listed a w
  | 0, listed, a, w, h => by rw [Nat.zero_add]; exact hL _ _ _ h
  | f + 1, listed, a, w, h => by
    rw [show f + 1 + g = (f + g) + 1 by omega]
    exact ⟨fun h0 => absurd h0 h.1, fun i hi => wpOp_mono (fun a' w' h' => wpAny_of_T hL f _ a' w' h'.2) (h.2 i hi).2⟩

theorem wpAnyT_first {n i : Nat} {oi : Oper} {v : Value} {L : Array Bool → Act → World → Prop} (hi : ops[i]? = some oi) (hsel : ∀ (j : Nat) (o : Oper) cs b, ops[j]? = some o → o.op ≠ .select cs b)
    (hQ : ∀ c a w, Q (.panic c) (a.put oi.dst v) w → Q (.panic c) a w)
    (hs : Region.sinkB md ops n = true) (hc : Region.chainB md ops n = true) (hn : n < ops.size) (hin : i < n)
    (hdone : ∀ listed a w, L listed a w → ∀ j ∈ Region.ready md ops listed, n ≤ j) :
    ∀ (f : Nat) (listed : Array Bool) (a : Act) (w : World), HeadInv md ops n listed →
      (∀ j oj, ops[j]? = some oj → j ≠ i → listed.getD j true = false → (∀ e ∈ oj.after, Region.binds md e = true → e.on ≠ i) → oi.apart ops oj = true) →
      i ∈ Region.ready md ops listed → YieldsIf P ops S oi v a → S w →
      wpAnyT P md ops Q S n L f (listed.setIfInBounds i true) (a.put oi.dst v) w → wpAnyT P md ops Q S n L (f + 1) listed a w := by
  intro f
  induction f with
  | zero =>
    intro listed a w inv _ hr hy hS H
    have hun := (mem_ready.1 hr).1
    refine ⟨fun h => (by rw [h] at hr; cases hr), fun j hj => ?_⟩
    have hjn : j < n := by
      rcases Nat.lt_or_ge j n with h | h
      · exact h
      · exact absurd hj (tail_waits hs hc hn inv _ i rfl hin hun j h)
    refine ⟨hjn, ?_⟩
    by_cases hji : j = i
    · subst hji; exact hy.wpOp hi hS ⟨hS, H⟩
    · have := hdone _ _ _ H j (ready_mono hj hji)
      omega
  | succ f ih =>
    intro listed a w inv hfree hr hy hS H
    have hun := (mem_ready.1 hr).1
    refine ⟨fun h => (by rw [h] at hr; cases hr), fun j hj => ?_⟩
    have hjn : j < n := by
      rcases Nat.lt_or_ge j n with h | h
      · exact h
      · exact absurd hj (tail_waits hs hc hn inv _ i rfl hin hun j h)
    refine ⟨hjn, ?_⟩
    by_cases hji : j = i
    · subst hji; exact hy.wpOp hi hS ⟨hS, H⟩
    · have h1 := (H.2 j (ready_mono hj hji)).2
      obtain ⟨hjun, oj, hoj, hall⟩ := mem_ready.1 hj
      have hnot : ∀ e ∈ oj.after, Region.binds md e = true → e.on ≠ i := fun e he hb heq => by
        have h1 := hall e he hb
        rw [heq, getD_both hun] at h1
        cases h1
      have h2 := wpOp_putIf hoj (hfree j oj hoj hji hjun hnot) (fun cs b => hsel i oi cs b hi) (fun cs b => hsel j oj cs b hoj) hQ hy h1
      have hfree' : ∀ k ok, ops[k]? = some ok → k ≠ i → (listed.setIfInBounds j true).getD k true = false →
          (∀ e ∈ ok.after, Region.binds md e = true → e.on ≠ i) → oi.apart ops ok = true := fun k ok hk hki hun hno => by
        refine hfree k ok hk hki ?_ hno
        by_cases hjk : j = k
        · subst hjk; exact hjun
        · rw [getD_set_ne true hjk] at hun; exact hun
      refine wpOp_mono (fun a' w' h3 => ⟨h3.2.1, ih (listed.setIfInBounds j true) a' w' (inv.set hj hjn) hfree' (ready_mono hr (Ne.symm hji)) h3.1 h3.2.1 ?_⟩) h2
      rw [Array.setIfInBounds_comm _ _ hji]
      exact h3.2.2
end

section
variable {P : Program} {l : List Oper} {Q : Exit → Act → World → Prop} {S : World → Prop}

/-- The head's end. -/
def TailAt (P : Program) (l : List Oper) (Q : Exit → Act → World → Prop) (n : Nat) (listed : Array Bool) (a : Act) (w : World) : Prop :=
  Region.seqB .any l.toArray (l.length - n) n listed = true ∧ wpList P l.toArray Q (l.drop n) a w
/-- What the tactics carry: the head's invariant is at hand. -/
def Head (P : Program) (l : List Oper) (Q : Exit → Act → World → Prop) (S : World → Prop) (n f : Nat) (listed : Array Bool) (a : Act) (w : World) : Prop :=
  HeadInv .any l.toArray n listed → wpAnyT P .any l.toArray Q S n (TailAt P l Q n) f listed a w
/-- All that is asked of the region's form. -/
def okTail (l : List Oper) (n : Nat) : Bool := Region.noSelect l.toArray && (decide (n < l.length) && (Region.sinkB .any l.toArray n && Region.chainB .any l.toArray n))
theorem okTail_of {n : Nat} (h : okTail l n = true) : Region.noSelect l.toArray = true ∧ n < l.length ∧ Region.sinkB .any l.toArray n = true ∧ Region.chainB .any l.toArray n = true := by
  simpa [okTail] using h

/-- The beginning. -/
theorem wp_region_head {id : Nat} {a : Act} {w : World} (n : Nat) (hm : P.follows .mixedOrders = true) (hk : okTail l n = true) (hS : S w.drew)
    (h : S w.drew → Head P l Q S n n (Array.replicate l.length false) a w.drew) : (Code.region id l.toArray true).wp P Q a w := by
  obtain ⟨_, hn, _, _⟩ := okTail_of hk
  have inv0 : HeadInv .any l.toArray n (Array.replicate l.length false) :=
    ⟨by simp, fun j oj _ hl => (by rw [getD_replicate_false] at hl; cases hl), fun t _ ht => getD_in (by simpa using ht) (getD_replicate_false _ _)⟩
  refine wp_region_any hm ?_
  have H := h hS inv0
  have := wpAny_of_T (Q := Q) (g := l.length - n) (fun listed a' w' (hL : TailAt P l Q n listed a' w') => by
    have := wpAny_of_seq (md := .any) (Q' := Q) (l.drop n) n listed a' w' (fun j => by simp [List.getElem?_drop]) (by simpa using hL.1) hL.2
    simpa using this) _ _ _ _ H
  rw [show n + (l.length - n) = l.length by omega] at this
  simpa using this
/-- Take number i first. -/
theorem head_take {n f : Nat} {listed : Array Bool} {a : Act} {w : World} (i : Nat) {oi : Oper} {v : Value} (hi : l[i]? = some oi) (hk : okTail l n = true)
    (hf : (Region.free .any l.toArray listed i && ((Region.ready .any l.toArray listed).contains i && decide (i < n))) = true)
    (hQ : ∀ c a w, Q (.panic c) (a.put oi.dst v) w → Q (.panic c) a w) (hS : S w) (hy : YieldsIf P l.toArray S oi v a)
    (h : Head P l Q S n f (listed.setIfInBounds i true) (a.put oi.dst v) w) : Head P l Q S n (f + 1) listed a w := fun inv => by
  obtain ⟨h1, hn, h2, h3⟩ := okTail_of hk
  simp only [Bool.and_eq_true, decide_eq_true_eq] at hf
  obtain ⟨f1, f2, f3⟩ := hf
  have hr : i ∈ Region.ready .any l.toArray listed := by simpa using f2
  have hi' : l.toArray[i]? = some oi := by simpa using hi
  exact wpAnyT_first hi' (Region.noSelect_spec h1) hQ h2 h3 (by simpa using hn) f3 (fun listed a w hL => seqB_ready hL.1) f listed a w inv (Region.free_spec hi' f1) hr hy hS (h (inv.set hr f3))
/-- Number i is the only one that may come up. -/
theorem head_one {n f : Nat} {listed : Array Bool} {a : Act} {w : World} (i : Nat) {o : Oper} (hi : l[i]? = some o)
    (hr : (decide (Region.ready .any l.toArray listed = [i]) && decide (i < n)) = true)
    (h : ∀ K : Act → World → Prop, Shut (∀ a w, S w → (S w → Head P l Q S n f (listed.setIfInBounds i true) a w) → K a w) → if Region.wanted o (yielded l.toArray a.tmps) = true then Oper.wp P o a w K Q else K (a.put o.dst undef) w) :
    Head P l Q S n (f + 1) listed a w := fun inv => by
  simp only [Bool.and_eq_true, decide_eq_true_eq] at hr
  obtain ⟨h1, h2⟩ := hr
  refine ⟨fun h0 => (by rw [h1] at h0; cases h0), fun j hj => ?_⟩
  have hji : j = i := by rw [h1] at hj; simpa using hj
  have inv' := inv.set hj (by omega)
  rw [hji] at inv' ⊢
  refine ⟨h2, wpOp_step (by simpa using hi) (fun K hK => h K (fun a' w' hS hW => hK a' w' ⟨hS, hW hS inv'⟩))⟩
/-- Two may come up. -/
theorem head_two {n f : Nat} {listed : Array Bool} {a : Act} {w : World} (i j : Nat) {o p : Oper} (hi : l[i]? = some o) (hj : l[j]? = some p)
    (hr : (decide (Region.ready .any l.toArray listed = [i, j]) && (decide (i < n) && decide (j < n))) = true)
    (h : ∀ K : Act → World → Prop, Shut (∀ a w, S w → (S w → Head P l Q S n f (listed.setIfInBounds i true) a w) → K a w) → if Region.wanted o (yielded l.toArray a.tmps) = true then Oper.wp P o a w K Q else K (a.put o.dst undef) w)
    (h' : ∀ K : Act → World → Prop, Shut (∀ a w, S w → (S w → Head P l Q S n f (listed.setIfInBounds j true) a w) → K a w) → if Region.wanted p (yielded l.toArray a.tmps) = true then Oper.wp P p a w K Q else K (a.put p.dst undef) w) :
    Head P l Q S n (f + 1) listed a w := fun inv => by
  simp only [Bool.and_eq_true, decide_eq_true_eq] at hr
  obtain ⟨h1, h2, h3⟩ := hr
  refine ⟨fun h0 => (by rw [h1] at h0; cases h0), fun k hk => ?_⟩
  have hkk : k = i ∨ k = j := by rw [h1] at hk; simpa using hk
  rcases hkk with hkk | hkk
  · have inv' := inv.set hk (by omega)
    rw [hkk] at inv' ⊢
    exact ⟨h2, wpOp_step (by simpa using hi) (fun K hK => h K (fun a' w' hS hW => hK a' w' ⟨hS, hW hS inv'⟩))⟩
  · have inv' := inv.set hk (by omega)
    rw [hkk] at inv' ⊢
    exact ⟨h3, wpOp_step (by simpa using hj) (fun K hK => h' K (fun a' w' hS hW => hK a' w' ⟨hS, hW hS inv'⟩))⟩
/-- The head is done. -/
theorem head_done {n : Nat} {listed : Array Bool} {a : Act} {w : World} (hq : Region.seqB .any l.toArray (l.length - n) n listed = true) (h : wpList P l.toArray Q (l.drop n) a w) : Head P l Q S n 0 listed a w :=
  fun _ => ⟨hq, h⟩
/-- An operation that reads, where the world meets S. -/
theorem yields_if {P : Program} {l : List Oper} {S : World → Prop} {o : Oper} {v : Value} {a : Act} (hw : Region.wanted o (yielded l.toArray a.tmps) = true) (h : ∀ w, S w → (execOp a.eval o).run P w = .ok (.value v) w) : YieldsIf P l.toArray S o v a :=
  .inl ⟨hw, h⟩
end

end Go.Proofs.Ytahicfpnmjofhaa

namespace Go.Proofs.Ytahicfpnmjofhaa
set_option maxRecDepth 100000
open Go.ChangeShapes Go.WideShapes Go.ChangeAt Go.RowKit Go.Joins

/-- All but one cell is as it was. -/
def GeY (b : Addr) (w w' : World) : Prop := (∀ a v, a ≠ b → w.cell? a = some v → w'.cell? a = some v) ∧ (∀ a v, w.cell? a = some v → w.frozen? a = false → w'.frozen? a = false) ∧ w.heap.size ≤ w'.heap.size
theorem GeY.refl (b : Addr) (w : World) : GeY b w w := ⟨fun _ _ _ h => h, fun _ _ _ h => h, Nat.le_refl _⟩
theorem GeY.ge {b : Addr} {w w' w'' : World} (h : GeY b w w') (hb : ∃ u, w'.cell? b = some u) (hg : Ge w' w'') : GeY b w w'' := by
  refine ⟨fun a v hne hc => hg.keep (h.1 a v hne hc), fun a v hc hf => ?_, Nat.le_trans h.2.2 hg.size⟩
  by_cases e : a = b
  · subst e
    obtain ⟨u, hu⟩ := hb
    exact hg.keepF hu (h.2.1 a v hc hf)
  · exact hg.keepF (h.1 a v e hc) (h.2.1 a v hc hf)
theorem GeY.set {b : Addr} {w w' : World} (h : GeY b w w') (x : Value) : GeY b w (w'.setCell b x) := by
  refine ⟨fun a v hne hc => ?_, fun a v hc hf => ?_, by simpa using h.2.2⟩
  · rw [World.cell?_setCell_other _ _ _ _ (fun e => hne e.symm)]; exact h.1 a v hne hc
  · have := h.2.1 a v hc hf
    simpa using this
theorem GeY.mine {b : Addr} {w w' w'' : World} {base e sz n : Nat} {v : Value} {xs : List Value} (h : GeY b w w') (ho : w'.ownsRow base e sz v n xs) (hb : w.heap.size ≤ base) (hm : Mine w' w'' v) : GeY b w w'' := by
  refine ⟨fun a u hne hc => mine_cell hm (h.1 a u hne hc) (before_row ho (Nat.lt_of_lt_of_le (World.block_lt_of_cell? _ _ hc) hb)), fun a u hc hf => ?_, Nat.le_trans h.2.2 (World.grownBy.size hm)⟩
  have hlt := World.block_lt_of_cell? _ _ hc
  have hne := before_row ho (b := a.block) (Nat.lt_of_lt_of_le hlt hb)
  rw [World.frozen?_of_block (World.grownBy.block hm a.block (Nat.lt_of_lt_of_le hlt h.2.2) (fun e => hne _ e.symm rfl))]
  exact h.2.1 a u hc hf
theorem Sl.gey {b : Addr} {w w' : World} {v u : Value} {n sz : Nat} {l : List Int} (h : Sl w v n sz (icells l)) (hy : GeY b w w') (hb : w.cell? b = some u) (hu : ∀ x, u ≠ .int .i64 x) : Sl w' v n sz (icells l) := by
  obtain ⟨h1, p, cap, hv, hc⟩ := h
  refine ⟨h1, p, cap, hv, fun i y hy' => ?_⟩
  obtain ⟨b', o, hp, hcell⟩ := hc i y hy'
  refine ⟨b', o, hp, hy.1 _ _ (fun e => ?_) hcell⟩
  rw [← e, hcell] at hb
  have hmem := List.mem_of_getElem? hy'
  simp only [icells, List.mem_map] at hmem
  obtain ⟨x, _, rfl⟩ := hmem
  exact hu x (by simpa using hb.symm)
theorem grown_setY (w : World) (b i : Nat) (x : Value) : w.grownBy (w.setCell ⟨b, i, none⟩ x) (some b) := by
  refine ⟨rfl, rfl, rfl, by simp, fun k _ hne => ?_⟩
  have : b ≠ k := fun e => hne (by rw [e])
  simp [World.setCell, Array.getElem?_modify, this]
theorem owns_setY {w : World} {base e sz n b o : Nat} {v : Value} {xs : List Value} (h : w.ownsRow base e sz v n xs) (hb : b < base) (x : Value) : (w.setCell ⟨b, o, none⟩ x).ownsRow base e sz v n xs := by
  refine h.kept (grown_setY w b o x) ?_
  cases hv : v.ownBlock with
  | none => exact .inl rfl
  | some k =>
    right
    intro e
    have := (h.lt k hv).1
    simp at e
    omega
theorem mine_frozY {w w' : World} {v : Value} (hm : Mine w w' v) {a : Addr} {u : Value} (h : w.cell? a = some u) (hf : w.frozen? a = false) (hne : ∀ k, v.ownBlock = some k → a.block ≠ k) : w'.frozen? a = false := by
  rw [World.frozen?_of_block (World.grownBy.block hm a.block (World.block_lt_of_cell? _ _ h) (fun e => hne _ e.symm rfl))]
  exact hf
/-- The first i of E rows (in block G) are filled: row a with the integers D a, sz an element. -/
def RowsY (w : World) (G E i sz : Nat) (D : Nat → List Int) : Prop :=
  ∀ a, a < E → w.frozen? ⟨G, a, none⟩ = false ∧ (∃ u, w.cell? ⟨G, a, none⟩ = some u ∧ (∀ x, u ≠ .int .i64 x) ∧ (a < i → Sl w u E sz (icells (D a))) ∧ (i ≤ a → u = .slice none 0 0))
theorem RowsY.init {w : World} {B G E sz : Nat} {e : TypeId} {D : Nat → List Int} (h : w.ownsRow B e 1 (.slice (some ⟨G, 0, none⟩) E E) E (List.replicate E (.slice none 0 0))) : RowsY w G E 0 sz D := fun a ha =>
  ⟨h.frozenAt a, .slice none 0 0, by rw [h.cellAt a (by omega)]; simp [ha], fun x hx => (by cases hx), fun h => absurd h (Nat.not_lt_zero _), fun _ => rfl⟩
theorem RowsY.at {w : World} {G E i sz : Nat} {D : Nat → List Int} (h : RowsY w G E i sz D) (hi : i < E) : w.cell? ⟨G, i, none⟩ = some (.slice none 0 0) ∧ w.frozen? ⟨G, i, none⟩ = false := by
  obtain ⟨h1, u, h2, _, _, h5⟩ := h i hi
  rw [h5 (Nat.le_refl _)] at h2
  exact ⟨h2, h1⟩
theorem RowsY.next {w w' : World} {G E i sz : Nat} {D : Nat → List Int} {u : Value} (h : RowsY w G E i sz D) (hi : i < E) (hy : GeY ⟨G, i, none⟩ w w') (hc : w'.cell? ⟨G, i, none⟩ = some u) (hu : ∀ x, u ≠ .int .i64 x)
    (hs : Sl w' u E sz (icells (D i))) : RowsY w' G E (i + 1) sz D := fun a ha => by
  have h0 := h.at hi
  obtain ⟨h1, v, h2, h3, h4, h5⟩ := h a ha
  refine ⟨hy.2.1 _ _ h2 h1, ?_⟩
  by_cases e : a = i
  · subst e
    exact ⟨u, hc, hu, fun _ => hs, fun h => by omega⟩
  · exact ⟨v, hy.1 _ _ (fun h => by simp at h) h2, h3, fun h => Sl.gey (h4 (by omega)) hy h0.1 (fun x hx => by cases hx), fun h => h5 (by omega)⟩
theorem RowsY.ge {w w' : World} {G E i sz : Nat} {D : Nat → List Int} (h : RowsY w G E i sz D) (hg : Ge w w') : RowsY w' G E i sz D := fun a ha => by
  obtain ⟨h1, v, h2, h3, h4, h5⟩ := h a ha
  exact ⟨hg.keepF h2 h1, v, hg.keep h2, h3, fun h => Sl.ge (h4 h) hg, h5⟩
/-- E rows, row a with the integers D a. -/
def SlRows (w : World) (v : Value) (E sz : Nat) (D : Nat → List Int) : Prop :=
  ∃ b o c, v = .slice (some ⟨b, o, none⟩) E c ∧ ∀ a, a < E → ∃ p k, w.cell? ⟨b, o + a, none⟩ = some (.slice p E k) ∧ Sl w (.slice p E k) E sz (icells (D a))
theorem SlRows.ge {w w' : World} {v : Value} {E sz : Nat} {D : Nat → List Int} (h : SlRows w v E sz D) (hg : Ge w w') : SlRows w' v E sz D := by
  obtain ⟨b, o, c, hv, hc⟩ := h
  refine ⟨b, o, c, hv, fun a ha => ?_⟩
  obtain ⟨p, k, h1, h2⟩ := hc a ha
  exact ⟨p, k, hg.keep h1, Sl.ge h2 hg⟩
theorem RowsY.rows {w : World} {G E sz : Nat} {D : Nat → List Int} (h : RowsY w G E E sz D) : SlRows w (.slice (some ⟨G, 0, none⟩) E E) E sz D := by
  refine ⟨G, 0, E, rfl, fun a ha => ?_⟩
  obtain ⟨_, v, h2, _, h4, _⟩ := h a ha
  have h5 := h4 ha
  obtain ⟨_, p, k, hv, _⟩ := h5
  refine ⟨p, k, by rw [Nat.zero_add, h2, hv], by rw [← hv]; exact h4 ha⟩
end Go.Proofs.Ytahicfpnmjofhaa

namespace Go.Proofs.Ytahicfpnmjofhaa
set_option maxRecDepth 100000
open Go.ChangeShapes Go.WideShapes Go.ChangeAt Go.RowKit Go.Joins

/-- The cells of wire k, in every later world. -/
theorem wires_at {w : World} {v : Value} {L : List Wr} {n : Nat} (hs : SlF w v n 3 (flatW L)) (hn : L.length = n) : ∃ p cap, v = .slice p n cap ∧ ∀ wr, Ge w wr → ∀ k, k < n → ∃ b o, p = some ⟨b, o, none⟩ ∧ wr.cell? ⟨b, o + k * 3, none⟩ = some (.int .i64 (nthW L k).a) ∧ wr.cell? ⟨b, o + k * 3 + 1, none⟩ = some (.int .i64 (nthW L k).b) ∧ wr.cell? ⟨b, o + k * 3 + 2, none⟩ = some (.int .i64 (nthW L k).w) := by
  obtain ⟨p, cap, rfl, hc⟩ := hs.open
  refine ⟨p, cap, rfl, fun wr g k hk => ?_⟩
  obtain ⟨b, o, hp, c0, c1, c2⟩ := wire_cells hc hn hk
  exact ⟨b, o, hp, g.keep c0, g.keep c1, g.keep c2⟩

set_option maxHeartbeats 1600000 in
theorem sL03Drop (v : Value) (L : List Wr) (w : World) (hs : SlF w v L.length 3 (flatW L)) (hl : L.length ≤ 1000) (hne : ∀ e ∈ L, ¬ e.w = 0) :
    Calls Try.prog 57 #[v] w fun r w' => ∃ u, r = .returned u ∧ w'.ownsRow w.heap.size 45 3 u L.length (icells (flatW L)) ∧ Ge w w' := by
  obtain ⟨n, hn⟩ : ∃ n, L.length = n := ⟨_, rfl⟩
  rw [hn] at hs hl ⊢
  obtain ⟨p, cap, rfl, hc⟩ := wires_at hs hn
  have HC := Lib.hid hc
  have HN := Lib.hid hn
  have HNe : Hid (∀ k, k < n → ¬ (nthW L k).w = 0) := fun k hk => hne _ (by rw [nthW_eq L k (by omega)]; exact List.getElem_mem _)
  have HT : Hid (∀ k, k < n → flatW (L.take (k + 1)) = flatW (L.take k) ++ [(nthW L k).a, (nthW L k).b, (nthW L k).w]) := fun k hk => by rw [take_snocW L k (by omega), flatW_snoc]
  have HT0 : Hid (flatW (L.take 0) = []) := rfl
  have HTn : Hid (flatW (L.take n) = flatW L) := by show _ = _; rw [← hn, List.take_length]
  clear hs hc hn hne
  go_enter Try.func57, Try.ntmps57
  go_wp2_with fail
  go_loopw [3, 9] (fun u i wr => ∃ k : Nat, k ≤ n ∧ i = .int .i64 k ∧ wr.ownsRow w.heap.size 45 3 u k (icells (flatW (L.take k))) ∧ Ge w wr) (fun _ i _ => n - (intOf i).toNat)
  case atStart => exact ⟨0, Nat.zero_le _, rfl, by rw [HT0.out]; exact owns_lit0 _ _ _, Ge.alloc (Ge.refl _) _⟩
  case round =>
    obtain ⟨k, hk, rfl, hown, hg⟩ := hrel
    by_cases hlt : k < n
    · obtain ⟨b, o, rfl, x0, x1, x2⟩ := HC.out wr hg k hlt
      have HTk := Lib.hid (HT.out k hlt)
      have hnz := HNe.out k hlt
      have zg := hg.size
      generalize flatW (L.take k) = F at *
      generalize nthW L k = E at *
      have t : (E.w != 0) = true := by simp [hnz]
      go_wp2_with (at_builtin; refine ap_wire rfl _ _ rfl w.heap.size _ k F rfl (hown.alloc _) E.a E.b E.w (b0 := wr.heap.size + 1) rfl (by simp) (by omega) (by simp; omega) ?_; intro v8 w8 own8 m8 q8)
      go_roundw
      case rel => exact ⟨k + 1, by omega, by go_num, by rw [HTk.out]; exact own8, (Ge.alloc hg _).mine (hown.alloc _) (Nat.le_refl _) m8⟩
      case measure => simp [intOf]; omega
    · have hkn : k = n := by omega
      subst hkn
      have HO := Lib.hid hown
      clear hown
      go_wp2_with fail
      go_ret
      exact ⟨_, rfl, by rw [← HTn.out]; exact HO.out, hg⟩

/-- The greatest common divisor of a scale and weights. -/
def gcdF (S : Int) (L : List Wr) : Int := L.foldl (fun g e => (gcdN g e.w : Int)) S
theorem gcdF_snoc (S : Int) (L : List Wr) (e : Wr) : gcdF S (L ++ [e]) = (gcdN (gcdF S L) e.w : Int) := by simp [gcdF]
theorem gcdN_le_left {a b : Int} (h : 0 < a) : (0 : Int) < (gcdN a b : Int) ∧ (gcdN a b : Int) ≤ a := by
  have h1 := gcdN_dvd_left a b
  have h2 : 0 < gcdN a b := Nat.pos_of_ne_zero (fun e => by rw [e] at h1; have := Nat.eq_zero_of_zero_dvd h1; omega)
  have h3 := Nat.le_of_dvd (by omega) h1
  omega
theorem gcdF_bd : ∀ (L : List Wr) {S : Int}, 0 < S → 0 < gcdF S L ∧ gcdF S L ≤ S
  | [], S, h => ⟨h, Int.le_refl _⟩
  | e :: l, S, h => by
    have h1 := gcdN_le_left (b := e.w) h
    have h2 := gcdF_bd l (S := (gcdN S e.w : Int)) h1.1
    have h3 : gcdF S (e :: l) = gcdF (gcdN S e.w : Int) l := rfl
    rw [h3]
    omega
theorem tdiv_in {x g : Int} (hx : 0 ≤ x) (hg : 0 < g) : 0 ≤ x.tdiv g ∧ x.tdiv g ≤ x := by
  rw [Int.tdiv_eq_ediv_of_nonneg hx]
  exact ⟨Int.ediv_nonneg hx (by omega), Int.ediv_le_self _ hx⟩
/-- The weights divided. -/
def cutW (g : Int) (L : List Wr) : List Wr := L.map fun e => ⟨e.a, e.b, e.w.tdiv g⟩
theorem cutW_length (g : Int) (L : List Wr) : (cutW g L).length = L.length := by simp [cutW]
theorem cutW_snoc (g : Int) (L : List Wr) (e : Wr) : cutW g (L ++ [e]) = cutW g L ++ [⟨e.a, e.b, e.w.tdiv g⟩] := by simp [cutW]

set_option maxHeartbeats 3200000 in
theorem sL03Canon (N : Nat) (E S : Int) (v : Value) (L : List Wr) (w : World) (hs : SlF w v L.length 3 (flatW L)) (hl : L.length ≤ 1000) (hS : 0 < S) (hS2 : S ≤ 1000000000) (hb : ∀ e ∈ L, 0 < e.w ∧ e.w ≤ 1000000000) :
    Calls Try.prog 58 #[.agg #[.int .i64 (N : Int), .int .i64 E, .int .i64 S, v]] w fun r w' => ∃ u, r = .returned (.agg #[.int .i64 (N : Int), .int .i64 E, .int .i64 (S.tdiv (gcdF S L)), u]) ∧ w'.ownsRow w.heap.size 45 3 u L.length (icells (flatW (cutW (gcdF S L) L))) ∧ Ge w w' := by
  obtain ⟨n, hn⟩ : ∃ n, L.length = n := ⟨_, rfl⟩
  rw [hn] at hs hl ⊢
  obtain ⟨p, cap, rfl, hc⟩ := wires_at hs hn
  have HC := Lib.hid hc
  have HN := Lib.hid hn
  have HW : Hid (∀ k, k < n → 0 < (nthW L k).w ∧ (nthW L k).w ≤ 1000000000) := fun k hk => hb _ (by rw [nthW_eq L k (by omega)]; exact List.getElem_mem _)
  have HG : Hid (∀ k, k < n → gcdF S (L.take (k + 1)) = (gcdN (gcdF S (L.take k)) (nthW L k).w : Int)) := fun k hk => by rw [take_snocW L k (by omega), gcdF_snoc]
  have HB : Hid (∀ k, 0 < gcdF S (L.take k) ∧ gcdF S (L.take k) ≤ S) := fun k => gcdF_bd _ hS
  have HG0 : Hid (gcdF S (L.take 0) = S) := rfl
  have HGn : Hid (gcdF S (L.take n) = gcdF S L) := by show _ = _; rw [← hn, List.take_length]
  have HT : Hid (∀ g k, k < n → cutW g (L.take (k + 1)) = cutW g (L.take k) ++ [⟨(nthW L k).a, (nthW L k).b, (nthW L k).w.tdiv g⟩]) := fun g k hk => by rw [take_snocW L k (by omega), cutW_snoc]
  have HTl : Hid (∀ g k, k ≤ n → (cutW g (L.take k)).length = k) := fun g k hk => by rw [cutW_length, List.length_take]; omega
  have HTn : Hid (∀ g, cutW g (L.take n) = cutW g L) := fun g => by rw [← hn, List.take_length]
  clear hs hc hn hb
  go_enter Try.func58, Try.ntmps58
  go_wp2_with fail
  go_loopw [3, 14] (fun g i wr => ∃ k : Nat, k ≤ n ∧ i = .int .i64 k ∧ g = .int .i64 (gcdF S (L.take k)) ∧ Ge ((w.alloc (.cells #[.int .i64 (N : Int), .int .i64 E, .int .i64 S, .slice p n cap] 29)).alloc (.cells #[.int .i64 0, .int .i64 0, .int .i64 0, .slice none 0 0] 29)) wr) (fun _ i _ => n - (intOf i).toNat)
  case atStart => exact ⟨0, Nat.zero_le _, rfl, by rw [HG0.out], Ge.refl _⟩
  case round =>
    obtain ⟨k, hk, rfl, rfl, hg⟩ := hrel
    have gw : Ge w wr := Ge.trans (Ge.alloc (Ge.alloc (Ge.refl _) _) _) hg
    have hBk := HB.out k
    by_cases hlt : k < n
    · obtain ⟨b, o, rfl, x0, x1, x2⟩ := HC.out wr gw k hlt
      have HGk := Lib.hid (HG.out k hlt)
      have hWk := HW.out k hlt
      generalize nthW L k = X at *
      generalize gcdF S (L.take k) = G at *
      have HGc := Lib.hid (fun w' => sGcdOf G X.w w' (mid (by omega) (by omega)) (mid (by omega) (by omega)))
      go_wp2_with ((go_at_call 63; ((with_reducible refine (HGc.out _).mono ?_); rintro r w5 ⟨rfl, g5⟩)))
      go_roundw
      case rel => exact ⟨k + 1, by omega, by go_num, by rw [HGk.out], Ge.trans hg (Ge.trans (Ge.alloc (Ge.refl _) _) g5)⟩
      case measure => simp [intOf]; omega
    · have hkn : k = n := by omega
      subst hkn
      rw [HGn.out] at hBk
      have HGe := Lib.hid HGn.out
      have b0 := hg.keep (cell_alloc (cell_new (b := w.heap.size) (i := 0) rfl rfl))
      have b1 := hg.keep (cell_alloc (cell_new (b := w.heap.size) (i := 1) rfl rfl))
      have b2 := hg.keep (cell_alloc (cell_new (b := w.heap.size) (i := 2) rfl rfl))
      have b3 := hg.keep (cell_alloc (cell_new (b := w.heap.size) (i := 3) rfl rfl))
      simp at b0 b1 b2 b3
      rw [HGe.out]
      generalize hGG : gcdF S L = G at *
      have HGG := Lib.hid hGG
      clear hGG
      have gz : ¬ G = 0 := by omega
      have w1 : IntKind.i64.wrap (S.tdiv G) = S.tdiv G := IntWalk.i64_in _ (by have := tdiv_in (x := S) (g := G) (by omega) (by omega); omega)
      have zlt : w.heap.size < wr.heap.size := World.block_lt_of_cell? _ _ b3
      have R0 : ResD wr (w.heap.size + 1) := by
        have := ResD.new (w.alloc (.cells #[.int .i64 (N : Int), .int .i64 E, .int .i64 S, .slice p k cap] 29)) (.int .i64 0) (.int .i64 0) (.int .i64 0) (.slice none 0 0) 29
        simp at this
        exact this.ge hg
      have hz2 := hg.size
      simp at hz2
      have NA0 : NetAt (wr.alloc (.cells #[.int .i64 (N : Int), .int .i64 E, .int .i64 (S.tdiv G), .slice none 0 0] 29)) (w.heap.size + 1) wr.heap.size N E (S.tdiv G) (.slice none 0 0) (cutW G (L.take 0)) := NetAt.start R0
      go_wp2_with fail
      refine wp_region_head (S := fun w' => w'.cell? ⟨w.heap.size, 0, none⟩ = some (.int .i64 (N : Int)) ∧ w'.cell? ⟨w.heap.size, 1, none⟩ = some (.int .i64 E) ∧ w'.cell? ⟨w.heap.size, 2, none⟩ = some (.int .i64 S)) 10 (by kernel_rfl) (by kernel_rfl) (⟨cell_drew b0, cell_drew b1, cell_drew b2⟩) (fun hHeld => ?_)
      refine head_take 0 (v := ?_) rfl (by kernel_rfl) (by kernel_rfl) (fun _ _ _ h => h) (by assumption) (yields_if (by rfl) ?_) ?_
      rotate_left
      focus (intro w' hSw; (try dsimp only at hSw); go_simp; (try with_reducible rfl))
      (try simp only [Act.put, List.setIfInBounds_toArray, List.set_cons_zero, List.set_cons_succ])
      refine head_take 1 (v := ?_) rfl (by kernel_rfl) (by kernel_rfl) (fun _ _ _ h => h) (by assumption) (yields_if (by rfl) ?_) ?_
      rotate_left
      focus (intro w' hSw; (try dsimp only at hSw); go_simp; (try with_reducible rfl))
      (try simp only [Act.put, List.setIfInBounds_toArray, List.set_cons_zero, List.set_cons_succ])
      refine head_take 2 (v := ?_) rfl (by kernel_rfl) (by kernel_rfl) (fun _ _ _ h => h) (by assumption) (yields_if (by rfl) ?_) ?_
      rotate_left
      focus (intro w' hSw; (try dsimp only at hSw); go_simp; (try with_reducible rfl))
      (try simp only [Act.put, List.setIfInBounds_toArray, List.set_cons_zero, List.set_cons_succ])
      refine head_take 3 (v := ?_) rfl (by kernel_rfl) (by kernel_rfl) (fun _ _ _ h => h) (by assumption) (yields_if (by rfl) ?_) ?_
      rotate_left
      focus (intro w' hSw; (try dsimp only at hSw); go_simp; (try with_reducible rfl))
      (try simp only [Act.put, List.setIfInBounds_toArray, List.set_cons_zero, List.set_cons_succ])
      refine head_take 4 (v := ?_) rfl (by kernel_rfl) (by kernel_rfl) (fun _ _ _ h => h) (by assumption) (yields_if (by rfl) ?_) ?_
      rotate_left
      focus (intro w' hSw; (try dsimp only at hSw); go_simp; (try with_reducible rfl))
      (try simp only [Act.put, List.setIfInBounds_toArray, List.set_cons_zero, List.set_cons_succ])
      refine head_take 5 (v := ?_) rfl (by kernel_rfl) (by kernel_rfl) (fun _ _ _ h => h) (by assumption) (yields_if (by rfl) ?_) ?_
      rotate_left
      focus (intro w' hSw; (try dsimp only at hSw); go_simp; (try with_reducible rfl))
      (try simp only [Act.put, List.setIfInBounds_toArray, List.set_cons_zero, List.set_cons_succ])
      refine head_take 6 (v := ?_) rfl (by kernel_rfl) (by kernel_rfl) (fun _ _ _ h => h) (by assumption) (yields_if (by rfl) ?_) ?_
      rotate_left
      focus (intro w' hSw; (try dsimp only at hSw); go_simp; (try with_reducible rfl))
      (try simp only [Act.put, List.setIfInBounds_toArray, List.set_cons_zero, List.set_cons_succ])
      refine head_take 7 (v := ?_) rfl (by kernel_rfl) (by kernel_rfl) (fun _ _ _ h => h) (by assumption) (yields_if (by rfl) ?_) ?_
      rotate_left
      focus (intro w' hSw; (try dsimp only at hSw); go_simp; (try with_reducible rfl))
      (try simp only [Act.put, List.setIfInBounds_toArray, List.set_cons_zero, List.set_cons_succ])
      refine head_take 8 (v := ?_) rfl (by kernel_rfl) (by kernel_rfl) (fun _ _ _ h => h) (by assumption) (yields_if (by rfl) ?_) ?_
      rotate_left
      focus (intro w' hSw; (try dsimp only at hSw); go_simp; (try with_reducible rfl))
      (try simp only [Act.put, List.setIfInBounds_toArray, List.set_cons_zero, List.set_cons_succ])
      refine head_one 9 rfl (by kernel_rfl) (fun K hK => ?_)
      go_simp
      refine hK.out _ _ ⟨cell_alloc (cell_drew b0), cell_alloc (cell_drew b1), cell_alloc (cell_drew b2)⟩ (fun hHeld => ?_)
      clear hK K
      (try simp only [Act.put, List.setIfInBounds_toArray, List.set_cons_zero, List.set_cons_succ])
      refine head_done (by kernel_rfl) ?_
      go_wp2_with fail
      have NA1 := NA0.ge (Ge.drew (Ge.refl _))
      generalize hGb : wr.heap.size = Gb at *
      go_loopw [35] (fun i wi => ∃ (j : Nat) (u : Value), j ≤ k ∧ i = .int .i64 j ∧ NetAt wi (w.heap.size + 1) Gb N E (S.tdiv G) u (cutW G (L.take j)) ∧ Ge w wi) (fun i _ => k - (intOf i).toNat)
      case atStart => exact ⟨0, _, Nat.zero_le _, rfl, NA1, Ge.drew (Ge.alloc gw _)⟩
      case round =>
        clear NA0 NA1 b0 b1 b2 b3 R0
        obtain ⟨j, u, hj, rfl, HN', hgi⟩ := hrel
        have HNi := Lib.hid HN'
        have a3 := HN'.c3
        have zG : Gb < wr.heap.size := World.block_lt_of_cell? _ _ a3
        clear HN'
        by_cases hjk : j < k
        · obtain ⟨b, o, rfl, x0, x1, x2⟩ := HC.out wr hgi j hjk
          have HTj := Lib.hid (HT.out G j hjk)
          have hTl := HTl.out G j (by omega)
          have hWk := HW.out j hjk
          generalize nthW L j = X at *
          have w2 : IntKind.i64.wrap (X.w.tdiv G) = X.w.tdiv G := IntWalk.i64_in _ (by have := tdiv_in (x := X.w) (g := G) (by omega) (by omega); omega)
          have hO := HNi.out.own
          rw [hTl] at hO
          have HO := Lib.hid hO
          have HTL := Lib.hid hTl
          clear hO hTl
          generalize cutW G (L.take j) = F at *
          go_wp2_with (at_builtin; refine ap_wire rfl _ _ rfl (Gb + 1) _ j (flatW F) rfl (HO.out.alloc _) X.a X.b (X.w.tdiv G) (b0 := wr.heap.size + 1) rfl (by simp) (by omega) (by simp; omega) ?_; intro v8 w8 own8 m8 q8; obtain ⟨p8, c8, rfl⟩ := owns_form own8; have HA := NetAt.app (x := ⟨X.a, X.b, X.w.tdiv G⟩) HNi.out (by omega) (Ge.alloc (Ge.refl _) _) m8 (by rw [HTL.out]; exact own8); have t3 := HA.2.1; have tf := HA.2.2; replace HA := Lib.hid HA.1; have G8 := (Ge.alloc hgi _).mine (HO.out.alloc _) (by omega) m8)
          go_roundw
          case rel => exact ⟨j + 1, _, by omega, by go_num, by rw [HTj.out]; exact HA.out, Ge.setCell G8 (by show w.heap.size ≤ Gb; omega) _⟩
          case measure => simp [intOf]; omega
        · have hkn : j = k := by omega
          subst hkn
          have HTe := HTn.out G
          have HTl' := HTl.out G j (by omega)
          rw [HTe] at HTl'
          obtain ⟨a0, a1, a2, a3, af, ao, ar⟩ := HNi.out
          obtain ⟨r0, p0, f0⟩ := ar 0 (by omega)
          obtain ⟨r1, p1, f1⟩ := ar 1 (by omega)
          obtain ⟨r2, p2, f2⟩ := ar 2 (by omega)
          obtain ⟨r3, p3, f3⟩ := ar 3 (by omega)
          rw [HTe, HTl'] at ao
          obtain ⟨pu, cu, rfl⟩ := owns_form ao
          have HO := Lib.hid ao
          clear ao ar HTe
          replace HTl' := Lib.hid HTl'
          have zl2 : w.heap.size + 1 < wr.heap.size := by omega
          go_wp2_with fail
          exact bodyPost_ret (v := .agg #[.int .i64 (N : Int), .int .i64 E, .int .i64 (S.tdiv G), .slice pu j cu]) (by simp [results, Try.results58, go_sem, *]) rfl (by rw [HGG.out]; exact ⟨_, rfl, by refine owns_mono (base := Gb + 1) ?_ (by omega); repeat (first | exact HO.out | refine own_setD ?_ (by omega)), by (repeat (first | with_reducible exact Ge.refl _ | assumption | with_reducible refine Ge.drew ?_ | with_reducible refine Ge.drewN ?_ _ | with_reducible refine Ge.alloc ?_ _ | (with_reducible refine Ge.setCell ?_ (by first | (simp; done) | omega | (simp; omega)) _) | with_reducible refine Ge.trans ?_ (by assumption)))⟩)
end Go.Proofs.Ytahicfpnmjofhaa

namespace Go.Proofs.Ytahicfpnmjofhaa
set_option maxRecDepth 100000
open Go.ChangeShapes Go.WideShapes Go.ChangeAt Go.RowKit Go.Joins

theorem owns_cons {w : World} {b base : Nat} {y : Int} (hb : b = w.heap.size) (h : base ≤ b) : (w.alloc (.cells #[.int .i64 y] 3)).ownsRow base 3 1 (.slice (some ⟨b, 0, none⟩) 1 1) 1 (icells [y]) := by
  subst hb
  exact ⟨rfl, .inr ⟨w.heap.size, 1, _, rfl, h, heap_alloc_new w _, Nat.le_refl _, by unfold maxLen; omega, rfl, rfl⟩⟩
/-- append([]int{y}, l...): where the new row lies. -/
theorem ap_lit {w : World} {o : Oper} {a : Act} {K : Act → World → Prop} {Q : Exit → Act → World → Prop} (s x : Operand)
    (ho : o.op = .call { callee := .builtin .append, args := #[s, x], argTypes := #[51, 51] })
    (b : Nat) (y : Int) (hs : a.eval s = .slice (some ⟨b, 0, none⟩) 1 1) (base : Nat) (hown : w.ownsRow base 3 1 (.slice (some ⟨b, 0, none⟩) 1 1) 1 (icells [y])) (hb : base ≤ w.heap.size)
    (ad : Addr) (k c : Nat) (l : List Int) (hx : a.eval x = .slice (some ad) k c) (hy : SlI w (.slice (some ad) k c) l) (hn : k < 900)
    (h : ∀ g c' w', w'.ownsRow base 3 1 (.slice (some ⟨g, 0, none⟩) (k + 1) c') (k + 1) (icells (y :: l)) → Mine w w' (.slice (some ⟨b, 0, none⟩) 1 1) → (g = b ∨ g = w.heap.size) → K (a.put o.dst (.slice (some ⟨g, 0, none⟩) (k + 1) c')) w') : o.wp Try.prog a w K Q := by
  obtain ⟨i, hi, e⟩ : ∃ i, Try.prog.info? 3 = some i ∧ (i.zero, i.size, i.bytes) = (some (.int .i64 0), 1, 8) := by
    have := inf_int
    cases hc : Try.prog.info? 3 with
    | none => rw [hc] at this; simp at this
    | some i => rw [hc] at this; exact ⟨i, rfl, by simpa using this⟩
  simp only [Prod.mk.injEq] at e
  obtain ⟨h1, p, c', he, hc⟩ := hy
  simp only [Value.slice.injEq] at he
  obtain ⟨rfl, hm, rfl⟩ := he
  obtain ⟨v', w', hr, h2, h3, h4, h5⟩ := run_append_own_at (P := Try.prog) w base 51 o.type 3 i _ 1 8 Try.underlying51 hi e.1 e.2.1 e.2.2 rfl (by decide) _ 1 (icells [y]) hown ad k c (icells l) (by rw [h1, hm]) (fun j u hu => by
      obtain ⟨b, o, e, hz⟩ := hc j u hu
      simp only [Option.some.injEq] at e
      subst e
      by_cases hj0 : j = 0
      · subst hj0; simpa [Addr.add] using hz
      · simpa [Addr.add, hj0] using hz) (fun u hu => by
      simp only [icells, List.mem_map] at hu
      obtain ⟨_, _, rfl⟩ := hu
      rfl) (by unfold maxLen; omega) (by omega) hb
  obtain ⟨g, c', rfl⟩ := Go.Joins.ownsRow_form h2 (by omega)
  have e1 : 1 + k = k + 1 := by omega
  have e2 : icells [y] ++ icells l = icells (y :: l) := by simp [icells]
  rw [e2, e1] at h2
  rw [e1] at hr
  unfold Oper.wp execOp
  simp only [ho, resolve, invoke, builtin, Sem.run_bind, Sem.run_pure, Result.andThen_ok, List.map_toArray, List.map_cons, List.map_nil, hs, hx, hr]
  refine h g c' w' h2 h3 ?_
  simp [Value.ownBlock] at h5
  exact h5

theorem iInner (n e : Nat) (S : Int) (s : Value) (w : World) (hs : s.oneCell' = true) (hn : n ≤ 5) (he : e ≤ n) :
    Calls Try.prog 49 #[.agg #[.int .i64 (n : Int), .int .i64 (e : Int), .int .i64 S, s]] w fun r w' => ∃ ad c, r = .returned (.slice (some ad) (n - e) c) ∧ n - e ≤ c ∧ SlI w' (.slice (some ad) (n - e) c) (innZ e (n - e)) ∧ Ge w w' := by
  go_enter Try.func49, Try.ntmps49
  go_wp2_with fail
  go_loopw [3, 4] (fun o i wr => ∃ (k : Nat) (ad : Addr) (c : Nat), k ≤ n - e ∧ i = .int .i64 ((e + k : Nat) : Int) ∧ o = .slice (some ad) k c ∧ wr.ownsRow (w.heap.size + 1) 3 1 (.slice (some ad) k c) (innZ e k).length (icells (innZ e k)) ∧ Ge (w.alloc (.cells #[.int .i64 (n : Int), .int .i64 (e : Int), .int .i64 S, s] 29)) wr) (fun _ i _ => n - (intOf i).toNat)
  case atStart => exact ⟨0, _, _, Nat.zero_le _, rfl, rfl, owns_lit1 _ _ _ _ (by simp), Ge.alloc (Ge.refl _) _⟩
  case round =>
    obtain ⟨k, ad, c, hk, rfl, rfl, hown, hg⟩ := hrel
    have c0 : wr.cell? ⟨w.heap.size, 0, none⟩ = some (.int .i64 (n : Int)) := hg.keep (cell_new (i := 0) rfl rfl)
    have zg := hg.size
    simp at zg
    by_cases hlt : k < n - e
    · have HS := Lib.hid (innZ_snoc e k)
      have hL : (innZ e k).length = k := innZ_length e k
      generalize innZ e k = L at *
      replace hL := Lib.hid hL
      have t : (((e + k : Nat) : Int) < (n : Int)) := by omega
      go_wp2_with (at_builtin; refine ap_int rfl _ _ rfl (w.heap.size + 1) _ L rfl hown _ rfl (by have := hL.out; omega) zg ?_; intro v' w6 own6 hm6; obtain ⟨g6, c6, rfl⟩ := Go.Joins.ownsRow_form own6 (by simp))
      go_roundw
      case rel =>
        have hl1 : (L ++ [(e : Int) + (k : Int)]).length = k + 1 := by simp [hL.out]
        have e1 : ((e + k : Nat) : Int) = (e : Int) + k := by omega
        rw [hl1] at own6
        exact ⟨k + 1, ⟨g6, 0, none⟩, c6, by omega, by go_num, by rw [hL.out], by rw [HS.out, e1, hl1]; exact own6, hg.mine hown (by simp) hm6⟩
      case measure => simp [intOf]; omega
    · have hkn : k = n - e := by omega
      subst hkn
      have HO := Lib.hid hown
      rw [innZ_length] at HO
      clear hown
      have t : ¬ (((e + (n - e) : Nat) : Int) < (n : Int)) := by omega
      have hcap := owns_cap HO.out (some ad) (n - e) c rfl
      go_wp2_with fail
      go_ret
      exact ⟨_, _, rfl, by omega, SlI.of_owns (by rw [innZ_length]; exact HO.out), by (repeat (first | with_reducible exact Ge.refl _ | assumption | with_reducible refine Ge.drew ?_ | with_reducible refine Ge.drewN ?_ _ | with_reducible refine Ge.alloc ?_ _ | (with_reducible refine Ge.setCell ?_ (by first | (simp; done) | omega | (simp; omega)) _) | with_reducible refine Ge.trans ?_ (by assumption)))⟩
end Go.Proofs.Ytahicfpnmjofhaa

namespace Go.Proofs.Ytahicfpnmjofhaa
set_option maxRecDepth 100000
open Go.ChangeShapes Go.WideShapes Go.ChangeAt Go.RowKit Go.Joins

/-- The neighbors of v below k. -/
def nearX (m : Nat) (xs : List Int) (v : Int) (k : Nat) : List Int := ((List.range k).map (fun (i : Nat) => (i : Int))).filter (fun x => decide (0 < wbet xs m v x))
theorem nearX_in {m : Nat} {xs : List Int} {v : Int} {k : Nat} (h : 0 < wbet xs m v k) : nearX m xs v (k + 1) = nearX m xs v k ++ [(k : Int)] := by simp [nearX, List.range_succ, h]
theorem nearX_out {m : Nat} {xs : List Int} {v : Int} {k : Nat} (h : ¬ 0 < wbet xs m v k) : nearX m xs v (k + 1) = nearX m xs v k := by simp [nearX, List.range_succ, h]
theorem nearX_len (m : Nat) (xs : List Int) (v : Int) (k : Nat) : (nearX m xs v k).length ≤ k := by
  refine Nat.le_trans (List.length_filter_le _ _) ?_
  simp

set_option maxHeartbeats 1600000 in
theorem sL07Near (n : Nat) (E S : Int) (s : Value) (m : Nat) (xs : List Int) (v : Int) (w : World) (hs : SlF w s m 3 xs) (hB : netB n E S m xs = true) :
    Calls Try.prog 32 #[.agg #[.int .i64 (n : Int), .int .i64 E, .int .i64 S, s], .int .i64 v] w fun e w' => ∃ v', e = .returned v' ∧ w'.ownsRow w.heap.size 3 1 v' (nearX m xs v n).length (icells (nearX m xs v n)) ∧ Ge w w' := by
  obtain ⟨⟨h1, h5⟩, _, _, hok, _⟩ := netP_of hB
  have hm : m ≤ 10 := prs_len (by omega) hok
  have HV := Lib.hid hs
  obtain ⟨p, cap, rfl, _⟩ := hs.open
  have HW := Lib.hid (fun (a b : Int) w' (g : Ge w w') => sWeightBetween n E S (.slice p m cap) m xs a b w' (HV.out.ge g) hm hok)
  have hbd := Lib.hid (fun (a b : Int) => wbet_bd hok a b)
  clear hs hok hB
  go_enter Try.func32, Try.ntmps32
  go_wp2_with fail
  go_loopw [5, 6] (fun o i wr => ∃ (k : Nat) (u : Value), k ≤ n ∧ i = .int .i64 k ∧ o = u ∧ wr.ownsRow (w.heap.size + 1) 3 1 u (nearX m xs v k).length (icells (nearX m xs v k)) ∧ Ge (w.alloc (.cells #[.int .i64 (n : Int), .int .i64 E, .int .i64 S, .slice p m cap] 29)) wr) (fun _ i _ => n - (intOf i).toNat)
  case atStart => exact ⟨0, _, Nat.zero_le _, rfl, rfl, owns_lit1 _ _ _ _ (by simp), Ge.alloc (Ge.refl _) _⟩
  case round =>
    obtain ⟨k, u, hk, rfl, rfl, hown, hg⟩ := hrel
    have b0 := Ge.keep hg (cell_new (i := 0) rfl rfl)
    have b1 := Ge.keep hg (cell_new (i := 1) rfl rfl)
    have b2 := Ge.keep hg (cell_new (i := 2) rfl rfl)
    have b3 := Ge.keep hg (cell_new (i := 3) rfl rfl)
    have zg := hg.size
    have gw : Ge w wr := Ge.trans (Ge.alloc (Ge.refl _) _) hg
    simp at b0 b1 b2 b3 zg
    by_cases hlt : k < n
    · have HO := Lib.hid hown
      have hL : (nearX m xs v k).length ≤ k := nearX_len m xs v k
      have hbk := hbd.out v k
      have HWk := Lib.hid (fun w' g => HW.out v k w' g)
      clear hown
      by_cases c : 0 < wbet xs m v k
      · have HN := Lib.hid (nearX_in c)
        generalize wbet xs m v k = X at *
        generalize nearX m xs v k = L at *
        replace hL := Lib.hid hL
        go_wp2_with (first
          | (go_at_call 41; ((with_reducible refine (HWk.out _ gw).mono ?_); rintro e w5 ⟨rfl, g5⟩; have own5 := g5.owns HO.out; have z5 := g5.size))
          | (at_builtin; refine ap_int rfl _ _ rfl (w.heap.size + 1) _ L rfl own5 _ rfl (by have := hL.out; omega) (by omega) ?_; intro v' w6 own6 hm6))
        go_roundw
        case rel => exact ⟨k + 1, _, by omega, by go_num, rfl, by rw [HN.out]; exact own6, (Ge.trans hg g5).mine own5 (by simp) hm6⟩
        case measure => simp [intOf]; omega
      · have HN := Lib.hid (nearX_out c)
        generalize wbet xs m v k = X at *
        go_wp2_with ((go_at_call 41; ((with_reducible refine (HWk.out _ gw).mono ?_); rintro e w5 ⟨rfl, g5⟩; have own5 := g5.owns HO.out)))
        go_roundw
        case rel => exact ⟨k + 1, _, by omega, by go_num, rfl, by rw [HN.out]; exact own5, Ge.trans hg g5⟩
        case measure => simp [intOf]; omega
    · have hkn : k = n := by omega
      subst hkn
      have HO := Lib.hid hown
      clear hown
      go_wp2_with fail
      go_ret
      exact ⟨_, rfl, owns_mono HO.out (by omega), gw⟩
set_option maxHeartbeats 1600000 in
theorem iWiresAt (n : Nat) (E S : Int) (s : Value) (m : Nat) (xs : List Int) (v : Int) (w : World) (hs : SlF w s m 3 xs) (hB : netB n E S m xs = true) (hv0 : 0 ≤ v) (hv1 : v < n) :
    Calls Try.prog 38 #[.agg #[.int .i64 (n : Int), .int .i64 E, .int .i64 S, s], .int .i64 v] w fun e w' => ∃ v', e = .returned v' ∧ w'.ownsRow w.heap.size 3 1 v' (nearX m xs v n).length (icells (nearX m xs v n)) ∧ Ge w w' := by
  obtain ⟨⟨h1, h5⟩, _, _, hok, _⟩ := netP_of hB
  have hm : m ≤ 10 := prs_len (by omega) hok
  have HV := Lib.hid hs
  obtain ⟨p, cap, rfl, _⟩ := hs.open
  have HW := Lib.hid (fun (a b : Int) w' (g : Ge w w') => iWeightBetween n E S (.slice p m cap) m xs a b w' (HV.out.ge g) hm hok)
  have hbd := Lib.hid (fun (a b : Int) => wbet_bd hok a b)
  have HNo := Lib.hid (fun w' (g : Ge w w') => iNetOk n E S (.slice p m cap) m xs w' (HV.out.ge g) (by omega))
  rw [hB] at HNo
  have HNd := Lib.hid (fun w' => isNodeI n E S (.slice p m cap) v w' rfl)
  rw [nodeB_t ⟨hv0, hv1⟩] at HNd
  clear hs hok hB
  go_enter Try.func38, Try.ntmps38
  go_wp2_with (first
    | ((go_at_call 23; ((with_reducible refine (HNo.out _ (by (repeat (first | with_reducible exact Ge.refl _ | assumption | with_reducible refine Ge.drew ?_ | with_reducible refine Ge.drewN ?_ _ | with_reducible refine Ge.alloc ?_ _ | (with_reducible refine Ge.setCell ?_ (by first | (simp; done) | omega | (simp; omega)) _) | with_reducible refine Ge.trans ?_ (by assumption))))).mono ?_); rintro e w1 ⟨rfl, g1⟩)); have b0 := Ge.keep g1 (cell_new (i := 0) rfl rfl); have b1 := Ge.keep g1 (cell_new (i := 1) rfl rfl); have b2 := Ge.keep g1 (cell_new (i := 2) rfl rfl); have b3 := Ge.keep g1 (cell_new (i := 3) rfl rfl); have z1 := g1.size; (simp at b0 b1 b2 b3 z1))
    | ((go_at_call 50; ((with_reducible refine (HNd.out _).mono ?_); rintro e w2 ⟨rfl, g2⟩)); have G2 := Ge.trans g1 g2; have b0 := Ge.keep g2 b0; have z2 := G2.size; (simp at z2); have zlt : w.heap.size < w2.heap.size := (by omega)))
  clear b0 b1 b2 b3
  go_loopw [5, 19] (fun o i wr => ∃ (k : Nat) (u : Value), k ≤ n ∧ i = .int .i64 k ∧ o = u ∧ wr.ownsRow (w.heap.size + 1) 3 1 u (nearX m xs v k).length (icells (nearX m xs v k)) ∧ Ge (w.alloc (.cells #[.int .i64 (n : Int), .int .i64 E, .int .i64 S, .slice p m cap] 29)) wr) (fun _ i _ => n - (intOf i).toNat)
  case atStart => exact ⟨0, _, Nat.zero_le _, rfl, rfl, owns_mono (owns_lit0 _ _ _) (by omega), Ge.alloc G2 _⟩
  case round =>
    obtain ⟨k, u, hk, rfl, rfl, hown, hg⟩ := hrel
    have b0 := Ge.keep hg (cell_new (i := 0) rfl rfl)
    have b1 := Ge.keep hg (cell_new (i := 1) rfl rfl)
    have b2 := Ge.keep hg (cell_new (i := 2) rfl rfl)
    have b3 := Ge.keep hg (cell_new (i := 3) rfl rfl)
    have zg := hg.size
    have gw : Ge w wr := Ge.trans (Ge.alloc (Ge.refl _) _) hg
    simp at b0 b1 b2 b3 zg
    by_cases hlt : k < n
    · have HO := Lib.hid hown
      have hL : (nearX m xs v k).length ≤ k := nearX_len m xs v k
      have hbk := hbd.out v k
      have HWk := Lib.hid (fun w' g => HW.out v k w' g)
      clear hown
      by_cases c : 0 < wbet xs m v k
      · have HN := Lib.hid (nearX_in c)
        generalize wbet xs m v k = X at *
        generalize nearX m xs v k = L at *
        replace hL := Lib.hid hL
        go_wp2_with (first
          | (go_at_call 51; ((with_reducible refine (HWk.out _ gw).mono ?_); rintro e w5 ⟨rfl, g5⟩; have own5 := g5.owns HO.out; have z5 := g5.size))
          | (at_builtin; refine ap_int rfl _ _ rfl (w.heap.size + 1) _ L rfl own5 _ rfl (by have := hL.out; omega) (by omega) ?_; intro v' w6 own6 hm6))
        go_roundw
        case rel => exact ⟨k + 1, _, by omega, by go_num, rfl, by rw [HN.out]; exact own6, (Ge.trans hg g5).mine own5 (by simp) hm6⟩
        case measure => simp [intOf]; omega
      · have HN := Lib.hid (nearX_out c)
        generalize wbet xs m v k = X at *
        go_wp2_with ((go_at_call 51; ((with_reducible refine (HWk.out _ gw).mono ?_); rintro e w5 ⟨rfl, g5⟩; have own5 := g5.owns HO.out)))
        go_roundw
        case rel => exact ⟨k + 1, _, by omega, by go_num, rfl, by rw [HN.out]; exact own5, Ge.trans hg g5⟩
        case measure => simp [intOf]; omega
    · have hkn : k = n := by omega
      subst hkn
      have HO := Lib.hid hown
      clear hown
      go_wp2_with fail
      go_ret
      exact ⟨_, rfl, owns_mono HO.out (by omega), gw⟩
end Go.Proofs.Ytahicfpnmjofhaa

namespace Go.Proofs.Ytahicfpnmjofhaa
set_option maxRecDepth 100000
open Go.ChangeShapes Go.WideShapes Go.ChangeAt Go.RowKit Go.Joins

/-- The first number from a on, of c, with q; -1 if there is none. -/
def firstQ (q : Nat → Bool) (a : Nat) : Nat → Int
  | 0 => -1
  | c + 1 => if q a = true then (a : Int) else firstQ q (a + 1) c
theorem firstQ_none {q : Nat → Bool} : ∀ {c a : Nat}, (∀ t, t < c → q (a + t) = false) → firstQ q a c = -1
  | 0, a, _ => rfl
  | c + 1, a, h => by
    have h0 := h 0 (by omega)
    rw [Nat.add_zero] at h0
    simp only [firstQ, h0]
    exact firstQ_none (fun t ht => by have := h (t + 1) (by omega); rwa [show a + 1 + t = a + (t + 1) by omega])
theorem firstQ_some {q : Nat → Bool} : ∀ {c a k : Nat}, (∀ t, t < k → q (a + t) = false) → k < c → q (a + k) = true → firstQ q a c = ((a + k : Nat) : Int)
  | 0, a, k, _, h, _ => by omega
  | c + 1, a, 0, _, _, h => by rw [Nat.add_zero] at h; simp [firstQ, h]
  | c + 1, a, k + 1, hn, hk, h => by
    have h0 := hn 0 (by omega)
    rw [Nat.add_zero] at h0
    simp only [firstQ, h0]
    have := firstQ_some (q := q) (c := c) (a := a + 1) (k := k) (fun t ht => by have := hn (t + 1) (by omega); rwa [show a + 1 + t = a + (t + 1) by omega]) (by omega) (by rwa [show a + 1 + k = a + (k + 1) by omega])
    rw [show a + (k + 1) = a + 1 + k by omega]
    exact this
def nodeQ (n m : Nat) (xs : List Int) (c : Nat) (v : Nat) : Bool := decide ((nearX m xs v n).length = c)
def firstN (n e m : Nat) (xs : List Int) (c : Nat) : Int := firstQ (nodeQ n m xs c) e (n - e)
theorem firstN_bd (n e m : Nat) (xs : List Int) (c : Nat) : firstN n e m xs c = -1 ∨ ((e : Int) ≤ firstN n e m xs c ∧ firstN n e m xs c < n ∧ ∃ v : Nat, firstN n e m xs c = v ∧ (nearX m xs v n).length = c) := by
  unfold firstN
  have key : ∀ (c' a : Nat), firstQ (nodeQ n m xs c) a c' = -1 ∨ ((a : Int) ≤ firstQ (nodeQ n m xs c) a c' ∧ firstQ (nodeQ n m xs c) a c' < ((a + c' : Nat) : Int) ∧ ∃ v : Nat, firstQ (nodeQ n m xs c) a c' = v ∧ (nearX m xs v n).length = c) := by
    intro c'
    induction c' with
    | zero => intro a; exact .inl rfl
    | succ c' ih =>
      intro a
      simp only [firstQ]
      by_cases h : nodeQ n m xs c a = true
      · rw [if_pos h]
        exact .inr ⟨by omega, by omega, a, rfl, by simpa [nodeQ] using h⟩
      · rw [if_neg h]
        rcases ih (a + 1) with h | ⟨h1, h2, h3⟩
        · exact .inl h
        · exact .inr ⟨by omega, by omega, h3⟩
  rcases key (n - e) e with h | ⟨h1, h2, h3⟩
  · exact .inl h
  · by_cases he : e ≤ n
    · exact .inr ⟨h1, by omega, h3⟩
    · omega

set_option maxHeartbeats 1600000 in
theorem sFirst (n e : Nat) (S : Int) (s : Value) (m : Nat) (xs : List Int) (c : Nat) (w : World) (hs : SlF w s m 3 xs) (hB : netB n e S m xs = true) :
    Calls Try.prog 31 #[.agg #[.int .i64 (n : Int), .int .i64 (e : Int), .int .i64 S, s], .int .i64 (c : Int)] w fun r w' => r = .returned (.int .i64 (firstN n e m xs c)) ∧ Ge w w' := by
  obtain ⟨⟨h1, h5⟩, ⟨e1, e2⟩, _, hok, _⟩ := netP_of hB
  have hm : m ≤ 10 := prs_len (by omega) hok
  have HV := Lib.hid hs
  obtain ⟨p, cap, rfl, _⟩ := hs.open
  have HNo := Lib.hid (fun w' (g : Ge w w') => sNetOk n e S (.slice p m cap) m xs w' (HV.out.ge g) (by omega))
  rw [hB] at HNo
  have HNr := Lib.hid (fun (v : Int) w' (g : Ge w w') => sL07Near n e S (.slice p m cap) m xs v w' (HV.out.ge g) hB)
  have HF : Hid (∀ k, k < n - e → (∀ t, t < k → nodeQ n m xs c (e + t) = false) → nodeQ n m xs c (e + k) = true → ((e : Int) + k) = firstN n e m xs c) := fun k h1 h2 h3 => by
    rw [firstN, firstQ_some h2 h1 h3]; omega
  have HF0 : Hid ((∀ t, t < n - e → nodeQ n m xs c (e + t) = false) → (-1 : Int) = firstN n e m xs c) := fun h => (firstQ_none h).symm
  have HQ : Hid (∀ v, nodeQ n m xs c v = decide ((nearX m xs v n).length = c)) := fun _ => rfl
  have HLe := Lib.hid (fun v => nearX_len m xs v n)
  clear hs hok hB
  go_enter Try.func31, Try.ntmps31
  go_wp2_with ((go_at_call 18; ((with_reducible refine (HNo.out _ (by (repeat (first | with_reducible exact Ge.refl _ | assumption | with_reducible refine Ge.drew ?_ | with_reducible refine Ge.drewN ?_ _ | with_reducible refine Ge.alloc ?_ _ | (with_reducible refine Ge.setCell ?_ (by first | (simp; done) | omega | (simp; omega)) _) | with_reducible refine Ge.trans ?_ (by assumption))))).mono ?_); rintro r w1 ⟨rfl, g1⟩)); have b0 := Ge.keep g1 (cell_new (i := 0) rfl rfl); have b1 := Ge.keep g1 (cell_new (i := 1) rfl rfl); have b2 := Ge.keep g1 (cell_new (i := 2) rfl rfl); have b3 := Ge.keep g1 (cell_new (i := 3) rfl rfl); have z1 := g1.size; (simp at b0 b1 b2 b3 z1))
  have G1 : Ge w w1 := by (repeat (first | with_reducible exact Ge.refl _ | assumption | with_reducible refine Ge.drew ?_ | with_reducible refine Ge.drewN ?_ _ | with_reducible refine Ge.alloc ?_ _ | (with_reducible refine Ge.setCell ?_ (by first | (simp; done) | omega | (simp; omega)) _) | with_reducible refine Ge.trans ?_ (by assumption)))
  go_loopw [5] (fun i wr => ∃ k : Nat, k ≤ n - e ∧ i = .int .i64 ((e : Int) + k) ∧ Hid (∀ t, t < k → nodeQ n m xs c (e + t) = false) ∧ Ge w1 wr) (fun i _ => n - (intOf i).toNat)
  case atStart => exact ⟨0, Nat.zero_le _, by simp, fun t ht => by omega, Ge.refl _⟩
  case round =>
    obtain ⟨k, hk, rfl, HA, hg⟩ := hrel
    have c0 := hg.keep b0
    have c1 := hg.keep b1
    have c2 := hg.keep b2
    have c3 := hg.keep b3
    have gw : Ge w wr := Ge.trans G1 hg
    by_cases hlt : k < n - e
    · have HNk := Lib.hid (fun w' g => HNr.out ((e : Int) + k) w' g)
      have HLk := HLe.out ((e : Int) + k)
      have HQk : Hid (nodeQ n m xs c (e + k) = decide ((nearX m xs ((e : Int) + k) n).length = c)) := by show _ = _; rw [HQ.out]; simp
      generalize nearX m xs ((e : Int) + k) n = L at *
      obtain ⟨l, hl⟩ : ∃ l, L.length = l := ⟨_, rfl⟩
      rw [hl] at HLk
      have HL := Lib.hid hl
      clear hl
      by_cases h : l = c
      · have HR := Lib.hid (HF.out k hlt HA.out (by rw [HQk.out, HL.out]; simp [h]))
        have t : ((l : Int) == (c : Int)) = true := by simp [h]
        go_wp2_with ((go_at_call 32; ((with_reducible refine (HNk.out _ gw).mono ?_); rintro r w5 ⟨v5, rfl, o5, g5⟩; rw [HL.out] at o5; obtain ⟨p5, c5, rfl⟩ := owns_form o5)))
        go_ret
        exact ⟨ret_int HR.out, by (repeat (first | with_reducible exact Ge.refl _ | assumption | with_reducible refine Ge.drew ?_ | with_reducible refine Ge.drewN ?_ _ | with_reducible refine Ge.alloc ?_ _ | (with_reducible refine Ge.setCell ?_ (by first | (simp; done) | omega | (simp; omega)) _) | with_reducible refine Ge.trans ?_ (by assumption)))⟩
      · have HA2 : Hid (∀ t, t < k + 1 → nodeQ n m xs c (e + t) = false) := fun t ht => by
          by_cases e' : t = k
          · rw [e', HQk.out, HL.out]; simp [h]
          · exact HA.out t (by omega)
        have t : ((l : Int) == (c : Int)) = false := by simp; omega
        go_wp2_with ((go_at_call 32; ((with_reducible refine (HNk.out _ gw).mono ?_); rintro r w5 ⟨v5, rfl, o5, g5⟩; rw [HL.out] at o5; obtain ⟨p5, c5, rfl⟩ := owns_form o5)))
        go_roundw
        case rel => exact ⟨k + 1, by omega, by go_num, HA2.out, by (repeat (first | with_reducible exact Ge.refl _ | assumption | with_reducible refine Ge.drew ?_ | with_reducible refine Ge.drewN ?_ _ | with_reducible refine Ge.alloc ?_ _ | (with_reducible refine Ge.setCell ?_ (by first | (simp; done) | omega | (simp; omega)) _) | with_reducible refine Ge.trans ?_ (by assumption)))⟩
        case measure => simp [intOf]; omega
    · have hkn : k = n - e := by omega
      subst hkn
      have HR := Lib.hid (HF0.out HA.out)
      go_wp2_with fail
      go_ret
      exact ⟨ret_int HR.out, gw⟩

set_option maxHeartbeats 1600000 in
theorem iFirst (n e : Nat) (S : Int) (s : Value) (m : Nat) (xs : List Int) (c : Nat) (w : World) (hs : SlF w s m 3 xs) (hB : netB n e S m xs = true) :
    Calls Try.prog 37 #[.agg #[.int .i64 (n : Int), .int .i64 (e : Int), .int .i64 S, s], .int .i64 (c : Int)] w fun r w' => r = .returned (.int .i64 (firstN n e m xs c)) ∧ Ge w w' := by
  obtain ⟨⟨h1, h5⟩, ⟨e1, e2⟩, _, hok, _⟩ := netP_of hB
  have hm : m ≤ 10 := prs_len (by omega) hok
  have HV := Lib.hid hs
  obtain ⟨p, cap, rfl, _⟩ := hs.open
  have HNo := Lib.hid (fun w' (g : Ge w w') => iNetOk n e S (.slice p m cap) m xs w' (HV.out.ge g) (by omega))
  rw [hB] at HNo
  have HI := Lib.hid (fun w' => iInner n e S (.slice p m cap) w' rfl (by omega) (by omega))
  have HNr := Lib.hid (fun (k : Nat) (hk : k < n - e) w' (g : Ge w w') => iWiresAt n e S (.slice p m cap) m xs ((e : Int) + k) w' (HV.out.ge g) hB (by omega) (by omega))
  have HF : Hid (∀ k, k < n - e → (∀ t, t < k → nodeQ n m xs c (e + t) = false) → nodeQ n m xs c (e + k) = true → ((e : Int) + k) = firstN n e m xs c) := fun k h1 h2 h3 => by
    rw [firstN, firstQ_some h2 h1 h3]; omega
  have HF0 : Hid ((∀ t, t < n - e → nodeQ n m xs c (e + t) = false) → (-1 : Int) = firstN n e m xs c) := fun h => (firstQ_none h).symm
  have HQ : Hid (∀ v, nodeQ n m xs c v = decide ((nearX m xs v n).length = c)) := fun _ => rfl
  have HLe := Lib.hid (fun v => nearX_len m xs v n)
  clear hs hok hB
  go_enter Try.func37, Try.ntmps37
  go_wp2_with (first
    | ((go_at_call 23; ((with_reducible refine (HNo.out _ (by (repeat (first | with_reducible exact Ge.refl _ | assumption | with_reducible refine Ge.drew ?_ | with_reducible refine Ge.drewN ?_ _ | with_reducible refine Ge.alloc ?_ _ | (with_reducible refine Ge.setCell ?_ (by first | (simp; done) | omega | (simp; omega)) _) | with_reducible refine Ge.trans ?_ (by assumption))))).mono ?_); rintro r w1 ⟨rfl, g1⟩)); have b0 := Ge.keep g1 (cell_new (i := 0) rfl rfl); have b1 := Ge.keep g1 (cell_new (i := 1) rfl rfl); have b2 := Ge.keep g1 (cell_new (i := 2) rfl rfl); have b3 := Ge.keep g1 (cell_new (i := 3) rfl rfl); have z1 := g1.size; (simp at b0 b1 b2 b3 z1))
    | ((go_at_call 49; ((with_reducible refine (HI.out _).mono ?_); rintro r wI ⟨ad, ca, rfl, hkc, hI, gI⟩)); have GI : Ge w wI := (by (repeat (first | with_reducible exact Ge.refl _ | assumption | with_reducible refine Ge.drew ?_ | with_reducible refine Ge.drewN ?_ _ | with_reducible refine Ge.alloc ?_ _ | (with_reducible refine Ge.setCell ?_ (by first | (simp; done) | omega | (simp; omega)) _) | with_reducible refine Ge.trans ?_ (by assumption)))); replace b0 := gI.keep b0; replace b1 := gI.keep b1; replace b2 := gI.keep b2; replace b3 := gI.keep b3; have HIo := Lib.hid (SlI.openN hI (innZ_length e (n - e))); clear hI))
  obtain ⟨pI, cI, hpI, hcI⟩ := HIo.out
  simp only [Value.slice.injEq] at hpI
  obtain ⟨rfl, _, rfl⟩ := hpI
  replace hcI := Lib.hid hcI
  go_loopw [13] (fun i wr => ∃ k : Nat, k ≤ n - e ∧ i = .int .i64 k ∧ Hid (∀ t, t < k → nodeQ n m xs c (e + t) = false) ∧ Ge wI wr) (fun i _ => n - (intOf i).toNat)
  case atStart => exact ⟨0, Nat.zero_le _, rfl, fun t ht => by omega, Ge.refl _⟩
  case round =>
    obtain ⟨k, hk, rfl, HA, hg⟩ := hrel
    have c0 := hg.keep b0
    have c1 := hg.keep b1
    have c2 := hg.keep b2
    have c3 := hg.keep b3
    have gw : Ge w wr := Ge.trans GI hg
    by_cases hlt : k < n - e
    · obtain ⟨bI, oI, hbo, y0⟩ := hcI.out k hlt
      simp only [Option.some.injEq] at hbo
      subst hbo
      have y0r := hg.keep y0
      have hny : nth (innZ e (n - e)) k = (e : Int) + k := by unfold innZ; rw [mapR_nth hlt]; omega
      rw [hny] at y0r
      clear y0 hny
      have HNk := Lib.hid (fun w' g => HNr.out k hlt w' g)
      have HLk := HLe.out ((e : Int) + k)
      have HQk : Hid (nodeQ n m xs c (e + k) = decide ((nearX m xs ((e : Int) + k) n).length = c)) := by show _ = _; rw [HQ.out]; simp
      generalize nearX m xs ((e : Int) + k) n = L at *
      obtain ⟨l, hl⟩ : ∃ l, L.length = l := ⟨_, rfl⟩
      rw [hl] at HLk
      have HL := Lib.hid hl
      clear hl
      by_cases h : l = c
      · have HR := Lib.hid (HF.out k hlt HA.out (by rw [HQk.out, HL.out]; simp [h]))
        have t : ((l : Int) == (c : Int)) = true := by simp [h]
        go_wp2_with ((go_at_call 38; ((with_reducible refine (HNk.out _ gw).mono ?_); rintro r w5 ⟨v5, rfl, o5, g5⟩; rw [HL.out] at o5; obtain ⟨p5, c5, rfl⟩ := owns_form o5)))
        go_ret
        exact ⟨ret_int HR.out, by (repeat (first | with_reducible exact Ge.refl _ | assumption | with_reducible refine Ge.drew ?_ | with_reducible refine Ge.drewN ?_ _ | with_reducible refine Ge.alloc ?_ _ | (with_reducible refine Ge.setCell ?_ (by first | (simp; done) | omega | (simp; omega)) _) | with_reducible refine Ge.trans ?_ (by assumption)))⟩
      · have HA2 : Hid (∀ t, t < k + 1 → nodeQ n m xs c (e + t) = false) := fun t ht => by
          by_cases e' : t = k
          · rw [e', HQk.out, HL.out]; simp [h]
          · exact HA.out t (by omega)
        have t : ((l : Int) == (c : Int)) = false := by simp; omega
        go_wp2_with ((go_at_call 38; ((with_reducible refine (HNk.out _ gw).mono ?_); rintro r w5 ⟨v5, rfl, o5, g5⟩; rw [HL.out] at o5; obtain ⟨p5, c5, rfl⟩ := owns_form o5)))
        go_roundw
        case rel => exact ⟨k + 1, by omega, by go_num, HA2.out, by (repeat (first | with_reducible exact Ge.refl _ | assumption | with_reducible refine Ge.drew ?_ | with_reducible refine Ge.drewN ?_ _ | with_reducible refine Ge.alloc ?_ _ | (with_reducible refine Ge.setCell ?_ (by first | (simp; done) | omega | (simp; omega)) _) | with_reducible refine Ge.trans ?_ (by assumption)))⟩
        case measure => simp [intOf]; omega
    · have hkn : k = n - e := by omega
      subst hkn
      have HR := Lib.hid (HF0.out HA.out)
      go_wp2_with fail
      go_ret
      exact ⟨ret_int HR.out, gw⟩
end Go.Proofs.Ytahicfpnmjofhaa
