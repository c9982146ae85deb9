/- l03Put of the reference: a wire put into a list of wires. No condition. -/
import Derived.Test.YtenfkpdbfmeebaaPlPut
import Derived.Test.YtenfkpdbfmeebaaWRes
import Derived.Test.YtenfkpdbfmeebaaWFlat
import Derived.Test.YtenfkpdbfmeebaaWEqInt
import Derived.Test.YtenfkpdbfmeebaaWDet0
import Derived.Test.YtenfkpdbfmeebaaWLaw
import Derived.Maps.AppendAt
namespace Go.Proofs.Ytenfkpdbfmeebaa
set_option maxRecDepth 100000
open Go.ChangeShapes Go.WideShapes Go.ChangeAt Go.RowKit Go.Joins

theorem inf_Wire3 : (Try.prog.info? 71).map (fun i => (i.zero, i.size, i.bytes)) = some (some (Value.agg #[.int .i64 0, .int .i64 0, .int .i64 0]), 3, 24) := by kernel_rfl
theorem ap_wire {w : World} {ops : Array Oper} {rest : List Oper} {o : Oper} {a : Act} {Q : Exit → Act → World → Prop} (hgd : o.guard = none) (s x : Operand)
    (ho : o.op = .call { callee := .builtin .append, args := #[s, x], argTypes := #[33, 33] })
    (base : Nat) (v : Value) (n : Nat) (l : List Int) (hs : a.eval s = v) (hown : w.ownsRow base 71 3 v n (icells l))
    (y1 y2 y3 : Int) {b0 : Nat} (hx : a.eval x = .slice (some ⟨b0, 0, none⟩) 1 1) (hb0 : b0 = w.heap.size) (hn : n < 1099511627776) (hbase : base ≤ w.heap.size)
    (h : ∀ v' w', w'.ownsRow base 71 3 v' (n + 1) (icells (l ++ [y1, y2, y3])) → Mine w w' v → (v'.ownBlock = v.ownBlock ∨ ∃ b, v'.ownBlock = some b ∧ w.heap.size ≤ b) → wpList Try.prog ops Q rest (a.put o.dst v') w') :
    wpList Try.prog ops Q (o :: rest) a (w.alloc (.cells #[.int .i64 y1, .int .i64 y2, .int .i64 y3] 71)) := by
  subst hb0
  obtain ⟨i, hi1, hi2, hi3, hi4⟩ := info_parts inf_Wire3
  refine Go.wpList_append_own_at _ hgd s x 33 ho base 71 i _ 3 24 Try.underlying33 hi1 hi2 hi3 hi4 rfl (by decide) v n (icells l) hs (hown.alloc _) ⟨w.heap.size, 0, none⟩ 1 1 [.int .i64 y1, .int .i64 y2, .int .i64 y3] hx rfl ?_ (by simp [Value.oneCell']) (by unfold maxLen; omega) ?_ (by simp; omega) ?_
  · intro j u hu
    have hadd : (⟨w.heap.size, 0, none⟩ : Addr).add j = ⟨w.heap.size, j, none⟩ := by unfold Addr.add; split <;> simp_all
    rw [hadd, cell_of_row (w.alloc (.cells #[.int .i64 y1, .int .i64 y2, .int .i64 y3] 71)) w.heap.size j _ _ (0, 0) (heap_alloc_new w _)]
    simpa using hu
  · have : (n + 1) * 24 ≤ (n + 1) * 100 := Nat.mul_le_mul_left _ (by decide)
    omega
  · intro v' w' h2 h3 _ h5
    refine h v' w' (by simpa [icells] using h2) (Mine.alloc _ h3) ?_
    rcases h5 with h5 | h5
    · exact .inl h5
    · exact .inr ⟨_, h5, by simp⟩
theorem grown_setN (w : World) (b o : Nat) (x : Value) : w.grownBy (w.setCell ⟨b, o, none⟩ x) (some b) := by
  refine ⟨rfl, rfl, rfl, by simp, fun k _ hne => ?_⟩
  have : b ≠ k := fun e => hne (by rw [e])
  simp [World.setCell, Array.getElem?_modify, this]
theorem mine_frozN {w w' : World} {v : Value} (hm : Mine w w' v) {a : Addr} {u : Value} (h : w.cell? a = some u) (hf : w.frozen? a = false) (hne : ∀ k, v.ownBlock = some k → a.block ≠ k) : w'.frozen? a = false := by
  rw [World.frozen?_of_block (World.grownBy.block hm a.block (World.block_lt_of_cell? _ _ h) (fun e => hne _ e.symm rfl))]
  exact hf
/-- The row's block is the first, or a late one. -/
def Blk (v : Value) (z a : Nat) : Prop := v.ownBlock = some z ∨ ∃ b, v.ownBlock = some b ∧ a ≤ b
theorem Blk.next {v v' : Value} {z a b : Nat} (h : Blk v z a) (hz : a ≤ b) (h2 : v'.ownBlock = v.ownBlock ∨ ∃ c, v'.ownBlock = some c ∧ b ≤ c) : Blk v' z a := by
  rcases h2 with h2 | ⟨c, h2, h3⟩
  · unfold Blk; rw [h2]; exact h
  · exact Or.inr ⟨c, h2, by omega⟩
theorem Blk.ne {v : Value} {z a g : Nat} (h : Blk v z a) (h1 : z < g) (h2 : g < a) : ∀ k, v.ownBlock = some k → g ≠ k := fun k hk e => by
  rcases h with h | ⟨b, h, h3⟩
  · rw [h] at hk; cases hk; omega
  · rw [h] at hk; cases hk; omega
theorem flatW_snoc (l : List Wr) (e : Wr) : flatW (l ++ [e]) = flatW l ++ [e.a, e.b, e.w] := by rw [flatW_append]; rfl
theorem take_snocW (l : List Wr) (k : Nat) (h : k < l.length) : l.take (k + 1) = l.take k ++ [nthW l k] := by
  rw [List.take_succ_eq_append_getElem h, nthW_eq l k h]
theorem wire_cells {w : World} {p : Option Addr} {l : List Wr} {n : Nat} (h : ∀ i, i < n * 3 → ∃ b o, p = some ⟨b, o, none⟩ ∧ w.cell? ⟨b, o + i, none⟩ = some (.int .i64 (nth (flatW l) i))) (hn : l.length = n) {k : Nat} (hk : k < n) :
    ∃ b o, p = some ⟨b, o, none⟩ ∧ w.cell? ⟨b, o + k * 3, none⟩ = some (.int .i64 (nthW l k).a) ∧ w.cell? ⟨b, o + k * 3 + 1, none⟩ = some (.int .i64 (nthW l k).b) ∧ w.cell? ⟨b, o + k * 3 + 2, none⟩ = some (.int .i64 (nthW l k).w) := by
  obtain ⟨b, o, hp, c0, c1, c2⟩ := three_cells h hk
  obtain ⟨e0, e1, e2⟩ := flatW_get l k (by omega)
  unfold nth at c0 c1 c2
  rw [e0] at c0
  rw [e1] at c1
  rw [e2] at c2
  exact ⟨b, o, hp, c0, c1, c2⟩
/-- The weight so far. -/
def addS (add : Bool) (A B x : Int) (l : List Wr) : Int := x + (if add = true then sameS A B l else 0)
/-- The first loop of l03Put: what stands behind k rounds. -/
def Put1 (w wr : World) (v : Value) (A B x : Int) (add : Bool) (l : List Wr) (k : Nat) : Prop :=
  wr.ownsRow w.heap.size 71 3 v (dropE A B (l.take k)).length (icells (flatW (dropE A B (l.take k)))) ∧ Blk v w.heap.size (w.heap.size + 2) ∧
  wr.cell? ⟨w.heap.size + 1, 0, none⟩ = some (.int .i64 A) ∧ wr.cell? ⟨w.heap.size + 1, 1, none⟩ = some (.int .i64 B) ∧ wr.cell? ⟨w.heap.size + 1, 2, none⟩ = some (.int .i64 (addS add A B x (l.take k))) ∧
  wr.frozen? ⟨w.heap.size + 1, 2, none⟩ = false ∧ w.heap.size + 2 ≤ wr.heap.size ∧ Ge w wr
theorem Put1.start (w : World) (A B x : Int) (add : Bool) (l : List Wr) : Put1 w ((w.alloc (.cells #[] 71)).alloc (.cells #[.int .i64 A, .int .i64 B, .int .i64 x] 71)) (.slice (some ⟨w.heap.size, 0, none⟩) 0 0) A B x add l 0 := by
  have e : w.heap.size + 1 = (w.alloc (.cells #[] 71)).heap.size := by simp
  refine ⟨Ge.owns (Ge.alloc (Ge.refl _) _) (owns_lit0 _ _ _), Or.inl rfl, cell_new e rfl, cell_new e rfl, ?_, froz_new (v := .int .i64 x) e rfl, by simp, Ge.alloc (Ge.alloc (Ge.refl _) _) _⟩
  have : addS add A B x (l.take 0) = x := by unfold addS; simp [sameS]
  rw [this]
  exact cell_new e rfl
theorem drop_in {A B : Int} {l : List Wr} {k : Nat} (hk : k < l.length) (h : isE A B (nthW l k) = true) : dropE A B (l.take (k + 1)) = dropE A B (l.take k) := by
  rw [take_snocW l k hk, dropE_snoc, if_pos h]
theorem drop_out {A B : Int} {l : List Wr} {k : Nat} (hk : k < l.length) (h : isE A B (nthW l k) = false) : dropE A B (l.take (k + 1)) = dropE A B (l.take k) ++ [nthW l k] := by
  rw [take_snocW l k hk, dropE_snoc, if_neg (by simp [h])]
theorem addS_in {A B x : Int} {l : List Wr} {k : Nat} (hk : k < l.length) (h : isE A B (nthW l k) = true) : addS true A B x (l.take (k + 1)) = addS true A B x (l.take k) + (nthW l k).w := by
  unfold addS
  rw [if_pos rfl, if_pos rfl, take_snocW l k hk, sameS_snoc, if_pos h]; omega
theorem addS_out {A B x : Int} {add : Bool} {l : List Wr} {k : Nat} (hk : k < l.length) (h : isE A B (nthW l k) = false) : addS add A B x (l.take (k + 1)) = addS add A B x (l.take k) := by
  unfold addS
  rw [take_snocW l k hk, sameS_snoc, h]; simp
/-- A round that leaves the list as it is, no weight is added. -/
theorem Put1.skip {w wr : World} {v : Value} {A B x : Int} {l : List Wr} {k : Nat} (h : Put1 w wr v A B x false l k) (hk : k < l.length) (he : isE A B (nthW l k) = true) {wr' : World} (hg : Ge wr wr') : Put1 w wr' v A B x false l (k + 1) := by
  obtain ⟨h1, h2, h3, h4, h5, h6, h7, h8⟩ := h
  refine ⟨by rw [drop_in hk he]; exact hg.owns h1, h2, hg.keep h3, hg.keep h4, ?_, hg.keepF h5 h6, Nat.le_trans h7 hg.size, h8.trans hg⟩
  have e : addS false A B x (l.take (k + 1)) = addS false A B x (l.take k) := by unfold addS; simp
  rw [e]; exact hg.keep h5
/-- A round that adds a weight. -/
theorem Put1.plus {w wr : World} {v : Value} {A B x : Int} {l : List Wr} {k : Nat} (h : Put1 w wr v A B x true l k) (hk : k < l.length) (he : isE A B (nthW l k) = true) {wr' : World} (hg : Ge wr wr') {y : Int} (hy : y = addS true A B x (l.take k) + (nthW l k).w) :
    Put1 w (wr'.setCell ⟨w.heap.size + 1, 2, none⟩ (.int .i64 y)) v A B x true l (k + 1) := by
  obtain ⟨h1, h2, h3, h4, h5, h6, h7, h8⟩ := h
  refine ⟨?_, h2, cell_set2 (by simp) (hg.keep h3), cell_set2 (by simp) (hg.keep h4), ?_, froz_set (hg.keepF h5 h6), by simpa using Nat.le_trans h7 hg.size, Ge.setCell (h8.trans hg) (by simp) _⟩
  · rw [drop_in hk he]
    have h1' := hg.owns h1
    refine h1'.kept (grown_setN wr' (w.heap.size + 1) 2 (.int .i64 y)) ?_
    cases hv : v.ownBlock with
    | none => exact .inl rfl
    | some c => exact .inr (fun e => h2.ne (g := w.heap.size + 1) (by omega) (by omega) c hv (by simpa using e.symm))
  · rw [addS_in hk he, ← hy]
    exact World.cell?_setCell_same _ _ _ (hg.keep h5)
theorem Put1.ge {w wr wr' : World} {v : Value} {A B x : Int} {add : Bool} {l : List Wr} {k : Nat} (h : Put1 w wr v A B x add l k) (hg : Ge wr wr') : Put1 w wr' v A B x add l k := by
  obtain ⟨h1, h2, h3, h4, h5, h6, h7, h8⟩ := h
  exact ⟨hg.owns h1, h2, hg.keep h3, hg.keep h4, hg.keep h5, hg.keepF h5 h6, Nat.le_trans h7 hg.size, h8.trans hg⟩
/-- A round that appends the wire. -/
theorem Put1.app {w wr : World} {v : Value} {A B x : Int} {add : Bool} {l : List Wr} {k : Nat} (h : Put1 w wr v A B x add l k) (hk : k < l.length) (he : isE A B (nthW l k) = false) {wr' w' : World} {v' : Value} (hg : Ge wr wr') (hm : Mine wr' w' v)
    (ho : w'.ownsRow w.heap.size 71 3 v' ((dropE A B (l.take k)).length + 1) (icells (flatW (dropE A B (l.take k)) ++ [(nthW l k).a, (nthW l k).b, (nthW l k).w])))
    (hb : v'.ownBlock = v.ownBlock ∨ ∃ b, v'.ownBlock = some b ∧ wr'.heap.size ≤ b) : Put1 w w' v' A B x add l (k + 1) := by
  obtain ⟨h1, h2, h3, h4, h5, h6, h7, h8⟩ := h
  have ne := h2.ne (g := w.heap.size + 1) (by omega) (by omega)
  have z := hg.size
  refine ⟨?_, h2.next (by omega) hb, mine_cell hm (hg.keep h3) ne, mine_cell hm (hg.keep h4) ne, ?_, ?_, Nat.le_trans h7 (Nat.le_trans z (World.grownBy.size hm)), Ge.mine (h8.trans hg) (hg.owns h1) (Nat.le_refl _) hm⟩
  · rw [drop_out hk he, flatW_snoc]
    simpa using ho
  · rw [addS_out hk he]; exact mine_cell hm (hg.keep h5) ne
  · exact mine_frozN hm (hg.keep h5) (hg.keepF h5 h6) ne
/-- The second loop: what stands behind k rounds. -/
def Put2 (w2 wr : World) (v : Value) (B2 : Nat) (X : Wr) (D : List Wr) (k : Nat) : Prop :=
  wr.ownsRow B2 71 3 v (insP X (D.take k)).1.length (icells (flatW (insP X (D.take k)).1)) ∧ Ge w2 wr
theorem Put2.one {w2 wr wr' w' : World} {v v' : Value} {B2 : Nat} {X : Wr} {D : List Wr} {k : Nat} (h : Put2 w2 wr v B2 X D k) (hk : k < D.length) (hb : w2.heap.size ≤ B2) (hg : Ge wr wr') (hm : Mine wr' w' v)
    (hc : (insP X (D.take k)).2 = true ∨ gtE X.a X.b (nthW D k) = false)
    (ho : w'.ownsRow B2 71 3 v' ((insP X (D.take k)).1.length + 1) (icells (flatW (insP X (D.take k)).1 ++ [(nthW D k).a, (nthW D k).b, (nthW D k).w]))) :
    Put2 w2 w' v' B2 X D (k + 1) ∧ (insP X (D.take (k + 1))).2 = (insP X (D.take k)).2 := by
  have e : insP X (D.take (k + 1)) = ((insP X (D.take k)).1 ++ [nthW D k], (insP X (D.take k)).2) := by
    rw [take_snocW D k hk, insP_snoc]
    rcases hc with hc | hc
    · rw [if_pos hc, hc]
    · by_cases d : (insP X (D.take k)).2 = true
      · rw [if_pos d, d]
      · rw [if_neg d, if_neg (by simp [hc])]
        have : (insP X (D.take k)).2 = false := by simpa using d
        rw [this]
  refine ⟨⟨?_, Ge.mine (h.2.trans hg) (hg.owns h.1) hb hm⟩, by rw [e]⟩
  rw [e]
  simp only [flatW_snoc, List.length_append, List.length_singleton]
  exact ho
theorem Put2.two {w2 wr wr' wa w' : World} {v va v' : Value} {B2 : Nat} {X : Wr} {D : List Wr} {k : Nat} (h : Put2 w2 wr v B2 X D k) (hk : k < D.length) (hb : w2.heap.size ≤ B2) (hg : Ge wr wr') (hm : Mine wr' wa v) (hma : Mine wa w' va)
    (hc : (insP X (D.take k)).2 = false) (hc2 : gtE X.a X.b (nthW D k) = true)
    (hoa : wa.ownsRow B2 71 3 va ((insP X (D.take k)).1.length + 1) (icells (flatW (insP X (D.take k)).1 ++ [X.a, X.b, X.w])))
    (ho : w'.ownsRow B2 71 3 v' ((insP X (D.take k)).1.length + 1 + 1) (icells (flatW (insP X (D.take k)).1 ++ [X.a, X.b, X.w] ++ [(nthW D k).a, (nthW D k).b, (nthW D k).w]))) :
    Put2 w2 w' v' B2 X D (k + 1) ∧ (insP X (D.take (k + 1))).2 = true := by
  have e : insP X (D.take (k + 1)) = ((insP X (D.take k)).1 ++ [X, nthW D k], true) := by
    rw [take_snocW D k hk, insP_snoc, if_neg (by simp [hc]), if_pos hc2]
  refine ⟨⟨?_, Ge.mine (Ge.mine (h.2.trans hg) (hg.owns h.1) hb hm) hoa hb hma⟩, by rw [e]⟩
  rw [e]
  have e2 : (insP X (D.take k)).1 ++ [X, nthW D k] = ((insP X (D.take k)).1 ++ [X]) ++ [nthW D k] := by simp
  simp only
  rw [e2, flatW_snoc, flatW_snoc]
  simpa using ho
theorem Put2.done {w w2 wr : World} {v : Value} {X : Wr} {D : List Wr} {k : Nat} (h : Put2 w2 wr v w2.heap.size X D k) (hk : D.length = k) (hd : (insP X (D.take k)).2 = true) (hw : Ge w w2) : wr.ownsRow w.heap.size 71 3 v (insW X D).length (icells (flatW (insW X D))) ∧ Ge w wr := by
  rw [List.take_of_length_le (by omega)] at hd
  have e : insW X D = (insP X D).1 := by unfold insW; rw [if_pos hd]
  have h1 := h.1
  rw [List.take_of_length_le (by omega)] at h1
  rw [e]
  exact ⟨owns_mono h1 hw.size, hw.trans h.2⟩
theorem Put2.last {w w2 wr w' : World} {v v' : Value} {X : Wr} {D : List Wr} {k : Nat} (h : Put2 w2 wr v w2.heap.size X D k) (hk : D.length = k) (hd : (insP X (D.take k)).2 = false) (hw : Ge w w2) (hm : Mine wr w' v)
    (ho : w'.ownsRow w2.heap.size 71 3 v' ((insP X (D.take k)).1.length + 1) (icells (flatW (insP X (D.take k)).1 ++ [X.a, X.b, X.w]))) : w'.ownsRow w.heap.size 71 3 v' (insW X D).length (icells (flatW (insW X D))) ∧ Ge w w' := by
  rw [List.take_of_length_le (by omega)] at hd ho
  have e : insW X D = (insP X D).1 ++ [X] := by unfold insW; rw [if_neg (by simp [hd])]
  rw [e, flatW_snoc]
  refine ⟨owns_mono (by simpa using ho) hw.size, hw.trans (Ge.mine h.2 h.1 (Nat.le_refl _) hm)⟩
theorem drop_le (A B : Int) (l : List Wr) (k : Nat) (h : l.length ≤ 1000000) : (dropE A B (l.take k)).length ≤ 1000000 := by
  have h1 := dropE_len A B (l.take k)
  have h2 : (l.take k).length ≤ l.length := List.length_take_le' _ _
  omega
theorem ins_le (X : Wr) (D : List Wr) (k : Nat) (h : D.length ≤ 1000000) : (insP X (D.take k)).1.length ≤ 1000001 := by
  have h1 := insP_len X (D.take k)
  have h2 : (D.take k).length ≤ D.length := List.length_take_le' _ _
  split at h1 <;> omega

set_option maxHeartbeats 3200000 in
theorem sL03Put (v : Value) (l : List Wr) (a b x : Int) (add : Bool) (w : World) (hs : SlF w v l.length 3 (flatW l)) (hl : l.length ≤ 1000000)
    (hB : ∀ k, k ≤ l.length → -9000000000000000000 ≤ addS add (min a b) (max a b) x (l.take k) ∧ addS add (min a b) (max a b) x (l.take k) ≤ 9000000000000000000) :
    Calls Try.prog 32 #[v, .int .i64 a, .int .i64 b, .int .i64 x, .bool add] w fun e w' => ∃ u, e = .returned u ∧ (w'.ownsRow w.heap.size 71 3 u (putW l a b x add).length (icells (flatW (putW l a b x add))) ∧ Ge w w') := by
  have HPut : Hid (putW l a b x add = insW ⟨min a b, max a b, addS add (min a b) (max a b) x l⟩ (dropE (min a b) (max a b) l)) := rfl
  have HBd := Lib.hid hB
  obtain ⟨n, hn⟩ : ∃ n, l.length = n := ⟨_, rfl⟩
  have HN := Lib.hid hn
  rw [hn] at hl hs
  obtain ⟨p, cap, rfl, hc⟩ := hs.open
  have HC : Hid (∀ wr, Ge w wr → ∀ k, k < n → ∃ b o, p = some ⟨b, o, none⟩ ∧ wr.cell? ⟨b, o + k * 3, none⟩ = some (.int .i64 (nthW l k).a) ∧ wr.cell? ⟨b, o + k * 3 + 1, none⟩ = some (.int .i64 (nthW l k).b) ∧ wr.cell? ⟨b, o + k * 3 + 2, none⟩ = some (.int .i64 (nthW l k).w)) := fun wr g k hk => by
    obtain ⟨b, o, hp, c0, c1, c2⟩ := wire_cells hc hn hk
    exact ⟨b, o, hp, g.keep c0, g.keep c1, g.keep c2⟩
  have HSt := Lib.hid (Put1.start w (min a b) (max a b) x add l)
  clear hs hc hn hB
  go_enter Try.func32, Try.ntmps32
  go_wp2_with fail
  generalize min a b = A at *
  generalize max a b = B at *
  go_loopw [11, 29] (fun u i wr => ∃ k : Nat, k ≤ n ∧ i = .int .i64 k ∧ Hid (Put1 w wr u A B x add l k)) (fun _ i _ => n - (intOf i).toNat)
  case atStart => exact ⟨0, Nat.zero_le _, rfl, HSt.out⟩
  case round =>
    obtain ⟨k, hk, rfl, HP⟩ := hrel
    obtain ⟨h1, h2, h3, h4, h5, h6, h7, h8⟩ := HP.out
    have z1 : w.heap.size + 1 < wr.heap.size := by omega
    by_cases hlt : k < n
    · obtain ⟨b0, o0, rfl, c0, c1, c2⟩ := HC.out wr h8 k hlt
      have hkl : k < l.length := by rw [HN.out]; exact hlt
      cases he : isE A B (nthW l k) with
      | false =>
        have HApp := Lib.hid (fun wr' w' v' hg hm ho hb => Put1.app HP.out hkl he (wr' := wr') (w' := w') (v' := v') hg hm ho hb)
        have HD := Lib.hid (drop_le A B l k (by rw [HN.out]; exact hl))
        have hne : ¬ ((nthW l k).a = A ∧ (nthW l k).b = B) := fun h => by rw [isE_t h] at he; cases he
        generalize dropE A B (l.take k) = D at *
        generalize nthW l k = E at *
        generalize addS add A B x (l.take k) = Y at *
        obtain ⟨ea, eb, ew⟩ := E
        dsimp only at *
        generalize flatW D = FD at *
        generalize D.length = dn at *
        have ho := h1.alloc (.cells #[.int .i64 ea, .int .i64 eb, .int .i64 ew] 71)
        clear he hkl h1
        by_cases t1 : ea = A
        · have t2 : ¬ eb = B := fun h => hne ⟨t1, h⟩
          have q1 : (ea == A) = true := by simp [t1]
          have q2 : (eb == B) = false := by simp [t2]
          clear t1 t2 hne
          go_wp2_with (at_builtin; refine ap_wire rfl _ _ rfl w.heap.size _ _ _ rfl ho ea eb ew rfl (by simp) (by have := HD.out; omega) (by simp; omega) ?_; intro v' w6 own6 hm6 hb6)
          go_roundw
          case rel => exact ⟨k + 1, by omega, by go_num, HApp.out _ _ _ (Ge.alloc (Ge.refl _) _) hm6 own6 hb6⟩
          case measure => simp [intOf]; omega
        · have q1 : (ea == A) = false := by simp [t1]
          clear t1 hne
          go_wp2_with (at_builtin; refine ap_wire rfl _ _ rfl w.heap.size _ _ _ rfl ho ea eb ew rfl (by simp) (by have := HD.out; omega) (by simp; omega) ?_; intro v' w6 own6 hm6 hb6)
          go_roundw
          case rel => exact ⟨k + 1, by omega, by go_num, HApp.out _ _ _ (Ge.alloc (Ge.refl _) _) hm6 own6 hb6⟩
          case measure => simp [intOf]; omega
      | true =>
        obtain ⟨t1, t2⟩ := isE_of he
        have q1 : ((nthW l k).a == A) = true := by simp [t1]
        have q2 : ((nthW l k).b == B) = true := by simp [t2]
        cases add with
        | false =>
          have HSk := Lib.hid (fun wr' hg => Put1.skip HP.out hkl he (wr' := wr') hg)
          generalize nthW l k = E at *
          obtain ⟨ea, eb, ew⟩ := E
          dsimp only at *
          clear he hkl h1 t1 t2
          go_wp2_with fail
          go_roundw
          case rel => exact ⟨k + 1, by omega, by go_num, HSk.out _ (Ge.alloc (Ge.refl _) _)⟩
          case measure => simp [intOf]; omega
        | true =>
          have HPl := Lib.hid (fun wr' hg y hy => Put1.plus HP.out hkl he (wr' := wr') hg (y := y) hy)
          have b1 := HBd.out (k + 1) (by omega)
          rw [addS_in hkl he] at b1
          generalize addS true A B x (l.take k) = Y at *
          generalize nthW l k = E at *
          obtain ⟨ea, eb, ew⟩ := E
          dsimp only at *
          clear he hkl h1 t1 t2
          go_wp2_with fail
          go_roundw
          case rel => exact ⟨k + 1, by omega, by go_num, Put1.ge (HPl.out _ (Ge.refl _) _ rfl) (Ge.alloc (Ge.refl _) _)⟩
          case measure => simp [intOf]; omega
    · have hkn : k = n := by omega
      subst hkn
      rw [List.take_of_length_le (by rw [HN.out]; exact Nat.le_refl _)] at h1 h5
      have hdl := drop_le A B l l.length (by rw [HN.out]; exact hl)
      rw [List.take_of_length_le (Nat.le_refl _)] at hdl
      have HD := Lib.hid (fun kk => ins_le ⟨A, B, addS add A B x l⟩ (dropE A B l) kk hdl)
      generalize addS add A B x l = Y at *
      generalize dropE A B l = D at *
      have Hs1 := SlF.of_owns h1
      obtain ⟨d, hd⟩ : ∃ d, D.length = d := ⟨_, rfl⟩
      have HDn := Lib.hid hd
      rw [hd] at h1 Hs1 hdl
      obtain ⟨p2, cap2, rfl, hc2⟩ := Hs1.open
      have HC2 : Hid (∀ wq, Ge wr wq → ∀ k, k < d → ∃ b o, p2 = some ⟨b, o, none⟩ ∧ wq.cell? ⟨b, o + k * 3, none⟩ = some (.int .i64 (nthW D k).a) ∧ wq.cell? ⟨b, o + k * 3 + 1, none⟩ = some (.int .i64 (nthW D k).b) ∧ wq.cell? ⟨b, o + k * 3 + 2, none⟩ = some (.int .i64 (nthW D k).w)) := fun wq g k hk => by
        obtain ⟨b, o, hp, c0, c1, c2⟩ := wire_cells hc2 hd hk
        exact ⟨b, o, hp, g.keep c0, g.keep c1, g.keep c2⟩
      have HSt2 : Hid (Put2 wr (wr.alloc (.cells #[] 71)) (.slice (some ⟨wr.heap.size, 0, none⟩) 0 0) wr.heap.size ⟨A, B, Y⟩ D 0) := ⟨owns_lit0 _ _ _, Ge.alloc (Ge.refl _) _⟩
      clear h1 Hs1 hc2 hd h2 h6 HP HBd HC
      go_wp2_with fail
      obtain ⟨wo, hwo⟩ : ∃ wo : World, wo = wr := ⟨_, rfl⟩
      subst hwo
      go_loopw [11, 13, 61] (fun u dn i wr => ∃ k : Nat, k ≤ d ∧ i = .int .i64 k ∧ dn = .bool (insP ⟨A, B, Y⟩ (D.take k)).2 ∧ Hid (Put2 wo wr u wo.heap.size ⟨A, B, Y⟩ D k)) (fun _ _ i _ => d - (intOf i).toNat)
      case atStart => exact ⟨0, Nat.zero_le _, rfl, rfl, HSt2.out⟩
      case round =>
        obtain ⟨k, hk2, rfl, rfl, HP2⟩ := hrel
        obtain ⟨g1, g2⟩ := HP2.out
        have x0 := g2.keep h3
        have x1 := g2.keep h4
        have x2 := g2.keep h5
        have z2 : w.heap.size + 1 < wr.heap.size := Nat.lt_of_lt_of_le z1 g2.size
        have z3 := g2.size
        have HI := Lib.hid (HD.out k)
        by_cases hlt2 : k < d
        · obtain ⟨b1, o1, rfl, c0, c1, c2⟩ := HC2.out wr g2 k hlt2
          have hkd : k < D.length := by rw [HDn.out]; exact hlt2
          cases hdn : (insP ⟨A, B, Y⟩ (D.take k)).2 with
          | true =>
            have HOne := Lib.hid (fun wr' w' v' hg hm ho => Put2.one HP2.out hkd (Nat.le_refl _) (wr' := wr') (w' := w') (v' := v') hg hm (Or.inl hdn) ho)
            rw [hdn] at HOne
            generalize nthW D k = E at *
            obtain ⟨ea, eb, ew⟩ := E
            dsimp only at *
            generalize (insP ⟨A, B, Y⟩ (D.take k)).1.length = il at *
            generalize flatW (insP ⟨A, B, Y⟩ (D.take k)).1 = FI at *
            have ho1 := g1.alloc (.cells #[.int .i64 ea, .int .i64 eb, .int .i64 ew] 71)
            clear hkd hdn g1
            go_wp2_with (at_builtin; refine ap_wire rfl _ _ rfl wo.heap.size _ _ _ rfl ho1 ea eb ew rfl (by simp) (by have := HI.out; omega) (by simp; omega) ?_; intro v' w6 own6 hm6 hb6)
            go_roundw
            case rel => exact ⟨k + 1, by omega, by go_num, by rw [(HOne.out _ _ _ (Ge.alloc (Ge.refl _) _) hm6 own6).2], (HOne.out _ _ _ (Ge.alloc (Ge.refl _) _) hm6 own6).1⟩
            case measure => simp [intOf]; omega
          | false =>
            cases hg : gtE A B (nthW D k) with
            | false =>
              have HOne := Lib.hid (fun wr' w' v' hg1 hm ho => Put2.one HP2.out hkd (Nat.le_refl _) (wr' := wr') (w' := w') (v' := v') hg1 hm (Or.inr hg) ho)
              rw [hdn] at HOne
              have hng : ¬ (A < (nthW D k).a ∨ (nthW D k).a = A ∧ B < (nthW D k).b) := fun h => by rw [gtE_t h] at hg; cases hg
              generalize nthW D k = E at *
              obtain ⟨ea, eb, ew⟩ := E
              dsimp only at *
              generalize (insP ⟨A, B, Y⟩ (D.take k)).1.length = il at *
              generalize flatW (insP ⟨A, B, Y⟩ (D.take k)).1 = FI at *
              have ho1 := g1.alloc (.cells #[.int .i64 ea, .int .i64 eb, .int .i64 ew] 71)
              have q1 : decide (A < ea) = false := by simp; omega
              have q1' : ¬ A < ea := by omega
              clear hkd hdn g1 hg
              by_cases t1 : ea = A
              · have q2 : (ea == A) = true := by simp [t1]
                have q3 : decide (B < eb) = false := by simp; omega
                have q3' : ¬ B < eb := by omega
                clear t1 hng
                go_wp2_with (at_builtin; refine ap_wire rfl _ _ rfl wo.heap.size _ _ _ rfl ho1 ea eb ew rfl (by simp) (by have := HI.out; omega) (by simp; omega) ?_; intro v' w6 own6 hm6 hb6)
                go_roundw
                case rel => exact ⟨k + 1, by omega, by go_num, by rw [(HOne.out _ _ _ (Ge.alloc (Ge.refl _) _) hm6 own6).2], (HOne.out _ _ _ (Ge.alloc (Ge.refl _) _) hm6 own6).1⟩
                case measure => simp [intOf]; omega
              · have q2 : (ea == A) = false := by simp [t1]
                clear t1 hng
                go_wp2_with (at_builtin; refine ap_wire rfl _ _ rfl wo.heap.size _ _ _ rfl ho1 ea eb ew rfl (by simp) (by have := HI.out; omega) (by simp; omega) ?_; intro v' w6 own6 hm6 hb6)
                go_roundw
                case rel => exact ⟨k + 1, by omega, by go_num, by rw [(HOne.out _ _ _ (Ge.alloc (Ge.refl _) _) hm6 own6).2], (HOne.out _ _ _ (Ge.alloc (Ge.refl _) _) hm6 own6).1⟩
                case measure => simp [intOf]; omega
            | true =>
              have HTwo := Lib.hid (fun wr' wa w' va v' hg1 hm hma hoa ho => Put2.two HP2.out hkd (Nat.le_refl _) (wr' := wr') (wa := wa) (w' := w') (va := va) (v' := v') hg1 hm hma hdn hg hoa ho)
              have hyg := gtE_of hg
              generalize nthW D k = E at *
              obtain ⟨ea, eb, ew⟩ := E
              dsimp only at *
              generalize (insP ⟨A, B, Y⟩ (D.take k)).1.length = il at *
              generalize flatW (insP ⟨A, B, Y⟩ (D.take k)).1 = FI at *
              have ho1 := g1.alloc (.cells #[.int .i64 ea, .int .i64 eb, .int .i64 ew] 71)
              have NB := Lib.hid (behind_row g1 (Nat.le_refl _))
              have E0 : Hid ((wr.alloc (.cells #[.int .i64 ea, .int .i64 eb, .int .i64 ew] 71)).cell? ⟨wr.heap.size, 0, none⟩ = some (.int .i64 ea)) := cell_new rfl rfl
              have E1 : Hid ((wr.alloc (.cells #[.int .i64 ea, .int .i64 eb, .int .i64 ew] 71)).cell? ⟨wr.heap.size, 1, none⟩ = some (.int .i64 eb)) := cell_new rfl rfl
              have E2 : Hid ((wr.alloc (.cells #[.int .i64 ea, .int .i64 eb, .int .i64 ew] 71)).cell? ⟨wr.heap.size, 2, none⟩ = some (.int .i64 ew)) := cell_new rfl rfl
              clear hkd hdn g1 hg
              by_cases t0 : A < ea
              · have q1 : decide (A < ea) = true := by simp [t0]
                clear hyg
                go_wp2_with (first
                  | (at_builtin; refine ap_wire rfl _ _ rfl wo.heap.size _ _ _ rfl ho1 A B Y rfl (by simp) (by have := HI.out; omega) (by simp; omega) ?_; intro va wa owna hma hba; clear ho1; have e0 := mine_cell hma E0.out NB.out; have e1 := mine_cell hma E1.out NB.out; have e2 := mine_cell hma E2.out NB.out; have za : wo.heap.size ≤ wa.heap.size := by (have := World.grownBy.size hma; simp at this; omega))
                  | (at_builtin; refine ap_wire rfl _ _ rfl wo.heap.size _ _ _ rfl owna ea eb ew rfl rfl (by have := HI.out; omega) za ?_; intro v' w6 own6 hm6 hb6))
                go_roundw
                case rel => exact ⟨k + 1, by omega, by go_num, by rw [(HTwo.out _ _ _ _ _ (Ge.alloc (Ge.refl _) _) hma hm6 owna own6).2], (HTwo.out _ _ _ _ _ (Ge.alloc (Ge.refl _) _) hma hm6 owna own6).1⟩
                case measure => simp [intOf]; omega
              · have q1 : decide (A < ea) = false := by simp; omega
                obtain ⟨t1, t2⟩ : ea = A ∧ B < eb := by omega
                have q2 : (ea == A) = true := by simp [t1]
                have q3 : decide (B < eb) = true := by simp [t2]
                clear hyg t1
                go_wp2_with (first
                  | (at_builtin; refine ap_wire rfl _ _ rfl wo.heap.size _ _ _ rfl ho1 A B Y rfl (by simp) (by have := HI.out; omega) (by simp; omega) ?_; intro va wa owna hma hba; clear ho1; have e0 := mine_cell hma E0.out NB.out; have e1 := mine_cell hma E1.out NB.out; have e2 := mine_cell hma E2.out NB.out; have za : wo.heap.size ≤ wa.heap.size := by (have := World.grownBy.size hma; simp at this; omega))
                  | (at_builtin; refine ap_wire rfl _ _ rfl wo.heap.size _ _ _ rfl owna ea eb ew rfl rfl (by have := HI.out; omega) za ?_; intro v' w6 own6 hm6 hb6))
                go_roundw
                case rel => exact ⟨k + 1, by omega, by go_num, by rw [(HTwo.out _ _ _ _ _ (Ge.alloc (Ge.refl _) _) hma hm6 owna own6).2], (HTwo.out _ _ _ _ _ (Ge.alloc (Ge.refl _) _) hma hm6 owna own6).1⟩
                case measure => simp [intOf]; omega
        · have hkn : k = d := by omega
          subst hkn
          cases hdn : (insP ⟨A, B, Y⟩ (D.take k)).2 with
          | true =>
            have HF := Lib.hid (Put2.done HP2.out HDn.out hdn h8)
            clear hdn g1
            go_wp2_with fail
            go_ret
            exact ⟨_, rfl, by rw [HPut.out]; exact HF.out⟩
          | false =>
            have HLast := Lib.hid (fun w' v' hm ho => Put2.last HP2.out HDn.out hdn h8 (w' := w') (v' := v') hm ho)
            generalize (insP ⟨A, B, Y⟩ (D.take k)).1.length = il at *
            generalize flatW (insP ⟨A, B, Y⟩ (D.take k)).1 = FI at *
            clear hdn
            go_wp2_with (at_builtin; refine ap_wire rfl _ _ rfl wo.heap.size _ _ _ rfl g1 A B Y rfl rfl (by have := HI.out; omega) z3 ?_; intro v' w6 own6 hm6 hb6)
            go_ret
            exact ⟨_, rfl, by rw [HPut.out]; exact HLast.out _ _ hm6 own6⟩
end Go.Proofs.Ytenfkpdbfmeebaa
