/- l03Put of the reference: a wire put into a list of wires. No condition. A network in a variable of the call's own. No condition. Plain law: tree and forest sums of a network in which every node but the first has a wire down. No program in sight. Plain law: wires put into a list in order; what the draws make is a valid network. No program in sight. l03Draw and MakeNet of the reference: what they make is a network as PlDraw tells. No condition. -/
import Derived.Test.YtfhhgonoddedlaaPlPut
import Derived.Test.YtfhhgonoddedlaaWRes
import Derived.Test.YtfhhgonoddedlaaWFlat
import Derived.Test.YtfhhgonoddedlaaWEqInt
import Derived.Test.YtfhhgonoddedlaaWDet0
import Derived.Test.YtfhhgonoddedlaaWLaw
import Derived.Test.YtfhhgonoddedlaaJFor
import Derived.Test.YtfhhgonoddedlaaWTail
import Derived.Test.YtfhhgonoddedlaaWCur
import Derived.Maps.AppendAt
namespace Go.Proofs.Ytfhhgonoddedlaa
set_option maxRecDepth 100000
open Go.ChangeShapes Go.WideShapes Go.ChangeAt Go.RowKit Go.Joins

theorem inf_Wire3 : (Try.prog.info? 81).map (fun i => (i.zero, i.size, i.bytes)) = some (some (Value.agg #[.int .i64 0, .int .i64 0, .int .i64 0]), 3, 24) := by kernel_rfl
theorem ap_wire {w : World} {ops : Array Oper} {rest : List Oper} {o : Oper} {a : Act} {Q : Exit → Act → World → Prop} (hgd : o.guard = none) (s x : Operand)
    (ho : o.op = .call { callee := .builtin .append, args := #[s, x], argTypes := #[34, 34] })
    (base : Nat) (v : Value) (n : Nat) (l : List Int) (hs : a.eval s = v) (hown : w.ownsRow base 81 3 v n (icells l))
    (y1 y2 y3 : Int) {b0 : Nat} (hx : a.eval x = .slice (some ⟨b0, 0, none⟩) 1 1) (hb0 : b0 = w.heap.size) (hn : n < 1099511627776) (hbase : base ≤ w.heap.size)
    (h : ∀ v' w', w'.ownsRow base 81 3 v' (n + 1) (icells (l ++ [y1, y2, y3])) → Mine w w' v → (v'.ownBlock = v.ownBlock ∨ ∃ b, v'.ownBlock = some b ∧ w.heap.size ≤ b) → wpList Try.prog ops Q rest (a.put o.dst v') w') :
    wpList Try.prog ops Q (o :: rest) a (w.alloc (.cells #[.int .i64 y1, .int .i64 y2, .int .i64 y3] 81)) := by
  subst hb0
  obtain ⟨i, hi1, hi2, hi3, hi4⟩ := info_parts inf_Wire3
  refine Go.wpList_append_own_at _ hgd s x 34 ho base 81 i _ 3 24 Try.underlying34 hi1 hi2 hi3 hi4 rfl (by decide) v n (icells l) hs (hown.alloc _) ⟨w.heap.size, 0, none⟩ 1 1 [.int .i64 y1, .int .i64 y2, .int .i64 y3] hx rfl ?_ (by simp [Value.oneCell']) (by unfold maxLen; omega) ?_ (by simp; omega) ?_
  · intro j u hu
    have hadd : (⟨w.heap.size, 0, none⟩ : Addr).add j = ⟨w.heap.size, j, none⟩ := by unfold Addr.add; split <;> simp_all
    rw [hadd, cell_of_row (w.alloc (.cells #[.int .i64 y1, .int .i64 y2, .int .i64 y3] 81)) w.heap.size j _ _ (0, 0) (heap_alloc_new w _)]
    simpa using hu
  · have : (n + 1) * 24 ≤ (n + 1) * 100 := Nat.mul_le_mul_left _ (by decide)
    omega
  · intro v' w' h2 h3 _ h5
    refine h v' w' (by simpa [icells] using h2) (Mine.alloc _ h3) ?_
    rcases h5 with h5 | h5
    · exact .inl h5
    · exact .inr ⟨_, h5, by simp⟩
theorem grown_setN (w : World) (b o : Nat) (x : Value) : w.grownBy (w.setCell ⟨b, o, none⟩ x) (some b) := by
  refine ⟨rfl, rfl, rfl, by simp, fun k _ hne => ?_⟩
  have : b ≠ k := fun e => hne (by rw [e])
  simp [World.setCell, Array.getElem?_modify, this]
theorem mine_frozN {w w' : World} {v : Value} (hm : Mine w w' v) {a : Addr} {u : Value} (h : w.cell? a = some u) (hf : w.frozen? a = false) (hne : ∀ k, v.ownBlock = some k → a.block ≠ k) : w'.frozen? a = false := by
  rw [World.frozen?_of_block (World.grownBy.block hm a.block (World.block_lt_of_cell? _ _ h) (fun e => hne _ e.symm rfl))]
  exact hf
/-- The row's block is the first, or a late one. -/
def Blk (v : Value) (z a : Nat) : Prop := v.ownBlock = some z ∨ ∃ b, v.ownBlock = some b ∧ a ≤ b
theorem Blk.next {v v' : Value} {z a b : Nat} (h : Blk v z a) (hz : a ≤ b) (h2 : v'.ownBlock = v.ownBlock ∨ ∃ c, v'.ownBlock = some c ∧ b ≤ c) : Blk v' z a := by
  rcases h2 with h2 | ⟨c, h2, h3⟩
  · unfold Blk; rw [h2]; exact h
  · exact Or.inr ⟨c, h2, by omega⟩
theorem Blk.ne {v : Value} {z a g : Nat} (h : Blk v z a) (h1 : z < g) (h2 : g < a) : ∀ k, v.ownBlock = some k → g ≠ k := fun k hk e => by
  rcases h with h | ⟨b, h, h3⟩
  · rw [h] at hk; cases hk; omega
  · rw [h] at hk; cases hk; omega
theorem flatW_snoc (l : List Wr) (e : Wr) : flatW (l ++ [e]) = flatW l ++ [e.a, e.b, e.w] := by rw [flatW_append]; rfl
theorem take_snocW (l : List Wr) (k : Nat) (h : k < l.length) : l.take (k + 1) = l.take k ++ [nthW l k] := by
  rw [List.take_succ_eq_append_getElem h, nthW_eq l k h]
theorem wire_cells {w : World} {p : Option Addr} {l : List Wr} {n : Nat} (h : ∀ i, i < n * 3 → ∃ b o, p = some ⟨b, o, none⟩ ∧ w.cell? ⟨b, o + i, none⟩ = some (.int .i64 (nth (flatW l) i))) (hn : l.length = n) {k : Nat} (hk : k < n) :
    ∃ b o, p = some ⟨b, o, none⟩ ∧ w.cell? ⟨b, o + k * 3, none⟩ = some (.int .i64 (nthW l k).a) ∧ w.cell? ⟨b, o + k * 3 + 1, none⟩ = some (.int .i64 (nthW l k).b) ∧ w.cell? ⟨b, o + k * 3 + 2, none⟩ = some (.int .i64 (nthW l k).w) := by
  obtain ⟨b, o, hp, c0, c1, c2⟩ := three_cells h hk
  obtain ⟨e0, e1, e2⟩ := flatW_get l k (by omega)
  unfold nth at c0 c1 c2
  rw [e0] at c0
  rw [e1] at c1
  rw [e2] at c2
  exact ⟨b, o, hp, c0, c1, c2⟩
/-- The weight so far. -/
def addS (add : Bool) (A B x : Int) (l : List Wr) : Int := x + (if add = true then sameS A B l else 0)
/-- The first loop of l03Put: what stands behind k rounds. -/
def Put1 (w wr : World) (v : Value) (A B x : Int) (add : Bool) (l : List Wr) (k : Nat) : Prop :=
  wr.ownsRow w.heap.size 81 3 v (dropE A B (l.take k)).length (icells (flatW (dropE A B (l.take k)))) ∧ Blk v w.heap.size (w.heap.size + 2) ∧
  wr.cell? ⟨w.heap.size + 1, 0, none⟩ = some (.int .i64 A) ∧ wr.cell? ⟨w.heap.size + 1, 1, none⟩ = some (.int .i64 B) ∧ wr.cell? ⟨w.heap.size + 1, 2, none⟩ = some (.int .i64 (addS add A B x (l.take k))) ∧
  wr.frozen? ⟨w.heap.size + 1, 2, none⟩ = false ∧ w.heap.size + 2 ≤ wr.heap.size ∧ Ge w wr
theorem Put1.start (w : World) (A B x : Int) (add : Bool) (l : List Wr) : Put1 w ((w.alloc (.cells #[] 81)).alloc (.cells #[.int .i64 A, .int .i64 B, .int .i64 x] 81)) (.slice (some ⟨w.heap.size, 0, none⟩) 0 0) A B x add l 0 := by
  have e : w.heap.size + 1 = (w.alloc (.cells #[] 81)).heap.size := by simp
  refine ⟨Ge.owns (Ge.alloc (Ge.refl _) _) (owns_lit0 _ _ _), Or.inl rfl, cell_new e rfl, cell_new e rfl, ?_, froz_new (v := .int .i64 x) e rfl, by simp, Ge.alloc (Ge.alloc (Ge.refl _) _) _⟩
  have : addS add A B x (l.take 0) = x := by unfold addS; simp [sameS]
  rw [this]
  exact cell_new e rfl
theorem drop_in {A B : Int} {l : List Wr} {k : Nat} (hk : k < l.length) (h : isE A B (nthW l k) = true) : dropE A B (l.take (k + 1)) = dropE A B (l.take k) := by
  rw [take_snocW l k hk, dropE_snoc, if_pos h]
theorem drop_out {A B : Int} {l : List Wr} {k : Nat} (hk : k < l.length) (h : isE A B (nthW l k) = false) : dropE A B (l.take (k + 1)) = dropE A B (l.take k) ++ [nthW l k] := by
  rw [take_snocW l k hk, dropE_snoc, if_neg (by simp [h])]
theorem addS_in {A B x : Int} {l : List Wr} {k : Nat} (hk : k < l.length) (h : isE A B (nthW l k) = true) : addS true A B x (l.take (k + 1)) = addS true A B x (l.take k) + (nthW l k).w := by
  unfold addS
  rw [if_pos rfl, if_pos rfl, take_snocW l k hk, sameS_snoc, if_pos h]; omega
theorem addS_out {A B x : Int} {add : Bool} {l : List Wr} {k : Nat} (hk : k < l.length) (h : isE A B (nthW l k) = false) : addS add A B x (l.take (k + 1)) = addS add A B x (l.take k) := by
  unfold addS
  rw [take_snocW l k hk, sameS_snoc, h]; simp
/-- A round that leaves the list as it is, no weight is added. -/
theorem Put1.skip {w wr : World} {v : Value} {A B x : Int} {l : List Wr} {k : Nat} (h : Put1 w wr v A B x false l k) (hk : k < l.length) (he : isE A B (nthW l k) = true) {wr' : World} (hg : Ge wr wr') : Put1 w wr' v A B x false l (k + 1) := by
  obtain ⟨h1, h2, h3, h4, h5, h6, h7, h8⟩ := h
  refine ⟨by rw [drop_in hk he]; exact hg.owns h1, h2, hg.keep h3, hg.keep h4, ?_, hg.keepF h5 h6, Nat.le_trans h7 hg.size, h8.trans hg⟩
  have e : addS false A B x (l.take (k + 1)) = addS false A B x (l.take k) := by unfold addS; simp
  rw [e]; exact hg.keep h5
/-- A round that adds a weight. -/
theorem Put1.plus {w wr : World} {v : Value} {A B x : Int} {l : List Wr} {k : Nat} (h : Put1 w wr v A B x true l k) (hk : k < l.length) (he : isE A B (nthW l k) = true) {wr' : World} (hg : Ge wr wr') {y : Int} (hy : y = addS true A B x (l.take k) + (nthW l k).w) :
    Put1 w (wr'.setCell ⟨w.heap.size + 1, 2, none⟩ (.int .i64 y)) v A B x true l (k + 1) := by
  obtain ⟨h1, h2, h3, h4, h5, h6, h7, h8⟩ := h
  refine ⟨?_, h2, cell_set2 (by simp) (hg.keep h3), cell_set2 (by simp) (hg.keep h4), ?_, froz_set (hg.keepF h5 h6), by simpa using Nat.le_trans h7 hg.size, Ge.setCell (h8.trans hg) (by simp) _⟩
  · rw [drop_in hk he]
    have h1' := hg.owns h1
    refine h1'.kept (grown_setN wr' (w.heap.size + 1) 2 (.int .i64 y)) ?_
    cases hv : v.ownBlock with
    | none => exact .inl rfl
    | some c => exact .inr (fun e => h2.ne (g := w.heap.size + 1) (by omega) (by omega) c hv (by simpa using e.symm))
  · rw [addS_in hk he, ← hy]
    exact World.cell?_setCell_same _ _ _ (hg.keep h5)
theorem Put1.ge {w wr wr' : World} {v : Value} {A B x : Int} {add : Bool} {l : List Wr} {k : Nat} (h : Put1 w wr v A B x add l k) (hg : Ge wr wr') : Put1 w wr' v A B x add l k := by
  obtain ⟨h1, h2, h3, h4, h5, h6, h7, h8⟩ := h
  exact ⟨hg.owns h1, h2, hg.keep h3, hg.keep h4, hg.keep h5, hg.keepF h5 h6, Nat.le_trans h7 hg.size, h8.trans hg⟩
/-- A round that appends the wire. -/
theorem Put1.app {w wr : World} {v : Value} {A B x : Int} {add : Bool} {l : List Wr} {k : Nat} (h : Put1 w wr v A B x add l k) (hk : k < l.length) (he : isE A B (nthW l k) = false) {wr' w' : World} {v' : Value} (hg : Ge wr wr') (hm : Mine wr' w' v)
    (ho : w'.ownsRow w.heap.size 81 3 v' ((dropE A B (l.take k)).length + 1) (icells (flatW (dropE A B (l.take k)) ++ [(nthW l k).a, (nthW l k).b, (nthW l k).w])))
    (hb : v'.ownBlock = v.ownBlock ∨ ∃ b, v'.ownBlock = some b ∧ wr'.heap.size ≤ b) : Put1 w w' v' A B x add l (k + 1) := by
  obtain ⟨h1, h2, h3, h4, h5, h6, h7, h8⟩ := h
  have ne := h2.ne (g := w.heap.size + 1) (by omega) (by omega)
  have z := hg.size
  refine ⟨?_, h2.next (by omega) hb, mine_cell hm (hg.keep h3) ne, mine_cell hm (hg.keep h4) ne, ?_, ?_, Nat.le_trans h7 (Nat.le_trans z (World.grownBy.size hm)), Ge.mine (h8.trans hg) (hg.owns h1) (Nat.le_refl _) hm⟩
  · rw [drop_out hk he, flatW_snoc]
    simpa using ho
  · rw [addS_out hk he]; exact mine_cell hm (hg.keep h5) ne
  · exact mine_frozN hm (hg.keep h5) (hg.keepF h5 h6) ne
/-- The second loop: what stands behind k rounds. -/
def Put2 (w2 wr : World) (v : Value) (B2 : Nat) (X : Wr) (D : List Wr) (k : Nat) : Prop :=
  wr.ownsRow B2 81 3 v (insP X (D.take k)).1.length (icells (flatW (insP X (D.take k)).1)) ∧ Ge w2 wr
theorem Put2.one {w2 wr wr' w' : World} {v v' : Value} {B2 : Nat} {X : Wr} {D : List Wr} {k : Nat} (h : Put2 w2 wr v B2 X D k) (hk : k < D.length) (hb : w2.heap.size ≤ B2) (hg : Ge wr wr') (hm : Mine wr' w' v)
    (hc : (insP X (D.take k)).2 = true ∨ gtE X.a X.b (nthW D k) = false)
    (ho : w'.ownsRow B2 81 3 v' ((insP X (D.take k)).1.length + 1) (icells (flatW (insP X (D.take k)).1 ++ [(nthW D k).a, (nthW D k).b, (nthW D k).w]))) :
    Put2 w2 w' v' B2 X D (k + 1) ∧ (insP X (D.take (k + 1))).2 = (insP X (D.take k)).2 := by
  have e : insP X (D.take (k + 1)) = ((insP X (D.take k)).1 ++ [nthW D k], (insP X (D.take k)).2) := by
    rw [take_snocW D k hk, insP_snoc]
    rcases hc with hc | hc
    · rw [if_pos hc, hc]
    · by_cases d : (insP X (D.take k)).2 = true
      · rw [if_pos d, d]
      · rw [if_neg d, if_neg (by simp [hc])]
        have : (insP X (D.take k)).2 = false := by simpa using d
        rw [this]
  refine ⟨⟨?_, Ge.mine (h.2.trans hg) (hg.owns h.1) hb hm⟩, by rw [e]⟩
  rw [e]
  simp only [flatW_snoc, List.length_append, List.length_singleton]
  exact ho
theorem Put2.two {w2 wr wr' wa w' : World} {v va v' : Value} {B2 : Nat} {X : Wr} {D : List Wr} {k : Nat} (h : Put2 w2 wr v B2 X D k) (hk : k < D.length) (hb : w2.heap.size ≤ B2) (hg : Ge wr wr') (hm : Mine wr' wa v) (hma : Mine wa w' va)
    (hc : (insP X (D.take k)).2 = false) (hc2 : gtE X.a X.b (nthW D k) = true)
    (hoa : wa.ownsRow B2 81 3 va ((insP X (D.take k)).1.length + 1) (icells (flatW (insP X (D.take k)).1 ++ [X.a, X.b, X.w])))
    (ho : w'.ownsRow B2 81 3 v' ((insP X (D.take k)).1.length + 1 + 1) (icells (flatW (insP X (D.take k)).1 ++ [X.a, X.b, X.w] ++ [(nthW D k).a, (nthW D k).b, (nthW D k).w]))) :
    Put2 w2 w' v' B2 X D (k + 1) ∧ (insP X (D.take (k + 1))).2 = true := by
  have e : insP X (D.take (k + 1)) = ((insP X (D.take k)).1 ++ [X, nthW D k], true) := by
    rw [take_snocW D k hk, insP_snoc, if_neg (by simp [hc]), if_pos hc2]
  refine ⟨⟨?_, Ge.mine (Ge.mine (h.2.trans hg) (hg.owns h.1) hb hm) hoa hb hma⟩, by rw [e]⟩
  rw [e]
  have e2 : (insP X (D.take k)).1 ++ [X, nthW D k] = ((insP X (D.take k)).1 ++ [X]) ++ [nthW D k] := by simp
  simp only
  rw [e2, flatW_snoc, flatW_snoc]
  simpa using ho
theorem Put2.done {w w2 wr : World} {v : Value} {X : Wr} {D : List Wr} {k : Nat} (h : Put2 w2 wr v w2.heap.size X D k) (hk : D.length = k) (hd : (insP X (D.take k)).2 = true) (hw : Ge w w2) : wr.ownsRow w.heap.size 81 3 v (insW X D).length (icells (flatW (insW X D))) ∧ Ge w wr := by
  rw [List.take_of_length_le (by omega)] at hd
  have e : insW X D = (insP X D).1 := by unfold insW; rw [if_pos hd]
  have h1 := h.1
  rw [List.take_of_length_le (by omega)] at h1
  rw [e]
  exact ⟨owns_mono h1 hw.size, hw.trans h.2⟩
theorem Put2.last {w w2 wr w' : World} {v v' : Value} {X : Wr} {D : List Wr} {k : Nat} (h : Put2 w2 wr v w2.heap.size X D k) (hk : D.length = k) (hd : (insP X (D.take k)).2 = false) (hw : Ge w w2) (hm : Mine wr w' v)
    (ho : w'.ownsRow w2.heap.size 81 3 v' ((insP X (D.take k)).1.length + 1) (icells (flatW (insP X (D.take k)).1 ++ [X.a, X.b, X.w]))) : w'.ownsRow w.heap.size 81 3 v' (insW X D).length (icells (flatW (insW X D))) ∧ Ge w w' := by
  rw [List.take_of_length_le (by omega)] at hd ho
  have e : insW X D = (insP X D).1 ++ [X] := by unfold insW; rw [if_neg (by simp [hd])]
  rw [e, flatW_snoc]
  refine ⟨owns_mono (by simpa using ho) hw.size, hw.trans (Ge.mine h.2 h.1 (Nat.le_refl _) hm)⟩
theorem drop_le (A B : Int) (l : List Wr) (k : Nat) (h : l.length ≤ 1000000) : (dropE A B (l.take k)).length ≤ 1000000 := by
  have h1 := dropE_len A B (l.take k)
  have h2 : (l.take k).length ≤ l.length := List.length_take_le' _ _
  omega
theorem ins_le (X : Wr) (D : List Wr) (k : Nat) (h : D.length ≤ 1000000) : (insP X (D.take k)).1.length ≤ 1000001 := by
  have h1 := insP_len X (D.take k)
  have h2 : (D.take k).length ≤ D.length := List.length_take_le' _ _
  split at h1 <;> omega

set_option maxHeartbeats 3200000 in
theorem sL03Put (v : Value) (l : List Wr) (a b x : Int) (add : Bool) (w : World) (hs : SlF w v l.length 3 (flatW l)) (hl : l.length ≤ 1000000)
    (hB : ∀ k, k ≤ l.length → -9000000000000000000 ≤ addS add (min a b) (max a b) x (l.take k) ∧ addS add (min a b) (max a b) x (l.take k) ≤ 9000000000000000000) :
    Calls Try.prog 83 #[v, .int .i64 a, .int .i64 b, .int .i64 x, .bool add] w fun e w' => ∃ u, e = .returned u ∧ (w'.ownsRow w.heap.size 81 3 u (putW l a b x add).length (icells (flatW (putW l a b x add))) ∧ Ge w w') := by
  have HPut : Hid (putW l a b x add = insW ⟨min a b, max a b, addS add (min a b) (max a b) x l⟩ (dropE (min a b) (max a b) l)) := rfl
  have HBd := Lib.hid hB
  obtain ⟨n, hn⟩ : ∃ n, l.length = n := ⟨_, rfl⟩
  have HN := Lib.hid hn
  rw [hn] at hl hs
  obtain ⟨p, cap, rfl, hc⟩ := hs.open
  have HC : Hid (∀ wr, Ge w wr → ∀ k, k < n → ∃ b o, p = some ⟨b, o, none⟩ ∧ wr.cell? ⟨b, o + k * 3, none⟩ = some (.int .i64 (nthW l k).a) ∧ wr.cell? ⟨b, o + k * 3 + 1, none⟩ = some (.int .i64 (nthW l k).b) ∧ wr.cell? ⟨b, o + k * 3 + 2, none⟩ = some (.int .i64 (nthW l k).w)) := fun wr g k hk => by
    obtain ⟨b, o, hp, c0, c1, c2⟩ := wire_cells hc hn hk
    exact ⟨b, o, hp, g.keep c0, g.keep c1, g.keep c2⟩
  have HSt := Lib.hid (Put1.start w (min a b) (max a b) x add l)
  clear hs hc hn hB
  go_enter Try.func83, Try.ntmps83
  go_wp2_with fail
  generalize min a b = A at *
  generalize max a b = B at *
  go_loopw [11, 29] (fun u i wr => ∃ k : Nat, k ≤ n ∧ i = .int .i64 k ∧ Hid (Put1 w wr u A B x add l k)) (fun _ i _ => n - (intOf i).toNat)
  case atStart => exact ⟨0, Nat.zero_le _, rfl, HSt.out⟩
  case round =>
    obtain ⟨k, hk, rfl, HP⟩ := hrel
    obtain ⟨h1, h2, h3, h4, h5, h6, h7, h8⟩ := HP.out
    have z1 : w.heap.size + 1 < wr.heap.size := by omega
    by_cases hlt : k < n
    · obtain ⟨b0, o0, rfl, c0, c1, c2⟩ := HC.out wr h8 k hlt
      have hkl : k < l.length := by rw [HN.out]; exact hlt
      cases he : isE A B (nthW l k) with
      | false =>
        have HApp := Lib.hid (fun wr' w' v' hg hm ho hb => Put1.app HP.out hkl he (wr' := wr') (w' := w') (v' := v') hg hm ho hb)
        have HD := Lib.hid (drop_le A B l k (by rw [HN.out]; exact hl))
        have hne : ¬ ((nthW l k).a = A ∧ (nthW l k).b = B) := fun h => by rw [isE_t h] at he; cases he
        generalize dropE A B (l.take k) = D at *
        generalize nthW l k = E at *
        generalize addS add A B x (l.take k) = Y at *
        obtain ⟨ea, eb, ew⟩ := E
        dsimp only at *
        generalize flatW D = FD at *
        generalize D.length = dn at *
        have ho := h1.alloc (.cells #[.int .i64 ea, .int .i64 eb, .int .i64 ew] 81)
        clear he hkl h1
        by_cases t1 : ea = A
        · have t2 : ¬ eb = B := fun h => hne ⟨t1, h⟩
          have q1 : (ea == A) = true := by simp [t1]
          have q2 : (eb == B) = false := by simp [t2]
          clear t1 t2 hne
          go_wp2_with (at_builtin; refine ap_wire rfl _ _ rfl w.heap.size _ _ _ rfl ho ea eb ew rfl (by simp) (by have := HD.out; omega) (by simp; omega) ?_; intro v' w6 own6 hm6 hb6)
          go_roundw
          case rel => exact ⟨k + 1, by omega, by go_num, HApp.out _ _ _ (Ge.alloc (Ge.refl _) _) hm6 own6 hb6⟩
          case measure => simp [intOf]; omega
        · have q1 : (ea == A) = false := by simp [t1]
          clear t1 hne
          go_wp2_with (at_builtin; refine ap_wire rfl _ _ rfl w.heap.size _ _ _ rfl ho ea eb ew rfl (by simp) (by have := HD.out; omega) (by simp; omega) ?_; intro v' w6 own6 hm6 hb6)
          go_roundw
          case rel => exact ⟨k + 1, by omega, by go_num, HApp.out _ _ _ (Ge.alloc (Ge.refl _) _) hm6 own6 hb6⟩
          case measure => simp [intOf]; omega
      | true =>
        obtain ⟨t1, t2⟩ := isE_of he
        have q1 : ((nthW l k).a == A) = true := by simp [t1]
        have q2 : ((nthW l k).b == B) = true := by simp [t2]
        cases add with
        | false =>
          have HSk := Lib.hid (fun wr' hg => Put1.skip HP.out hkl he (wr' := wr') hg)
          generalize nthW l k = E at *
          obtain ⟨ea, eb, ew⟩ := E
          dsimp only at *
          clear he hkl h1 t1 t2
          go_wp2_with fail
          go_roundw
          case rel => exact ⟨k + 1, by omega, by go_num, HSk.out _ (Ge.alloc (Ge.refl _) _)⟩
          case measure => simp [intOf]; omega
        | true =>
          have HPl := Lib.hid (fun wr' hg y hy => Put1.plus HP.out hkl he (wr' := wr') hg (y := y) hy)
          have b1 := HBd.out (k + 1) (by omega)
          rw [addS_in hkl he] at b1
          generalize addS true A B x (l.take k) = Y at *
          generalize nthW l k = E at *
          obtain ⟨ea, eb, ew⟩ := E
          dsimp only at *
          clear he hkl h1 t1 t2
          go_wp2_with fail
          go_roundw
          case rel => exact ⟨k + 1, by omega, by go_num, Put1.ge (HPl.out _ (Ge.refl _) _ rfl) (Ge.alloc (Ge.refl _) _)⟩
          case measure => simp [intOf]; omega
    · have hkn : k = n := by omega
      subst hkn
      rw [List.take_of_length_le (by rw [HN.out]; exact Nat.le_refl _)] at h1 h5
      have hdl := drop_le A B l l.length (by rw [HN.out]; exact hl)
      rw [List.take_of_length_le (Nat.le_refl _)] at hdl
      have HD := Lib.hid (fun kk => ins_le ⟨A, B, addS add A B x l⟩ (dropE A B l) kk hdl)
      generalize addS add A B x l = Y at *
      generalize dropE A B l = D at *
      have Hs1 := SlF.of_owns h1
      obtain ⟨d, hd⟩ : ∃ d, D.length = d := ⟨_, rfl⟩
      have HDn := Lib.hid hd
      rw [hd] at h1 Hs1 hdl
      obtain ⟨p2, cap2, rfl, hc2⟩ := Hs1.open
      have HC2 : Hid (∀ wq, Ge wr wq → ∀ k, k < d → ∃ b o, p2 = some ⟨b, o, none⟩ ∧ wq.cell? ⟨b, o + k * 3, none⟩ = some (.int .i64 (nthW D k).a) ∧ wq.cell? ⟨b, o + k * 3 + 1, none⟩ = some (.int .i64 (nthW D k).b) ∧ wq.cell? ⟨b, o + k * 3 + 2, none⟩ = some (.int .i64 (nthW D k).w)) := fun wq g k hk => by
        obtain ⟨b, o, hp, c0, c1, c2⟩ := wire_cells hc2 hd hk
        exact ⟨b, o, hp, g.keep c0, g.keep c1, g.keep c2⟩
      have HSt2 : Hid (Put2 wr (wr.alloc (.cells #[] 81)) (.slice (some ⟨wr.heap.size, 0, none⟩) 0 0) wr.heap.size ⟨A, B, Y⟩ D 0) := ⟨owns_lit0 _ _ _, Ge.alloc (Ge.refl _) _⟩
      clear h1 Hs1 hc2 hd h2 h6 HP HBd HC
      go_wp2_with fail
      obtain ⟨wo, hwo⟩ : ∃ wo : World, wo = wr := ⟨_, rfl⟩
      subst hwo
      go_loopw [11, 13, 61] (fun u dn i wr => ∃ k : Nat, k ≤ d ∧ i = .int .i64 k ∧ dn = .bool (insP ⟨A, B, Y⟩ (D.take k)).2 ∧ Hid (Put2 wo wr u wo.heap.size ⟨A, B, Y⟩ D k)) (fun _ _ i _ => d - (intOf i).toNat)
      case atStart => exact ⟨0, Nat.zero_le _, rfl, rfl, HSt2.out⟩
      case round =>
        obtain ⟨k, hk2, rfl, rfl, HP2⟩ := hrel
        obtain ⟨g1, g2⟩ := HP2.out
        have x0 := g2.keep h3
        have x1 := g2.keep h4
        have x2 := g2.keep h5
        have z2 : w.heap.size + 1 < wr.heap.size := Nat.lt_of_lt_of_le z1 g2.size
        have z3 := g2.size
        have HI := Lib.hid (HD.out k)
        by_cases hlt2 : k < d
        · obtain ⟨b1, o1, rfl, c0, c1, c2⟩ := HC2.out wr g2 k hlt2
          have hkd : k < D.length := by rw [HDn.out]; exact hlt2
          cases hdn : (insP ⟨A, B, Y⟩ (D.take k)).2 with
          | true =>
            have HOne := Lib.hid (fun wr' w' v' hg hm ho => Put2.one HP2.out hkd (Nat.le_refl _) (wr' := wr') (w' := w') (v' := v') hg hm (Or.inl hdn) ho)
            rw [hdn] at HOne
            generalize nthW D k = E at *
            obtain ⟨ea, eb, ew⟩ := E
            dsimp only at *
            generalize (insP ⟨A, B, Y⟩ (D.take k)).1.length = il at *
            generalize flatW (insP ⟨A, B, Y⟩ (D.take k)).1 = FI at *
            have ho1 := g1.alloc (.cells #[.int .i64 ea, .int .i64 eb, .int .i64 ew] 81)
            clear hkd hdn g1
            go_wp2_with (at_builtin; refine ap_wire rfl _ _ rfl wo.heap.size _ _ _ rfl ho1 ea eb ew rfl (by simp) (by have := HI.out; omega) (by simp; omega) ?_; intro v' w6 own6 hm6 hb6)
            go_roundw
            case rel => exact ⟨k + 1, by omega, by go_num, by rw [(HOne.out _ _ _ (Ge.alloc (Ge.refl _) _) hm6 own6).2], (HOne.out _ _ _ (Ge.alloc (Ge.refl _) _) hm6 own6).1⟩
            case measure => simp [intOf]; omega
          | false =>
            cases hg : gtE A B (nthW D k) with
            | false =>
              have HOne := Lib.hid (fun wr' w' v' hg1 hm ho => Put2.one HP2.out hkd (Nat.le_refl _) (wr' := wr') (w' := w') (v' := v') hg1 hm (Or.inr hg) ho)
              rw [hdn] at HOne
              have hng : ¬ (A < (nthW D k).a ∨ (nthW D k).a = A ∧ B < (nthW D k).b) := fun h => by rw [gtE_t h] at hg; cases hg
              generalize nthW D k = E at *
              obtain ⟨ea, eb, ew⟩ := E
              dsimp only at *
              generalize (insP ⟨A, B, Y⟩ (D.take k)).1.length = il at *
              generalize flatW (insP ⟨A, B, Y⟩ (D.take k)).1 = FI at *
              have ho1 := g1.alloc (.cells #[.int .i64 ea, .int .i64 eb, .int .i64 ew] 81)
              have q1 : decide (A < ea) = false := by simp; omega
              have q1' : ¬ A < ea := by omega
              clear hkd hdn g1 hg
              by_cases t1 : ea = A
              · have q2 : (ea == A) = true := by simp [t1]
                have q3 : decide (B < eb) = false := by simp; omega
                have q3' : ¬ B < eb := by omega
                clear t1 hng
                go_wp2_with (at_builtin; refine ap_wire rfl _ _ rfl wo.heap.size _ _ _ rfl ho1 ea eb ew rfl (by simp) (by have := HI.out; omega) (by simp; omega) ?_; intro v' w6 own6 hm6 hb6)
                go_roundw
                case rel => exact ⟨k + 1, by omega, by go_num, by rw [(HOne.out _ _ _ (Ge.alloc (Ge.refl _) _) hm6 own6).2], (HOne.out _ _ _ (Ge.alloc (Ge.refl _) _) hm6 own6).1⟩
                case measure => simp [intOf]; omega
              · have q2 : (ea == A) = false := by simp [t1]
                clear t1 hng
                go_wp2_with (at_builtin; refine ap_wire rfl _ _ rfl wo.heap.size _ _ _ rfl ho1 ea eb ew rfl (by simp) (by have := HI.out; omega) (by simp; omega) ?_; intro v' w6 own6 hm6 hb6)
                go_roundw
                case rel => exact ⟨k + 1, by omega, by go_num, by rw [(HOne.out _ _ _ (Ge.alloc (Ge.refl _) _) hm6 own6).2], (HOne.out _ _ _ (Ge.alloc (Ge.refl _) _) hm6 own6).1⟩
                case measure => simp [intOf]; omega
            | true =>
              have HTwo := Lib.hid (fun wr' wa w' va v' hg1 hm hma hoa ho => Put2.two HP2.out hkd (Nat.le_refl _) (wr' := wr') (wa := wa) (w' := w') (va := va) (v' := v') hg1 hm hma hdn hg hoa ho)
              have hyg := gtE_of hg
              generalize nthW D k = E at *
              obtain ⟨ea, eb, ew⟩ := E
              dsimp only at *
              generalize (insP ⟨A, B, Y⟩ (D.take k)).1.length = il at *
              generalize flatW (insP ⟨A, B, Y⟩ (D.take k)).1 = FI at *
              have ho1 := g1.alloc (.cells #[.int .i64 ea, .int .i64 eb, .int .i64 ew] 81)
              have NB := Lib.hid (behind_row g1 (Nat.le_refl _))
              have E0 : Hid ((wr.alloc (.cells #[.int .i64 ea, .int .i64 eb, .int .i64 ew] 81)).cell? ⟨wr.heap.size, 0, none⟩ = some (.int .i64 ea)) := cell_new rfl rfl
              have E1 : Hid ((wr.alloc (.cells #[.int .i64 ea, .int .i64 eb, .int .i64 ew] 81)).cell? ⟨wr.heap.size, 1, none⟩ = some (.int .i64 eb)) := cell_new rfl rfl
              have E2 : Hid ((wr.alloc (.cells #[.int .i64 ea, .int .i64 eb, .int .i64 ew] 81)).cell? ⟨wr.heap.size, 2, none⟩ = some (.int .i64 ew)) := cell_new rfl rfl
              clear hkd hdn g1 hg
              by_cases t0 : A < ea
              · have q1 : decide (A < ea) = true := by simp [t0]
                clear hyg
                go_wp2_with (first
                  | (at_builtin; refine ap_wire rfl _ _ rfl wo.heap.size _ _ _ rfl ho1 A B Y rfl (by simp) (by have := HI.out; omega) (by simp; omega) ?_; intro va wa owna hma hba; clear ho1; have e0 := mine_cell hma E0.out NB.out; have e1 := mine_cell hma E1.out NB.out; have e2 := mine_cell hma E2.out NB.out; have za : wo.heap.size ≤ wa.heap.size := by (have := World.grownBy.size hma; simp at this; omega))
                  | (at_builtin; refine ap_wire rfl _ _ rfl wo.heap.size _ _ _ rfl owna ea eb ew rfl rfl (by have := HI.out; omega) za ?_; intro v' w6 own6 hm6 hb6))
                go_roundw
                case rel => exact ⟨k + 1, by omega, by go_num, by rw [(HTwo.out _ _ _ _ _ (Ge.alloc (Ge.refl _) _) hma hm6 owna own6).2], (HTwo.out _ _ _ _ _ (Ge.alloc (Ge.refl _) _) hma hm6 owna own6).1⟩
                case measure => simp [intOf]; omega
              · have q1 : decide (A < ea) = false := by simp; omega
                obtain ⟨t1, t2⟩ : ea = A ∧ B < eb := by omega
                have q2 : (ea == A) = true := by simp [t1]
                have q3 : decide (B < eb) = true := by simp [t2]
                clear hyg t1
                go_wp2_with (first
                  | (at_builtin; refine ap_wire rfl _ _ rfl wo.heap.size _ _ _ rfl ho1 A B Y rfl (by simp) (by have := HI.out; omega) (by simp; omega) ?_; intro va wa owna hma hba; clear ho1; have e0 := mine_cell hma E0.out NB.out; have e1 := mine_cell hma E1.out NB.out; have e2 := mine_cell hma E2.out NB.out; have za : wo.heap.size ≤ wa.heap.size := by (have := World.grownBy.size hma; simp at this; omega))
                  | (at_builtin; refine ap_wire rfl _ _ rfl wo.heap.size _ _ _ rfl owna ea eb ew rfl rfl (by have := HI.out; omega) za ?_; intro v' w6 own6 hm6 hb6))
                go_roundw
                case rel => exact ⟨k + 1, by omega, by go_num, by rw [(HTwo.out _ _ _ _ _ (Ge.alloc (Ge.refl _) _) hma hm6 owna own6).2], (HTwo.out _ _ _ _ _ (Ge.alloc (Ge.refl _) _) hma hm6 owna own6).1⟩
                case measure => simp [intOf]; omega
        · have hkn : k = d := by omega
          subst hkn
          cases hdn : (insP ⟨A, B, Y⟩ (D.take k)).2 with
          | true =>
            have HF := Lib.hid (Put2.done HP2.out HDn.out hdn h8)
            clear hdn g1
            go_wp2_with fail
            go_ret
            exact ⟨_, rfl, by rw [HPut.out]; exact HF.out⟩
          | false =>
            have HLast := Lib.hid (fun w' v' hm ho => Put2.last HP2.out HDn.out hdn h8 (w' := w') (v' := v') hm ho)
            generalize (insP ⟨A, B, Y⟩ (D.take k)).1.length = il at *
            generalize flatW (insP ⟨A, B, Y⟩ (D.take k)).1 = FI at *
            clear hdn
            go_wp2_with (at_builtin; refine ap_wire rfl _ _ rfl wo.heap.size _ _ _ rfl g1 A B Y rfl rfl (by have := HI.out; omega) z3 ?_; intro v' w6 own6 hm6 hb6)
            go_ret
            exact ⟨_, rfl, by rw [HPut.out]; exact HLast.out _ _ hm6 own6⟩
end Go.Proofs.Ytfhhgonoddedlaa

namespace Go.Proofs.Ytfhhgonoddedlaa
set_option maxRecDepth 100000
open Go.ChangeShapes Go.WideShapes Go.ChangeAt Go.RowKit Go.Joins

/-- A network in a variable of the call's own, and the result's block. -/
structure NetAt (w : World) (R G : Nat) (n : Nat) (E S : Int) (v : Value) (l : List Wr) : Prop where
  c0 : w.cell? ⟨G, 0, none⟩ = some (.int .i64 (n : Int))
  c1 : w.cell? ⟨G, 1, none⟩ = some (.int .i64 E)
  c2 : w.cell? ⟨G, 2, none⟩ = some (.int .i64 S)
  c3 : w.cell? ⟨G, 3, none⟩ = some v
  f3 : w.frozen? ⟨G, 3, none⟩ = false
  own : w.ownsRow (G + 1) 81 3 v l.length (icells (flatW l))
  res : ∀ i, i < 4 → ∃ u, w.cell? ⟨R, i, none⟩ = some u ∧ w.frozen? ⟨R, i, none⟩ = false
theorem NetAt.ge {w w' : World} {R G n : Nat} {E S : Int} {v : Value} {l : List Wr} (h : NetAt w R G n E S v l) (hg : Ge w w') : NetAt w' R G n E S v l :=
  ⟨hg.keep h.c0, hg.keep h.c1, hg.keep h.c2, hg.keep h.c3, hg.keepF h.c3 h.f3, hg.owns h.own, fun i hi => by obtain ⟨u, h1, h2⟩ := h.res i hi; exact ⟨u, hg.keep h1, hg.keepF h1 h2⟩⟩
theorem NetAt.put {w : World} {R G n : Nat} {E S : Int} {v v' : Value} {l l' : List Wr} (h : NetAt w R G n E S v l) (hR : R < G) (ho : w.ownsRow (G + 1) 81 3 v' l'.length (icells (flatW l'))) : NetAt (w.setCell ⟨G, 3, none⟩ v') R G n E S v' l' :=
  ⟨cell_set2 (by simp) h.c0, cell_set2 (by simp) h.c1, cell_set2 (by simp) h.c2, World.cell?_setCell_same _ _ _ h.c3, froz_set h.f3, by
    refine ho.kept (grown_setN w G 3 v') ?_
    cases hv : v'.ownBlock with
    | none => exact .inl rfl
    | some k =>
      right
      intro e'
      have := (ho.lt k hv).1
      simp at e'
      omega, fun i hi => by
    obtain ⟨u, h1, h2⟩ := h.res i hi
    exact ⟨u, cell_set2 (fun e => by have := congrArg Addr.block e; simp at this; omega) h1, froz_set h2⟩⟩
/-- A block of four cells that may be written. -/
def ResD (w : World) (R : Nat) : Prop := ∀ i, i < 4 → ∃ u, w.cell? ⟨R, i, none⟩ = some u ∧ w.frozen? ⟨R, i, none⟩ = false
theorem ResD.new (w : World) (v0 v1 v2 v3 : Value) (t : TypeId) : ResD (w.alloc (.cells #[v0, v1, v2, v3] t)) w.heap.size := fun i hi => by
  have k : ∃ u, (#[v0, v1, v2, v3] : Array Value)[i]? = some u := ⟨_, Array.getElem?_eq_getElem (by simpa using hi)⟩
  obtain ⟨u, hu⟩ := k
  exact ⟨u, cell_new rfl hu, froz_new rfl hu⟩
theorem ResD.ge {w w' : World} {R : Nat} (h : ResD w R) (hg : Ge w w') : ResD w' R := fun i hi => by
  obtain ⟨u, h1, h2⟩ := h i hi
  exact ⟨u, hg.keep h1, hg.keepF h1 h2⟩
theorem NetAt.start {w : World} {R n : Nat} {E S : Int} (hr : ResD w R) : NetAt (w.alloc (.cells #[.int .i64 (n : Int), .int .i64 E, .int .i64 S, .slice none 0 0] 36)) R w.heap.size n E S (.slice none 0 0) [] :=
  ⟨cell_new rfl rfl, cell_new rfl rfl, cell_new rfl rfl, cell_new rfl rfl, froz_new rfl (v := .slice none 0 0) rfl, ⟨rfl, .inl ⟨rfl, rfl⟩⟩, hr.ge (Ge.alloc (Ge.refl _) _)⟩
theorem NetAt.setE {w : World} {R G n : Nat} {E S E' : Int} {v : Value} {l : List Wr} (h : NetAt w R G n E S v l) (hR : R < G) : NetAt (w.setCell ⟨G, 1, none⟩ (.int .i64 E')) R G n E' S v l :=
  ⟨cell_set2 (by simp) h.c0, World.cell?_setCell_same _ _ _ h.c1, cell_set2 (by simp) h.c2, cell_set2 (by simp) h.c3, froz_set h.f3, by
    refine h.own.kept (grown_setN w G 1 _) ?_
    cases hv : v.ownBlock with
    | none => exact .inl rfl
    | some k =>
      right
      intro e'
      have := (h.own.lt k hv).1
      simp at e'
      omega, fun i hi => by
    obtain ⟨u, h1, h2⟩ := h.res i hi
    exact ⟨u, cell_set2 (fun e => by have := congrArg Addr.block e; simp at this; omega) h1, froz_set h2⟩⟩
theorem own_setD {w : World} {base e sz n R i : Nat} {v x : Value} {xs : List Value} (h : w.ownsRow base e sz v n xs) (hR : R < base) : (w.setCell ⟨R, i, none⟩ x).ownsRow base e sz v n xs := by
  refine h.kept (grown_setN w R i x) ?_
  cases hv : v.ownBlock with
  | none => exact .inl rfl
  | some k =>
    right
    intro e'
    have := (h.lt k hv).1
    simp at e'
    omega
theorem NetAt.app {w w1 w8 : World} {R G n : Nat} {E S : Int} {v v8 : Value} {l : List Wr} {x : Wr} (h : NetAt w R G n E S v l) (hR : R < G) (hg : Ge w w1) (hm : Mine w1 w8 v)
    (ho : w8.ownsRow (G + 1) 81 3 v8 (l.length + 1) (icells (flatW l ++ [x.a, x.b, x.w]))) :
    NetAt (w8.setCell ⟨G, 3, none⟩ v8) R G n E S v8 (l ++ [x]) ∧ w8.cell? ⟨G, 3, none⟩ = some v ∧ w8.frozen? ⟨G, 3, none⟩ = false := by
  have h1 := h.ge hg
  have nG := before_row h1.own (b := G) (by omega)
  have nR := before_row h1.own (b := R) (by omega)
  have k3 := mine_cell hm h1.c3 nG
  have kf := mine_frozN hm h1.c3 h1.f3 nG
  refine ⟨⟨cell_set2 (by simp) (mine_cell hm h1.c0 nG), cell_set2 (by simp) (mine_cell hm h1.c1 nG), cell_set2 (by simp) (mine_cell hm h1.c2 nG), World.cell?_setCell_same _ _ _ k3, froz_set kf, ?_, fun i hi => ?_⟩, k3, kf⟩
  · have : (l ++ [x]).length = l.length + 1 := by simp
    rw [this, flatW_snoc]
    exact own_setD ho (by omega)
  · obtain ⟨u, r1, r2⟩ := h1.res i hi
    exact ⟨u, cell_set2 (fun e => by have := congrArg Addr.block e; simp at this; omega) (mine_cell hm r1 nR), froz_set (mine_frozN hm r1 r2 nR)⟩
theorem NetAt.setS {w : World} {R G n : Nat} {E S S' : Int} {v : Value} {l : List Wr} (h : NetAt w R G n E S v l) (hR : R < G) : NetAt (w.setCell ⟨G, 2, none⟩ (.int .i64 S')) R G n E S' v l :=
  ⟨cell_set2 (by simp) h.c0, cell_set2 (by simp) h.c1, World.cell?_setCell_same _ _ _ h.c2, cell_set2 (by simp) h.c3, froz_set h.f3, own_setD h.own (by omega), fun i hi => by
    obtain ⟨u, h1, h2⟩ := h.res i hi
    exact ⟨u, cell_set2 (fun e => by have := congrArg Addr.block e; simp at this; omega) h1, froz_set h2⟩⟩
theorem NetAt.setW {w : World} {R G n q m cap j : Nat} {E S : Int} {l l' : List Wr} {x : Int} (h : NetAt w R G n E S (.slice (some ⟨q, 0, none⟩) m cap) l) (hR : R < G) (hm : l.length = m) (hl : l'.length = m) (hf : flatW l' = (flatW l).set j x) :
    NetAt (w.setCell ⟨q, j, none⟩ (.int .i64 x)) R G n E S (.slice (some ⟨q, 0, none⟩) m cap) l' ∧ G < q := by
  subst hm
  have hs := h.own.stored j (.int .i64 x)
  have hq := (h.own.lt q rfl).1
  have k : ∀ i : Nat, (⟨q, j, none⟩ : Addr) ≠ ⟨G, i, none⟩ := fun i e => by have := congrArg Addr.block e; simp at this; omega
  refine ⟨⟨cell_set2 (k 0) h.c0, cell_set2 (k 1) h.c1, cell_set2 (k 2) h.c2, cell_set2 (k 3) h.c3, froz_set h.f3, ?_, fun i hi => ?_⟩, by omega⟩
  · rw [hl, hf, ← icells_set]
    exact hs.1
  · obtain ⟨u, h1, h2⟩ := h.res i hi
    exact ⟨u, cell_set2 (fun e => by have := congrArg Addr.block e; simp at this; omega) h1, froz_set h2⟩
end Go.Proofs.Ytfhhgonoddedlaa

namespace Go.Proofs.Ytfhhgonoddedlaa

open Go.RowKit

/-- Every node but the first has a wire to an earlier one. -/
def downB (n m : Nat) (xs : List Int) : Prop := ∀ v : Nat, 1 ≤ v → v < n → ∃ k, k < m ∧ wb xs k = (v : Int)
/-- A network as the draws make it. -/
structure Drn (n m : Nat) (xs : List Int) : Prop where
  two : 2 ≤ n
  five : n ≤ 5
  good : ∀ k, k < m → goodW n xs k
  six : ∀ k, k < m → ww xs k ≤ 6
  down : downB n m xs
theorem wbet_nn {n m : Nat} {xs : List Int} (h : Drn n m xs) (a b : Int) : 0 ≤ wbet xs m a b := (wbet_bd h.good a b).1
theorem wbet_six {n m : Nat} {xs : List Int} (h : Drn n m xs) (a b : Int) : wbet xs m a b ≤ 6 := by
  cases e : wfind xs a b m with
  | none => rw [wbet_none e]; omega
  | some k => rw [wbet_some e]; exact h.six k (wfind_lt e).1
theorem wbet_self {n m : Nat} {xs : List Int} (h : Drn n m xs) (a : Int) : wbet xs m a a = 0 := wbet_none (wfind_self h.good a)
theorem wbet_one {n m : Nat} {xs : List Int} (h : Drn n m xs) {k : Nat} (hk : k < m) : 1 ≤ wbet xs m (wa xs k) (wb xs k) := by
  have hw : isW xs (wa xs k) (wb xs k) k := by
    obtain ⟨_, q, _⟩ := (h.good k hk).1
    unfold isW; omega
  cases e : wfind xs (wa xs k) (wb xs k) m with
  | none =>
    have : ∀ m', k < m' → wfind xs (wa xs k) (wb xs k) m' ≠ none := fun m' => by
      induction m' with
      | zero => intro h; omega
      | succ m' ih =>
        intro hk'
        simp only [wfind]
        by_cases ek : k = m'
        · subst ek
          split
          · simp
          · rw [if_pos hw]; simp
        · have := ih (by omega)
          split
          · simp
          · rename_i e2; exact absurd e2 this
    exact absurd e (this m hk)
  | some j =>
    rw [wbet_some e]
    exact (h.good j (wfind_lt e).1).1.2.2.2.1
theorem down_sum {n m : Nat} {xs : List Int} (h : Drn n m xs) {v : Nat} (h1 : 1 ≤ v) (h2 : v < n) : ∃ p : Nat, p < v ∧ 1 ≤ wbet xs m p v := by
  obtain ⟨k, hk, hv⟩ := h.down v h1 h2
  obtain ⟨q0, q1, _⟩ := (h.good k hk).1
  have h3 := wbet_one h hk
  rw [hv] at h3
  exact ⟨(wa xs k).toNat, by omega, by rw [show (((wa xs k).toNat : Nat) : Int) = wa xs k by omega]; exact h3⟩
theorem lap_off (xs : List Int) (m : Nat) {a b : Int} (h : a ≠ b) : lapZ xs m a b = -(wbet xs m a b) := by unfold lapZ; rw [if_neg h]
theorem lap_dia (xs : List Int) (m : Nat) (a : Int) : lapZ xs m a a = wat xs a m := by unfold lapZ; rw [if_pos rfl]

theorem lap2_of {m : Nat} {xs : List Int} (h : Drn 2 m xs) : Lap2 (lapZ xs m) (wbet xs m 0 1) := by
  have d0 : lapZ xs m 0 0 = wbet xs m 0 1 := by
    have e := wat_sum (n := 2) (xs := xs) (v := 0) (by decide) (by decide) h.good
    have z := wbet_self h 0
    have c0 : ((0 : Nat) : Int) = 0 := rfl
    have c1 : ((1 : Nat) : Int) = 1 := rfl
    simp only [sumTo, c0, c1] at e
    rw [lap_dia, ← e, z]; omega
  have d1 : lapZ xs m 1 1 = wbet xs m 0 1 := by
    have e := wat_sum (n := 2) (xs := xs) (v := 1) (by decide) (by decide) h.good
    have z := wbet_self h 1
    have c0 : ((0 : Nat) : Int) = 0 := rfl
    have c1 : ((1 : Nat) : Int) = 1 := rfl
    simp only [sumTo, c0, c1] at e
    rw [lap_dia, ← e, z, wbet_symm xs m 1 0]; omega
  exact ⟨d0, lap_off xs m (by decide), by rw [lap_off xs m (by decide), wbet_symm], d1⟩
theorem dn2_1 {m : Nat} {xs : List Int} (h : Drn 2 m xs) : 1 ≤ wbet xs m 0 1 := by
  obtain ⟨p, hp, h1⟩ := down_sum h (v := 1) (by decide) (by decide)
  have n0 := wbet_nn h 0 1
  have hc : p = 0 := by omega
  rcases hc with rfl
  · replace h1 : 1 ≤ wbet xs m 0 1 := h1; omega
theorem trT2 {m : Nat} {xs : List Int} (h : Drn 2 m xs) : treeT 2 m xs = tp2 (wbet xs m 0 1) := tree2 (lap2_of h)
theorem trP2 {m : Nat} {xs : List Int} (h : Drn 2 m xs) : 1 ≤ treeT 2 m xs := by rw [trT2 h]; exact tp2_pos (wbet_nn h 0 1) (dn2_1 h)
theorem foT2_01 {m : Nat} {xs : List Int} (h : Drn 2 m xs) : forZ 2 m xs 0 1 = fp2_01 (wbet xs m 0 1) := for2_01 (lap2_of h)
theorem foP2_01 {m : Nat} {xs : List Int} (h : Drn 2 m xs) : 1 ≤ forZ 2 m xs 0 1 := by rw [foT2_01 h]; exact fp2_01_pos (wbet_nn h 0 1) (dn2_1 h)
theorem foT2_10 {m : Nat} {xs : List Int} (h : Drn 2 m xs) : forZ 2 m xs 1 0 = fp2_01 (wbet xs m 0 1) := for2_01 (lap2_of h)

theorem lap3_of {m : Nat} {xs : List Int} (h : Drn 3 m xs) : Lap3 (lapZ xs m) (wbet xs m 0 1) (wbet xs m 0 2) (wbet xs m 1 2) := by
  have d0 : lapZ xs m 0 0 = wbet xs m 0 1 + wbet xs m 0 2 := by
    have e := wat_sum (n := 3) (xs := xs) (v := 0) (by decide) (by decide) h.good
    have z := wbet_self h 0
    have c0 : ((0 : Nat) : Int) = 0 := rfl
    have c1 : ((1 : Nat) : Int) = 1 := rfl
    have c2 : ((2 : Nat) : Int) = 2 := rfl
    simp only [sumTo, c0, c1, c2] at e
    rw [lap_dia, ← e, z]; omega
  have d1 : lapZ xs m 1 1 = wbet xs m 0 1 + wbet xs m 1 2 := by
    have e := wat_sum (n := 3) (xs := xs) (v := 1) (by decide) (by decide) h.good
    have z := wbet_self h 1
    have c0 : ((0 : Nat) : Int) = 0 := rfl
    have c1 : ((1 : Nat) : Int) = 1 := rfl
    have c2 : ((2 : Nat) : Int) = 2 := rfl
    simp only [sumTo, c0, c1, c2] at e
    rw [lap_dia, ← e, z, wbet_symm xs m 1 0]; omega
  have d2 : lapZ xs m 2 2 = wbet xs m 0 2 + wbet xs m 1 2 := by
    have e := wat_sum (n := 3) (xs := xs) (v := 2) (by decide) (by decide) h.good
    have z := wbet_self h 2
    have c0 : ((0 : Nat) : Int) = 0 := rfl
    have c1 : ((1 : Nat) : Int) = 1 := rfl
    have c2 : ((2 : Nat) : Int) = 2 := rfl
    simp only [sumTo, c0, c1, c2] at e
    rw [lap_dia, ← e, z, wbet_symm xs m 2 0, wbet_symm xs m 2 1]; omega
  exact ⟨d0, lap_off xs m (by decide), lap_off xs m (by decide), by rw [lap_off xs m (by decide), wbet_symm], d1, lap_off xs m (by decide), by rw [lap_off xs m (by decide), wbet_symm], by rw [lap_off xs m (by decide), wbet_symm], d2⟩
theorem dn3_1 {m : Nat} {xs : List Int} (h : Drn 3 m xs) : 1 ≤ wbet xs m 0 1 := by
  obtain ⟨p, hp, h1⟩ := down_sum h (v := 1) (by decide) (by decide)
  have n0 := wbet_nn h 0 1
  have hc : p = 0 := by omega
  rcases hc with rfl
  · replace h1 : 1 ≤ wbet xs m 0 1 := h1; omega
theorem dn3_2 {m : Nat} {xs : List Int} (h : Drn 3 m xs) : 1 ≤ wbet xs m 0 2 + wbet xs m 1 2 := by
  obtain ⟨p, hp, h1⟩ := down_sum h (v := 2) (by decide) (by decide)
  have n0 := wbet_nn h 0 2
  have n1 := wbet_nn h 1 2
  have hc : p = 0 ∨ p = 1 := by omega
  rcases hc with rfl | rfl
  · replace h1 : 1 ≤ wbet xs m 0 2 := h1; omega
  · replace h1 : 1 ≤ wbet xs m 1 2 := h1; omega
theorem trT3 {m : Nat} {xs : List Int} (h : Drn 3 m xs) : treeT 3 m xs = tp3 (wbet xs m 0 1) (wbet xs m 0 2) (wbet xs m 1 2) := tree3 (lap3_of h)
theorem trP3 {m : Nat} {xs : List Int} (h : Drn 3 m xs) : 1 ≤ treeT 3 m xs := by rw [trT3 h]; exact tp3_pos (wbet_nn h 0 1) (wbet_nn h 0 2) (wbet_nn h 1 2) (dn3_1 h) (dn3_2 h)
theorem foT3_01 {m : Nat} {xs : List Int} (h : Drn 3 m xs) : forZ 3 m xs 0 1 = fp3_01 (wbet xs m 0 1) (wbet xs m 0 2) (wbet xs m 1 2) := for3_01 (lap3_of h)
theorem foP3_01 {m : Nat} {xs : List Int} (h : Drn 3 m xs) : 1 ≤ forZ 3 m xs 0 1 := by rw [foT3_01 h]; exact fp3_01_pos (wbet_nn h 0 1) (wbet_nn h 0 2) (wbet_nn h 1 2) (dn3_1 h) (dn3_2 h)
theorem foT3_02 {m : Nat} {xs : List Int} (h : Drn 3 m xs) : forZ 3 m xs 0 2 = fp3_02 (wbet xs m 0 1) (wbet xs m 0 2) (wbet xs m 1 2) := for3_02 (lap3_of h)
theorem foP3_02 {m : Nat} {xs : List Int} (h : Drn 3 m xs) : 1 ≤ forZ 3 m xs 0 2 := by rw [foT3_02 h]; exact fp3_02_pos (wbet_nn h 0 1) (wbet_nn h 0 2) (wbet_nn h 1 2) (dn3_1 h) (dn3_2 h)
theorem foT3_10 {m : Nat} {xs : List Int} (h : Drn 3 m xs) : forZ 3 m xs 1 0 = fp3_01 (wbet xs m 0 1) (wbet xs m 0 2) (wbet xs m 1 2) := for3_01 (lap3_of h)
theorem foT3_12 {m : Nat} {xs : List Int} (h : Drn 3 m xs) : forZ 3 m xs 1 2 = fp3_12 (wbet xs m 0 1) (wbet xs m 0 2) (wbet xs m 1 2) := for3_12 (lap3_of h)
theorem foP3_12 {m : Nat} {xs : List Int} (h : Drn 3 m xs) : 1 ≤ forZ 3 m xs 1 2 := by rw [foT3_12 h]; exact fp3_12_pos (wbet_nn h 0 1) (wbet_nn h 0 2) (wbet_nn h 1 2) (dn3_1 h) (dn3_2 h)
theorem foT3_20 {m : Nat} {xs : List Int} (h : Drn 3 m xs) : forZ 3 m xs 2 0 = fp3_02 (wbet xs m 0 1) (wbet xs m 0 2) (wbet xs m 1 2) := for3_02 (lap3_of h)
theorem foT3_21 {m : Nat} {xs : List Int} (h : Drn 3 m xs) : forZ 3 m xs 2 1 = fp3_12 (wbet xs m 0 1) (wbet xs m 0 2) (wbet xs m 1 2) := for3_12 (lap3_of h)

theorem lap4_of {m : Nat} {xs : List Int} (h : Drn 4 m xs) : Lap4 (lapZ xs m) (wbet xs m 0 1) (wbet xs m 0 2) (wbet xs m 0 3) (wbet xs m 1 2) (wbet xs m 1 3) (wbet xs m 2 3) := by
  have d0 : lapZ xs m 0 0 = wbet xs m 0 1 + wbet xs m 0 2 + wbet xs m 0 3 := by
    have e := wat_sum (n := 4) (xs := xs) (v := 0) (by decide) (by decide) h.good
    have z := wbet_self h 0
    have c0 : ((0 : Nat) : Int) = 0 := rfl
    have c1 : ((1 : Nat) : Int) = 1 := rfl
    have c2 : ((2 : Nat) : Int) = 2 := rfl
    have c3 : ((3 : Nat) : Int) = 3 := rfl
    simp only [sumTo, c0, c1, c2, c3] at e
    rw [lap_dia, ← e, z]; omega
  have d1 : lapZ xs m 1 1 = wbet xs m 0 1 + wbet xs m 1 2 + wbet xs m 1 3 := by
    have e := wat_sum (n := 4) (xs := xs) (v := 1) (by decide) (by decide) h.good
    have z := wbet_self h 1
    have c0 : ((0 : Nat) : Int) = 0 := rfl
    have c1 : ((1 : Nat) : Int) = 1 := rfl
    have c2 : ((2 : Nat) : Int) = 2 := rfl
    have c3 : ((3 : Nat) : Int) = 3 := rfl
    simp only [sumTo, c0, c1, c2, c3] at e
    rw [lap_dia, ← e, z, wbet_symm xs m 1 0]; omega
  have d2 : lapZ xs m 2 2 = wbet xs m 0 2 + wbet xs m 1 2 + wbet xs m 2 3 := by
    have e := wat_sum (n := 4) (xs := xs) (v := 2) (by decide) (by decide) h.good
    have z := wbet_self h 2
    have c0 : ((0 : Nat) : Int) = 0 := rfl
    have c1 : ((1 : Nat) : Int) = 1 := rfl
    have c2 : ((2 : Nat) : Int) = 2 := rfl
    have c3 : ((3 : Nat) : Int) = 3 := rfl
    simp only [sumTo, c0, c1, c2, c3] at e
    rw [lap_dia, ← e, z, wbet_symm xs m 2 0, wbet_symm xs m 2 1]; omega
  have d3 : lapZ xs m 3 3 = wbet xs m 0 3 + wbet xs m 1 3 + wbet xs m 2 3 := by
    have e := wat_sum (n := 4) (xs := xs) (v := 3) (by decide) (by decide) h.good
    have z := wbet_self h 3
    have c0 : ((0 : Nat) : Int) = 0 := rfl
    have c1 : ((1 : Nat) : Int) = 1 := rfl
    have c2 : ((2 : Nat) : Int) = 2 := rfl
    have c3 : ((3 : Nat) : Int) = 3 := rfl
    simp only [sumTo, c0, c1, c2, c3] at e
    rw [lap_dia, ← e, z, wbet_symm xs m 3 0, wbet_symm xs m 3 1, wbet_symm xs m 3 2]; omega
  exact ⟨d0, lap_off xs m (by decide), lap_off xs m (by decide), lap_off xs m (by decide), by rw [lap_off xs m (by decide), wbet_symm], d1, lap_off xs m (by decide), lap_off xs m (by decide), by rw [lap_off xs m (by decide), wbet_symm], by rw [lap_off xs m (by decide), wbet_symm], d2, lap_off xs m (by decide), by rw [lap_off xs m (by decide), wbet_symm], by rw [lap_off xs m (by decide), wbet_symm], by rw [lap_off xs m (by decide), wbet_symm], d3⟩
theorem dn4_1 {m : Nat} {xs : List Int} (h : Drn 4 m xs) : 1 ≤ wbet xs m 0 1 := by
  obtain ⟨p, hp, h1⟩ := down_sum h (v := 1) (by decide) (by decide)
  have n0 := wbet_nn h 0 1
  have hc : p = 0 := by omega
  rcases hc with rfl
  · replace h1 : 1 ≤ wbet xs m 0 1 := h1; omega
theorem dn4_2 {m : Nat} {xs : List Int} (h : Drn 4 m xs) : 1 ≤ wbet xs m 0 2 + wbet xs m 1 2 := by
  obtain ⟨p, hp, h1⟩ := down_sum h (v := 2) (by decide) (by decide)
  have n0 := wbet_nn h 0 2
  have n1 := wbet_nn h 1 2
  have hc : p = 0 ∨ p = 1 := by omega
  rcases hc with rfl | rfl
  · replace h1 : 1 ≤ wbet xs m 0 2 := h1; omega
  · replace h1 : 1 ≤ wbet xs m 1 2 := h1; omega
theorem dn4_3 {m : Nat} {xs : List Int} (h : Drn 4 m xs) : 1 ≤ wbet xs m 0 3 + wbet xs m 1 3 + wbet xs m 2 3 := by
  obtain ⟨p, hp, h1⟩ := down_sum h (v := 3) (by decide) (by decide)
  have n0 := wbet_nn h 0 3
  have n1 := wbet_nn h 1 3
  have n2 := wbet_nn h 2 3
  have hc : p = 0 ∨ p = 1 ∨ p = 2 := by omega
  rcases hc with rfl | rfl | rfl
  · replace h1 : 1 ≤ wbet xs m 0 3 := h1; omega
  · replace h1 : 1 ≤ wbet xs m 1 3 := h1; omega
  · replace h1 : 1 ≤ wbet xs m 2 3 := h1; omega
theorem trT4 {m : Nat} {xs : List Int} (h : Drn 4 m xs) : treeT 4 m xs = tp4 (wbet xs m 0 1) (wbet xs m 0 2) (wbet xs m 0 3) (wbet xs m 1 2) (wbet xs m 1 3) (wbet xs m 2 3) := tree4 (lap4_of h)
theorem trP4 {m : Nat} {xs : List Int} (h : Drn 4 m xs) : 1 ≤ treeT 4 m xs := by rw [trT4 h]; exact tp4_pos (wbet_nn h 0 1) (wbet_nn h 0 2) (wbet_nn h 0 3) (wbet_nn h 1 2) (wbet_nn h 1 3) (wbet_nn h 2 3) (dn4_1 h) (dn4_2 h) (dn4_3 h)
theorem foT4_01 {m : Nat} {xs : List Int} (h : Drn 4 m xs) : forZ 4 m xs 0 1 = fp4_01 (wbet xs m 0 1) (wbet xs m 0 2) (wbet xs m 0 3) (wbet xs m 1 2) (wbet xs m 1 3) (wbet xs m 2 3) := for4_01 (lap4_of h)
theorem foP4_01 {m : Nat} {xs : List Int} (h : Drn 4 m xs) : 1 ≤ forZ 4 m xs 0 1 := by rw [foT4_01 h]; exact fp4_01_pos (wbet_nn h 0 1) (wbet_nn h 0 2) (wbet_nn h 0 3) (wbet_nn h 1 2) (wbet_nn h 1 3) (wbet_nn h 2 3) (dn4_1 h) (dn4_2 h) (dn4_3 h)
theorem foT4_02 {m : Nat} {xs : List Int} (h : Drn 4 m xs) : forZ 4 m xs 0 2 = fp4_02 (wbet xs m 0 1) (wbet xs m 0 2) (wbet xs m 0 3) (wbet xs m 1 2) (wbet xs m 1 3) (wbet xs m 2 3) := for4_02 (lap4_of h)
theorem foP4_02 {m : Nat} {xs : List Int} (h : Drn 4 m xs) : 1 ≤ forZ 4 m xs 0 2 := by rw [foT4_02 h]; exact fp4_02_pos (wbet_nn h 0 1) (wbet_nn h 0 2) (wbet_nn h 0 3) (wbet_nn h 1 2) (wbet_nn h 1 3) (wbet_nn h 2 3) (dn4_1 h) (dn4_2 h) (dn4_3 h)
theorem foT4_03 {m : Nat} {xs : List Int} (h : Drn 4 m xs) : forZ 4 m xs 0 3 = fp4_03 (wbet xs m 0 1) (wbet xs m 0 2) (wbet xs m 0 3) (wbet xs m 1 2) (wbet xs m 1 3) (wbet xs m 2 3) := for4_03 (lap4_of h)
theorem foP4_03 {m : Nat} {xs : List Int} (h : Drn 4 m xs) : 1 ≤ forZ 4 m xs 0 3 := by rw [foT4_03 h]; exact fp4_03_pos (wbet_nn h 0 1) (wbet_nn h 0 2) (wbet_nn h 0 3) (wbet_nn h 1 2) (wbet_nn h 1 3) (wbet_nn h 2 3) (dn4_1 h) (dn4_2 h) (dn4_3 h)
theorem foT4_10 {m : Nat} {xs : List Int} (h : Drn 4 m xs) : forZ 4 m xs 1 0 = fp4_01 (wbet xs m 0 1) (wbet xs m 0 2) (wbet xs m 0 3) (wbet xs m 1 2) (wbet xs m 1 3) (wbet xs m 2 3) := for4_01 (lap4_of h)
theorem foT4_12 {m : Nat} {xs : List Int} (h : Drn 4 m xs) : forZ 4 m xs 1 2 = fp4_12 (wbet xs m 0 1) (wbet xs m 0 2) (wbet xs m 0 3) (wbet xs m 1 2) (wbet xs m 1 3) (wbet xs m 2 3) := for4_12 (lap4_of h)
theorem foP4_12 {m : Nat} {xs : List Int} (h : Drn 4 m xs) : 1 ≤ forZ 4 m xs 1 2 := by rw [foT4_12 h]; exact fp4_12_pos (wbet_nn h 0 1) (wbet_nn h 0 2) (wbet_nn h 0 3) (wbet_nn h 1 2) (wbet_nn h 1 3) (wbet_nn h 2 3) (dn4_1 h) (dn4_2 h) (dn4_3 h)
theorem foT4_13 {m : Nat} {xs : List Int} (h : Drn 4 m xs) : forZ 4 m xs 1 3 = fp4_13 (wbet xs m 0 1) (wbet xs m 0 2) (wbet xs m 0 3) (wbet xs m 1 2) (wbet xs m 1 3) (wbet xs m 2 3) := for4_13 (lap4_of h)
theorem foP4_13 {m : Nat} {xs : List Int} (h : Drn 4 m xs) : 1 ≤ forZ 4 m xs 1 3 := by rw [foT4_13 h]; exact fp4_13_pos (wbet_nn h 0 1) (wbet_nn h 0 2) (wbet_nn h 0 3) (wbet_nn h 1 2) (wbet_nn h 1 3) (wbet_nn h 2 3) (dn4_1 h) (dn4_2 h) (dn4_3 h)
theorem foT4_20 {m : Nat} {xs : List Int} (h : Drn 4 m xs) : forZ 4 m xs 2 0 = fp4_02 (wbet xs m 0 1) (wbet xs m 0 2) (wbet xs m 0 3) (wbet xs m 1 2) (wbet xs m 1 3) (wbet xs m 2 3) := for4_02 (lap4_of h)
theorem foT4_21 {m : Nat} {xs : List Int} (h : Drn 4 m xs) : forZ 4 m xs 2 1 = fp4_12 (wbet xs m 0 1) (wbet xs m 0 2) (wbet xs m 0 3) (wbet xs m 1 2) (wbet xs m 1 3) (wbet xs m 2 3) := for4_12 (lap4_of h)
theorem foT4_23 {m : Nat} {xs : List Int} (h : Drn 4 m xs) : forZ 4 m xs 2 3 = fp4_23 (wbet xs m 0 1) (wbet xs m 0 2) (wbet xs m 0 3) (wbet xs m 1 2) (wbet xs m 1 3) (wbet xs m 2 3) := for4_23 (lap4_of h)
theorem foP4_23 {m : Nat} {xs : List Int} (h : Drn 4 m xs) : 1 ≤ forZ 4 m xs 2 3 := by rw [foT4_23 h]; exact fp4_23_pos (wbet_nn h 0 1) (wbet_nn h 0 2) (wbet_nn h 0 3) (wbet_nn h 1 2) (wbet_nn h 1 3) (wbet_nn h 2 3) (dn4_1 h) (dn4_2 h) (dn4_3 h)
theorem foT4_30 {m : Nat} {xs : List Int} (h : Drn 4 m xs) : forZ 4 m xs 3 0 = fp4_03 (wbet xs m 0 1) (wbet xs m 0 2) (wbet xs m 0 3) (wbet xs m 1 2) (wbet xs m 1 3) (wbet xs m 2 3) := for4_03 (lap4_of h)
theorem foT4_31 {m : Nat} {xs : List Int} (h : Drn 4 m xs) : forZ 4 m xs 3 1 = fp4_13 (wbet xs m 0 1) (wbet xs m 0 2) (wbet xs m 0 3) (wbet xs m 1 2) (wbet xs m 1 3) (wbet xs m 2 3) := for4_13 (lap4_of h)
theorem foT4_32 {m : Nat} {xs : List Int} (h : Drn 4 m xs) : forZ 4 m xs 3 2 = fp4_23 (wbet xs m 0 1) (wbet xs m 0 2) (wbet xs m 0 3) (wbet xs m 1 2) (wbet xs m 1 3) (wbet xs m 2 3) := for4_23 (lap4_of h)

theorem lap5_of {m : Nat} {xs : List Int} (h : Drn 5 m xs) : Lap5 (lapZ xs m) (wbet xs m 0 1) (wbet xs m 0 2) (wbet xs m 0 3) (wbet xs m 0 4) (wbet xs m 1 2) (wbet xs m 1 3) (wbet xs m 1 4) (wbet xs m 2 3) (wbet xs m 2 4) (wbet xs m 3 4) := by
  have d0 : lapZ xs m 0 0 = wbet xs m 0 1 + wbet xs m 0 2 + wbet xs m 0 3 + wbet xs m 0 4 := by
    have e := wat_sum (n := 5) (xs := xs) (v := 0) (by decide) (by decide) h.good
    have z := wbet_self h 0
    have c0 : ((0 : Nat) : Int) = 0 := rfl
    have c1 : ((1 : Nat) : Int) = 1 := rfl
    have c2 : ((2 : Nat) : Int) = 2 := rfl
    have c3 : ((3 : Nat) : Int) = 3 := rfl
    have c4 : ((4 : Nat) : Int) = 4 := rfl
    simp only [sumTo, c0, c1, c2, c3, c4] at e
    rw [lap_dia, ← e, z]; omega
  have d1 : lapZ xs m 1 1 = wbet xs m 0 1 + wbet xs m 1 2 + wbet xs m 1 3 + wbet xs m 1 4 := by
    have e := wat_sum (n := 5) (xs := xs) (v := 1) (by decide) (by decide) h.good
    have z := wbet_self h 1
    have c0 : ((0 : Nat) : Int) = 0 := rfl
    have c1 : ((1 : Nat) : Int) = 1 := rfl
    have c2 : ((2 : Nat) : Int) = 2 := rfl
    have c3 : ((3 : Nat) : Int) = 3 := rfl
    have c4 : ((4 : Nat) : Int) = 4 := rfl
    simp only [sumTo, c0, c1, c2, c3, c4] at e
    rw [lap_dia, ← e, z, wbet_symm xs m 1 0]; omega
  have d2 : lapZ xs m 2 2 = wbet xs m 0 2 + wbet xs m 1 2 + wbet xs m 2 3 + wbet xs m 2 4 := by
    have e := wat_sum (n := 5) (xs := xs) (v := 2) (by decide) (by decide) h.good
    have z := wbet_self h 2
    have c0 : ((0 : Nat) : Int) = 0 := rfl
    have c1 : ((1 : Nat) : Int) = 1 := rfl
    have c2 : ((2 : Nat) : Int) = 2 := rfl
    have c3 : ((3 : Nat) : Int) = 3 := rfl
    have c4 : ((4 : Nat) : Int) = 4 := rfl
    simp only [sumTo, c0, c1, c2, c3, c4] at e
    rw [lap_dia, ← e, z, wbet_symm xs m 2 0, wbet_symm xs m 2 1]; omega
  have d3 : lapZ xs m 3 3 = wbet xs m 0 3 + wbet xs m 1 3 + wbet xs m 2 3 + wbet xs m 3 4 := by
    have e := wat_sum (n := 5) (xs := xs) (v := 3) (by decide) (by decide) h.good
    have z := wbet_self h 3
    have c0 : ((0 : Nat) : Int) = 0 := rfl
    have c1 : ((1 : Nat) : Int) = 1 := rfl
    have c2 : ((2 : Nat) : Int) = 2 := rfl
    have c3 : ((3 : Nat) : Int) = 3 := rfl
    have c4 : ((4 : Nat) : Int) = 4 := rfl
    simp only [sumTo, c0, c1, c2, c3, c4] at e
    rw [lap_dia, ← e, z, wbet_symm xs m 3 0, wbet_symm xs m 3 1, wbet_symm xs m 3 2]; omega
  have d4 : lapZ xs m 4 4 = wbet xs m 0 4 + wbet xs m 1 4 + wbet xs m 2 4 + wbet xs m 3 4 := by
    have e := wat_sum (n := 5) (xs := xs) (v := 4) (by decide) (by decide) h.good
    have z := wbet_self h 4
    have c0 : ((0 : Nat) : Int) = 0 := rfl
    have c1 : ((1 : Nat) : Int) = 1 := rfl
    have c2 : ((2 : Nat) : Int) = 2 := rfl
    have c3 : ((3 : Nat) : Int) = 3 := rfl
    have c4 : ((4 : Nat) : Int) = 4 := rfl
    simp only [sumTo, c0, c1, c2, c3, c4] at e
    rw [lap_dia, ← e, z, wbet_symm xs m 4 0, wbet_symm xs m 4 1, wbet_symm xs m 4 2, wbet_symm xs m 4 3]; omega
  exact ⟨d0, lap_off xs m (by decide), lap_off xs m (by decide), lap_off xs m (by decide), lap_off xs m (by decide), by rw [lap_off xs m (by decide), wbet_symm], d1, lap_off xs m (by decide), lap_off xs m (by decide), lap_off xs m (by decide), by rw [lap_off xs m (by decide), wbet_symm], by rw [lap_off xs m (by decide), wbet_symm], d2, lap_off xs m (by decide), lap_off xs m (by decide), by rw [lap_off xs m (by decide), wbet_symm], by rw [lap_off xs m (by decide), wbet_symm], by rw [lap_off xs m (by decide), wbet_symm], d3, lap_off xs m (by decide), by rw [lap_off xs m (by decide), wbet_symm], by rw [lap_off xs m (by decide), wbet_symm], by rw [lap_off xs m (by decide), wbet_symm], by rw [lap_off xs m (by decide), wbet_symm], d4⟩
theorem dn5_1 {m : Nat} {xs : List Int} (h : Drn 5 m xs) : 1 ≤ wbet xs m 0 1 := by
  obtain ⟨p, hp, h1⟩ := down_sum h (v := 1) (by decide) (by decide)
  have n0 := wbet_nn h 0 1
  have hc : p = 0 := by omega
  rcases hc with rfl
  · replace h1 : 1 ≤ wbet xs m 0 1 := h1; omega
theorem dn5_2 {m : Nat} {xs : List Int} (h : Drn 5 m xs) : 1 ≤ wbet xs m 0 2 + wbet xs m 1 2 := by
  obtain ⟨p, hp, h1⟩ := down_sum h (v := 2) (by decide) (by decide)
  have n0 := wbet_nn h 0 2
  have n1 := wbet_nn h 1 2
  have hc : p = 0 ∨ p = 1 := by omega
  rcases hc with rfl | rfl
  · replace h1 : 1 ≤ wbet xs m 0 2 := h1; omega
  · replace h1 : 1 ≤ wbet xs m 1 2 := h1; omega
theorem dn5_3 {m : Nat} {xs : List Int} (h : Drn 5 m xs) : 1 ≤ wbet xs m 0 3 + wbet xs m 1 3 + wbet xs m 2 3 := by
  obtain ⟨p, hp, h1⟩ := down_sum h (v := 3) (by decide) (by decide)
  have n0 := wbet_nn h 0 3
  have n1 := wbet_nn h 1 3
  have n2 := wbet_nn h 2 3
  have hc : p = 0 ∨ p = 1 ∨ p = 2 := by omega
  rcases hc with rfl | rfl | rfl
  · replace h1 : 1 ≤ wbet xs m 0 3 := h1; omega
  · replace h1 : 1 ≤ wbet xs m 1 3 := h1; omega
  · replace h1 : 1 ≤ wbet xs m 2 3 := h1; omega
theorem dn5_4 {m : Nat} {xs : List Int} (h : Drn 5 m xs) : 1 ≤ wbet xs m 0 4 + wbet xs m 1 4 + wbet xs m 2 4 + wbet xs m 3 4 := by
  obtain ⟨p, hp, h1⟩ := down_sum h (v := 4) (by decide) (by decide)
  have n0 := wbet_nn h 0 4
  have n1 := wbet_nn h 1 4
  have n2 := wbet_nn h 2 4
  have n3 := wbet_nn h 3 4
  have hc : p = 0 ∨ p = 1 ∨ p = 2 ∨ p = 3 := by omega
  rcases hc with rfl | rfl | rfl | rfl
  · replace h1 : 1 ≤ wbet xs m 0 4 := h1; omega
  · replace h1 : 1 ≤ wbet xs m 1 4 := h1; omega
  · replace h1 : 1 ≤ wbet xs m 2 4 := h1; omega
  · replace h1 : 1 ≤ wbet xs m 3 4 := h1; omega
theorem trT5 {m : Nat} {xs : List Int} (h : Drn 5 m xs) : treeT 5 m xs = tp5 (wbet xs m 0 1) (wbet xs m 0 2) (wbet xs m 0 3) (wbet xs m 0 4) (wbet xs m 1 2) (wbet xs m 1 3) (wbet xs m 1 4) (wbet xs m 2 3) (wbet xs m 2 4) (wbet xs m 3 4) := tree5 (lap5_of h)
theorem trP5 {m : Nat} {xs : List Int} (h : Drn 5 m xs) : 1 ≤ treeT 5 m xs := by rw [trT5 h]; exact tp5_pos (wbet_nn h 0 1) (wbet_nn h 0 2) (wbet_nn h 0 3) (wbet_nn h 0 4) (wbet_nn h 1 2) (wbet_nn h 1 3) (wbet_nn h 1 4) (wbet_nn h 2 3) (wbet_nn h 2 4) (wbet_nn h 3 4) (dn5_1 h) (dn5_2 h) (dn5_3 h) (dn5_4 h)
theorem foT5_01 {m : Nat} {xs : List Int} (h : Drn 5 m xs) : forZ 5 m xs 0 1 = fp5_01 (wbet xs m 0 1) (wbet xs m 0 2) (wbet xs m 0 3) (wbet xs m 0 4) (wbet xs m 1 2) (wbet xs m 1 3) (wbet xs m 1 4) (wbet xs m 2 3) (wbet xs m 2 4) (wbet xs m 3 4) := for5_01 (lap5_of h)
theorem foP5_01 {m : Nat} {xs : List Int} (h : Drn 5 m xs) : 1 ≤ forZ 5 m xs 0 1 := by rw [foT5_01 h]; exact fp5_01_pos (wbet_nn h 0 1) (wbet_nn h 0 2) (wbet_nn h 0 3) (wbet_nn h 0 4) (wbet_nn h 1 2) (wbet_nn h 1 3) (wbet_nn h 1 4) (wbet_nn h 2 3) (wbet_nn h 2 4) (wbet_nn h 3 4) (dn5_1 h) (dn5_2 h) (dn5_3 h) (dn5_4 h)
theorem foT5_02 {m : Nat} {xs : List Int} (h : Drn 5 m xs) : forZ 5 m xs 0 2 = fp5_02 (wbet xs m 0 1) (wbet xs m 0 2) (wbet xs m 0 3) (wbet xs m 0 4) (wbet xs m 1 2) (wbet xs m 1 3) (wbet xs m 1 4) (wbet xs m 2 3) (wbet xs m 2 4) (wbet xs m 3 4) := for5_02 (lap5_of h)
theorem foP5_02 {m : Nat} {xs : List Int} (h : Drn 5 m xs) : 1 ≤ forZ 5 m xs 0 2 := by rw [foT5_02 h]; exact fp5_02_pos (wbet_nn h 0 1) (wbet_nn h 0 2) (wbet_nn h 0 3) (wbet_nn h 0 4) (wbet_nn h 1 2) (wbet_nn h 1 3) (wbet_nn h 1 4) (wbet_nn h 2 3) (wbet_nn h 2 4) (wbet_nn h 3 4) (dn5_1 h) (dn5_2 h) (dn5_3 h) (dn5_4 h)
theorem foT5_03 {m : Nat} {xs : List Int} (h : Drn 5 m xs) : forZ 5 m xs 0 3 = fp5_03 (wbet xs m 0 1) (wbet xs m 0 2) (wbet xs m 0 3) (wbet xs m 0 4) (wbet xs m 1 2) (wbet xs m 1 3) (wbet xs m 1 4) (wbet xs m 2 3) (wbet xs m 2 4) (wbet xs m 3 4) := for5_03 (lap5_of h)
theorem foP5_03 {m : Nat} {xs : List Int} (h : Drn 5 m xs) : 1 ≤ forZ 5 m xs 0 3 := by rw [foT5_03 h]; exact fp5_03_pos (wbet_nn h 0 1) (wbet_nn h 0 2) (wbet_nn h 0 3) (wbet_nn h 0 4) (wbet_nn h 1 2) (wbet_nn h 1 3) (wbet_nn h 1 4) (wbet_nn h 2 3) (wbet_nn h 2 4) (wbet_nn h 3 4) (dn5_1 h) (dn5_2 h) (dn5_3 h) (dn5_4 h)
theorem foT5_04 {m : Nat} {xs : List Int} (h : Drn 5 m xs) : forZ 5 m xs 0 4 = fp5_04 (wbet xs m 0 1) (wbet xs m 0 2) (wbet xs m 0 3) (wbet xs m 0 4) (wbet xs m 1 2) (wbet xs m 1 3) (wbet xs m 1 4) (wbet xs m 2 3) (wbet xs m 2 4) (wbet xs m 3 4) := for5_04 (lap5_of h)
theorem foP5_04 {m : Nat} {xs : List Int} (h : Drn 5 m xs) : 1 ≤ forZ 5 m xs 0 4 := by rw [foT5_04 h]; exact fp5_04_pos (wbet_nn h 0 1) (wbet_nn h 0 2) (wbet_nn h 0 3) (wbet_nn h 0 4) (wbet_nn h 1 2) (wbet_nn h 1 3) (wbet_nn h 1 4) (wbet_nn h 2 3) (wbet_nn h 2 4) (wbet_nn h 3 4) (dn5_1 h) (dn5_2 h) (dn5_3 h) (dn5_4 h)
theorem foT5_10 {m : Nat} {xs : List Int} (h : Drn 5 m xs) : forZ 5 m xs 1 0 = fp5_01 (wbet xs m 0 1) (wbet xs m 0 2) (wbet xs m 0 3) (wbet xs m 0 4) (wbet xs m 1 2) (wbet xs m 1 3) (wbet xs m 1 4) (wbet xs m 2 3) (wbet xs m 2 4) (wbet xs m 3 4) := for5_01 (lap5_of h)
theorem foT5_12 {m : Nat} {xs : List Int} (h : Drn 5 m xs) : forZ 5 m xs 1 2 = fp5_12 (wbet xs m 0 1) (wbet xs m 0 2) (wbet xs m 0 3) (wbet xs m 0 4) (wbet xs m 1 2) (wbet xs m 1 3) (wbet xs m 1 4) (wbet xs m 2 3) (wbet xs m 2 4) (wbet xs m 3 4) := for5_12 (lap5_of h)
theorem foP5_12 {m : Nat} {xs : List Int} (h : Drn 5 m xs) : 1 ≤ forZ 5 m xs 1 2 := by rw [foT5_12 h]; exact fp5_12_pos (wbet_nn h 0 1) (wbet_nn h 0 2) (wbet_nn h 0 3) (wbet_nn h 0 4) (wbet_nn h 1 2) (wbet_nn h 1 3) (wbet_nn h 1 4) (wbet_nn h 2 3) (wbet_nn h 2 4) (wbet_nn h 3 4) (dn5_1 h) (dn5_2 h) (dn5_3 h) (dn5_4 h)
theorem foT5_13 {m : Nat} {xs : List Int} (h : Drn 5 m xs) : forZ 5 m xs 1 3 = fp5_13 (wbet xs m 0 1) (wbet xs m 0 2) (wbet xs m 0 3) (wbet xs m 0 4) (wbet xs m 1 2) (wbet xs m 1 3) (wbet xs m 1 4) (wbet xs m 2 3) (wbet xs m 2 4) (wbet xs m 3 4) := for5_13 (lap5_of h)
theorem foP5_13 {m : Nat} {xs : List Int} (h : Drn 5 m xs) : 1 ≤ forZ 5 m xs 1 3 := by rw [foT5_13 h]; exact fp5_13_pos (wbet_nn h 0 1) (wbet_nn h 0 2) (wbet_nn h 0 3) (wbet_nn h 0 4) (wbet_nn h 1 2) (wbet_nn h 1 3) (wbet_nn h 1 4) (wbet_nn h 2 3) (wbet_nn h 2 4) (wbet_nn h 3 4) (dn5_1 h) (dn5_2 h) (dn5_3 h) (dn5_4 h)
theorem foT5_14 {m : Nat} {xs : List Int} (h : Drn 5 m xs) : forZ 5 m xs 1 4 = fp5_14 (wbet xs m 0 1) (wbet xs m 0 2) (wbet xs m 0 3) (wbet xs m 0 4) (wbet xs m 1 2) (wbet xs m 1 3) (wbet xs m 1 4) (wbet xs m 2 3) (wbet xs m 2 4) (wbet xs m 3 4) := for5_14 (lap5_of h)
theorem foP5_14 {m : Nat} {xs : List Int} (h : Drn 5 m xs) : 1 ≤ forZ 5 m xs 1 4 := by rw [foT5_14 h]; exact fp5_14_pos (wbet_nn h 0 1) (wbet_nn h 0 2) (wbet_nn h 0 3) (wbet_nn h 0 4) (wbet_nn h 1 2) (wbet_nn h 1 3) (wbet_nn h 1 4) (wbet_nn h 2 3) (wbet_nn h 2 4) (wbet_nn h 3 4) (dn5_1 h) (dn5_2 h) (dn5_3 h) (dn5_4 h)
theorem foT5_20 {m : Nat} {xs : List Int} (h : Drn 5 m xs) : forZ 5 m xs 2 0 = fp5_02 (wbet xs m 0 1) (wbet xs m 0 2) (wbet xs m 0 3) (wbet xs m 0 4) (wbet xs m 1 2) (wbet xs m 1 3) (wbet xs m 1 4) (wbet xs m 2 3) (wbet xs m 2 4) (wbet xs m 3 4) := for5_02 (lap5_of h)
theorem foT5_21 {m : Nat} {xs : List Int} (h : Drn 5 m xs) : forZ 5 m xs 2 1 = fp5_12 (wbet xs m 0 1) (wbet xs m 0 2) (wbet xs m 0 3) (wbet xs m 0 4) (wbet xs m 1 2) (wbet xs m 1 3) (wbet xs m 1 4) (wbet xs m 2 3) (wbet xs m 2 4) (wbet xs m 3 4) := for5_12 (lap5_of h)
theorem foT5_23 {m : Nat} {xs : List Int} (h : Drn 5 m xs) : forZ 5 m xs 2 3 = fp5_23 (wbet xs m 0 1) (wbet xs m 0 2) (wbet xs m 0 3) (wbet xs m 0 4) (wbet xs m 1 2) (wbet xs m 1 3) (wbet xs m 1 4) (wbet xs m 2 3) (wbet xs m 2 4) (wbet xs m 3 4) := for5_23 (lap5_of h)
theorem foP5_23 {m : Nat} {xs : List Int} (h : Drn 5 m xs) : 1 ≤ forZ 5 m xs 2 3 := by rw [foT5_23 h]; exact fp5_23_pos (wbet_nn h 0 1) (wbet_nn h 0 2) (wbet_nn h 0 3) (wbet_nn h 0 4) (wbet_nn h 1 2) (wbet_nn h 1 3) (wbet_nn h 1 4) (wbet_nn h 2 3) (wbet_nn h 2 4) (wbet_nn h 3 4) (dn5_1 h) (dn5_2 h) (dn5_3 h) (dn5_4 h)
theorem foT5_24 {m : Nat} {xs : List Int} (h : Drn 5 m xs) : forZ 5 m xs 2 4 = fp5_24 (wbet xs m 0 1) (wbet xs m 0 2) (wbet xs m 0 3) (wbet xs m 0 4) (wbet xs m 1 2) (wbet xs m 1 3) (wbet xs m 1 4) (wbet xs m 2 3) (wbet xs m 2 4) (wbet xs m 3 4) := for5_24 (lap5_of h)
theorem foP5_24 {m : Nat} {xs : List Int} (h : Drn 5 m xs) : 1 ≤ forZ 5 m xs 2 4 := by rw [foT5_24 h]; exact fp5_24_pos (wbet_nn h 0 1) (wbet_nn h 0 2) (wbet_nn h 0 3) (wbet_nn h 0 4) (wbet_nn h 1 2) (wbet_nn h 1 3) (wbet_nn h 1 4) (wbet_nn h 2 3) (wbet_nn h 2 4) (wbet_nn h 3 4) (dn5_1 h) (dn5_2 h) (dn5_3 h) (dn5_4 h)
theorem foT5_30 {m : Nat} {xs : List Int} (h : Drn 5 m xs) : forZ 5 m xs 3 0 = fp5_03 (wbet xs m 0 1) (wbet xs m 0 2) (wbet xs m 0 3) (wbet xs m 0 4) (wbet xs m 1 2) (wbet xs m 1 3) (wbet xs m 1 4) (wbet xs m 2 3) (wbet xs m 2 4) (wbet xs m 3 4) := for5_03 (lap5_of h)
theorem foT5_31 {m : Nat} {xs : List Int} (h : Drn 5 m xs) : forZ 5 m xs 3 1 = fp5_13 (wbet xs m 0 1) (wbet xs m 0 2) (wbet xs m 0 3) (wbet xs m 0 4) (wbet xs m 1 2) (wbet xs m 1 3) (wbet xs m 1 4) (wbet xs m 2 3) (wbet xs m 2 4) (wbet xs m 3 4) := for5_13 (lap5_of h)
theorem foT5_32 {m : Nat} {xs : List Int} (h : Drn 5 m xs) : forZ 5 m xs 3 2 = fp5_23 (wbet xs m 0 1) (wbet xs m 0 2) (wbet xs m 0 3) (wbet xs m 0 4) (wbet xs m 1 2) (wbet xs m 1 3) (wbet xs m 1 4) (wbet xs m 2 3) (wbet xs m 2 4) (wbet xs m 3 4) := for5_23 (lap5_of h)
theorem foT5_34 {m : Nat} {xs : List Int} (h : Drn 5 m xs) : forZ 5 m xs 3 4 = fp5_34 (wbet xs m 0 1) (wbet xs m 0 2) (wbet xs m 0 3) (wbet xs m 0 4) (wbet xs m 1 2) (wbet xs m 1 3) (wbet xs m 1 4) (wbet xs m 2 3) (wbet xs m 2 4) (wbet xs m 3 4) := for5_34 (lap5_of h)
theorem foP5_34 {m : Nat} {xs : List Int} (h : Drn 5 m xs) : 1 ≤ forZ 5 m xs 3 4 := by rw [foT5_34 h]; exact fp5_34_pos (wbet_nn h 0 1) (wbet_nn h 0 2) (wbet_nn h 0 3) (wbet_nn h 0 4) (wbet_nn h 1 2) (wbet_nn h 1 3) (wbet_nn h 1 4) (wbet_nn h 2 3) (wbet_nn h 2 4) (wbet_nn h 3 4) (dn5_1 h) (dn5_2 h) (dn5_3 h) (dn5_4 h)
theorem foT5_40 {m : Nat} {xs : List Int} (h : Drn 5 m xs) : forZ 5 m xs 4 0 = fp5_04 (wbet xs m 0 1) (wbet xs m 0 2) (wbet xs m 0 3) (wbet xs m 0 4) (wbet xs m 1 2) (wbet xs m 1 3) (wbet xs m 1 4) (wbet xs m 2 3) (wbet xs m 2 4) (wbet xs m 3 4) := for5_04 (lap5_of h)
theorem foT5_41 {m : Nat} {xs : List Int} (h : Drn 5 m xs) : forZ 5 m xs 4 1 = fp5_14 (wbet xs m 0 1) (wbet xs m 0 2) (wbet xs m 0 3) (wbet xs m 0 4) (wbet xs m 1 2) (wbet xs m 1 3) (wbet xs m 1 4) (wbet xs m 2 3) (wbet xs m 2 4) (wbet xs m 3 4) := for5_14 (lap5_of h)
theorem foT5_42 {m : Nat} {xs : List Int} (h : Drn 5 m xs) : forZ 5 m xs 4 2 = fp5_24 (wbet xs m 0 1) (wbet xs m 0 2) (wbet xs m 0 3) (wbet xs m 0 4) (wbet xs m 1 2) (wbet xs m 1 3) (wbet xs m 1 4) (wbet xs m 2 3) (wbet xs m 2 4) (wbet xs m 3 4) := for5_24 (lap5_of h)
theorem foT5_43 {m : Nat} {xs : List Int} (h : Drn 5 m xs) : forZ 5 m xs 4 3 = fp5_34 (wbet xs m 0 1) (wbet xs m 0 2) (wbet xs m 0 3) (wbet xs m 0 4) (wbet xs m 1 2) (wbet xs m 1 3) (wbet xs m 1 4) (wbet xs m 2 3) (wbet xs m 2 4) (wbet xs m 3 4) := for5_34 (lap5_of h)

theorem forZ_symm (n m : Nat) (xs : List Int) (a b : Int) : forZ n m xs a b = forZ n m xs b a := by
  unfold forZ
  by_cases h : a = b
  · rw [h]
  · rw [if_neg h, if_neg (fun k => h k.symm)]
    have e : without n [a, b] = without n [b, a] := by
      unfold without
      congr 1
      funext x
      congr 2
      simp only [List.mem_cons, List.not_mem_nil, or_false, eq_iff_iff]
      omega
    unfold forT minorV
    rw [e]
theorem forZ_self (n m : Nat) (xs : List Int) (a : Int) : forZ n m xs a a = 0 := if_pos rfl
theorem tree_pos {n m : Nat} {xs : List Int} (h : Drn n m xs) : 1 ≤ treeT n m xs := by
  have h1 := h.two
  have h2 := h.five
  obtain rfl | rfl | rfl | rfl : n = 2 ∨ n = 3 ∨ n = 4 ∨ n = 5 := by omega
  · exact trP2 h
  · exact trP3 h
  · exact trP4 h
  · exact trP5 h
theorem for_pos2 {m : Nat} {xs : List Int} (h : Drn 2 m xs) {a b : Int} (ha : 0 ≤ a ∧ a < 2) (hb : 0 ≤ b ∧ b < 2) (hab : a ≠ b) : 1 ≤ forZ 2 m xs a b := by
  obtain rfl | rfl : a = 0 ∨ a = 1 := by omega
  · obtain rfl | rfl : b = 0 ∨ b = 1 := by omega
    · exact absurd rfl hab
    · exact foP2_01 h
  · obtain rfl | rfl : b = 0 ∨ b = 1 := by omega
    · rw [forZ_symm]; exact foP2_01 h
    · exact absurd rfl hab
theorem for_pos3 {m : Nat} {xs : List Int} (h : Drn 3 m xs) {a b : Int} (ha : 0 ≤ a ∧ a < 3) (hb : 0 ≤ b ∧ b < 3) (hab : a ≠ b) : 1 ≤ forZ 3 m xs a b := by
  obtain rfl | rfl | rfl : a = 0 ∨ a = 1 ∨ a = 2 := by omega
  · obtain rfl | rfl | rfl : b = 0 ∨ b = 1 ∨ b = 2 := by omega
    · exact absurd rfl hab
    · exact foP3_01 h
    · exact foP3_02 h
  · obtain rfl | rfl | rfl : b = 0 ∨ b = 1 ∨ b = 2 := by omega
    · rw [forZ_symm]; exact foP3_01 h
    · exact absurd rfl hab
    · exact foP3_12 h
  · obtain rfl | rfl | rfl : b = 0 ∨ b = 1 ∨ b = 2 := by omega
    · rw [forZ_symm]; exact foP3_02 h
    · rw [forZ_symm]; exact foP3_12 h
    · exact absurd rfl hab
theorem for_pos4 {m : Nat} {xs : List Int} (h : Drn 4 m xs) {a b : Int} (ha : 0 ≤ a ∧ a < 4) (hb : 0 ≤ b ∧ b < 4) (hab : a ≠ b) : 1 ≤ forZ 4 m xs a b := by
  obtain rfl | rfl | rfl | rfl : a = 0 ∨ a = 1 ∨ a = 2 ∨ a = 3 := by omega
  · obtain rfl | rfl | rfl | rfl : b = 0 ∨ b = 1 ∨ b = 2 ∨ b = 3 := by omega
    · exact absurd rfl hab
    · exact foP4_01 h
    · exact foP4_02 h
    · exact foP4_03 h
  · obtain rfl | rfl | rfl | rfl : b = 0 ∨ b = 1 ∨ b = 2 ∨ b = 3 := by omega
    · rw [forZ_symm]; exact foP4_01 h
    · exact absurd rfl hab
    · exact foP4_12 h
    · exact foP4_13 h
  · obtain rfl | rfl | rfl | rfl : b = 0 ∨ b = 1 ∨ b = 2 ∨ b = 3 := by omega
    · rw [forZ_symm]; exact foP4_02 h
    · rw [forZ_symm]; exact foP4_12 h
    · exact absurd rfl hab
    · exact foP4_23 h
  · obtain rfl | rfl | rfl | rfl : b = 0 ∨ b = 1 ∨ b = 2 ∨ b = 3 := by omega
    · rw [forZ_symm]; exact foP4_03 h
    · rw [forZ_symm]; exact foP4_13 h
    · rw [forZ_symm]; exact foP4_23 h
    · exact absurd rfl hab
theorem for_pos5 {m : Nat} {xs : List Int} (h : Drn 5 m xs) {a b : Int} (ha : 0 ≤ a ∧ a < 5) (hb : 0 ≤ b ∧ b < 5) (hab : a ≠ b) : 1 ≤ forZ 5 m xs a b := by
  obtain rfl | rfl | rfl | rfl | rfl : a = 0 ∨ a = 1 ∨ a = 2 ∨ a = 3 ∨ a = 4 := by omega
  · obtain rfl | rfl | rfl | rfl | rfl : b = 0 ∨ b = 1 ∨ b = 2 ∨ b = 3 ∨ b = 4 := by omega
    · exact absurd rfl hab
    · exact foP5_01 h
    · exact foP5_02 h
    · exact foP5_03 h
    · exact foP5_04 h
  · obtain rfl | rfl | rfl | rfl | rfl : b = 0 ∨ b = 1 ∨ b = 2 ∨ b = 3 ∨ b = 4 := by omega
    · rw [forZ_symm]; exact foP5_01 h
    · exact absurd rfl hab
    · exact foP5_12 h
    · exact foP5_13 h
    · exact foP5_14 h
  · obtain rfl | rfl | rfl | rfl | rfl : b = 0 ∨ b = 1 ∨ b = 2 ∨ b = 3 ∨ b = 4 := by omega
    · rw [forZ_symm]; exact foP5_02 h
    · rw [forZ_symm]; exact foP5_12 h
    · exact absurd rfl hab
    · exact foP5_23 h
    · exact foP5_24 h
  · obtain rfl | rfl | rfl | rfl | rfl : b = 0 ∨ b = 1 ∨ b = 2 ∨ b = 3 ∨ b = 4 := by omega
    · rw [forZ_symm]; exact foP5_03 h
    · rw [forZ_symm]; exact foP5_13 h
    · rw [forZ_symm]; exact foP5_23 h
    · exact absurd rfl hab
    · exact foP5_34 h
  · obtain rfl | rfl | rfl | rfl | rfl : b = 0 ∨ b = 1 ∨ b = 2 ∨ b = 3 ∨ b = 4 := by omega
    · rw [forZ_symm]; exact foP5_04 h
    · rw [forZ_symm]; exact foP5_14 h
    · rw [forZ_symm]; exact foP5_24 h
    · rw [forZ_symm]; exact foP5_34 h
    · exact absurd rfl hab
theorem for_pos {n m : Nat} {xs : List Int} (h : Drn n m xs) {a b : Int} (ha : 0 ≤ a ∧ a < n) (hb : 0 ≤ b ∧ b < n) (hab : a ≠ b) : 1 ≤ forZ n m xs a b := by
  have h1 := h.two
  have h2 := h.five
  obtain rfl | rfl | rfl | rfl : n = 2 ∨ n = 3 ∨ n = 4 ∨ n = 5 := by omega
  · exact for_pos2 h ha hb hab
  · exact for_pos3 h ha hb hab
  · exact for_pos4 h ha hb hab
  · exact for_pos5 h ha hb hab
theorem pot_nn3 {m : Nat} {xs : List Int} (h : Drn 3 m xs) {a b v : Int} (ha : 0 ≤ a ∧ a < 3) (hb : 0 ≤ b ∧ b < 3) (hv : 0 ≤ v ∧ v < 3) (hab : a ≠ b) (hav : a < v) (hvb : v ≠ b) : 0 ≤ forZ 3 m xs a b + forZ 3 m xs v b - forZ 3 m xs a v := by
  obtain rfl | rfl | rfl : a = 0 ∨ a = 1 ∨ a = 2 := by omega
  · obtain rfl | rfl | rfl : v = 0 ∨ v = 1 ∨ v = 2 := by omega
    · omega
    · obtain rfl | rfl | rfl : b = 0 ∨ b = 1 ∨ b = 2 := by omega
      · exact absurd rfl hab
      · exact absurd rfl hvb
      · rw [foT3_02 h, foT3_12 h, foT3_01 h]; have e := pp3_012_id (wbet xs m 0 1) (wbet xs m 0 2) (wbet xs m 1 2); have z := pp3_012_nn (wbet_nn h 0 1) (wbet_nn h 0 2) (wbet_nn h 1 2); omega
    · obtain rfl | rfl | rfl : b = 0 ∨ b = 1 ∨ b = 2 := by omega
      · exact absurd rfl hab
      · rw [foT3_01 h, foT3_21 h, foT3_02 h]; have e := pp3_021_id (wbet xs m 0 1) (wbet xs m 0 2) (wbet xs m 1 2); have z := pp3_021_nn (wbet_nn h 0 1) (wbet_nn h 0 2) (wbet_nn h 1 2); omega
      · exact absurd rfl hvb
  · obtain rfl | rfl | rfl : v = 0 ∨ v = 1 ∨ v = 2 := by omega
    · omega
    · omega
    · obtain rfl | rfl | rfl : b = 0 ∨ b = 1 ∨ b = 2 := by omega
      · rw [foT3_10 h, foT3_20 h, foT3_12 h]; have e := pp3_120_id (wbet xs m 0 1) (wbet xs m 0 2) (wbet xs m 1 2); have z := pp3_120_nn (wbet_nn h 0 1) (wbet_nn h 0 2) (wbet_nn h 1 2); omega
      · exact absurd rfl hab
      · exact absurd rfl hvb
  · obtain rfl | rfl | rfl : v = 0 ∨ v = 1 ∨ v = 2 := by omega
    · omega
    · omega
    · omega
theorem pot_nn4 {m : Nat} {xs : List Int} (h : Drn 4 m xs) {a b v : Int} (ha : 0 ≤ a ∧ a < 4) (hb : 0 ≤ b ∧ b < 4) (hv : 0 ≤ v ∧ v < 4) (hab : a ≠ b) (hav : a < v) (hvb : v ≠ b) : 0 ≤ forZ 4 m xs a b + forZ 4 m xs v b - forZ 4 m xs a v := by
  obtain rfl | rfl | rfl | rfl : a = 0 ∨ a = 1 ∨ a = 2 ∨ a = 3 := by omega
  · obtain rfl | rfl | rfl | rfl : v = 0 ∨ v = 1 ∨ v = 2 ∨ v = 3 := by omega
    · omega
    · obtain rfl | rfl | rfl | rfl : b = 0 ∨ b = 1 ∨ b = 2 ∨ b = 3 := by omega
      · exact absurd rfl hab
      · exact absurd rfl hvb
      · rw [foT4_02 h, foT4_12 h, foT4_01 h]; have e := pp4_012_id (wbet xs m 0 1) (wbet xs m 0 2) (wbet xs m 0 3) (wbet xs m 1 2) (wbet xs m 1 3) (wbet xs m 2 3); have z := pp4_012_nn (wbet_nn h 0 1) (wbet_nn h 0 2) (wbet_nn h 0 3) (wbet_nn h 1 2) (wbet_nn h 1 3) (wbet_nn h 2 3); omega
      · rw [foT4_03 h, foT4_13 h, foT4_01 h]; have e := pp4_013_id (wbet xs m 0 1) (wbet xs m 0 2) (wbet xs m 0 3) (wbet xs m 1 2) (wbet xs m 1 3) (wbet xs m 2 3); have z := pp4_013_nn (wbet_nn h 0 1) (wbet_nn h 0 2) (wbet_nn h 0 3) (wbet_nn h 1 2) (wbet_nn h 1 3) (wbet_nn h 2 3); omega
    · obtain rfl | rfl | rfl | rfl : b = 0 ∨ b = 1 ∨ b = 2 ∨ b = 3 := by omega
      · exact absurd rfl hab
      · rw [foT4_01 h, foT4_21 h, foT4_02 h]; have e := pp4_021_id (wbet xs m 0 1) (wbet xs m 0 2) (wbet xs m 0 3) (wbet xs m 1 2) (wbet xs m 1 3) (wbet xs m 2 3); have z := pp4_021_nn (wbet_nn h 0 1) (wbet_nn h 0 2) (wbet_nn h 0 3) (wbet_nn h 1 2) (wbet_nn h 1 3) (wbet_nn h 2 3); omega
      · exact absurd rfl hvb
      · rw [foT4_03 h, foT4_23 h, foT4_02 h]; have e := pp4_023_id (wbet xs m 0 1) (wbet xs m 0 2) (wbet xs m 0 3) (wbet xs m 1 2) (wbet xs m 1 3) (wbet xs m 2 3); have z := pp4_023_nn (wbet_nn h 0 1) (wbet_nn h 0 2) (wbet_nn h 0 3) (wbet_nn h 1 2) (wbet_nn h 1 3) (wbet_nn h 2 3); omega
    · obtain rfl | rfl | rfl | rfl : b = 0 ∨ b = 1 ∨ b = 2 ∨ b = 3 := by omega
      · exact absurd rfl hab
      · rw [foT4_01 h, foT4_31 h, foT4_03 h]; have e := pp4_031_id (wbet xs m 0 1) (wbet xs m 0 2) (wbet xs m 0 3) (wbet xs m 1 2) (wbet xs m 1 3) (wbet xs m 2 3); have z := pp4_031_nn (wbet_nn h 0 1) (wbet_nn h 0 2) (wbet_nn h 0 3) (wbet_nn h 1 2) (wbet_nn h 1 3) (wbet_nn h 2 3); omega
      · rw [foT4_02 h, foT4_32 h, foT4_03 h]; have e := pp4_032_id (wbet xs m 0 1) (wbet xs m 0 2) (wbet xs m 0 3) (wbet xs m 1 2) (wbet xs m 1 3) (wbet xs m 2 3); have z := pp4_032_nn (wbet_nn h 0 1) (wbet_nn h 0 2) (wbet_nn h 0 3) (wbet_nn h 1 2) (wbet_nn h 1 3) (wbet_nn h 2 3); omega
      · exact absurd rfl hvb
  · obtain rfl | rfl | rfl | rfl : v = 0 ∨ v = 1 ∨ v = 2 ∨ v = 3 := by omega
    · omega
    · omega
    · obtain rfl | rfl | rfl | rfl : b = 0 ∨ b = 1 ∨ b = 2 ∨ b = 3 := by omega
      · rw [foT4_10 h, foT4_20 h, foT4_12 h]; have e := pp4_120_id (wbet xs m 0 1) (wbet xs m 0 2) (wbet xs m 0 3) (wbet xs m 1 2) (wbet xs m 1 3) (wbet xs m 2 3); have z := pp4_120_nn (wbet_nn h 0 1) (wbet_nn h 0 2) (wbet_nn h 0 3) (wbet_nn h 1 2) (wbet_nn h 1 3) (wbet_nn h 2 3); omega
      · exact absurd rfl hab
      · exact absurd rfl hvb
      · rw [foT4_13 h, foT4_23 h, foT4_12 h]; have e := pp4_123_id (wbet xs m 0 1) (wbet xs m 0 2) (wbet xs m 0 3) (wbet xs m 1 2) (wbet xs m 1 3) (wbet xs m 2 3); have z := pp4_123_nn (wbet_nn h 0 1) (wbet_nn h 0 2) (wbet_nn h 0 3) (wbet_nn h 1 2) (wbet_nn h 1 3) (wbet_nn h 2 3); omega
    · obtain rfl | rfl | rfl | rfl : b = 0 ∨ b = 1 ∨ b = 2 ∨ b = 3 := by omega
      · rw [foT4_10 h, foT4_30 h, foT4_13 h]; have e := pp4_130_id (wbet xs m 0 1) (wbet xs m 0 2) (wbet xs m 0 3) (wbet xs m 1 2) (wbet xs m 1 3) (wbet xs m 2 3); have z := pp4_130_nn (wbet_nn h 0 1) (wbet_nn h 0 2) (wbet_nn h 0 3) (wbet_nn h 1 2) (wbet_nn h 1 3) (wbet_nn h 2 3); omega
      · exact absurd rfl hab
      · rw [foT4_12 h, foT4_32 h, foT4_13 h]; have e := pp4_132_id (wbet xs m 0 1) (wbet xs m 0 2) (wbet xs m 0 3) (wbet xs m 1 2) (wbet xs m 1 3) (wbet xs m 2 3); have z := pp4_132_nn (wbet_nn h 0 1) (wbet_nn h 0 2) (wbet_nn h 0 3) (wbet_nn h 1 2) (wbet_nn h 1 3) (wbet_nn h 2 3); omega
      · exact absurd rfl hvb
  · obtain rfl | rfl | rfl | rfl : v = 0 ∨ v = 1 ∨ v = 2 ∨ v = 3 := by omega
    · omega
    · omega
    · omega
    · obtain rfl | rfl | rfl | rfl : b = 0 ∨ b = 1 ∨ b = 2 ∨ b = 3 := by omega
      · rw [foT4_20 h, foT4_30 h, foT4_23 h]; have e := pp4_230_id (wbet xs m 0 1) (wbet xs m 0 2) (wbet xs m 0 3) (wbet xs m 1 2) (wbet xs m 1 3) (wbet xs m 2 3); have z := pp4_230_nn (wbet_nn h 0 1) (wbet_nn h 0 2) (wbet_nn h 0 3) (wbet_nn h 1 2) (wbet_nn h 1 3) (wbet_nn h 2 3); omega
      · rw [foT4_21 h, foT4_31 h, foT4_23 h]; have e := pp4_231_id (wbet xs m 0 1) (wbet xs m 0 2) (wbet xs m 0 3) (wbet xs m 1 2) (wbet xs m 1 3) (wbet xs m 2 3); have z := pp4_231_nn (wbet_nn h 0 1) (wbet_nn h 0 2) (wbet_nn h 0 3) (wbet_nn h 1 2) (wbet_nn h 1 3) (wbet_nn h 2 3); omega
      · exact absurd rfl hab
      · exact absurd rfl hvb
  · obtain rfl | rfl | rfl | rfl : v = 0 ∨ v = 1 ∨ v = 2 ∨ v = 3 := by omega
    · omega
    · omega
    · omega
    · omega
theorem pot_nn5 {m : Nat} {xs : List Int} (h : Drn 5 m xs) {a b v : Int} (ha : 0 ≤ a ∧ a < 5) (hb : 0 ≤ b ∧ b < 5) (hv : 0 ≤ v ∧ v < 5) (hab : a ≠ b) (hav : a < v) (hvb : v ≠ b) : 0 ≤ forZ 5 m xs a b + forZ 5 m xs v b - forZ 5 m xs a v := by
  obtain rfl | rfl | rfl | rfl | rfl : a = 0 ∨ a = 1 ∨ a = 2 ∨ a = 3 ∨ a = 4 := by omega
  · obtain rfl | rfl | rfl | rfl | rfl : v = 0 ∨ v = 1 ∨ v = 2 ∨ v = 3 ∨ v = 4 := by omega
    · omega
    · obtain rfl | rfl | rfl | rfl | rfl : b = 0 ∨ b = 1 ∨ b = 2 ∨ b = 3 ∨ b = 4 := by omega
      · exact absurd rfl hab
      · exact absurd rfl hvb
      · rw [foT5_02 h, foT5_12 h, foT5_01 h]; have e := pp5_012_id (wbet xs m 0 1) (wbet xs m 0 2) (wbet xs m 0 3) (wbet xs m 0 4) (wbet xs m 1 2) (wbet xs m 1 3) (wbet xs m 1 4) (wbet xs m 2 3) (wbet xs m 2 4) (wbet xs m 3 4); have z := pp5_012_nn (wbet_nn h 0 1) (wbet_nn h 0 2) (wbet_nn h 0 3) (wbet_nn h 0 4) (wbet_nn h 1 2) (wbet_nn h 1 3) (wbet_nn h 1 4) (wbet_nn h 2 3) (wbet_nn h 2 4) (wbet_nn h 3 4); omega
      · rw [foT5_03 h, foT5_13 h, foT5_01 h]; have e := pp5_013_id (wbet xs m 0 1) (wbet xs m 0 2) (wbet xs m 0 3) (wbet xs m 0 4) (wbet xs m 1 2) (wbet xs m 1 3) (wbet xs m 1 4) (wbet xs m 2 3) (wbet xs m 2 4) (wbet xs m 3 4); have z := pp5_013_nn (wbet_nn h 0 1) (wbet_nn h 0 2) (wbet_nn h 0 3) (wbet_nn h 0 4) (wbet_nn h 1 2) (wbet_nn h 1 3) (wbet_nn h 1 4) (wbet_nn h 2 3) (wbet_nn h 2 4) (wbet_nn h 3 4); omega
      · rw [foT5_04 h, foT5_14 h, foT5_01 h]; have e := pp5_014_id (wbet xs m 0 1) (wbet xs m 0 2) (wbet xs m 0 3) (wbet xs m 0 4) (wbet xs m 1 2) (wbet xs m 1 3) (wbet xs m 1 4) (wbet xs m 2 3) (wbet xs m 2 4) (wbet xs m 3 4); have z := pp5_014_nn (wbet_nn h 0 1) (wbet_nn h 0 2) (wbet_nn h 0 3) (wbet_nn h 0 4) (wbet_nn h 1 2) (wbet_nn h 1 3) (wbet_nn h 1 4) (wbet_nn h 2 3) (wbet_nn h 2 4) (wbet_nn h 3 4); omega
    · obtain rfl | rfl | rfl | rfl | rfl : b = 0 ∨ b = 1 ∨ b = 2 ∨ b = 3 ∨ b = 4 := by omega
      · exact absurd rfl hab
      · rw [foT5_01 h, foT5_21 h, foT5_02 h]; have e := pp5_021_id (wbet xs m 0 1) (wbet xs m 0 2) (wbet xs m 0 3) (wbet xs m 0 4) (wbet xs m 1 2) (wbet xs m 1 3) (wbet xs m 1 4) (wbet xs m 2 3) (wbet xs m 2 4) (wbet xs m 3 4); have z := pp5_021_nn (wbet_nn h 0 1) (wbet_nn h 0 2) (wbet_nn h 0 3) (wbet_nn h 0 4) (wbet_nn h 1 2) (wbet_nn h 1 3) (wbet_nn h 1 4) (wbet_nn h 2 3) (wbet_nn h 2 4) (wbet_nn h 3 4); omega
      · exact absurd rfl hvb
      · rw [foT5_03 h, foT5_23 h, foT5_02 h]; have e := pp5_023_id (wbet xs m 0 1) (wbet xs m 0 2) (wbet xs m 0 3) (wbet xs m 0 4) (wbet xs m 1 2) (wbet xs m 1 3) (wbet xs m 1 4) (wbet xs m 2 3) (wbet xs m 2 4) (wbet xs m 3 4); have z := pp5_023_nn (wbet_nn h 0 1) (wbet_nn h 0 2) (wbet_nn h 0 3) (wbet_nn h 0 4) (wbet_nn h 1 2) (wbet_nn h 1 3) (wbet_nn h 1 4) (wbet_nn h 2 3) (wbet_nn h 2 4) (wbet_nn h 3 4); omega
      · rw [foT5_04 h, foT5_24 h, foT5_02 h]; have e := pp5_024_id (wbet xs m 0 1) (wbet xs m 0 2) (wbet xs m 0 3) (wbet xs m 0 4) (wbet xs m 1 2) (wbet xs m 1 3) (wbet xs m 1 4) (wbet xs m 2 3) (wbet xs m 2 4) (wbet xs m 3 4); have z := pp5_024_nn (wbet_nn h 0 1) (wbet_nn h 0 2) (wbet_nn h 0 3) (wbet_nn h 0 4) (wbet_nn h 1 2) (wbet_nn h 1 3) (wbet_nn h 1 4) (wbet_nn h 2 3) (wbet_nn h 2 4) (wbet_nn h 3 4); omega
    · obtain rfl | rfl | rfl | rfl | rfl : b = 0 ∨ b = 1 ∨ b = 2 ∨ b = 3 ∨ b = 4 := by omega
      · exact absurd rfl hab
      · rw [foT5_01 h, foT5_31 h, foT5_03 h]; have e := pp5_031_id (wbet xs m 0 1) (wbet xs m 0 2) (wbet xs m 0 3) (wbet xs m 0 4) (wbet xs m 1 2) (wbet xs m 1 3) (wbet xs m 1 4) (wbet xs m 2 3) (wbet xs m 2 4) (wbet xs m 3 4); have z := pp5_031_nn (wbet_nn h 0 1) (wbet_nn h 0 2) (wbet_nn h 0 3) (wbet_nn h 0 4) (wbet_nn h 1 2) (wbet_nn h 1 3) (wbet_nn h 1 4) (wbet_nn h 2 3) (wbet_nn h 2 4) (wbet_nn h 3 4); omega
      · rw [foT5_02 h, foT5_32 h, foT5_03 h]; have e := pp5_032_id (wbet xs m 0 1) (wbet xs m 0 2) (wbet xs m 0 3) (wbet xs m 0 4) (wbet xs m 1 2) (wbet xs m 1 3) (wbet xs m 1 4) (wbet xs m 2 3) (wbet xs m 2 4) (wbet xs m 3 4); have z := pp5_032_nn (wbet_nn h 0 1) (wbet_nn h 0 2) (wbet_nn h 0 3) (wbet_nn h 0 4) (wbet_nn h 1 2) (wbet_nn h 1 3) (wbet_nn h 1 4) (wbet_nn h 2 3) (wbet_nn h 2 4) (wbet_nn h 3 4); omega
      · exact absurd rfl hvb
      · rw [foT5_04 h, foT5_34 h, foT5_03 h]; have e := pp5_034_id (wbet xs m 0 1) (wbet xs m 0 2) (wbet xs m 0 3) (wbet xs m 0 4) (wbet xs m 1 2) (wbet xs m 1 3) (wbet xs m 1 4) (wbet xs m 2 3) (wbet xs m 2 4) (wbet xs m 3 4); have z := pp5_034_nn (wbet_nn h 0 1) (wbet_nn h 0 2) (wbet_nn h 0 3) (wbet_nn h 0 4) (wbet_nn h 1 2) (wbet_nn h 1 3) (wbet_nn h 1 4) (wbet_nn h 2 3) (wbet_nn h 2 4) (wbet_nn h 3 4); omega
    · obtain rfl | rfl | rfl | rfl | rfl : b = 0 ∨ b = 1 ∨ b = 2 ∨ b = 3 ∨ b = 4 := by omega
      · exact absurd rfl hab
      · rw [foT5_01 h, foT5_41 h, foT5_04 h]; have e := pp5_041_id (wbet xs m 0 1) (wbet xs m 0 2) (wbet xs m 0 3) (wbet xs m 0 4) (wbet xs m 1 2) (wbet xs m 1 3) (wbet xs m 1 4) (wbet xs m 2 3) (wbet xs m 2 4) (wbet xs m 3 4); have z := pp5_041_nn (wbet_nn h 0 1) (wbet_nn h 0 2) (wbet_nn h 0 3) (wbet_nn h 0 4) (wbet_nn h 1 2) (wbet_nn h 1 3) (wbet_nn h 1 4) (wbet_nn h 2 3) (wbet_nn h 2 4) (wbet_nn h 3 4); omega
      · rw [foT5_02 h, foT5_42 h, foT5_04 h]; have e := pp5_042_id (wbet xs m 0 1) (wbet xs m 0 2) (wbet xs m 0 3) (wbet xs m 0 4) (wbet xs m 1 2) (wbet xs m 1 3) (wbet xs m 1 4) (wbet xs m 2 3) (wbet xs m 2 4) (wbet xs m 3 4); have z := pp5_042_nn (wbet_nn h 0 1) (wbet_nn h 0 2) (wbet_nn h 0 3) (wbet_nn h 0 4) (wbet_nn h 1 2) (wbet_nn h 1 3) (wbet_nn h 1 4) (wbet_nn h 2 3) (wbet_nn h 2 4) (wbet_nn h 3 4); omega
      · rw [foT5_03 h, foT5_43 h, foT5_04 h]; have e := pp5_043_id (wbet xs m 0 1) (wbet xs m 0 2) (wbet xs m 0 3) (wbet xs m 0 4) (wbet xs m 1 2) (wbet xs m 1 3) (wbet xs m 1 4) (wbet xs m 2 3) (wbet xs m 2 4) (wbet xs m 3 4); have z := pp5_043_nn (wbet_nn h 0 1) (wbet_nn h 0 2) (wbet_nn h 0 3) (wbet_nn h 0 4) (wbet_nn h 1 2) (wbet_nn h 1 3) (wbet_nn h 1 4) (wbet_nn h 2 3) (wbet_nn h 2 4) (wbet_nn h 3 4); omega
      · exact absurd rfl hvb
  · obtain rfl | rfl | rfl | rfl | rfl : v = 0 ∨ v = 1 ∨ v = 2 ∨ v = 3 ∨ v = 4 := by omega
    · omega
    · omega
    · obtain rfl | rfl | rfl | rfl | rfl : b = 0 ∨ b = 1 ∨ b = 2 ∨ b = 3 ∨ b = 4 := by omega
      · rw [foT5_10 h, foT5_20 h, foT5_12 h]; have e := pp5_120_id (wbet xs m 0 1) (wbet xs m 0 2) (wbet xs m 0 3) (wbet xs m 0 4) (wbet xs m 1 2) (wbet xs m 1 3) (wbet xs m 1 4) (wbet xs m 2 3) (wbet xs m 2 4) (wbet xs m 3 4); have z := pp5_120_nn (wbet_nn h 0 1) (wbet_nn h 0 2) (wbet_nn h 0 3) (wbet_nn h 0 4) (wbet_nn h 1 2) (wbet_nn h 1 3) (wbet_nn h 1 4) (wbet_nn h 2 3) (wbet_nn h 2 4) (wbet_nn h 3 4); omega
      · exact absurd rfl hab
      · exact absurd rfl hvb
      · rw [foT5_13 h, foT5_23 h, foT5_12 h]; have e := pp5_123_id (wbet xs m 0 1) (wbet xs m 0 2) (wbet xs m 0 3) (wbet xs m 0 4) (wbet xs m 1 2) (wbet xs m 1 3) (wbet xs m 1 4) (wbet xs m 2 3) (wbet xs m 2 4) (wbet xs m 3 4); have z := pp5_123_nn (wbet_nn h 0 1) (wbet_nn h 0 2) (wbet_nn h 0 3) (wbet_nn h 0 4) (wbet_nn h 1 2) (wbet_nn h 1 3) (wbet_nn h 1 4) (wbet_nn h 2 3) (wbet_nn h 2 4) (wbet_nn h 3 4); omega
      · rw [foT5_14 h, foT5_24 h, foT5_12 h]; have e := pp5_124_id (wbet xs m 0 1) (wbet xs m 0 2) (wbet xs m 0 3) (wbet xs m 0 4) (wbet xs m 1 2) (wbet xs m 1 3) (wbet xs m 1 4) (wbet xs m 2 3) (wbet xs m 2 4) (wbet xs m 3 4); have z := pp5_124_nn (wbet_nn h 0 1) (wbet_nn h 0 2) (wbet_nn h 0 3) (wbet_nn h 0 4) (wbet_nn h 1 2) (wbet_nn h 1 3) (wbet_nn h 1 4) (wbet_nn h 2 3) (wbet_nn h 2 4) (wbet_nn h 3 4); omega
    · obtain rfl | rfl | rfl | rfl | rfl : b = 0 ∨ b = 1 ∨ b = 2 ∨ b = 3 ∨ b = 4 := by omega
      · rw [foT5_10 h, foT5_30 h, foT5_13 h]; have e := pp5_130_id (wbet xs m 0 1) (wbet xs m 0 2) (wbet xs m 0 3) (wbet xs m 0 4) (wbet xs m 1 2) (wbet xs m 1 3) (wbet xs m 1 4) (wbet xs m 2 3) (wbet xs m 2 4) (wbet xs m 3 4); have z := pp5_130_nn (wbet_nn h 0 1) (wbet_nn h 0 2) (wbet_nn h 0 3) (wbet_nn h 0 4) (wbet_nn h 1 2) (wbet_nn h 1 3) (wbet_nn h 1 4) (wbet_nn h 2 3) (wbet_nn h 2 4) (wbet_nn h 3 4); omega
      · exact absurd rfl hab
      · rw [foT5_12 h, foT5_32 h, foT5_13 h]; have e := pp5_132_id (wbet xs m 0 1) (wbet xs m 0 2) (wbet xs m 0 3) (wbet xs m 0 4) (wbet xs m 1 2) (wbet xs m 1 3) (wbet xs m 1 4) (wbet xs m 2 3) (wbet xs m 2 4) (wbet xs m 3 4); have z := pp5_132_nn (wbet_nn h 0 1) (wbet_nn h 0 2) (wbet_nn h 0 3) (wbet_nn h 0 4) (wbet_nn h 1 2) (wbet_nn h 1 3) (wbet_nn h 1 4) (wbet_nn h 2 3) (wbet_nn h 2 4) (wbet_nn h 3 4); omega
      · exact absurd rfl hvb
      · rw [foT5_14 h, foT5_34 h, foT5_13 h]; have e := pp5_134_id (wbet xs m 0 1) (wbet xs m 0 2) (wbet xs m 0 3) (wbet xs m 0 4) (wbet xs m 1 2) (wbet xs m 1 3) (wbet xs m 1 4) (wbet xs m 2 3) (wbet xs m 2 4) (wbet xs m 3 4); have z := pp5_134_nn (wbet_nn h 0 1) (wbet_nn h 0 2) (wbet_nn h 0 3) (wbet_nn h 0 4) (wbet_nn h 1 2) (wbet_nn h 1 3) (wbet_nn h 1 4) (wbet_nn h 2 3) (wbet_nn h 2 4) (wbet_nn h 3 4); omega
    · obtain rfl | rfl | rfl | rfl | rfl : b = 0 ∨ b = 1 ∨ b = 2 ∨ b = 3 ∨ b = 4 := by omega
      · rw [foT5_10 h, foT5_40 h, foT5_14 h]; have e := pp5_140_id (wbet xs m 0 1) (wbet xs m 0 2) (wbet xs m 0 3) (wbet xs m 0 4) (wbet xs m 1 2) (wbet xs m 1 3) (wbet xs m 1 4) (wbet xs m 2 3) (wbet xs m 2 4) (wbet xs m 3 4); have z := pp5_140_nn (wbet_nn h 0 1) (wbet_nn h 0 2) (wbet_nn h 0 3) (wbet_nn h 0 4) (wbet_nn h 1 2) (wbet_nn h 1 3) (wbet_nn h 1 4) (wbet_nn h 2 3) (wbet_nn h 2 4) (wbet_nn h 3 4); omega
      · exact absurd rfl hab
      · rw [foT5_12 h, foT5_42 h, foT5_14 h]; have e := pp5_142_id (wbet xs m 0 1) (wbet xs m 0 2) (wbet xs m 0 3) (wbet xs m 0 4) (wbet xs m 1 2) (wbet xs m 1 3) (wbet xs m 1 4) (wbet xs m 2 3) (wbet xs m 2 4) (wbet xs m 3 4); have z := pp5_142_nn (wbet_nn h 0 1) (wbet_nn h 0 2) (wbet_nn h 0 3) (wbet_nn h 0 4) (wbet_nn h 1 2) (wbet_nn h 1 3) (wbet_nn h 1 4) (wbet_nn h 2 3) (wbet_nn h 2 4) (wbet_nn h 3 4); omega
      · rw [foT5_13 h, foT5_43 h, foT5_14 h]; have e := pp5_143_id (wbet xs m 0 1) (wbet xs m 0 2) (wbet xs m 0 3) (wbet xs m 0 4) (wbet xs m 1 2) (wbet xs m 1 3) (wbet xs m 1 4) (wbet xs m 2 3) (wbet xs m 2 4) (wbet xs m 3 4); have z := pp5_143_nn (wbet_nn h 0 1) (wbet_nn h 0 2) (wbet_nn h 0 3) (wbet_nn h 0 4) (wbet_nn h 1 2) (wbet_nn h 1 3) (wbet_nn h 1 4) (wbet_nn h 2 3) (wbet_nn h 2 4) (wbet_nn h 3 4); omega
      · exact absurd rfl hvb
  · obtain rfl | rfl | rfl | rfl | rfl : v = 0 ∨ v = 1 ∨ v = 2 ∨ v = 3 ∨ v = 4 := by omega
    · omega
    · omega
    · omega
    · obtain rfl | rfl | rfl | rfl | rfl : b = 0 ∨ b = 1 ∨ b = 2 ∨ b = 3 ∨ b = 4 := by omega
      · rw [foT5_20 h, foT5_30 h, foT5_23 h]; have e := pp5_230_id (wbet xs m 0 1) (wbet xs m 0 2) (wbet xs m 0 3) (wbet xs m 0 4) (wbet xs m 1 2) (wbet xs m 1 3) (wbet xs m 1 4) (wbet xs m 2 3) (wbet xs m 2 4) (wbet xs m 3 4); have z := pp5_230_nn (wbet_nn h 0 1) (wbet_nn h 0 2) (wbet_nn h 0 3) (wbet_nn h 0 4) (wbet_nn h 1 2) (wbet_nn h 1 3) (wbet_nn h 1 4) (wbet_nn h 2 3) (wbet_nn h 2 4) (wbet_nn h 3 4); omega
      · rw [foT5_21 h, foT5_31 h, foT5_23 h]; have e := pp5_231_id (wbet xs m 0 1) (wbet xs m 0 2) (wbet xs m 0 3) (wbet xs m 0 4) (wbet xs m 1 2) (wbet xs m 1 3) (wbet xs m 1 4) (wbet xs m 2 3) (wbet xs m 2 4) (wbet xs m 3 4); have z := pp5_231_nn (wbet_nn h 0 1) (wbet_nn h 0 2) (wbet_nn h 0 3) (wbet_nn h 0 4) (wbet_nn h 1 2) (wbet_nn h 1 3) (wbet_nn h 1 4) (wbet_nn h 2 3) (wbet_nn h 2 4) (wbet_nn h 3 4); omega
      · exact absurd rfl hab
      · exact absurd rfl hvb
      · rw [foT5_24 h, foT5_34 h, foT5_23 h]; have e := pp5_234_id (wbet xs m 0 1) (wbet xs m 0 2) (wbet xs m 0 3) (wbet xs m 0 4) (wbet xs m 1 2) (wbet xs m 1 3) (wbet xs m 1 4) (wbet xs m 2 3) (wbet xs m 2 4) (wbet xs m 3 4); have z := pp5_234_nn (wbet_nn h 0 1) (wbet_nn h 0 2) (wbet_nn h 0 3) (wbet_nn h 0 4) (wbet_nn h 1 2) (wbet_nn h 1 3) (wbet_nn h 1 4) (wbet_nn h 2 3) (wbet_nn h 2 4) (wbet_nn h 3 4); omega
    · obtain rfl | rfl | rfl | rfl | rfl : b = 0 ∨ b = 1 ∨ b = 2 ∨ b = 3 ∨ b = 4 := by omega
      · rw [foT5_20 h, foT5_40 h, foT5_24 h]; have e := pp5_240_id (wbet xs m 0 1) (wbet xs m 0 2) (wbet xs m 0 3) (wbet xs m 0 4) (wbet xs m 1 2) (wbet xs m 1 3) (wbet xs m 1 4) (wbet xs m 2 3) (wbet xs m 2 4) (wbet xs m 3 4); have z := pp5_240_nn (wbet_nn h 0 1) (wbet_nn h 0 2) (wbet_nn h 0 3) (wbet_nn h 0 4) (wbet_nn h 1 2) (wbet_nn h 1 3) (wbet_nn h 1 4) (wbet_nn h 2 3) (wbet_nn h 2 4) (wbet_nn h 3 4); omega
      · rw [foT5_21 h, foT5_41 h, foT5_24 h]; have e := pp5_241_id (wbet xs m 0 1) (wbet xs m 0 2) (wbet xs m 0 3) (wbet xs m 0 4) (wbet xs m 1 2) (wbet xs m 1 3) (wbet xs m 1 4) (wbet xs m 2 3) (wbet xs m 2 4) (wbet xs m 3 4); have z := pp5_241_nn (wbet_nn h 0 1) (wbet_nn h 0 2) (wbet_nn h 0 3) (wbet_nn h 0 4) (wbet_nn h 1 2) (wbet_nn h 1 3) (wbet_nn h 1 4) (wbet_nn h 2 3) (wbet_nn h 2 4) (wbet_nn h 3 4); omega
      · exact absurd rfl hab
      · rw [foT5_23 h, foT5_43 h, foT5_24 h]; have e := pp5_243_id (wbet xs m 0 1) (wbet xs m 0 2) (wbet xs m 0 3) (wbet xs m 0 4) (wbet xs m 1 2) (wbet xs m 1 3) (wbet xs m 1 4) (wbet xs m 2 3) (wbet xs m 2 4) (wbet xs m 3 4); have z := pp5_243_nn (wbet_nn h 0 1) (wbet_nn h 0 2) (wbet_nn h 0 3) (wbet_nn h 0 4) (wbet_nn h 1 2) (wbet_nn h 1 3) (wbet_nn h 1 4) (wbet_nn h 2 3) (wbet_nn h 2 4) (wbet_nn h 3 4); omega
      · exact absurd rfl hvb
  · obtain rfl | rfl | rfl | rfl | rfl : v = 0 ∨ v = 1 ∨ v = 2 ∨ v = 3 ∨ v = 4 := by omega
    · omega
    · omega
    · omega
    · omega
    · obtain rfl | rfl | rfl | rfl | rfl : b = 0 ∨ b = 1 ∨ b = 2 ∨ b = 3 ∨ b = 4 := by omega
      · rw [foT5_30 h, foT5_40 h, foT5_34 h]; have e := pp5_340_id (wbet xs m 0 1) (wbet xs m 0 2) (wbet xs m 0 3) (wbet xs m 0 4) (wbet xs m 1 2) (wbet xs m 1 3) (wbet xs m 1 4) (wbet xs m 2 3) (wbet xs m 2 4) (wbet xs m 3 4); have z := pp5_340_nn (wbet_nn h 0 1) (wbet_nn h 0 2) (wbet_nn h 0 3) (wbet_nn h 0 4) (wbet_nn h 1 2) (wbet_nn h 1 3) (wbet_nn h 1 4) (wbet_nn h 2 3) (wbet_nn h 2 4) (wbet_nn h 3 4); omega
      · rw [foT5_31 h, foT5_41 h, foT5_34 h]; have e := pp5_341_id (wbet xs m 0 1) (wbet xs m 0 2) (wbet xs m 0 3) (wbet xs m 0 4) (wbet xs m 1 2) (wbet xs m 1 3) (wbet xs m 1 4) (wbet xs m 2 3) (wbet xs m 2 4) (wbet xs m 3 4); have z := pp5_341_nn (wbet_nn h 0 1) (wbet_nn h 0 2) (wbet_nn h 0 3) (wbet_nn h 0 4) (wbet_nn h 1 2) (wbet_nn h 1 3) (wbet_nn h 1 4) (wbet_nn h 2 3) (wbet_nn h 2 4) (wbet_nn h 3 4); omega
      · rw [foT5_32 h, foT5_42 h, foT5_34 h]; have e := pp5_342_id (wbet xs m 0 1) (wbet xs m 0 2) (wbet xs m 0 3) (wbet xs m 0 4) (wbet xs m 1 2) (wbet xs m 1 3) (wbet xs m 1 4) (wbet xs m 2 3) (wbet xs m 2 4) (wbet xs m 3 4); have z := pp5_342_nn (wbet_nn h 0 1) (wbet_nn h 0 2) (wbet_nn h 0 3) (wbet_nn h 0 4) (wbet_nn h 1 2) (wbet_nn h 1 3) (wbet_nn h 1 4) (wbet_nn h 2 3) (wbet_nn h 2 4) (wbet_nn h 3 4); omega
      · exact absurd rfl hab
      · exact absurd rfl hvb
  · obtain rfl | rfl | rfl | rfl | rfl : v = 0 ∨ v = 1 ∨ v = 2 ∨ v = 3 ∨ v = 4 := by omega
    · omega
    · omega
    · omega
    · omega
    · omega
theorem pot_nn {n m : Nat} {xs : List Int} (h : Drn n m xs) {a b v : Int} (ha : 0 ≤ a ∧ a < n) (hb : 0 ≤ b ∧ b < n) (hv : 0 ≤ v ∧ v < n) : 0 ≤ forZ n m xs a b + forZ n m xs v b - forZ n m xs a v := by
  have h1 := h.two
  have h2 := h.five
  by_cases e1 : a = b
  · subst e1
    rw [forZ_self, forZ_symm n m xs v a]; omega
  have p1 := for_pos h ha hb e1
  by_cases e2 : v = b
  · subst e2; rw [forZ_self]; omega
  have p2 := for_pos h hv hb e2
  by_cases e3 : a = v
  · subst e3; rw [forZ_self]; omega
  obtain rfl | rfl | rfl | rfl : n = 2 ∨ n = 3 ∨ n = 4 ∨ n = 5 := by omega
  · omega
  · by_cases e4 : a < v
    · exact pot_nn3 h ha hb hv e1 e4 e2
    · have := pot_nn3 h hv hb ha e2 (by omega) e1
      rw [forZ_symm _ _ _ v a] at this; omega
  · by_cases e4 : a < v
    · exact pot_nn4 h ha hb hv e1 e4 e2
    · have := pot_nn4 h hv hb ha e2 (by omega) e1
      rw [forZ_symm _ _ _ v a] at this; omega
  · by_cases e4 : a < v
    · exact pot_nn5 h ha hb hv e1 e4 e2
    · have := pot_nn5 h hv hb ha e2 (by omega) e1
      rw [forZ_symm _ _ _ v a] at this; omega
theorem kir2 {m : Nat} {xs : List Int} (h : Drn 2 m xs) {a y : Int} (ha : 0 ≤ a ∧ a < 2) (hy : 0 ≤ y ∧ y < 2) (hay : a ≠ y) : sumTo (fun (w : Nat) => wbet xs m a w * (forZ 2 m xs a y - forZ 2 m xs w y + forZ 2 m xs w a)) 2 = 2 * treeT 2 m xs := by
  rw [trT2 h]
  obtain rfl | rfl : a = 0 ∨ a = 1 := by omega
  · obtain rfl | rfl : y = 0 ∨ y = 1 := by omega
    · exact absurd rfl hay
    · have e := kir2_01 (wbet xs m 0 1); have c0 : ((0 : Nat) : Int) = 0 := rfl; have c1 : ((1 : Nat) : Int) = 1 := rfl; have z := wbet_self h 0; have s := forZ_self 2 m xs 1; have s2 := forZ_self 2 m xs 0
      simp only [sumTo, c0, c1, z, s, s2, foT2_10 h, foT2_01 h]
      rw [← e]
      simp only [Int.zero_add, Int.zero_mul, Int.add_zero, Int.sub_zero]
  · obtain rfl | rfl : y = 0 ∨ y = 1 := by omega
    · have e := kir2_10 (wbet xs m 0 1); have c0 : ((0 : Nat) : Int) = 0 := rfl; have c1 : ((1 : Nat) : Int) = 1 := rfl; have z := wbet_self h 1; have s := forZ_self 2 m xs 0; have s2 := forZ_self 2 m xs 1
      simp only [sumTo, c0, c1, z, s, s2, foT2_01 h, foT2_10 h, wbet_symm xs m 1 0]
      rw [← e]
      simp only [Int.zero_add, Int.zero_mul, Int.add_zero, Int.sub_zero]
    · exact absurd rfl hay
theorem kir3 {m : Nat} {xs : List Int} (h : Drn 3 m xs) {a y : Int} (ha : 0 ≤ a ∧ a < 3) (hy : 0 ≤ y ∧ y < 3) (hay : a ≠ y) : sumTo (fun (w : Nat) => wbet xs m a w * (forZ 3 m xs a y - forZ 3 m xs w y + forZ 3 m xs w a)) 3 = 2 * treeT 3 m xs := by
  rw [trT3 h]
  obtain rfl | rfl | rfl : a = 0 ∨ a = 1 ∨ a = 2 := by omega
  · obtain rfl | rfl | rfl : y = 0 ∨ y = 1 ∨ y = 2 := by omega
    · exact absurd rfl hay
    · have e := kir3_01 (wbet xs m 0 1) (wbet xs m 0 2) (wbet xs m 1 2); have c0 : ((0 : Nat) : Int) = 0 := rfl; have c1 : ((1 : Nat) : Int) = 1 := rfl; have c2 : ((2 : Nat) : Int) = 2 := rfl; have z := wbet_self h 0; have s := forZ_self 3 m xs 1; have s2 := forZ_self 3 m xs 0
      simp only [sumTo, c0, c1, c2, z, s, s2, foT3_10 h, foT3_21 h, foT3_20 h, foT3_01 h]
      rw [← e]
      simp only [Int.zero_add, Int.zero_mul, Int.add_zero, Int.sub_zero]
    · have e := kir3_02 (wbet xs m 0 1) (wbet xs m 0 2) (wbet xs m 1 2); have c0 : ((0 : Nat) : Int) = 0 := rfl; have c1 : ((1 : Nat) : Int) = 1 := rfl; have c2 : ((2 : Nat) : Int) = 2 := rfl; have z := wbet_self h 0; have s := forZ_self 3 m xs 2; have s2 := forZ_self 3 m xs 0
      simp only [sumTo, c0, c1, c2, z, s, s2, foT3_12 h, foT3_10 h, foT3_20 h, foT3_02 h]
      rw [← e]
      simp only [Int.zero_add, Int.zero_mul, Int.add_zero, Int.sub_zero]
  · obtain rfl | rfl | rfl : y = 0 ∨ y = 1 ∨ y = 2 := by omega
    · have e := kir3_10 (wbet xs m 0 1) (wbet xs m 0 2) (wbet xs m 1 2); have c0 : ((0 : Nat) : Int) = 0 := rfl; have c1 : ((1 : Nat) : Int) = 1 := rfl; have c2 : ((2 : Nat) : Int) = 2 := rfl; have z := wbet_self h 1; have s := forZ_self 3 m xs 0; have s2 := forZ_self 3 m xs 1
      simp only [sumTo, c0, c1, c2, z, s, s2, foT3_01 h, foT3_20 h, foT3_21 h, foT3_10 h, wbet_symm xs m 1 0]
      rw [← e]
      simp only [Int.zero_add, Int.zero_mul, Int.add_zero, Int.sub_zero]
    · exact absurd rfl hay
    · have e := kir3_12 (wbet xs m 0 1) (wbet xs m 0 2) (wbet xs m 1 2); have c0 : ((0 : Nat) : Int) = 0 := rfl; have c1 : ((1 : Nat) : Int) = 1 := rfl; have c2 : ((2 : Nat) : Int) = 2 := rfl; have z := wbet_self h 1; have s := forZ_self 3 m xs 2; have s2 := forZ_self 3 m xs 1
      simp only [sumTo, c0, c1, c2, z, s, s2, foT3_02 h, foT3_01 h, foT3_21 h, foT3_12 h, wbet_symm xs m 1 0]
      rw [← e]
      simp only [Int.zero_add, Int.zero_mul, Int.add_zero, Int.sub_zero]
  · obtain rfl | rfl | rfl : y = 0 ∨ y = 1 ∨ y = 2 := by omega
    · have e := kir3_20 (wbet xs m 0 1) (wbet xs m 0 2) (wbet xs m 1 2); have c0 : ((0 : Nat) : Int) = 0 := rfl; have c1 : ((1 : Nat) : Int) = 1 := rfl; have c2 : ((2 : Nat) : Int) = 2 := rfl; have z := wbet_self h 2; have s := forZ_self 3 m xs 0; have s2 := forZ_self 3 m xs 2
      simp only [sumTo, c0, c1, c2, z, s, s2, foT3_02 h, foT3_10 h, foT3_12 h, foT3_20 h, wbet_symm xs m 2 0, wbet_symm xs m 2 1]
      rw [← e]
      simp only [Int.zero_add, Int.zero_mul, Int.add_zero, Int.sub_zero]
    · have e := kir3_21 (wbet xs m 0 1) (wbet xs m 0 2) (wbet xs m 1 2); have c0 : ((0 : Nat) : Int) = 0 := rfl; have c1 : ((1 : Nat) : Int) = 1 := rfl; have c2 : ((2 : Nat) : Int) = 2 := rfl; have z := wbet_self h 2; have s := forZ_self 3 m xs 1; have s2 := forZ_self 3 m xs 2
      simp only [sumTo, c0, c1, c2, z, s, s2, foT3_01 h, foT3_02 h, foT3_12 h, foT3_21 h, wbet_symm xs m 2 0, wbet_symm xs m 2 1]
      rw [← e]
      simp only [Int.zero_add, Int.zero_mul, Int.add_zero, Int.sub_zero]
    · exact absurd rfl hay
theorem kir4 {m : Nat} {xs : List Int} (h : Drn 4 m xs) {a y : Int} (ha : 0 ≤ a ∧ a < 4) (hy : 0 ≤ y ∧ y < 4) (hay : a ≠ y) : sumTo (fun (w : Nat) => wbet xs m a w * (forZ 4 m xs a y - forZ 4 m xs w y + forZ 4 m xs w a)) 4 = 2 * treeT 4 m xs := by
  rw [trT4 h]
  obtain rfl | rfl | rfl | rfl : a = 0 ∨ a = 1 ∨ a = 2 ∨ a = 3 := by omega
  · obtain rfl | rfl | rfl | rfl : y = 0 ∨ y = 1 ∨ y = 2 ∨ y = 3 := by omega
    · exact absurd rfl hay
    · have e := kir4_01 (wbet xs m 0 1) (wbet xs m 0 2) (wbet xs m 0 3) (wbet xs m 1 2) (wbet xs m 1 3) (wbet xs m 2 3); have c0 : ((0 : Nat) : Int) = 0 := rfl; have c1 : ((1 : Nat) : Int) = 1 := rfl; have c2 : ((2 : Nat) : Int) = 2 := rfl; have c3 : ((3 : Nat) : Int) = 3 := rfl; have z := wbet_self h 0; have s := forZ_self 4 m xs 1; have s2 := forZ_self 4 m xs 0
      simp only [sumTo, c0, c1, c2, c3, z, s, s2, foT4_10 h, foT4_21 h, foT4_20 h, foT4_31 h, foT4_30 h, foT4_01 h]
      rw [← e]
      simp only [Int.zero_add, Int.zero_mul, Int.add_zero, Int.sub_zero]
    · have e := kir4_02 (wbet xs m 0 1) (wbet xs m 0 2) (wbet xs m 0 3) (wbet xs m 1 2) (wbet xs m 1 3) (wbet xs m 2 3); have c0 : ((0 : Nat) : Int) = 0 := rfl; have c1 : ((1 : Nat) : Int) = 1 := rfl; have c2 : ((2 : Nat) : Int) = 2 := rfl; have c3 : ((3 : Nat) : Int) = 3 := rfl; have z := wbet_self h 0; have s := forZ_self 4 m xs 2; have s2 := forZ_self 4 m xs 0
      simp only [sumTo, c0, c1, c2, c3, z, s, s2, foT4_12 h, foT4_10 h, foT4_20 h, foT4_32 h, foT4_30 h, foT4_02 h]
      rw [← e]
      simp only [Int.zero_add, Int.zero_mul, Int.add_zero, Int.sub_zero]
    · have e := kir4_03 (wbet xs m 0 1) (wbet xs m 0 2) (wbet xs m 0 3) (wbet xs m 1 2) (wbet xs m 1 3) (wbet xs m 2 3); have c0 : ((0 : Nat) : Int) = 0 := rfl; have c1 : ((1 : Nat) : Int) = 1 := rfl; have c2 : ((2 : Nat) : Int) = 2 := rfl; have c3 : ((3 : Nat) : Int) = 3 := rfl; have z := wbet_self h 0; have s := forZ_self 4 m xs 3; have s2 := forZ_self 4 m xs 0
      simp only [sumTo, c0, c1, c2, c3, z, s, s2, foT4_13 h, foT4_10 h, foT4_23 h, foT4_20 h, foT4_30 h, foT4_03 h]
      rw [← e]
      simp only [Int.zero_add, Int.zero_mul, Int.add_zero, Int.sub_zero]
  · obtain rfl | rfl | rfl | rfl : y = 0 ∨ y = 1 ∨ y = 2 ∨ y = 3 := by omega
    · have e := kir4_10 (wbet xs m 0 1) (wbet xs m 0 2) (wbet xs m 0 3) (wbet xs m 1 2) (wbet xs m 1 3) (wbet xs m 2 3); have c0 : ((0 : Nat) : Int) = 0 := rfl; have c1 : ((1 : Nat) : Int) = 1 := rfl; have c2 : ((2 : Nat) : Int) = 2 := rfl; have c3 : ((3 : Nat) : Int) = 3 := rfl; have z := wbet_self h 1; have s := forZ_self 4 m xs 0; have s2 := forZ_self 4 m xs 1
      simp only [sumTo, c0, c1, c2, c3, z, s, s2, foT4_01 h, foT4_20 h, foT4_21 h, foT4_30 h, foT4_31 h, foT4_10 h, wbet_symm xs m 1 0]
      rw [← e]
      simp only [Int.zero_add, Int.zero_mul, Int.add_zero, Int.sub_zero]
    · exact absurd rfl hay
    · have e := kir4_12 (wbet xs m 0 1) (wbet xs m 0 2) (wbet xs m 0 3) (wbet xs m 1 2) (wbet xs m 1 3) (wbet xs m 2 3); have c0 : ((0 : Nat) : Int) = 0 := rfl; have c1 : ((1 : Nat) : Int) = 1 := rfl; have c2 : ((2 : Nat) : Int) = 2 := rfl; have c3 : ((3 : Nat) : Int) = 3 := rfl; have z := wbet_self h 1; have s := forZ_self 4 m xs 2; have s2 := forZ_self 4 m xs 1
      simp only [sumTo, c0, c1, c2, c3, z, s, s2, foT4_02 h, foT4_01 h, foT4_21 h, foT4_32 h, foT4_31 h, foT4_12 h, wbet_symm xs m 1 0]
      rw [← e]
      simp only [Int.zero_add, Int.zero_mul, Int.add_zero, Int.sub_zero]
    · have e := kir4_13 (wbet xs m 0 1) (wbet xs m 0 2) (wbet xs m 0 3) (wbet xs m 1 2) (wbet xs m 1 3) (wbet xs m 2 3); have c0 : ((0 : Nat) : Int) = 0 := rfl; have c1 : ((1 : Nat) : Int) = 1 := rfl; have c2 : ((2 : Nat) : Int) = 2 := rfl; have c3 : ((3 : Nat) : Int) = 3 := rfl; have z := wbet_self h 1; have s := forZ_self 4 m xs 3; have s2 := forZ_self 4 m xs 1
      simp only [sumTo, c0, c1, c2, c3, z, s, s2, foT4_03 h, foT4_01 h, foT4_23 h, foT4_21 h, foT4_31 h, foT4_13 h, wbet_symm xs m 1 0]
      rw [← e]
      simp only [Int.zero_add, Int.zero_mul, Int.add_zero, Int.sub_zero]
  · obtain rfl | rfl | rfl | rfl : y = 0 ∨ y = 1 ∨ y = 2 ∨ y = 3 := by omega
    · have e := kir4_20 (wbet xs m 0 1) (wbet xs m 0 2) (wbet xs m 0 3) (wbet xs m 1 2) (wbet xs m 1 3) (wbet xs m 2 3); have c0 : ((0 : Nat) : Int) = 0 := rfl; have c1 : ((1 : Nat) : Int) = 1 := rfl; have c2 : ((2 : Nat) : Int) = 2 := rfl; have c3 : ((3 : Nat) : Int) = 3 := rfl; have z := wbet_self h 2; have s := forZ_self 4 m xs 0; have s2 := forZ_self 4 m xs 2
      simp only [sumTo, c0, c1, c2, c3, z, s, s2, foT4_02 h, foT4_10 h, foT4_12 h, foT4_30 h, foT4_32 h, foT4_20 h, wbet_symm xs m 2 0, wbet_symm xs m 2 1]
      rw [← e]
      simp only [Int.zero_add, Int.zero_mul, Int.add_zero, Int.sub_zero]
    · have e := kir4_21 (wbet xs m 0 1) (wbet xs m 0 2) (wbet xs m 0 3) (wbet xs m 1 2) (wbet xs m 1 3) (wbet xs m 2 3); have c0 : ((0 : Nat) : Int) = 0 := rfl; have c1 : ((1 : Nat) : Int) = 1 := rfl; have c2 : ((2 : Nat) : Int) = 2 := rfl; have c3 : ((3 : Nat) : Int) = 3 := rfl; have z := wbet_self h 2; have s := forZ_self 4 m xs 1; have s2 := forZ_self 4 m xs 2
      simp only [sumTo, c0, c1, c2, c3, z, s, s2, foT4_01 h, foT4_02 h, foT4_12 h, foT4_31 h, foT4_32 h, foT4_21 h, wbet_symm xs m 2 0, wbet_symm xs m 2 1]
      rw [← e]
      simp only [Int.zero_add, Int.zero_mul, Int.add_zero, Int.sub_zero]
    · exact absurd rfl hay
    · have e := kir4_23 (wbet xs m 0 1) (wbet xs m 0 2) (wbet xs m 0 3) (wbet xs m 1 2) (wbet xs m 1 3) (wbet xs m 2 3); have c0 : ((0 : Nat) : Int) = 0 := rfl; have c1 : ((1 : Nat) : Int) = 1 := rfl; have c2 : ((2 : Nat) : Int) = 2 := rfl; have c3 : ((3 : Nat) : Int) = 3 := rfl; have z := wbet_self h 2; have s := forZ_self 4 m xs 3; have s2 := forZ_self 4 m xs 2
      simp only [sumTo, c0, c1, c2, c3, z, s, s2, foT4_03 h, foT4_02 h, foT4_13 h, foT4_12 h, foT4_32 h, foT4_23 h, wbet_symm xs m 2 0, wbet_symm xs m 2 1]
      rw [← e]
      simp only [Int.zero_add, Int.zero_mul, Int.add_zero, Int.sub_zero]
  · obtain rfl | rfl | rfl | rfl : y = 0 ∨ y = 1 ∨ y = 2 ∨ y = 3 := by omega
    · have e := kir4_30 (wbet xs m 0 1) (wbet xs m 0 2) (wbet xs m 0 3) (wbet xs m 1 2) (wbet xs m 1 3) (wbet xs m 2 3); have c0 : ((0 : Nat) : Int) = 0 := rfl; have c1 : ((1 : Nat) : Int) = 1 := rfl; have c2 : ((2 : Nat) : Int) = 2 := rfl; have c3 : ((3 : Nat) : Int) = 3 := rfl; have z := wbet_self h 3; have s := forZ_self 4 m xs 0; have s2 := forZ_self 4 m xs 3
      simp only [sumTo, c0, c1, c2, c3, z, s, s2, foT4_03 h, foT4_10 h, foT4_13 h, foT4_20 h, foT4_23 h, foT4_30 h, wbet_symm xs m 3 0, wbet_symm xs m 3 1, wbet_symm xs m 3 2]
      rw [← e]
      simp only [Int.zero_add, Int.zero_mul, Int.add_zero, Int.sub_zero]
    · have e := kir4_31 (wbet xs m 0 1) (wbet xs m 0 2) (wbet xs m 0 3) (wbet xs m 1 2) (wbet xs m 1 3) (wbet xs m 2 3); have c0 : ((0 : Nat) : Int) = 0 := rfl; have c1 : ((1 : Nat) : Int) = 1 := rfl; have c2 : ((2 : Nat) : Int) = 2 := rfl; have c3 : ((3 : Nat) : Int) = 3 := rfl; have z := wbet_self h 3; have s := forZ_self 4 m xs 1; have s2 := forZ_self 4 m xs 3
      simp only [sumTo, c0, c1, c2, c3, z, s, s2, foT4_01 h, foT4_03 h, foT4_13 h, foT4_21 h, foT4_23 h, foT4_31 h, wbet_symm xs m 3 0, wbet_symm xs m 3 1, wbet_symm xs m 3 2]
      rw [← e]
      simp only [Int.zero_add, Int.zero_mul, Int.add_zero, Int.sub_zero]
    · have e := kir4_32 (wbet xs m 0 1) (wbet xs m 0 2) (wbet xs m 0 3) (wbet xs m 1 2) (wbet xs m 1 3) (wbet xs m 2 3); have c0 : ((0 : Nat) : Int) = 0 := rfl; have c1 : ((1 : Nat) : Int) = 1 := rfl; have c2 : ((2 : Nat) : Int) = 2 := rfl; have c3 : ((3 : Nat) : Int) = 3 := rfl; have z := wbet_self h 3; have s := forZ_self 4 m xs 2; have s2 := forZ_self 4 m xs 3
      simp only [sumTo, c0, c1, c2, c3, z, s, s2, foT4_02 h, foT4_03 h, foT4_12 h, foT4_13 h, foT4_23 h, foT4_32 h, wbet_symm xs m 3 0, wbet_symm xs m 3 1, wbet_symm xs m 3 2]
      rw [← e]
      simp only [Int.zero_add, Int.zero_mul, Int.add_zero, Int.sub_zero]
    · exact absurd rfl hay
theorem kir5 {m : Nat} {xs : List Int} (h : Drn 5 m xs) {a y : Int} (ha : 0 ≤ a ∧ a < 5) (hy : 0 ≤ y ∧ y < 5) (hay : a ≠ y) : sumTo (fun (w : Nat) => wbet xs m a w * (forZ 5 m xs a y - forZ 5 m xs w y + forZ 5 m xs w a)) 5 = 2 * treeT 5 m xs := by
  rw [trT5 h]
  obtain rfl | rfl | rfl | rfl | rfl : a = 0 ∨ a = 1 ∨ a = 2 ∨ a = 3 ∨ a = 4 := by omega
  · obtain rfl | rfl | rfl | rfl | rfl : y = 0 ∨ y = 1 ∨ y = 2 ∨ y = 3 ∨ y = 4 := by omega
    · exact absurd rfl hay
    · have e := kir5_01 (wbet xs m 0 1) (wbet xs m 0 2) (wbet xs m 0 3) (wbet xs m 0 4) (wbet xs m 1 2) (wbet xs m 1 3) (wbet xs m 1 4) (wbet xs m 2 3) (wbet xs m 2 4) (wbet xs m 3 4); have c0 : ((0 : Nat) : Int) = 0 := rfl; have c1 : ((1 : Nat) : Int) = 1 := rfl; have c2 : ((2 : Nat) : Int) = 2 := rfl; have c3 : ((3 : Nat) : Int) = 3 := rfl; have c4 : ((4 : Nat) : Int) = 4 := rfl; have z := wbet_self h 0; have s := forZ_self 5 m xs 1; have s2 := forZ_self 5 m xs 0
      simp only [sumTo, c0, c1, c2, c3, c4, z, s, s2, foT5_10 h, foT5_21 h, foT5_20 h, foT5_31 h, foT5_30 h, foT5_41 h, foT5_40 h, foT5_01 h]
      rw [← e]
      simp only [Int.zero_add, Int.zero_mul, Int.add_zero, Int.sub_zero]
    · have e := kir5_02 (wbet xs m 0 1) (wbet xs m 0 2) (wbet xs m 0 3) (wbet xs m 0 4) (wbet xs m 1 2) (wbet xs m 1 3) (wbet xs m 1 4) (wbet xs m 2 3) (wbet xs m 2 4) (wbet xs m 3 4); have c0 : ((0 : Nat) : Int) = 0 := rfl; have c1 : ((1 : Nat) : Int) = 1 := rfl; have c2 : ((2 : Nat) : Int) = 2 := rfl; have c3 : ((3 : Nat) : Int) = 3 := rfl; have c4 : ((4 : Nat) : Int) = 4 := rfl; have z := wbet_self h 0; have s := forZ_self 5 m xs 2; have s2 := forZ_self 5 m xs 0
      simp only [sumTo, c0, c1, c2, c3, c4, z, s, s2, foT5_12 h, foT5_10 h, foT5_20 h, foT5_32 h, foT5_30 h, foT5_42 h, foT5_40 h, foT5_02 h]
      rw [← e]
      simp only [Int.zero_add, Int.zero_mul, Int.add_zero, Int.sub_zero]
    · have e := kir5_03 (wbet xs m 0 1) (wbet xs m 0 2) (wbet xs m 0 3) (wbet xs m 0 4) (wbet xs m 1 2) (wbet xs m 1 3) (wbet xs m 1 4) (wbet xs m 2 3) (wbet xs m 2 4) (wbet xs m 3 4); have c0 : ((0 : Nat) : Int) = 0 := rfl; have c1 : ((1 : Nat) : Int) = 1 := rfl; have c2 : ((2 : Nat) : Int) = 2 := rfl; have c3 : ((3 : Nat) : Int) = 3 := rfl; have c4 : ((4 : Nat) : Int) = 4 := rfl; have z := wbet_self h 0; have s := forZ_self 5 m xs 3; have s2 := forZ_self 5 m xs 0
      simp only [sumTo, c0, c1, c2, c3, c4, z, s, s2, foT5_13 h, foT5_10 h, foT5_23 h, foT5_20 h, foT5_30 h, foT5_43 h, foT5_40 h, foT5_03 h]
      rw [← e]
      simp only [Int.zero_add, Int.zero_mul, Int.add_zero, Int.sub_zero]
    · have e := kir5_04 (wbet xs m 0 1) (wbet xs m 0 2) (wbet xs m 0 3) (wbet xs m 0 4) (wbet xs m 1 2) (wbet xs m 1 3) (wbet xs m 1 4) (wbet xs m 2 3) (wbet xs m 2 4) (wbet xs m 3 4); have c0 : ((0 : Nat) : Int) = 0 := rfl; have c1 : ((1 : Nat) : Int) = 1 := rfl; have c2 : ((2 : Nat) : Int) = 2 := rfl; have c3 : ((3 : Nat) : Int) = 3 := rfl; have c4 : ((4 : Nat) : Int) = 4 := rfl; have z := wbet_self h 0; have s := forZ_self 5 m xs 4; have s2 := forZ_self 5 m xs 0
      simp only [sumTo, c0, c1, c2, c3, c4, z, s, s2, foT5_14 h, foT5_10 h, foT5_24 h, foT5_20 h, foT5_34 h, foT5_30 h, foT5_40 h, foT5_04 h]
      rw [← e]
      simp only [Int.zero_add, Int.zero_mul, Int.add_zero, Int.sub_zero]
  · obtain rfl | rfl | rfl | rfl | rfl : y = 0 ∨ y = 1 ∨ y = 2 ∨ y = 3 ∨ y = 4 := by omega
    · have e := kir5_10 (wbet xs m 0 1) (wbet xs m 0 2) (wbet xs m 0 3) (wbet xs m 0 4) (wbet xs m 1 2) (wbet xs m 1 3) (wbet xs m 1 4) (wbet xs m 2 3) (wbet xs m 2 4) (wbet xs m 3 4); have c0 : ((0 : Nat) : Int) = 0 := rfl; have c1 : ((1 : Nat) : Int) = 1 := rfl; have c2 : ((2 : Nat) : Int) = 2 := rfl; have c3 : ((3 : Nat) : Int) = 3 := rfl; have c4 : ((4 : Nat) : Int) = 4 := rfl; have z := wbet_self h 1; have s := forZ_self 5 m xs 0; have s2 := forZ_self 5 m xs 1
      simp only [sumTo, c0, c1, c2, c3, c4, z, s, s2, foT5_01 h, foT5_20 h, foT5_21 h, foT5_30 h, foT5_31 h, foT5_40 h, foT5_41 h, foT5_10 h, wbet_symm xs m 1 0]
      rw [← e]
      simp only [Int.zero_add, Int.zero_mul, Int.add_zero, Int.sub_zero]
    · exact absurd rfl hay
    · have e := kir5_12 (wbet xs m 0 1) (wbet xs m 0 2) (wbet xs m 0 3) (wbet xs m 0 4) (wbet xs m 1 2) (wbet xs m 1 3) (wbet xs m 1 4) (wbet xs m 2 3) (wbet xs m 2 4) (wbet xs m 3 4); have c0 : ((0 : Nat) : Int) = 0 := rfl; have c1 : ((1 : Nat) : Int) = 1 := rfl; have c2 : ((2 : Nat) : Int) = 2 := rfl; have c3 : ((3 : Nat) : Int) = 3 := rfl; have c4 : ((4 : Nat) : Int) = 4 := rfl; have z := wbet_self h 1; have s := forZ_self 5 m xs 2; have s2 := forZ_self 5 m xs 1
      simp only [sumTo, c0, c1, c2, c3, c4, z, s, s2, foT5_02 h, foT5_01 h, foT5_21 h, foT5_32 h, foT5_31 h, foT5_42 h, foT5_41 h, foT5_12 h, wbet_symm xs m 1 0]
      rw [← e]
      simp only [Int.zero_add, Int.zero_mul, Int.add_zero, Int.sub_zero]
    · have e := kir5_13 (wbet xs m 0 1) (wbet xs m 0 2) (wbet xs m 0 3) (wbet xs m 0 4) (wbet xs m 1 2) (wbet xs m 1 3) (wbet xs m 1 4) (wbet xs m 2 3) (wbet xs m 2 4) (wbet xs m 3 4); have c0 : ((0 : Nat) : Int) = 0 := rfl; have c1 : ((1 : Nat) : Int) = 1 := rfl; have c2 : ((2 : Nat) : Int) = 2 := rfl; have c3 : ((3 : Nat) : Int) = 3 := rfl; have c4 : ((4 : Nat) : Int) = 4 := rfl; have z := wbet_self h 1; have s := forZ_self 5 m xs 3; have s2 := forZ_self 5 m xs 1
      simp only [sumTo, c0, c1, c2, c3, c4, z, s, s2, foT5_03 h, foT5_01 h, foT5_23 h, foT5_21 h, foT5_31 h, foT5_43 h, foT5_41 h, foT5_13 h, wbet_symm xs m 1 0]
      rw [← e]
      simp only [Int.zero_add, Int.zero_mul, Int.add_zero, Int.sub_zero]
    · have e := kir5_14 (wbet xs m 0 1) (wbet xs m 0 2) (wbet xs m 0 3) (wbet xs m 0 4) (wbet xs m 1 2) (wbet xs m 1 3) (wbet xs m 1 4) (wbet xs m 2 3) (wbet xs m 2 4) (wbet xs m 3 4); have c0 : ((0 : Nat) : Int) = 0 := rfl; have c1 : ((1 : Nat) : Int) = 1 := rfl; have c2 : ((2 : Nat) : Int) = 2 := rfl; have c3 : ((3 : Nat) : Int) = 3 := rfl; have c4 : ((4 : Nat) : Int) = 4 := rfl; have z := wbet_self h 1; have s := forZ_self 5 m xs 4; have s2 := forZ_self 5 m xs 1
      simp only [sumTo, c0, c1, c2, c3, c4, z, s, s2, foT5_04 h, foT5_01 h, foT5_24 h, foT5_21 h, foT5_34 h, foT5_31 h, foT5_41 h, foT5_14 h, wbet_symm xs m 1 0]
      rw [← e]
      simp only [Int.zero_add, Int.zero_mul, Int.add_zero, Int.sub_zero]
  · obtain rfl | rfl | rfl | rfl | rfl : y = 0 ∨ y = 1 ∨ y = 2 ∨ y = 3 ∨ y = 4 := by omega
    · have e := kir5_20 (wbet xs m 0 1) (wbet xs m 0 2) (wbet xs m 0 3) (wbet xs m 0 4) (wbet xs m 1 2) (wbet xs m 1 3) (wbet xs m 1 4) (wbet xs m 2 3) (wbet xs m 2 4) (wbet xs m 3 4); have c0 : ((0 : Nat) : Int) = 0 := rfl; have c1 : ((1 : Nat) : Int) = 1 := rfl; have c2 : ((2 : Nat) : Int) = 2 := rfl; have c3 : ((3 : Nat) : Int) = 3 := rfl; have c4 : ((4 : Nat) : Int) = 4 := rfl; have z := wbet_self h 2; have s := forZ_self 5 m xs 0; have s2 := forZ_self 5 m xs 2
      simp only [sumTo, c0, c1, c2, c3, c4, z, s, s2, foT5_02 h, foT5_10 h, foT5_12 h, foT5_30 h, foT5_32 h, foT5_40 h, foT5_42 h, foT5_20 h, wbet_symm xs m 2 0, wbet_symm xs m 2 1]
      rw [← e]
      simp only [Int.zero_add, Int.zero_mul, Int.add_zero, Int.sub_zero]
    · have e := kir5_21 (wbet xs m 0 1) (wbet xs m 0 2) (wbet xs m 0 3) (wbet xs m 0 4) (wbet xs m 1 2) (wbet xs m 1 3) (wbet xs m 1 4) (wbet xs m 2 3) (wbet xs m 2 4) (wbet xs m 3 4); have c0 : ((0 : Nat) : Int) = 0 := rfl; have c1 : ((1 : Nat) : Int) = 1 := rfl; have c2 : ((2 : Nat) : Int) = 2 := rfl; have c3 : ((3 : Nat) : Int) = 3 := rfl; have c4 : ((4 : Nat) : Int) = 4 := rfl; have z := wbet_self h 2; have s := forZ_self 5 m xs 1; have s2 := forZ_self 5 m xs 2
      simp only [sumTo, c0, c1, c2, c3, c4, z, s, s2, foT5_01 h, foT5_02 h, foT5_12 h, foT5_31 h, foT5_32 h, foT5_41 h, foT5_42 h, foT5_21 h, wbet_symm xs m 2 0, wbet_symm xs m 2 1]
      rw [← e]
      simp only [Int.zero_add, Int.zero_mul, Int.add_zero, Int.sub_zero]
    · exact absurd rfl hay
    · have e := kir5_23 (wbet xs m 0 1) (wbet xs m 0 2) (wbet xs m 0 3) (wbet xs m 0 4) (wbet xs m 1 2) (wbet xs m 1 3) (wbet xs m 1 4) (wbet xs m 2 3) (wbet xs m 2 4) (wbet xs m 3 4); have c0 : ((0 : Nat) : Int) = 0 := rfl; have c1 : ((1 : Nat) : Int) = 1 := rfl; have c2 : ((2 : Nat) : Int) = 2 := rfl; have c3 : ((3 : Nat) : Int) = 3 := rfl; have c4 : ((4 : Nat) : Int) = 4 := rfl; have z := wbet_self h 2; have s := forZ_self 5 m xs 3; have s2 := forZ_self 5 m xs 2
      simp only [sumTo, c0, c1, c2, c3, c4, z, s, s2, foT5_03 h, foT5_02 h, foT5_13 h, foT5_12 h, foT5_32 h, foT5_43 h, foT5_42 h, foT5_23 h, wbet_symm xs m 2 0, wbet_symm xs m 2 1]
      rw [← e]
      simp only [Int.zero_add, Int.zero_mul, Int.add_zero, Int.sub_zero]
    · have e := kir5_24 (wbet xs m 0 1) (wbet xs m 0 2) (wbet xs m 0 3) (wbet xs m 0 4) (wbet xs m 1 2) (wbet xs m 1 3) (wbet xs m 1 4) (wbet xs m 2 3) (wbet xs m 2 4) (wbet xs m 3 4); have c0 : ((0 : Nat) : Int) = 0 := rfl; have c1 : ((1 : Nat) : Int) = 1 := rfl; have c2 : ((2 : Nat) : Int) = 2 := rfl; have c3 : ((3 : Nat) : Int) = 3 := rfl; have c4 : ((4 : Nat) : Int) = 4 := rfl; have z := wbet_self h 2; have s := forZ_self 5 m xs 4; have s2 := forZ_self 5 m xs 2
      simp only [sumTo, c0, c1, c2, c3, c4, z, s, s2, foT5_04 h, foT5_02 h, foT5_14 h, foT5_12 h, foT5_34 h, foT5_32 h, foT5_42 h, foT5_24 h, wbet_symm xs m 2 0, wbet_symm xs m 2 1]
      rw [← e]
      simp only [Int.zero_add, Int.zero_mul, Int.add_zero, Int.sub_zero]
  · obtain rfl | rfl | rfl | rfl | rfl : y = 0 ∨ y = 1 ∨ y = 2 ∨ y = 3 ∨ y = 4 := by omega
    · have e := kir5_30 (wbet xs m 0 1) (wbet xs m 0 2) (wbet xs m 0 3) (wbet xs m 0 4) (wbet xs m 1 2) (wbet xs m 1 3) (wbet xs m 1 4) (wbet xs m 2 3) (wbet xs m 2 4) (wbet xs m 3 4); have c0 : ((0 : Nat) : Int) = 0 := rfl; have c1 : ((1 : Nat) : Int) = 1 := rfl; have c2 : ((2 : Nat) : Int) = 2 := rfl; have c3 : ((3 : Nat) : Int) = 3 := rfl; have c4 : ((4 : Nat) : Int) = 4 := rfl; have z := wbet_self h 3; have s := forZ_self 5 m xs 0; have s2 := forZ_self 5 m xs 3
      simp only [sumTo, c0, c1, c2, c3, c4, z, s, s2, foT5_03 h, foT5_10 h, foT5_13 h, foT5_20 h, foT5_23 h, foT5_40 h, foT5_43 h, foT5_30 h, wbet_symm xs m 3 0, wbet_symm xs m 3 1, wbet_symm xs m 3 2]
      rw [← e]
      simp only [Int.zero_add, Int.zero_mul, Int.add_zero, Int.sub_zero]
    · have e := kir5_31 (wbet xs m 0 1) (wbet xs m 0 2) (wbet xs m 0 3) (wbet xs m 0 4) (wbet xs m 1 2) (wbet xs m 1 3) (wbet xs m 1 4) (wbet xs m 2 3) (wbet xs m 2 4) (wbet xs m 3 4); have c0 : ((0 : Nat) : Int) = 0 := rfl; have c1 : ((1 : Nat) : Int) = 1 := rfl; have c2 : ((2 : Nat) : Int) = 2 := rfl; have c3 : ((3 : Nat) : Int) = 3 := rfl; have c4 : ((4 : Nat) : Int) = 4 := rfl; have z := wbet_self h 3; have s := forZ_self 5 m xs 1; have s2 := forZ_self 5 m xs 3
      simp only [sumTo, c0, c1, c2, c3, c4, z, s, s2, foT5_01 h, foT5_03 h, foT5_13 h, foT5_21 h, foT5_23 h, foT5_41 h, foT5_43 h, foT5_31 h, wbet_symm xs m 3 0, wbet_symm xs m 3 1, wbet_symm xs m 3 2]
      rw [← e]
      simp only [Int.zero_add, Int.zero_mul, Int.add_zero, Int.sub_zero]
    · have e := kir5_32 (wbet xs m 0 1) (wbet xs m 0 2) (wbet xs m 0 3) (wbet xs m 0 4) (wbet xs m 1 2) (wbet xs m 1 3) (wbet xs m 1 4) (wbet xs m 2 3) (wbet xs m 2 4) (wbet xs m 3 4); have c0 : ((0 : Nat) : Int) = 0 := rfl; have c1 : ((1 : Nat) : Int) = 1 := rfl; have c2 : ((2 : Nat) : Int) = 2 := rfl; have c3 : ((3 : Nat) : Int) = 3 := rfl; have c4 : ((4 : Nat) : Int) = 4 := rfl; have z := wbet_self h 3; have s := forZ_self 5 m xs 2; have s2 := forZ_self 5 m xs 3
      simp only [sumTo, c0, c1, c2, c3, c4, z, s, s2, foT5_02 h, foT5_03 h, foT5_12 h, foT5_13 h, foT5_23 h, foT5_42 h, foT5_43 h, foT5_32 h, wbet_symm xs m 3 0, wbet_symm xs m 3 1, wbet_symm xs m 3 2]
      rw [← e]
      simp only [Int.zero_add, Int.zero_mul, Int.add_zero, Int.sub_zero]
    · exact absurd rfl hay
    · have e := kir5_34 (wbet xs m 0 1) (wbet xs m 0 2) (wbet xs m 0 3) (wbet xs m 0 4) (wbet xs m 1 2) (wbet xs m 1 3) (wbet xs m 1 4) (wbet xs m 2 3) (wbet xs m 2 4) (wbet xs m 3 4); have c0 : ((0 : Nat) : Int) = 0 := rfl; have c1 : ((1 : Nat) : Int) = 1 := rfl; have c2 : ((2 : Nat) : Int) = 2 := rfl; have c3 : ((3 : Nat) : Int) = 3 := rfl; have c4 : ((4 : Nat) : Int) = 4 := rfl; have z := wbet_self h 3; have s := forZ_self 5 m xs 4; have s2 := forZ_self 5 m xs 3
      simp only [sumTo, c0, c1, c2, c3, c4, z, s, s2, foT5_04 h, foT5_03 h, foT5_14 h, foT5_13 h, foT5_24 h, foT5_23 h, foT5_43 h, foT5_34 h, wbet_symm xs m 3 0, wbet_symm xs m 3 1, wbet_symm xs m 3 2]
      rw [← e]
      simp only [Int.zero_add, Int.zero_mul, Int.add_zero, Int.sub_zero]
  · obtain rfl | rfl | rfl | rfl | rfl : y = 0 ∨ y = 1 ∨ y = 2 ∨ y = 3 ∨ y = 4 := by omega
    · have e := kir5_40 (wbet xs m 0 1) (wbet xs m 0 2) (wbet xs m 0 3) (wbet xs m 0 4) (wbet xs m 1 2) (wbet xs m 1 3) (wbet xs m 1 4) (wbet xs m 2 3) (wbet xs m 2 4) (wbet xs m 3 4); have c0 : ((0 : Nat) : Int) = 0 := rfl; have c1 : ((1 : Nat) : Int) = 1 := rfl; have c2 : ((2 : Nat) : Int) = 2 := rfl; have c3 : ((3 : Nat) : Int) = 3 := rfl; have c4 : ((4 : Nat) : Int) = 4 := rfl; have z := wbet_self h 4; have s := forZ_self 5 m xs 0; have s2 := forZ_self 5 m xs 4
      simp only [sumTo, c0, c1, c2, c3, c4, z, s, s2, foT5_04 h, foT5_10 h, foT5_14 h, foT5_20 h, foT5_24 h, foT5_30 h, foT5_34 h, foT5_40 h, wbet_symm xs m 4 0, wbet_symm xs m 4 1, wbet_symm xs m 4 2, wbet_symm xs m 4 3]
      rw [← e]
      simp only [Int.zero_add, Int.zero_mul, Int.add_zero, Int.sub_zero]
    · have e := kir5_41 (wbet xs m 0 1) (wbet xs m 0 2) (wbet xs m 0 3) (wbet xs m 0 4) (wbet xs m 1 2) (wbet xs m 1 3) (wbet xs m 1 4) (wbet xs m 2 3) (wbet xs m 2 4) (wbet xs m 3 4); have c0 : ((0 : Nat) : Int) = 0 := rfl; have c1 : ((1 : Nat) : Int) = 1 := rfl; have c2 : ((2 : Nat) : Int) = 2 := rfl; have c3 : ((3 : Nat) : Int) = 3 := rfl; have c4 : ((4 : Nat) : Int) = 4 := rfl; have z := wbet_self h 4; have s := forZ_self 5 m xs 1; have s2 := forZ_self 5 m xs 4
      simp only [sumTo, c0, c1, c2, c3, c4, z, s, s2, foT5_01 h, foT5_04 h, foT5_14 h, foT5_21 h, foT5_24 h, foT5_31 h, foT5_34 h, foT5_41 h, wbet_symm xs m 4 0, wbet_symm xs m 4 1, wbet_symm xs m 4 2, wbet_symm xs m 4 3]
      rw [← e]
      simp only [Int.zero_add, Int.zero_mul, Int.add_zero, Int.sub_zero]
    · have e := kir5_42 (wbet xs m 0 1) (wbet xs m 0 2) (wbet xs m 0 3) (wbet xs m 0 4) (wbet xs m 1 2) (wbet xs m 1 3) (wbet xs m 1 4) (wbet xs m 2 3) (wbet xs m 2 4) (wbet xs m 3 4); have c0 : ((0 : Nat) : Int) = 0 := rfl; have c1 : ((1 : Nat) : Int) = 1 := rfl; have c2 : ((2 : Nat) : Int) = 2 := rfl; have c3 : ((3 : Nat) : Int) = 3 := rfl; have c4 : ((4 : Nat) : Int) = 4 := rfl; have z := wbet_self h 4; have s := forZ_self 5 m xs 2; have s2 := forZ_self 5 m xs 4
      simp only [sumTo, c0, c1, c2, c3, c4, z, s, s2, foT5_02 h, foT5_04 h, foT5_12 h, foT5_14 h, foT5_24 h, foT5_32 h, foT5_34 h, foT5_42 h, wbet_symm xs m 4 0, wbet_symm xs m 4 1, wbet_symm xs m 4 2, wbet_symm xs m 4 3]
      rw [← e]
      simp only [Int.zero_add, Int.zero_mul, Int.add_zero, Int.sub_zero]
    · have e := kir5_43 (wbet xs m 0 1) (wbet xs m 0 2) (wbet xs m 0 3) (wbet xs m 0 4) (wbet xs m 1 2) (wbet xs m 1 3) (wbet xs m 1 4) (wbet xs m 2 3) (wbet xs m 2 4) (wbet xs m 3 4); have c0 : ((0 : Nat) : Int) = 0 := rfl; have c1 : ((1 : Nat) : Int) = 1 := rfl; have c2 : ((2 : Nat) : Int) = 2 := rfl; have c3 : ((3 : Nat) : Int) = 3 := rfl; have c4 : ((4 : Nat) : Int) = 4 := rfl; have z := wbet_self h 4; have s := forZ_self 5 m xs 3; have s2 := forZ_self 5 m xs 4
      simp only [sumTo, c0, c1, c2, c3, c4, z, s, s2, foT5_03 h, foT5_04 h, foT5_13 h, foT5_14 h, foT5_23 h, foT5_24 h, foT5_34 h, foT5_43 h, wbet_symm xs m 4 0, wbet_symm xs m 4 1, wbet_symm xs m 4 2, wbet_symm xs m 4 3]
      rw [← e]
      simp only [Int.zero_add, Int.zero_mul, Int.add_zero, Int.sub_zero]
    · exact absurd rfl hay
theorem kirchhoff {n m : Nat} {xs : List Int} (h : Drn n m xs) {a y : Int} (ha : 0 ≤ a ∧ a < n) (hy : 0 ≤ y ∧ y < n) (hay : a ≠ y) : sumTo (fun (w : Nat) => wbet xs m a w * (forZ n m xs a y - forZ n m xs w y + forZ n m xs w a)) n = 2 * treeT n m xs := by
  have h1 := h.two
  have h2 := h.five
  obtain rfl | rfl | rfl | rfl : n = 2 ∨ n = 3 ∨ n = 4 ∨ n = 5 := by omega
  · exact kir2 h ha hy hay
  · exact kir3 h ha hy hay
  · exact kir4 h ha hy hay
  · exact kir5 h ha hy hay
/-- A sum over the first k wires. -/
def wireS (xs : List Int) (f : Int → Int → Int) : Nat → Int
  | 0 => 0
  | k + 1 => wireS xs f k + ww xs k * f (wa xs k) (wb xs k)
def pairS2 (g : Int → Int → Int) : Int := g 0 1
theorem wireS2 {xs : List Int} (f : Int → Int → Int) : ∀ {m : Nat}, (∀ k, k < m → goodW 2 xs k) → wireS xs f m = pairS2 (fun i j => wbet xs m i j * f i j)
  | 0, _ => by
    have z : ∀ i j, wbet xs 0 i j = 0 := fun i j => rfl
    simp only [wireS, pairS2, z]; simp
  | m + 1, h => by
    have ih := wireS2 f (m := m) (fun k hk => h k (by omega))
    obtain ⟨q0, q1, q2, _, _⟩ := (h m (by omega)).1
    have st : ∀ i j : Int, i < j → wbet xs (m + 1) i j * f i j = wbet xs m i j * f i j + (if wa xs m = i ∧ wb xs m = j then ww xs m * f (wa xs m) (wb xs m) else 0) := fun i j hij => by
      rw [wbet_snoc h]
      by_cases c : wa xs m = i ∧ wb xs m = j
      · rw [if_pos c, if_pos (by unfold isW; omega), c.1, c.2, Int.add_mul]
      · rw [if_neg c, if_neg (by unfold isW; omega)]; simp
    simp only [wireS, ih, pairS2, st 0 1 (by decide)]
    generalize ww xs m * f (wa xs m) (wb xs m) = z
    have hc : (wa xs m = 0 ∧ wb xs m = 1) := by omega
    rcases hc with hc
    all_goals (simp [hc.1, hc.2]; try omega)
theorem foster2 {m : Nat} {xs : List Int} (h : Drn 2 m xs) : wireS xs (forZ 2 m xs) m = 1 * treeT 2 m xs := by
  rw [wireS2 _ h.good, trT2 h, ← fos2 (wbet xs m 0 1)]
  unfold pairS2
  dsimp only
  rw [foT2_01 h]
def pairS3 (g : Int → Int → Int) : Int := g 0 1 + g 0 2 + g 1 2
theorem wireS3 {xs : List Int} (f : Int → Int → Int) : ∀ {m : Nat}, (∀ k, k < m → goodW 3 xs k) → wireS xs f m = pairS3 (fun i j => wbet xs m i j * f i j)
  | 0, _ => by
    have z : ∀ i j, wbet xs 0 i j = 0 := fun i j => rfl
    simp only [wireS, pairS3, z]; simp
  | m + 1, h => by
    have ih := wireS3 f (m := m) (fun k hk => h k (by omega))
    obtain ⟨q0, q1, q2, _, _⟩ := (h m (by omega)).1
    have st : ∀ i j : Int, i < j → wbet xs (m + 1) i j * f i j = wbet xs m i j * f i j + (if wa xs m = i ∧ wb xs m = j then ww xs m * f (wa xs m) (wb xs m) else 0) := fun i j hij => by
      rw [wbet_snoc h]
      by_cases c : wa xs m = i ∧ wb xs m = j
      · rw [if_pos c, if_pos (by unfold isW; omega), c.1, c.2, Int.add_mul]
      · rw [if_neg c, if_neg (by unfold isW; omega)]; simp
    simp only [wireS, ih, pairS3, st 0 1 (by decide), st 0 2 (by decide), st 1 2 (by decide)]
    generalize ww xs m * f (wa xs m) (wb xs m) = z
    have hc : (wa xs m = 0 ∧ wb xs m = 1) ∨ (wa xs m = 0 ∧ wb xs m = 2) ∨ (wa xs m = 1 ∧ wb xs m = 2) := by omega
    rcases hc with hc | hc | hc
    all_goals (simp [hc.1, hc.2]; try omega)
theorem foster3 {m : Nat} {xs : List Int} (h : Drn 3 m xs) : wireS xs (forZ 3 m xs) m = 2 * treeT 3 m xs := by
  rw [wireS3 _ h.good, trT3 h, ← fos3 (wbet xs m 0 1) (wbet xs m 0 2) (wbet xs m 1 2)]
  unfold pairS3
  dsimp only
  rw [foT3_01 h, foT3_02 h, foT3_12 h]
def pairS4 (g : Int → Int → Int) : Int := g 0 1 + g 0 2 + g 0 3 + g 1 2 + g 1 3 + g 2 3
theorem wireS4 {xs : List Int} (f : Int → Int → Int) : ∀ {m : Nat}, (∀ k, k < m → goodW 4 xs k) → wireS xs f m = pairS4 (fun i j => wbet xs m i j * f i j)
  | 0, _ => by
    have z : ∀ i j, wbet xs 0 i j = 0 := fun i j => rfl
    simp only [wireS, pairS4, z]; simp
  | m + 1, h => by
    have ih := wireS4 f (m := m) (fun k hk => h k (by omega))
    obtain ⟨q0, q1, q2, _, _⟩ := (h m (by omega)).1
    have st : ∀ i j : Int, i < j → wbet xs (m + 1) i j * f i j = wbet xs m i j * f i j + (if wa xs m = i ∧ wb xs m = j then ww xs m * f (wa xs m) (wb xs m) else 0) := fun i j hij => by
      rw [wbet_snoc h]
      by_cases c : wa xs m = i ∧ wb xs m = j
      · rw [if_pos c, if_pos (by unfold isW; omega), c.1, c.2, Int.add_mul]
      · rw [if_neg c, if_neg (by unfold isW; omega)]; simp
    simp only [wireS, ih, pairS4, st 0 1 (by decide), st 0 2 (by decide), st 0 3 (by decide), st 1 2 (by decide), st 1 3 (by decide), st 2 3 (by decide)]
    generalize ww xs m * f (wa xs m) (wb xs m) = z
    have hc : (wa xs m = 0 ∧ wb xs m = 1) ∨ (wa xs m = 0 ∧ wb xs m = 2) ∨ (wa xs m = 0 ∧ wb xs m = 3) ∨ (wa xs m = 1 ∧ wb xs m = 2) ∨ (wa xs m = 1 ∧ wb xs m = 3) ∨ (wa xs m = 2 ∧ wb xs m = 3) := by omega
    rcases hc with hc | hc | hc | hc | hc | hc
    all_goals (simp [hc.1, hc.2]; try omega)
theorem foster4 {m : Nat} {xs : List Int} (h : Drn 4 m xs) : wireS xs (forZ 4 m xs) m = 3 * treeT 4 m xs := by
  rw [wireS4 _ h.good, trT4 h, ← fos4 (wbet xs m 0 1) (wbet xs m 0 2) (wbet xs m 0 3) (wbet xs m 1 2) (wbet xs m 1 3) (wbet xs m 2 3)]
  unfold pairS4
  dsimp only
  rw [foT4_01 h, foT4_02 h, foT4_03 h, foT4_12 h, foT4_13 h, foT4_23 h]
def pairS5 (g : Int → Int → Int) : Int := g 0 1 + g 0 2 + g 0 3 + g 0 4 + g 1 2 + g 1 3 + g 1 4 + g 2 3 + g 2 4 + g 3 4
theorem wireS5 {xs : List Int} (f : Int → Int → Int) : ∀ {m : Nat}, (∀ k, k < m → goodW 5 xs k) → wireS xs f m = pairS5 (fun i j => wbet xs m i j * f i j)
  | 0, _ => by
    have z : ∀ i j, wbet xs 0 i j = 0 := fun i j => rfl
    simp only [wireS, pairS5, z]; simp
  | m + 1, h => by
    have ih := wireS5 f (m := m) (fun k hk => h k (by omega))
    obtain ⟨q0, q1, q2, _, _⟩ := (h m (by omega)).1
    have st : ∀ i j : Int, i < j → wbet xs (m + 1) i j * f i j = wbet xs m i j * f i j + (if wa xs m = i ∧ wb xs m = j then ww xs m * f (wa xs m) (wb xs m) else 0) := fun i j hij => by
      rw [wbet_snoc h]
      by_cases c : wa xs m = i ∧ wb xs m = j
      · rw [if_pos c, if_pos (by unfold isW; omega), c.1, c.2, Int.add_mul]
      · rw [if_neg c, if_neg (by unfold isW; omega)]; simp
    simp only [wireS, ih, pairS5, st 0 1 (by decide), st 0 2 (by decide), st 0 3 (by decide), st 0 4 (by decide), st 1 2 (by decide), st 1 3 (by decide), st 1 4 (by decide), st 2 3 (by decide), st 2 4 (by decide), st 3 4 (by decide)]
    generalize ww xs m * f (wa xs m) (wb xs m) = z
    have hc : (wa xs m = 0 ∧ wb xs m = 1) ∨ (wa xs m = 0 ∧ wb xs m = 2) ∨ (wa xs m = 0 ∧ wb xs m = 3) ∨ (wa xs m = 0 ∧ wb xs m = 4) ∨ (wa xs m = 1 ∧ wb xs m = 2) ∨ (wa xs m = 1 ∧ wb xs m = 3) ∨ (wa xs m = 1 ∧ wb xs m = 4) ∨ (wa xs m = 2 ∧ wb xs m = 3) ∨ (wa xs m = 2 ∧ wb xs m = 4) ∨ (wa xs m = 3 ∧ wb xs m = 4) := by omega
    rcases hc with hc | hc | hc | hc | hc | hc | hc | hc | hc | hc
    all_goals (simp [hc.1, hc.2]; try omega)
theorem foster5 {m : Nat} {xs : List Int} (h : Drn 5 m xs) : wireS xs (forZ 5 m xs) m = 4 * treeT 5 m xs := by
  rw [wireS5 _ h.good, trT5 h, ← fos5 (wbet xs m 0 1) (wbet xs m 0 2) (wbet xs m 0 3) (wbet xs m 0 4) (wbet xs m 1 2) (wbet xs m 1 3) (wbet xs m 1 4) (wbet xs m 2 3) (wbet xs m 2 4) (wbet xs m 3 4)]
  unfold pairS5
  dsimp only
  rw [foT5_01 h, foT5_02 h, foT5_03 h, foT5_04 h, foT5_12 h, foT5_13 h, foT5_14 h, foT5_23 h, foT5_24 h, foT5_34 h]
theorem foster {n m : Nat} {xs : List Int} (h : Drn n m xs) : wireS xs (forZ n m xs) m = ((n : Int) - 1) * treeT n m xs := by
  have h1 := h.two
  have h2 := h.five
  obtain rfl | rfl | rfl | rfl : n = 2 ∨ n = 3 ∨ n = 4 ∨ n = 5 := by omega
  · exact foster2 h
  · exact foster3 h
  · exact foster4 h
  · exact foster5 h

/-! ### bounds -/
def nsum (g : Int → Nat) (l : List Int) : Nat := (l.map g).sum
theorem nsum_erase (g : Int → Nat) : ∀ (l : List Int) (j : Nat), nsum g (l.eraseIdx j) ≤ nsum g l
  | [], _ => by simp [nsum]
  | x :: l, 0 => by simp [nsum]
  | x :: l, j + 1 => by have := nsum_erase g l j; simp [nsum] at *; omega
theorem nsum_filter (g : Int → Nat) (p : Int → Bool) : ∀ l : List Int, nsum g (l.filter p) ≤ nsum g l
  | [] => by simp [nsum]
  | x :: l => by
    have := nsum_filter g p l
    unfold nsum at *
    rw [List.filter_cons]
    split
    · simp only [List.map_cons, List.sum_cons]; omega
    · simp only [List.map_cons, List.sum_cons]; omega
theorem nsum_snoc (g : Int → Nat) (l : List Int) (x : Int) : nsum g (l ++ [x]) = nsum g l + g x := by simp [nsum]
theorem sumTo_na {f : Nat → Int} {g : Int → Nat} {l : List Int} {B : Nat} (h : ∀ j, j < l.length → (f j).natAbs ≤ g (nth l j) * B) : ∀ {k : Nat}, k ≤ l.length → (sumTo f k).natAbs ≤ nsum g (l.take k) * B
  | 0, _ => by simp [sumTo]
  | k + 1, hk => by
    have ih := sumTo_na h (k := k) (by omega)
    have h2 := h k (by omega)
    have e : l.take (k + 1) = l.take k ++ [nth l k] := by
      rw [List.take_succ_eq_append_getElem (by omega)]
      congr 2
      unfold nth
      rw [List.getD_eq_getElem?_getD, List.getElem?_eq_getElem (by omega)]; rfl
    rw [e, nsum_snoc, Nat.add_mul]
    simp only [sumTo]
    omega
theorem detF_na {M : Int → Int → Int} {B : Nat} : ∀ (rows cols : List Int), (∀ r ∈ rows, nsum (fun c => (M r c).natAbs) cols ≤ B) → (detF M rows cols).natAbs ≤ B ^ rows.length
  | [], cols, _ => by simp [detF]
  | r :: rs, cols, h => by
    have h1 := sumTo_na (f := fun j => sgn j * M r (nth cols j) * detF M rs (cols.eraseIdx j)) (g := fun c => (M r c).natAbs) (l := cols) (B := B ^ rs.length) (fun j _ => by
      have ih := detF_na rs (cols.eraseIdx j) (fun r' hr' => Nat.le_trans (nsum_erase _ cols j) (h r' (List.mem_cons_of_mem _ hr')))
      rw [Int.natAbs_mul, Int.natAbs_mul]
      have hs : (sgn j).natAbs = 1 := by unfold sgn; split <;> rfl
      rw [hs, Nat.one_mul]
      exact Nat.mul_le_mul_left _ ih) (k := cols.length) (Nat.le_refl _)
    rw [List.take_of_length_le (Nat.le_refl _)] at h1
    have h2 := Nat.mul_le_mul_right (B ^ rs.length) (h r (by simp))
    simp only [detF, List.length_cons, Nat.pow_succ]
    rw [Nat.mul_comm (B ^ rs.length) B]
    omega
theorem wat_24 {n m : Nat} {xs : List Int} (h : Drn n m xs) {v : Int} (hv : 0 ≤ v ∧ v < n) : 0 ≤ wat xs v m ∧ wat xs v m ≤ 24 := by
  have h5 := h.five
  refine ⟨(wat_bd v h.good).1, ?_⟩
  rw [← wat_sum hv.1 hv.2 h.good]
  have key : ∀ k : Nat, sumTo (fun (u : Nat) => wbet xs m v u) k ≤ 6 * (k : Int) - (if v < k then 6 else 0) := fun k => by
    induction k with
    | zero => rw [if_neg (by omega)]; simp [sumTo]
    | succ k ih =>
      simp only [sumTo]
      have h6 := wbet_six h v (k : Int)
      by_cases e : v = (k : Int)
      · subst e
        rw [wbet_self h]
        rw [if_neg (by omega)] at ih
        rw [if_pos (by omega)]; omega
      · by_cases d : v < (k : Int)
        · rw [if_pos d] at ih
          rw [if_pos (by omega)]; omega
        · rw [if_neg d] at ih
          rw [if_neg (by omega)]; omega
  have := key n
  rw [if_pos hv.2] at this
  omega
theorem lap_row48 {n m : Nat} {xs : List Int} (h : Drn n m xs) {v : Int} (hv : 0 ≤ v ∧ v < n) (l : List Int) : nsum (fun c => (lapZ xs m v c).natAbs) (without n l) ≤ 48 := by
  refine Nat.le_trans (nsum_filter _ _ _) ?_
  have key : ∀ k : Nat, ((nsum (fun c => (lapZ xs m v c).natAbs) ((List.range k).map (fun (i : Nat) => (i : Int))) : Nat) : Int) = sumTo (fun (u : Nat) => wbet xs m v u) k + (if v < k then wat xs v m else 0) := fun k => by
    induction k with
    | zero => rw [if_neg (by omega)]; rfl
    | succ k ih =>
      rw [List.range_succ, List.map_append, List.map_singleton, nsum_snoc, Int.natCast_add, ih]
      simp only [sumTo]
      have w0 := wbet_nn h v (k : Int)
      have w1 := (wat_24 h hv).1
      unfold lapZ
      by_cases e : v = (k : Int)
      · rw [if_pos e, if_neg (by omega), if_pos (by omega), ← e, wbet_self h]; omega
      · rw [if_neg e]
        by_cases d : v < (k : Int)
        · rw [if_pos d, if_pos (by omega)]; omega
        · rw [if_neg d, if_neg (by omega)]; omega
  have k1 := key n
  rw [wat_sum hv.1 hv.2 h.good, if_pos hv.2] at k1
  have := (wat_24 h hv).2
  omega
theorem minor48 {n m : Nat} {xs : List Int} (h : Drn n m xs) (l : List Int) : (minorV n m xs l l).natAbs ≤ 48 ^ (without n l).length :=
  detF_na _ _ (fun r hr => lap_row48 h (without_below r hr) l)
theorem tree_le {n m : Nat} {xs : List Int} (h : Drn n m xs) : treeT n m xs ≤ 5308416 := by
  have h5 := h.five
  have h2 := h.two
  have h1 := minor48 h [0]
  have h3 := without_lt (k := n) (l := [0]) (x := 0) (by simp) (by omega) (by omega)
  have h4 : 48 ^ (without n [0]).length ≤ 48 ^ 4 := Nat.pow_le_pow_right (by decide) (by omega)
  unfold treeT
  omega
theorem for_le {n m : Nat} {xs : List Int} (h : Drn n m xs) {a b : Int} (ha : 0 ≤ a ∧ a < n) (hb : 0 ≤ b ∧ b < n) : 0 ≤ forZ n m xs a b ∧ forZ n m xs a b ≤ 110592 := by
  have h5 := h.five
  by_cases e : a = b
  · rw [e, forZ_self]; omega
  · have p := for_pos h ha hb e
    refine ⟨by omega, ?_⟩
    have h1 := minor48 h [a, b]
    have h3 := without_lt2 (k := n) (l := [a, b]) (x := a) (y := b) (by simp) (by simp) e ha hb
    have h4 : 48 ^ (without n [a, b]).length ≤ 48 ^ 3 := Nat.pow_le_pow_right (by decide) (by omega)
    unfold forZ
    rw [if_neg e]
    unfold forT
    omega
end Go.Proofs.Ytfhhgonoddedlaa

namespace Go.Proofs.Ytfhhgonoddedlaa

open Go.RowKit

/-- The wires of a network that is being drawn. -/
structure Dwn (n : Nat) (c : Nat) (l : List Wr) : Prop where
  ok : ∀ e ∈ l, 0 ≤ e.a ∧ e.a < e.b ∧ e.b < n ∧ 1 ≤ e.w ∧ e.w ≤ 6
  sorted : l.Pairwise ltW
  down : ∀ v : Nat, 1 ≤ v → v < c → ∃ e ∈ l, e.b = (v : Int)
theorem Dwn.nil (n : Nat) : Dwn n 1 [] := ⟨by simp, List.Pairwise.nil, fun v h1 h2 => by omega⟩
theorem Dwn.put {n c : Nat} {l : List Wr} (h : Dwn n c l) {a b w : Int} (ha : 0 ≤ a ∧ a < n) (hb : 0 ≤ b ∧ b < n) (hab : ¬ a = b) (hw : 1 ≤ w ∧ w ≤ 6) : Dwn n c (putW l a b w false) := by
  have e0 : putW l a b w false = insW ⟨min a b, max a b, w⟩ (dropE (min a b) (max a b) l) := by simp [putW]
  rw [e0]
  refine ⟨fun e he => ?_, insW_sorted (h.sorted.filter _) (fun e he => ?_), fun v h1 h2 => ?_⟩
  · rcases mem_insW.1 he with rfl | he
    · simp only; omega
    · exact h.ok e (List.mem_filter.1 he).1
  · have := (List.mem_filter.1 he).2
    intro k
    rw [isE_t k] at this
    cases this
  · obtain ⟨e, he, hv⟩ := h.down v h1 h2
    cases c : isE (min a b) (max a b) e with
    | true =>
      have := isE_of c
      exact ⟨_, mem_insW.2 (Or.inl rfl), by simp only; omega⟩
    | false => exact ⟨e, mem_insW.2 (Or.inr (List.mem_filter.2 ⟨he, by simp [c]⟩)), hv⟩
theorem Dwn.next {n c : Nat} {l : List Wr} (h : Dwn n c l) {a w : Int} (ha : 0 ≤ a ∧ a < c) (hc : c < n) (hw : 1 ≤ w ∧ w ≤ 6) : Dwn n (c + 1) (putW l a c w false) := by
  have h1 := h.put (a := a) (b := c) (w := w) (by omega) (by omega) (by omega) hw
  refine ⟨h1.ok, h1.sorted, fun v h2 h3 => ?_⟩
  by_cases e : v = c
  · subst e
    refine ⟨⟨min a v, max a v, w + 0⟩, ?_, by simp only; omega⟩
    unfold putW
    exact mem_insW.2 (Or.inl (by simp))
  · exact h1.down v h2 (by omega)

/-! ### the network is valid -/
theorem wW (l : List Wr) (k : Nat) (h : k < l.length) : wa (flatW l) k = (l[k]).a ∧ wb (flatW l) k = (l[k]).b ∧ ww (flatW l) k = (l[k]).w := by
  have h1 := flatW_get l k h
  rw [nthW_eq l k h] at h1
  exact h1
theorem dwn_good {n c : Nat} {l : List Wr} (h : Dwn n c l) : ∀ k, k < l.length → goodW n (flatW l) k := fun k hk => by
  obtain ⟨e1, e2, e3⟩ := wW l k hk
  obtain ⟨o1, o2, o3, o4, o5⟩ := h.ok l[k] (List.getElem_mem hk)
  refine ⟨?_, fun h0 => ?_⟩
  · unfold okW; rw [e1, e2, e3]; omega
  · obtain ⟨f1, f2, _⟩ := wW l (k - 1) (by omega)
    have := (List.pairwise_iff_getElem.1 h.sorted) (k - 1) k (by omega) hk (by omega)
    unfold ordW
    rw [e1, e2, f1, f2]
    unfold ltW at this
    omega
theorem dwn_drn {n : Nat} {l : List Wr} (h : Dwn n n l) (h2 : 2 ≤ n) (h5 : n ≤ 5) : Drn n l.length (flatW l) :=
  ⟨h2, h5, dwn_good h, fun k hk => by rw [(wW l k hk).2.2]; exact (h.ok _ (List.getElem_mem hk)).2.2.2.2, fun v h1 hv => by
    obtain ⟨e, he, hb⟩ := h.down v h1 hv
    obtain ⟨k, hk, rfl⟩ := List.getElem_of_mem he
    exact ⟨k, hk, by rw [(wW l k hk).2.1]; exact hb⟩⟩
def downL (N : Nat) (l : List (Nat × Nat)) : Bool := (List.range N).all fun v => v == 0 || l.any fun e => e.2 == v
theorem down_all : ([1, 2, 3, 4, 5].all fun N => (subs (univ N)).all (fun l => !downL N l || mconn N l)) = true := by decide +kernel
theorem down_conn {N : Nat} {l : List (Nat × Nat)} (h1 : 1 ≤ N) (h5 : N ≤ 5) (hl : List.Sublist l (univ N)) (hd : downL N l = true) : mconn N l = true := by
  have h := down_all
  rw [List.all_eq_true] at h
  have hN : N ∈ [1, 2, 3, 4, 5] := by simp; omega
  have h' := h N hN
  rw [List.all_eq_true] at h'
  have := h' l (mem_subs hl)
  rw [hd] at this
  simpa using this
theorem drn_net {n m : Nat} {xs : List Int} (h : Drn n m xs) {E S : Int} (hE : 1 ≤ E ∧ E ≤ n) (hS : 1 ≤ S ∧ S ≤ 1000) : netB n E S m xs = true := by
  have h2 := h.two
  have h5 := h.five
  refine netB_true ⟨by omega, hE, hS, h.good, ?_⟩
  rw [show ((n : Int)).toNat = n by omega]
  have hs := prs_sub (by omega) h.good
  rw [show ((n : Int)).toNat = n by omega] at hs
  refine down_conn (by omega) h5 hs ?_
  simp only [downL, List.all_eq_true, List.mem_range]
  intro v hv
  by_cases e : v = 0
  · subst e; rfl
  · obtain ⟨k, hk, hb⟩ := h.down v (by omega) hv
    simp only [Bool.or_eq_true]
    right
    simp only [List.any_eq_true]
    refine ⟨((wa xs k).toNat, (wb xs k).toNat), ?_, by simp [hb]⟩
    simp only [prs, List.mem_map, List.mem_range]
    exact ⟨k, hk, rfl⟩
end Go.Proofs.Ytfhhgonoddedlaa

namespace Go.Proofs.Ytfhhgonoddedlaa
set_option maxRecDepth 100000
open Go.ChangeShapes Go.WideShapes Go.ChangeAt Go.RowKit Go.Joins

theorem CurD.mine {w w' : World} {g : Nat} {v : Value} (h : Cur w g) (hm : Mine w w' v) (hne : ∀ k, v.ownBlock = some k → g < k) : Cur w' g := by
  obtain ⟨p, n, cap, i, z, c, c0, c1, c2, f0, f1, f2, i0, i1, n1, hb, hcg, hg⟩ := h
  have lg := World.block_lt_of_cell? w _ c0
  have hno : ∀ k, v.ownBlock = some k → g ≠ k := fun k hk => by have := hne k hk; omega
  have hf : ∀ i, w'.frozen? ⟨g, i, none⟩ = w.frozen? ⟨g, i, none⟩ := fun i => by
    have hbk := hm.block g lg (fun e => hno g e.symm rfl)
    unfold World.frozen?
    simp only [hbk]
  exact Cur.mk i hb hcg i0 i1 n1 (mine_cell hm c2 hno) (mine_cell hm c0 hno) (mine_cell hm c1 hno) ((hf 0).trans f0) ((hf 1).trans f1) ((hf 2).trans f2) (hg.grown hm (fun k hk => by have := hne k hk; omega))
theorem CurD.ge {w w' : World} {g : Nat} (h : Cur w g) (hg : Ge w w') : Cur w' g := by
  have hm : Mine w w' (.slice none 0 0) := ⟨hg.os, hg.tape, hg.output, hg.size, fun k hk _ => hg.below.block k hk⟩
  exact CurD.mine h hm (fun k hk => by simp [Value.ownBlock] at hk)
theorem CurD.set {w : World} {g b i : Nat} {x : Value} (h : Cur w g) (hb : g < b) : Cur (w.setCell ⟨b, i, none⟩ x) g := by
  obtain ⟨p, n, cap, j, z, c, c0, c1, c2, f0, f1, f2, i0, i1, n1, hB, hcg, hg⟩ := h
  have ne : ∀ j : Nat, (⟨b, i, none⟩ : Addr) ≠ ⟨g, j, none⟩ := fun j e => by have := congrArg Addr.block e; simp at this; omega
  exact Cur.mk j hB hcg i0 i1 n1 (cell_set2 (ne 2) c2) (cell_set2 (ne 0) c0) (cell_set2 (ne 1) c1) (froz_set f0) (froz_set f1) (froz_set f2) (hg.setCell (by show c.heap.size ≤ b; omega) _)
theorem Drew.cur {a b : World} {g : Nat} (h : Drew a b g) : Cur b g := h.1
theorem Drew.geN {a b c : World} {g : Nat} (h : Drew a b g) (hg : Ge b c) : Drew a c g :=
  ⟨CurD.ge h.1 hg, grown_trans h.2 ⟨hg.os, hg.tape, hg.output, hg.size, fun k hk _ => hg.below.block k hk⟩⟩
theorem Drew.setN {a b : World} {g k i : Nat} {x : Value} (h : Drew a b g) (hk : a.heap.size ≤ k) (hg : g < k) : Drew a (b.setCell ⟨k, i, none⟩ x) g :=
  ⟨CurD.set h.1 hg, ⟨h.2.os, h.2.tape, h.2.output, by simpa using h.2.size, fun j hj hne => by
    rw [← h.2.block j hj hne]
    exact Below.heap_setCell b ⟨k, i, none⟩ x j (fun e => by simp at e; omega)⟩⟩
theorem Drew.self {a : World} {g : Nat} (h : Cur a g) : Drew a a g := ⟨h, ⟨rfl, rfl, rfl, Nat.le_refl _, fun _ _ _ => rfl⟩⟩
theorem Drew.cellN {a b : World} {g : Nat} (h : Drew a b g) {c : Addr} {v : Value} (hc : a.cell? c = some v) (hne : c.block ≠ g) : b.cell? c = some v :=
  World.grownBy.cell h.2 hc (fun e => hne (by simpa using e))
theorem Drew.frozN {a b : World} {g : Nat} (h : Drew a b g) {c : Addr} {v : Value} (hc : a.cell? c = some v) (hne : c.block ≠ g) (hf : a.frozen? c = false) : b.frozen? c = false := by
  rw [World.frozen?_of_block (World.grownBy.block h.2 c.block (World.block_lt_of_cell? _ _ hc) (fun e => hne (by simpa using e)))]
  exact hf
theorem Drew.ownsN {a b : World} {g : Nat} (h : Drew a b g) {base e sz n : Nat} {v : Value} {xs : List Value} (ho : a.ownsRow base e sz v n xs) (hb : g < base) : b.ownsRow base e sz v n xs := by
  refine ho.kept h.2 ?_
  cases hv : v.ownBlock with
  | none => exact .inl rfl
  | some k =>
    right
    intro e'
    have := (ho.lt k hv).1
    simp at e'
    omega
theorem NetAt.drew {w w' : World} {R G n g : Nat} {E S : Int} {v : Value} {l : List Wr} (h : NetAt w R G n E S v l) (hd : Drew w w' g) (hR : g < R) (hG : g < G) : NetAt w' R G n E S v l :=
  have k : ∀ i : Nat, (⟨G, i, none⟩ : Addr).block ≠ g := fun i => by show G ≠ g; omega
  ⟨hd.cellN h.c0 (k 0), hd.cellN h.c1 (k 1), hd.cellN h.c2 (k 2), hd.cellN h.c3 (k 3), hd.frozN h.c3 (k 3) h.f3, hd.ownsN h.own (by omega), fun i hi => by
    obtain ⟨u, h1, h2⟩ := h.res i hi
    have kr : (⟨R, i, none⟩ : Addr).block ≠ g := by show R ≠ g; omega
    exact ⟨u, hd.cellN h1 kr, hd.frozN h1 kr h2⟩⟩
/-- What l03Draw gives. -/
def GivesD (w : World) (g : Nat) (most : Int) (e : Ending) (w' : World) : Prop :=
  ∃ (n : Nat) (E S : Int) (l : List Wr) (s : Value), e = .returned (.agg #[.int .i64 (n : Int), .int .i64 E, .int .i64 S, s]) ∧ w'.ownsRow w.heap.size 81 3 s l.length (icells (flatW l)) ∧ Dwn n n l ∧ 2 ≤ n ∧ (n : Int) ≤ most ∧ (2 ≤ E ∧ E ≤ n) ∧ (1 ≤ S ∧ S ≤ 3) ∧ Drew w w' g
theorem dwn_len {n c : Nat} {l : List Wr} (h : Dwn n c l) (hn : n ≤ 5) : l.length ≤ 10 := prs_len (N := n) (by omega) (dwn_good h)
theorem addS_small {A B x : Int} (hx : 1 ≤ x ∧ x ≤ 6) (l : List Wr) : -9000000000000000000 ≤ addS false A B x l ∧ addS false A B x l ≤ 9000000000000000000 := by
  have : addS false A B x l = x := by unfold addS; simp
  omega

theorem ResD.drew {w w' : World} {R g : Nat} (h : ResD w R) (hd : Drew w w' g) (hR : g < R) : ResD w' R := fun i hi => by
  obtain ⟨u, h1, h2⟩ := h i hi
  have kr : (⟨R, i, none⟩ : Addr).block ≠ g := by show R ≠ g; omega
  exact ⟨u, hd.cellN h1 kr, hd.frozN h1 kr h2⟩
/-- Behind the ends' number. -/
def CutD (w wx : World) (g R G n : Nat) (S : Int) : Prop := ∃ E : Int, (2 ≤ E ∧ E ≤ n) ∧ NetAt wx R G n E S (.slice none 0 0) [] ∧ Drew w wx g
set_option maxHeartbeats 6400000 in
theorem sL03Draw (g : Nat) (most : Int) (w : World) (hc : Cur w g) (h1 : 2 ≤ most) (h2 : most ≤ 5) : Calls Try.prog 50 #[.pointer (some ⟨g, 0, none⟩), .int .i64 most] w (GivesD w g most) := by
  have lg : g < w.heap.size := by obtain ⟨_, _, _, _, _, _, c0, _⟩ := hc; exact World.block_lt_of_cell? _ _ c0
  have HD0 := Lib.hid (Drew.geN (Drew.self hc) (Ge.alloc (Ge.refl w) (.cells #[.int .i64 0, .int .i64 0, .int .i64 0, .slice none 0 0] 36)))
  have RS0 := Lib.hid (ResD.new w (.int .i64 0) (.int .i64 0) (.int .i64 0) (.slice none 0 0) 36)
  have zw : w.heap.size < (w.alloc (.cells #[.int .i64 0, .int .i64 0, .int .i64 0, .slice none 0 0] 36)).heap.size := by simp
  clear hc
  go_enter Try.func50, Try.ntmps50
  go_upto_if 22 with (first
    | ((go_at_call 53; ((with_reducible refine (sL01Below _ _ _ HD0.out.cur (by omega) (by omega)).mono ?_); rintro e w1 ⟨x, rfl, x0, x1, hd1⟩)); have HD1 := Lib.hid (HD0.out.trans hd1); have RS1 := Lib.hid (RS0.out.drew hd1 lg); have zw1 := Nat.lt_of_lt_of_le zw (World.grownBy.size hd1.2); clear hd1 HD0 RS0 zw)
    | ((go_at_call 53; ((with_reducible refine (sL01Below _ _ _ HD1.out.cur (by omega) (by omega)).mono ?_); rintro e w2 ⟨y, rfl, y0, y1, hd2⟩)); have HD2 := Lib.hid (HD1.out.trans hd2); have RS2 := Lib.hid (RS1.out.drew hd2 lg); have zw2 := Nat.lt_of_lt_of_le zw1 (World.grownBy.size hd2.2); clear hd2 HD1 RS1 zw1))
  generalize hN : 2 + x = N at *
  generalize hS : 1 + y = S at *
  obtain ⟨n, rfl⟩ : ∃ n : Nat, N = (n : Int) := ⟨N.toNat, by omega⟩
  have n2 : 2 ≤ n := by omega
  have nm : (n : Int) ≤ most := by omega
  have hS3 : 1 ≤ S ∧ S ≤ 3 := by omega
  have n5 : n ≤ 5 := by omega
  clear hN hS x0 x1 y0 y1
  obtain ⟨G, hG⟩ : ∃ G, w2.heap.size = G := ⟨_, rfl⟩
  have NA := Lib.hid (NetAt.start (n := n) (E := 2) (S := S) RS2.out)
  have HDa := Lib.hid (Drew.geN HD2.out (Ge.alloc (Ge.refl w2) (.cells #[.int .i64 (n : Int), .int .i64 2, .int .i64 S, .slice none 0 0] 36)))
  have F1 : Hid ((w2.alloc (.cells #[.int .i64 (n : Int), .int .i64 2, .int .i64 S, .slice none 0 0] 36)).frozen? ⟨w2.heap.size, 1, none⟩ = false) := froz_new rfl (v := .int .i64 2) rfl
  have lG : g < w2.heap.size := by omega
  clear hG G HD2 RS2
  go_cut [5] (fun q wx => q = .pointer (some ⟨w2.heap.size, 0, none⟩) ∧ CutD w wx g w.heap.size w2.heap.size n S)
  case first =>
    by_cases hn : (2 : Int) < n
    · have t1 : decide ((2 : Int) < n) = true := by simp [hn]
      go_wp2_with ((go_at_call 53; ((with_reducible refine (sL01Below _ _ _ HDa.out.cur (by omega) (by omega)).mono ?_); rintro e w3 ⟨z, rfl, z0, z1, hd3⟩)); have HD3 := Lib.hid (HDa.out.trans hd3); have NA3 := Lib.hid (NA.out.drew hd3 lg lG); have f1 := hd3.frozN NA.out.c1 (by show w2.heap.size ≠ g; omega) F1.out; have a1 := NA3.out.c1)
      go_meet
      exact ⟨rfl, 2 + z, by omega, NA3.out.setE zw2, HD3.out.setN (by omega) (by omega)⟩
    · have t1 : decide ((2 : Int) < n) = false := by simp; omega
      go_wp2_with fail
      go_meet
      exact ⟨rfl, 2, by omega, NA.out, HDa.out⟩
  obtain ⟨rfl, E, hE, hNA, hDD⟩ := hcut
  have NAc := Lib.hid hNA
  have HDc := Lib.hid hDD
  generalize w2.heap.size = G at *
  clear hNA hDD NA HDa F1
  go_wp2_with fail
  go_loopw [6] (fun cv wr => ∃ (c : Nat) (u : Value) (l : List Wr), cv = .int .i64 c ∧ 1 ≤ c ∧ c ≤ n ∧ Hid (Dwn n c l) ∧ Hid (NetAt wr w.heap.size G n E S u l) ∧ Hid (Drew w wr g)) (fun cv _ => n - (intOf cv).toNat)
  case atStart => exact ⟨1, _, [], rfl, by omega, by omega, Dwn.nil n, NAc.out, HDc.out⟩
  case round =>
    obtain ⟨c, u, l, rfl, hc1, hcn, HDw, HN, HDr⟩ := hrel
    have a0 := HN.out.c0
    by_cases hlt : c < n
    · have hll := Lib.hid (dwn_len HDw.out n5)
      have HNd := Lib.hid (HN.out.ge (Ge.drew (Ge.refl wr)))
      have HDd := Lib.hid (Drew.geN HDr.out (Ge.drew (Ge.refl wr)))
      go_wp2_with fail
      refine wp_region_head (S := fun w' => w'.cell? ⟨G, 3, none⟩ = some u) 11 (by kernel_rfl) (by kernel_rfl) (HNd.out.c3) (fun hHeld => ?_)
      refine head_take 0 (v := ?_) rfl (by kernel_rfl) (by kernel_rfl) (fun _ _ _ h => h) (by assumption) (yields_if (by rfl) ?_) ?_
      rotate_left
      focus (intro w' hSw; (try dsimp only at hSw); go_simp; (try with_reducible rfl))
      (try simp only [Act.put, List.setIfInBounds_toArray, List.set_cons_zero, List.set_cons_succ])
      refine head_take 1 (v := ?_) rfl (by kernel_rfl) (by kernel_rfl) (fun _ _ _ h => h) (by assumption) (yields_if (by rfl) ?_) ?_
      rotate_left
      focus (intro w' hSw; (try dsimp only at hSw); go_simp; (try with_reducible rfl))
      (try simp only [Act.put, List.setIfInBounds_toArray, List.set_cons_zero, List.set_cons_succ])
      refine head_take 2 (v := ?_) rfl (by kernel_rfl) (by kernel_rfl) (fun _ _ _ h => h) (by assumption) (yields_if (by rfl) ?_) ?_
      rotate_left
      focus (intro w' hSw; (try dsimp only at hSw); go_simp; (try with_reducible rfl))
      (try simp only [Act.put, List.setIfInBounds_toArray, List.set_cons_zero, List.set_cons_succ])
      refine head_take 3 (v := ?_) rfl (by kernel_rfl) (by kernel_rfl) (fun _ _ _ h => h) (by assumption) (yields_if (by rfl) ?_) ?_
      rotate_left
      focus (intro w' hSw; (try dsimp only at hSw); go_simp; (try with_reducible rfl))
      (try simp only [Act.put, List.setIfInBounds_toArray, List.set_cons_zero, List.set_cons_succ])
      refine head_take 5 (v := ?_) rfl (by kernel_rfl) (by kernel_rfl) (fun _ _ _ h => h) (by assumption) (yields_if (by rfl) ?_) ?_
      rotate_left
      focus (intro w' hSw; (try dsimp only at hSw); go_simp; (try with_reducible rfl))
      (try simp only [Act.put, List.setIfInBounds_toArray, List.set_cons_zero, List.set_cons_succ])
      refine head_take 6 (v := ?_) rfl (by kernel_rfl) (by kernel_rfl) (fun _ _ _ h => h) (by assumption) (yields_if (by rfl) ?_) ?_
      rotate_left
      focus (intro w' hSw; (try dsimp only at hSw); go_simp; (try with_reducible rfl))
      (try simp only [Act.put, List.setIfInBounds_toArray, List.set_cons_zero, List.set_cons_succ])
      refine head_one 4 rfl (by kernel_rfl) (fun K hK => ?_)
      go_simp
      (go_at_call 53; ((with_reducible refine (sL01Below _ _ _ HDd.out.cur (by omega) (by omega)).mono ?_); rintro e w4 ⟨x, rfl, x0, x1, hd4⟩))
      have HN4 := Lib.hid (HNd.out.drew hd4 lg lG)
      have HD4 := Lib.hid (HDd.out.trans hd4)
      clear hd4
      refine hK.out _ _ HN4.out.c3 (fun hHeld => ?_)
      clear hK K
      (try simp only [Act.put, List.setIfInBounds_toArray, List.set_cons_zero, List.set_cons_succ])
      refine head_one 7 rfl (by kernel_rfl) (fun K hK => ?_)
      go_simp
      (go_at_call 53; ((with_reducible refine (sL01Below _ _ _ HD4.out.cur (by omega) (by omega)).mono ?_); rintro e w5 ⟨y, rfl, y0, y1, hd5⟩))
      have HN5 := Lib.hid (HN4.out.drew hd5 lg lG)
      have HD5 := Lib.hid (HD4.out.trans hd5)
      have zG := World.block_lt_of_cell? _ _ HN5.out.c3
      clear hd5
      refine hK.out _ _ HN5.out.c3 (fun hHeld => ?_)
      clear hK K
      (try simp only [Act.put, List.setIfInBounds_toArray, List.set_cons_zero, List.set_cons_succ])
      have tw : IntKind.i64.wrap (1 + y) = 1 + y := IntWalk.i64_in _ (by omega)
      refine head_take 8 (v := ?_) rfl (by kernel_rfl) (by kernel_rfl) (fun _ _ _ h => h) (by assumption) (yields_if (by rfl) ?_) ?_
      rotate_left
      focus (intro w' hSw; (try dsimp only at hSw); go_simp; (try with_reducible rfl))
      (try simp only [Act.put, List.setIfInBounds_toArray, List.set_cons_zero, List.set_cons_succ])
      refine head_one 9 rfl (by kernel_rfl) (fun K hK => ?_)
      go_simp
      (go_at_call 83; ((with_reducible refine (sL03Put u l x c (1 + y) false _ (SlF.of_owns HN5.out.own) (by have := hll.out; omega) (fun k _ => addS_small (by omega) _)).mono ?_); rintro e w6 ⟨u6, rfl, own6, g6⟩))
      obtain ⟨p6, c6, rfl⟩ := owns_form own6
      have HN6 := Lib.hid (HN5.out.ge g6)
      have HD6 := Lib.hid (Drew.geN HD5.out g6)
      have a3 := HN6.out.c3
      have af := HN6.out.f3
      refine hK.out _ _ HN6.out.c3 (fun hHeld => ?_)
      clear hK K
      (try simp only [Act.put, List.setIfInBounds_toArray, List.set_cons_zero, List.set_cons_succ])
      refine head_take 10 (v := ?_) rfl (by kernel_rfl) (by kernel_rfl) (fun _ _ _ h => h) (by assumption) (yields_if (by rfl) ?_) ?_
      rotate_left
      focus (intro w' hSw; (try dsimp only at hSw); go_simp; (try with_reducible rfl))
      (try simp only [Act.put, List.setIfInBounds_toArray, List.set_cons_zero, List.set_cons_succ])
      refine head_done (by kernel_rfl) ?_
      go_wp2_with fail
      go_roundw
      case rel => exact ⟨c + 1, _, putW l x c (1 + y) false, by go_num, by omega, by omega, Dwn.next HDw.out (by omega) hlt (by omega), HN6.out.put zw2 (owns_mono own6 zG), HD6.out.setN (by omega) (by omega)⟩
      case measure => simp [intOf]; omega
    · have hcn2 : n = c := by omega
      subst hcn2
      go_wp2_with ((go_at_call 53; ((with_reducible refine (sL01Below _ _ _ HDr.out.cur (by omega) (by omega)).mono ?_); rintro e w7 ⟨q, rfl, q0, q1, hd7⟩)); have HN7 := Lib.hid (HN.out.drew hd7 lg lG); have HD7 := Lib.hid (HDr.out.trans hd7); clear hd7 HN HDr)
      obtain ⟨q', rfl⟩ : ∃ q' : Nat, q = (q' : Int) := ⟨q.toNat, by omega⟩
      clear a0
      obtain ⟨wo, hwo⟩ : ∃ wo : World, wo = wr := ⟨_, rfl⟩
      clear hwo
      go_loopw [7] (fun kv wr => ∃ (c : Nat) (u : Value) (l : List Wr), kv = .int .i64 c ∧ c ≤ 4 ∧ Hid (Dwn n n l) ∧ Hid (NetAt wr w.heap.size G n E S u l) ∧ Hid (Drew w wr g)) (fun kv _ => (intOf kv).toNat)
      case atStart => exact ⟨q', _, l, rfl, by omega, HDw.out, HN7.out, HD7.out⟩
      case round =>
        clear HN7 HD7 HDw
        obtain ⟨c, u, l, rfl, hc4, HDw, HN, HDr⟩ := hrel
        have a0 := HN.out.c0
        by_cases hlt : 0 < c
        · have hll := Lib.hid (dwn_len HDw.out n5)
          go_upto_if 63 with (first
            | ((go_at_call 53; ((with_reducible refine (sL01Below _ _ _ HDr.out.cur (by omega) (by omega)).mono ?_); rintro e w8 ⟨x, rfl, x0, x1, hd8⟩)); have HN8 := Lib.hid (HN.out.drew hd8 lg lG); have HD8 := Lib.hid (HDr.out.trans hd8); have b0 := HN8.out.c0; clear hd8 HN HDr)
            | ((go_at_call 53; ((with_reducible refine (sL01Below _ _ _ HD8.out.cur (by omega) (by omega)).mono ?_); rintro e w9 ⟨y, rfl, y0, y1, hd9⟩)); have HN9 := Lib.hid (HN8.out.drew hd9 lg lG); have HD9 := Lib.hid (HD8.out.trans hd9); clear hd9 HN8 HD8))
          by_cases hxy : x = y
          · have t1 : (x != y) = false := by simp [hxy]
            go_wp2_with fail
            go_roundw
            case rel => exact ⟨c - 1, u, l, by go_num, by omega, HDw.out, HN9.out, HD9.out⟩
            case measure => simp [intOf]; omega
          · have t1 : (x != y) = true := by simp [hxy]
            have HNd := Lib.hid (HN9.out.ge (Ge.drew (Ge.refl w9)))
            have HDd := Lib.hid (Drew.geN HD9.out (Ge.drew (Ge.refl w9)))
            go_wp2_with fail
            refine wp_region_head (S := fun w' => w'.cell? ⟨G, 3, none⟩ = some u) 9 (by kernel_rfl) (by kernel_rfl) (HNd.out.c3) (fun hHeld => ?_)
            refine head_take 0 (v := ?_) rfl (by kernel_rfl) (by kernel_rfl) (fun _ _ _ h => h) (by assumption) (yields_if (by rfl) ?_) ?_
            rotate_left
            focus (intro w' hSw; (try dsimp only at hSw); go_simp; (try with_reducible rfl))
            (try simp only [Act.put, List.setIfInBounds_toArray, List.set_cons_zero, List.set_cons_succ])
            refine head_take 1 (v := ?_) rfl (by kernel_rfl) (by kernel_rfl) (fun _ _ _ h => h) (by assumption) (yields_if (by rfl) ?_) ?_
            rotate_left
            focus (intro w' hSw; (try dsimp only at hSw); go_simp; (try with_reducible rfl))
            (try simp only [Act.put, List.setIfInBounds_toArray, List.set_cons_zero, List.set_cons_succ])
            refine head_take 2 (v := ?_) rfl (by kernel_rfl) (by kernel_rfl) (fun _ _ _ h => h) (by assumption) (yields_if (by rfl) ?_) ?_
            rotate_left
            focus (intro w' hSw; (try dsimp only at hSw); go_simp; (try with_reducible rfl))
            (try simp only [Act.put, List.setIfInBounds_toArray, List.set_cons_zero, List.set_cons_succ])
            refine head_take 3 (v := ?_) rfl (by kernel_rfl) (by kernel_rfl) (fun _ _ _ h => h) (by assumption) (yields_if (by rfl) ?_) ?_
            rotate_left
            focus (intro w' hSw; (try dsimp only at hSw); go_simp; (try with_reducible rfl))
            (try simp only [Act.put, List.setIfInBounds_toArray, List.set_cons_zero, List.set_cons_succ])
            refine head_take 4 (v := ?_) rfl (by kernel_rfl) (by kernel_rfl) (fun _ _ _ h => h) (by assumption) (yields_if (by rfl) ?_) ?_
            rotate_left
            focus (intro w' hSw; (try dsimp only at hSw); go_simp; (try with_reducible rfl))
            (try simp only [Act.put, List.setIfInBounds_toArray, List.set_cons_zero, List.set_cons_succ])
            refine head_one 5 rfl (by kernel_rfl) (fun K hK => ?_)
            go_simp
            (go_at_call 53; ((with_reducible refine (sL01Below _ _ _ HDd.out.cur (by omega) (by omega)).mono ?_); rintro e w4 ⟨z, rfl, z0, z1, hd4⟩))
            have HN4 := Lib.hid (HNd.out.drew hd4 lg lG)
            have HD4 := Lib.hid (HDd.out.trans hd4)
            have zG := World.block_lt_of_cell? _ _ HN4.out.c3
            clear hd4
            refine hK.out _ _ HN4.out.c3 (fun hHeld => ?_)
            clear hK K
            (try simp only [Act.put, List.setIfInBounds_toArray, List.set_cons_zero, List.set_cons_succ])
            have tw : IntKind.i64.wrap (1 + z) = 1 + z := IntWalk.i64_in _ (by omega)
            refine head_take 6 (v := ?_) rfl (by kernel_rfl) (by kernel_rfl) (fun _ _ _ h => h) (by assumption) (yields_if (by rfl) ?_) ?_
            rotate_left
            focus (intro w' hSw; (try dsimp only at hSw); go_simp; (try with_reducible rfl))
            (try simp only [Act.put, List.setIfInBounds_toArray, List.set_cons_zero, List.set_cons_succ])
            refine head_one 7 rfl (by kernel_rfl) (fun K hK => ?_)
            go_simp
            (go_at_call 83; ((with_reducible refine (sL03Put u l x y (1 + z) false _ (SlF.of_owns HN4.out.own) (by have := hll.out; omega) (fun k _ => addS_small (by omega) _)).mono ?_); rintro e w6 ⟨u6, rfl, own6, g6⟩))
            obtain ⟨p6, c6, rfl⟩ := owns_form own6
            have HN6 := Lib.hid (HN4.out.ge g6)
            have HD6 := Lib.hid (Drew.geN HD4.out g6)
            have a3 := HN6.out.c3
            have af := HN6.out.f3
            refine hK.out _ _ HN6.out.c3 (fun hHeld => ?_)
            clear hK K
            (try simp only [Act.put, List.setIfInBounds_toArray, List.set_cons_zero, List.set_cons_succ])
            refine head_take 8 (v := ?_) rfl (by kernel_rfl) (by kernel_rfl) (fun _ _ _ h => h) (by assumption) (yields_if (by rfl) ?_) ?_
            rotate_left
            focus (intro w' hSw; (try dsimp only at hSw); go_simp; (try with_reducible rfl))
            (try simp only [Act.put, List.setIfInBounds_toArray, List.set_cons_zero, List.set_cons_succ])
            refine head_done (by kernel_rfl) ?_
            go_wp2_with fail
            go_roundw
            case rel => exact ⟨c - 1, _, putW l x y (1 + z) false, by go_num, by omega, Dwn.put HDw.out (by omega) (by omega) hxy (by omega), HN6.out.put zw2 (owns_mono own6 zG), HD6.out.setN (by omega) (by omega)⟩
            case measure => simp [intOf]; omega
        · have hc0 : c = 0 := by omega
          subst hc0
          obtain ⟨b0, b1, b2, b3, bf, bo, br⟩ := HN.out
          obtain ⟨r0, p0, f0⟩ := br 0 (by omega)
          obtain ⟨r1, p1, f1⟩ := br 1 (by omega)
          obtain ⟨r2, p2, f2⟩ := br 2 (by omega)
          obtain ⟨r3, p3, f3⟩ := br 3 (by omega)
          obtain ⟨pu, cu, rfl⟩ := owns_form bo
          have HO := Lib.hid bo
          clear bo br
          have zl := lg
          go_wp2_with fail
          exact bodyPost_ret (v := .agg #[.int .i64 (n : Int), .int .i64 E, .int .i64 S, .slice pu l.length cu]) (by simp [results, Try.results50, go_sem, *]) rfl
            ⟨n, E, S, l, _, rfl, by refine owns_mono (base := G + 1) ?_ (by omega); repeat (first | exact HO.out | refine own_setD ?_ (by omega)), HDw.out, n2, nm, hE, hS3, by repeat (first | exact HDr.out | refine Drew.setN ?_ (Nat.le_refl _) lg)⟩

theorem ResD.drewN {w w' : World} {R g : Nat} (h : ResD w R) (hd : Drew w w' g) (hR : R ≠ g) : ResD w' R := fun i hi => by
  obtain ⟨u, h1, h2⟩ := h i hi
  exact ⟨u, hd.cellN h1 hR, hd.frozN h1 hR h2⟩
set_option maxHeartbeats 1600000 in
theorem sMakeNet (p : Option Addr) (n cap : Nat) (w : World) (hb : SlB w p n) (hn : n ≤ 1048576) : Calls Try.prog 17 #[.slice p n cap] w fun e w' => ∃ (n : Nat) (E S : Int) (l : List Wr) (s : Value),
    e = .returned (.agg #[.int .i64 (n : Int), .int .i64 E, .int .i64 S, s]) ∧ SlF w' s l.length 3 (flatW l) ∧ Drn n l.length (flatW l) ∧ (2 ≤ E ∧ E ≤ n) ∧ (1 ≤ S ∧ S ≤ 3) ∧ Ge w w' := by
  have HB := Lib.hid (hb.ge (Ge.alloc (Ge.refl w) (.cells #[.int .i64 0, .int .i64 0, .int .i64 0, .slice none 0 0] 36)))
  have RS0 := Lib.hid (ResD.new w (.int .i64 0) (.int .i64 0) (.int .i64 0) (.slice none 0 0) 36)
  clear hb
  go_enter Try.func17, Try.ntmps17
  go_wp2_with (first
    | ((go_at_call 51; ((with_reducible refine (sL01New _ _ _ _ HB.out hn).mono ?_); rintro e w1 ⟨g, rfl, hc1, hg, g1⟩)); have HC := Lib.hid hc1; clear hc1; have RS1 := Lib.hid (RS0.out.ge g1); have lg : w.heap.size < g := (by simp at hg; omega); have lw := (g1.size); simp at lw)
    | ((go_at_call 50; ((with_reducible refine (sL03Draw _ _ _ HC.out (by omega) (by omega)).mono ?_); rintro e w2 ⟨m, E, S, l, s, rfl, own2, hdw, n2, n5, hE, hS, hd2⟩)); have RS2 := (RS1.out.drewN hd2 (by omega)); obtain ⟨pu, cu, rfl⟩ := owns_form own2; obtain ⟨r0, p0, f0⟩ := RS2 0 (by omega); obtain ⟨r1, p1, f1⟩ := RS2 1 (by omega); obtain ⟨r2, p2, f2⟩ := RS2 2 (by omega); obtain ⟨r3, p3, f3⟩ := RS2 3 (by omega); have G2 := Lib.hid (Ge.trans (Ge.alloc (Ge.refl w) _) (hd2.ge g1 hg)); have HO := Lib.hid own2; clear RS2 own2 hd2))
  exact bodyPost_ret (v := .agg #[.int .i64 (m : Int), .int .i64 E, .int .i64 S, .slice pu l.length cu]) (by simp [results, Try.results17, go_sem, *]) rfl
    ⟨m, E, S, l, _, rfl, by refine SlF.of_owns (base := w1.heap.size) (e := 81) ?_; repeat (first | exact HO.out | refine own_setD ?_ (by omega)), dwn_drn hdw n2 (by omega), hE, hS, by repeat (first | exact G2.out | refine Ge.setCell ?_ (Nat.le_refl _) _)⟩
end Go.Proofs.Ytfhhgonoddedlaa
