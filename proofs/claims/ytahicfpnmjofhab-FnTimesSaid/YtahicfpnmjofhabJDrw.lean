/- l03Put of the reference: a wire put into a list of wires. No condition. A network in a variable of the call's own. No condition. A region that draws its order: the first n operations under a condition S on the world, then a tail in one forced order. No program in sight. l03Draw and MakeNet of the reference: what they make is a network as PlDraw tells. No condition. ShareOf of impl at a drawn network; the functions of walks at a drawn network. No condition. Numbers of nodes, walked. No condition. -/
import Derived.Test.YtahicfpnmjofhabJWal
import Derived.Test.YtahicfpnmjofhabWRes
import Derived.Test.YtahicfpnmjofhabWFlat
import Derived.Test.YtahicfpnmjofhabWEqInt
import Derived.Test.YtahicfpnmjofhabWDet0
import Derived.Test.YtahicfpnmjofhabWLaw
import Derived.Test.YtahicfpnmjofhabWBase
import Derived.Test.YtahicfpnmjofhabWCur
import Derived.Test.YtahicfpnmjofhabJCha
import Derived.Test.YtahicfpnmjofhabWSum
import Derived.Maps.AppendAt
namespace Go.Proofs.Ytahicfpnmjofhab
set_option maxRecDepth 100000
open Go.ChangeShapes Go.WideShapes Go.ChangeAt Go.RowKit Go.Joins

theorem inf_Wire3 : (Try.prog.info? 52).map (fun i => (i.zero, i.size, i.bytes)) = some (some (Value.agg #[.int .i64 0, .int .i64 0, .int .i64 0]), 3, 24) := by kernel_rfl
theorem ap_wire {w : World} {ops : Array Oper} {rest : List Oper} {o : Oper} {a : Act} {Q : Exit → Act → World → Prop} (hgd : o.guard = none) (s x : Operand)
    (ho : o.op = .call { callee := .builtin .append, args := #[s, x], argTypes := #[23, 23] })
    (base : Nat) (v : Value) (n : Nat) (l : List Int) (hs : a.eval s = v) (hown : w.ownsRow base 52 3 v n (icells l))
    (y1 y2 y3 : Int) {b0 : Nat} (hx : a.eval x = .slice (some ⟨b0, 0, none⟩) 1 1) (hb0 : b0 = w.heap.size) (hn : n < 1099511627776) (hbase : base ≤ w.heap.size)
    (h : ∀ v' w', w'.ownsRow base 52 3 v' (n + 1) (icells (l ++ [y1, y2, y3])) → Mine w w' v → (v'.ownBlock = v.ownBlock ∨ ∃ b, v'.ownBlock = some b ∧ w.heap.size ≤ b) → wpList Try.prog ops Q rest (a.put o.dst v') w') :
    wpList Try.prog ops Q (o :: rest) a (w.alloc (.cells #[.int .i64 y1, .int .i64 y2, .int .i64 y3] 52)) := by
  subst hb0
  obtain ⟨i, hi1, hi2, hi3, hi4⟩ := info_parts inf_Wire3
  refine Go.wpList_append_own_at _ hgd s x 23 ho base 52 i _ 3 24 Try.underlying23 hi1 hi2 hi3 hi4 rfl (by decide) v n (icells l) hs (hown.alloc _) ⟨w.heap.size, 0, none⟩ 1 1 [.int .i64 y1, .int .i64 y2, .int .i64 y3] hx rfl ?_ (by simp [Value.oneCell']) (by unfold maxLen; omega) ?_ (by simp; omega) ?_
  · intro j u hu
    have hadd : (⟨w.heap.size, 0, none⟩ : Addr).add j = ⟨w.heap.size, j, none⟩ := by unfold Addr.add; split <;> simp_all
    rw [hadd, cell_of_row (w.alloc (.cells #[.int .i64 y1, .int .i64 y2, .int .i64 y3] 52)) w.heap.size j _ _ (0, 0) (heap_alloc_new w _)]
    simpa using hu
  · have : (n + 1) * 24 ≤ (n + 1) * 100 := Nat.mul_le_mul_left _ (by decide)
    omega
  · intro v' w' h2 h3 _ h5
    refine h v' w' (by simpa [icells] using h2) (Mine.alloc _ h3) ?_
    rcases h5 with h5 | h5
    · exact .inl h5
    · exact .inr ⟨_, h5, by simp⟩
theorem grown_setN (w : World) (b o : Nat) (x : Value) : w.grownBy (w.setCell ⟨b, o, none⟩ x) (some b) := by
  refine ⟨rfl, rfl, rfl, by simp, fun k _ hne => ?_⟩
  have : b ≠ k := fun e => hne (by rw [e])
  simp [World.setCell, Array.getElem?_modify, this]
theorem mine_frozN {w w' : World} {v : Value} (hm : Mine w w' v) {a : Addr} {u : Value} (h : w.cell? a = some u) (hf : w.frozen? a = false) (hne : ∀ k, v.ownBlock = some k → a.block ≠ k) : w'.frozen? a = false := by
  rw [World.frozen?_of_block (World.grownBy.block hm a.block (World.block_lt_of_cell? _ _ h) (fun e => hne _ e.symm rfl))]
  exact hf
/-- The row's block is the first, or a late one. -/
def Blk (v : Value) (z a : Nat) : Prop := v.ownBlock = some z ∨ ∃ b, v.ownBlock = some b ∧ a ≤ b
theorem Blk.next {v v' : Value} {z a b : Nat} (h : Blk v z a) (hz : a ≤ b) (h2 : v'.ownBlock = v.ownBlock ∨ ∃ c, v'.ownBlock = some c ∧ b ≤ c) : Blk v' z a := by
  rcases h2 with h2 | ⟨c, h2, h3⟩
  · unfold Blk; rw [h2]; exact h
  · exact Or.inr ⟨c, h2, by omega⟩
theorem Blk.ne {v : Value} {z a g : Nat} (h : Blk v z a) (h1 : z < g) (h2 : g < a) : ∀ k, v.ownBlock = some k → g ≠ k := fun k hk e => by
  rcases h with h | ⟨b, h, h3⟩
  · rw [h] at hk; cases hk; omega
  · rw [h] at hk; cases hk; omega
theorem flatW_snoc (l : List Wr) (e : Wr) : flatW (l ++ [e]) = flatW l ++ [e.a, e.b, e.w] := by rw [flatW_append]; rfl
theorem take_snocW (l : List Wr) (k : Nat) (h : k < l.length) : l.take (k + 1) = l.take k ++ [nthW l k] := by
  rw [List.take_succ_eq_append_getElem h, nthW_eq l k h]
theorem wire_cells {w : World} {p : Option Addr} {l : List Wr} {n : Nat} (h : ∀ i, i < n * 3 → ∃ b o, p = some ⟨b, o, none⟩ ∧ w.cell? ⟨b, o + i, none⟩ = some (.int .i64 (nth (flatW l) i))) (hn : l.length = n) {k : Nat} (hk : k < n) :
    ∃ b o, p = some ⟨b, o, none⟩ ∧ w.cell? ⟨b, o + k * 3, none⟩ = some (.int .i64 (nthW l k).a) ∧ w.cell? ⟨b, o + k * 3 + 1, none⟩ = some (.int .i64 (nthW l k).b) ∧ w.cell? ⟨b, o + k * 3 + 2, none⟩ = some (.int .i64 (nthW l k).w) := by
  obtain ⟨b, o, hp, c0, c1, c2⟩ := three_cells h hk
  obtain ⟨e0, e1, e2⟩ := flatW_get l k (by omega)
  unfold nth at c0 c1 c2
  rw [e0] at c0
  rw [e1] at c1
  rw [e2] at c2
  exact ⟨b, o, hp, c0, c1, c2⟩
/-- The weight so far. -/
def addS (add : Bool) (A B x : Int) (l : List Wr) : Int := x + (if add = true then sameS A B l else 0)
/-- The first loop of l03Put: what stands behind k rounds. -/
def Put1 (w wr : World) (v : Value) (A B x : Int) (add : Bool) (l : List Wr) (k : Nat) : Prop :=
  wr.ownsRow w.heap.size 52 3 v (dropE A B (l.take k)).length (icells (flatW (dropE A B (l.take k)))) ∧ Blk v w.heap.size (w.heap.size + 2) ∧
  wr.cell? ⟨w.heap.size + 1, 0, none⟩ = some (.int .i64 A) ∧ wr.cell? ⟨w.heap.size + 1, 1, none⟩ = some (.int .i64 B) ∧ wr.cell? ⟨w.heap.size + 1, 2, none⟩ = some (.int .i64 (addS add A B x (l.take k))) ∧
  wr.frozen? ⟨w.heap.size + 1, 2, none⟩ = false ∧ w.heap.size + 2 ≤ wr.heap.size ∧ Ge w wr
theorem Put1.start (w : World) (A B x : Int) (add : Bool) (l : List Wr) : Put1 w ((w.alloc (.cells #[] 52)).alloc (.cells #[.int .i64 A, .int .i64 B, .int .i64 x] 52)) (.slice (some ⟨w.heap.size, 0, none⟩) 0 0) A B x add l 0 := by
  have e : w.heap.size + 1 = (w.alloc (.cells #[] 52)).heap.size := by simp
  refine ⟨Ge.owns (Ge.alloc (Ge.refl _) _) (owns_lit0 _ _ _), Or.inl rfl, cell_new e rfl, cell_new e rfl, ?_, froz_new (v := .int .i64 x) e rfl, by simp, Ge.alloc (Ge.alloc (Ge.refl _) _) _⟩
  have : addS add A B x (l.take 0) = x := by unfold addS; simp [sameS]
  rw [this]
  exact cell_new e rfl
theorem drop_in {A B : Int} {l : List Wr} {k : Nat} (hk : k < l.length) (h : isE A B (nthW l k) = true) : dropE A B (l.take (k + 1)) = dropE A B (l.take k) := by
  rw [take_snocW l k hk, dropE_snoc, if_pos h]
theorem drop_out {A B : Int} {l : List Wr} {k : Nat} (hk : k < l.length) (h : isE A B (nthW l k) = false) : dropE A B (l.take (k + 1)) = dropE A B (l.take k) ++ [nthW l k] := by
  rw [take_snocW l k hk, dropE_snoc, if_neg (by simp [h])]
theorem addS_in {A B x : Int} {l : List Wr} {k : Nat} (hk : k < l.length) (h : isE A B (nthW l k) = true) : addS true A B x (l.take (k + 1)) = addS true A B x (l.take k) + (nthW l k).w := by
  unfold addS
  rw [if_pos rfl, if_pos rfl, take_snocW l k hk, sameS_snoc, if_pos h]; omega
theorem addS_out {A B x : Int} {add : Bool} {l : List Wr} {k : Nat} (hk : k < l.length) (h : isE A B (nthW l k) = false) : addS add A B x (l.take (k + 1)) = addS add A B x (l.take k) := by
  unfold addS
  rw [take_snocW l k hk, sameS_snoc, h]; simp
/-- A round that leaves the list as it is, no weight is added. -/
theorem Put1.skip {w wr : World} {v : Value} {A B x : Int} {l : List Wr} {k : Nat} (h : Put1 w wr v A B x false l k) (hk : k < l.length) (he : isE A B (nthW l k) = true) {wr' : World} (hg : Ge wr wr') : Put1 w wr' v A B x false l (k + 1) := by
  obtain ⟨h1, h2, h3, h4, h5, h6, h7, h8⟩ := h
  refine ⟨by rw [drop_in hk he]; exact hg.owns h1, h2, hg.keep h3, hg.keep h4, ?_, hg.keepF h5 h6, Nat.le_trans h7 hg.size, h8.trans hg⟩
  have e : addS false A B x (l.take (k + 1)) = addS false A B x (l.take k) := by unfold addS; simp
  rw [e]; exact hg.keep h5
/-- A round that adds a weight. -/
theorem Put1.plus {w wr : World} {v : Value} {A B x : Int} {l : List Wr} {k : Nat} (h : Put1 w wr v A B x true l k) (hk : k < l.length) (he : isE A B (nthW l k) = true) {wr' : World} (hg : Ge wr wr') {y : Int} (hy : y = addS true A B x (l.take k) + (nthW l k).w) :
    Put1 w (wr'.setCell ⟨w.heap.size + 1, 2, none⟩ (.int .i64 y)) v A B x true l (k + 1) := by
  obtain ⟨h1, h2, h3, h4, h5, h6, h7, h8⟩ := h
  refine ⟨?_, h2, cell_set2 (by simp) (hg.keep h3), cell_set2 (by simp) (hg.keep h4), ?_, froz_set (hg.keepF h5 h6), by simpa using Nat.le_trans h7 hg.size, Ge.setCell (h8.trans hg) (by simp) _⟩
  · rw [drop_in hk he]
    have h1' := hg.owns h1
    refine h1'.kept (grown_setN wr' (w.heap.size + 1) 2 (.int .i64 y)) ?_
    cases hv : v.ownBlock with
    | none => exact .inl rfl
    | some c => exact .inr (fun e => h2.ne (g := w.heap.size + 1) (by omega) (by omega) c hv (by simpa using e.symm))
  · rw [addS_in hk he, ← hy]
    exact World.cell?_setCell_same _ _ _ (hg.keep h5)
theorem Put1.ge {w wr wr' : World} {v : Value} {A B x : Int} {add : Bool} {l : List Wr} {k : Nat} (h : Put1 w wr v A B x add l k) (hg : Ge wr wr') : Put1 w wr' v A B x add l k := by
  obtain ⟨h1, h2, h3, h4, h5, h6, h7, h8⟩ := h
  exact ⟨hg.owns h1, h2, hg.keep h3, hg.keep h4, hg.keep h5, hg.keepF h5 h6, Nat.le_trans h7 hg.size, h8.trans hg⟩
/-- A round that appends the wire. -/
theorem Put1.app {w wr : World} {v : Value} {A B x : Int} {add : Bool} {l : List Wr} {k : Nat} (h : Put1 w wr v A B x add l k) (hk : k < l.length) (he : isE A B (nthW l k) = false) {wr' w' : World} {v' : Value} (hg : Ge wr wr') (hm : Mine wr' w' v)
    (ho : w'.ownsRow w.heap.size 52 3 v' ((dropE A B (l.take k)).length + 1) (icells (flatW (dropE A B (l.take k)) ++ [(nthW l k).a, (nthW l k).b, (nthW l k).w])))
    (hb : v'.ownBlock = v.ownBlock ∨ ∃ b, v'.ownBlock = some b ∧ wr'.heap.size ≤ b) : Put1 w w' v' A B x add l (k + 1) := by
  obtain ⟨h1, h2, h3, h4, h5, h6, h7, h8⟩ := h
  have ne := h2.ne (g := w.heap.size + 1) (by omega) (by omega)
  have z := hg.size
  refine ⟨?_, h2.next (by omega) hb, mine_cell hm (hg.keep h3) ne, mine_cell hm (hg.keep h4) ne, ?_, ?_, Nat.le_trans h7 (Nat.le_trans z (World.grownBy.size hm)), Ge.mine (h8.trans hg) (hg.owns h1) (Nat.le_refl _) hm⟩
  · rw [drop_out hk he, flatW_snoc]
    simpa using ho
  · rw [addS_out hk he]; exact mine_cell hm (hg.keep h5) ne
  · exact mine_frozN hm (hg.keep h5) (hg.keepF h5 h6) ne
/-- The second loop: what stands behind k rounds. -/
def Put2 (w2 wr : World) (v : Value) (B2 : Nat) (X : Wr) (D : List Wr) (k : Nat) : Prop :=
  wr.ownsRow B2 52 3 v (insP X (D.take k)).1.length (icells (flatW (insP X (D.take k)).1)) ∧ Ge w2 wr
theorem Put2.one {w2 wr wr' w' : World} {v v' : Value} {B2 : Nat} {X : Wr} {D : List Wr} {k : Nat} (h : Put2 w2 wr v B2 X D k) (hk : k < D.length) (hb : w2.heap.size ≤ B2) (hg : Ge wr wr') (hm : Mine wr' w' v)
    (hc : (insP X (D.take k)).2 = true ∨ gtE X.a X.b (nthW D k) = false)
    (ho : w'.ownsRow B2 52 3 v' ((insP X (D.take k)).1.length + 1) (icells (flatW (insP X (D.take k)).1 ++ [(nthW D k).a, (nthW D k).b, (nthW D k).w]))) :
    Put2 w2 w' v' B2 X D (k + 1) ∧ (insP X (D.take (k + 1))).2 = (insP X (D.take k)).2 := by
  have e : insP X (D.take (k + 1)) = ((insP X (D.take k)).1 ++ [nthW D k], (insP X (D.take k)).2) := by
    rw [take_snocW D k hk, insP_snoc]
    rcases hc with hc | hc
    · rw [if_pos hc, hc]
    · by_cases d : (insP X (D.take k)).2 = true
      · rw [if_pos d, d]
      · rw [if_neg d, if_neg (by simp [hc])]
        have : (insP X (D.take k)).2 = false := by simpa using d
        rw [this]
  refine ⟨⟨?_, Ge.mine (h.2.trans hg) (hg.owns h.1) hb hm⟩, by rw [e]⟩
  rw [e]
  simp only [flatW_snoc, List.length_append, List.length_singleton]
  exact ho
theorem Put2.two {w2 wr wr' wa w' : World} {v va v' : Value} {B2 : Nat} {X : Wr} {D : List Wr} {k : Nat} (h : Put2 w2 wr v B2 X D k) (hk : k < D.length) (hb : w2.heap.size ≤ B2) (hg : Ge wr wr') (hm : Mine wr' wa v) (hma : Mine wa w' va)
    (hc : (insP X (D.take k)).2 = false) (hc2 : gtE X.a X.b (nthW D k) = true)
    (hoa : wa.ownsRow B2 52 3 va ((insP X (D.take k)).1.length + 1) (icells (flatW (insP X (D.take k)).1 ++ [X.a, X.b, X.w])))
    (ho : w'.ownsRow B2 52 3 v' ((insP X (D.take k)).1.length + 1 + 1) (icells (flatW (insP X (D.take k)).1 ++ [X.a, X.b, X.w] ++ [(nthW D k).a, (nthW D k).b, (nthW D k).w]))) :
    Put2 w2 w' v' B2 X D (k + 1) ∧ (insP X (D.take (k + 1))).2 = true := by
  have e : insP X (D.take (k + 1)) = ((insP X (D.take k)).1 ++ [X, nthW D k], true) := by
    rw [take_snocW D k hk, insP_snoc, if_neg (by simp [hc]), if_pos hc2]
  refine ⟨⟨?_, Ge.mine (Ge.mine (h.2.trans hg) (hg.owns h.1) hb hm) hoa hb hma⟩, by rw [e]⟩
  rw [e]
  have e2 : (insP X (D.take k)).1 ++ [X, nthW D k] = ((insP X (D.take k)).1 ++ [X]) ++ [nthW D k] := by simp
  simp only
  rw [e2, flatW_snoc, flatW_snoc]
  simpa using ho
theorem Put2.done {w w2 wr : World} {v : Value} {X : Wr} {D : List Wr} {k : Nat} (h : Put2 w2 wr v w2.heap.size X D k) (hk : D.length = k) (hd : (insP X (D.take k)).2 = true) (hw : Ge w w2) : wr.ownsRow w.heap.size 52 3 v (insW X D).length (icells (flatW (insW X D))) ∧ Ge w wr := by
  rw [List.take_of_length_le (by omega)] at hd
  have e : insW X D = (insP X D).1 := by unfold insW; rw [if_pos hd]
  have h1 := h.1
  rw [List.take_of_length_le (by omega)] at h1
  rw [e]
  exact ⟨owns_mono h1 hw.size, hw.trans h.2⟩
theorem Put2.last {w w2 wr w' : World} {v v' : Value} {X : Wr} {D : List Wr} {k : Nat} (h : Put2 w2 wr v w2.heap.size X D k) (hk : D.length = k) (hd : (insP X (D.take k)).2 = false) (hw : Ge w w2) (hm : Mine wr w' v)
    (ho : w'.ownsRow w2.heap.size 52 3 v' ((insP X (D.take k)).1.length + 1) (icells (flatW (insP X (D.take k)).1 ++ [X.a, X.b, X.w]))) : w'.ownsRow w.heap.size 52 3 v' (insW X D).length (icells (flatW (insW X D))) ∧ Ge w w' := by
  rw [List.take_of_length_le (by omega)] at hd ho
  have e : insW X D = (insP X D).1 ++ [X] := by unfold insW; rw [if_neg (by simp [hd])]
  rw [e, flatW_snoc]
  refine ⟨owns_mono (by simpa using ho) hw.size, hw.trans (Ge.mine h.2 h.1 (Nat.le_refl _) hm)⟩
theorem drop_le (A B : Int) (l : List Wr) (k : Nat) (h : l.length ≤ 1000000) : (dropE A B (l.take k)).length ≤ 1000000 := by
  have h1 := dropE_len A B (l.take k)
  have h2 : (l.take k).length ≤ l.length := List.length_take_le' _ _
  omega
theorem ins_le (X : Wr) (D : List Wr) (k : Nat) (h : D.length ≤ 1000000) : (insP X (D.take k)).1.length ≤ 1000001 := by
  have h1 := insP_len X (D.take k)
  have h2 : (D.take k).length ≤ D.length := List.length_take_le' _ _
  split at h1 <;> omega

set_option maxHeartbeats 3200000 in
theorem sL03Put (v : Value) (l : List Wr) (a b x : Int) (add : Bool) (w : World) (hs : SlF w v l.length 3 (flatW l)) (hl : l.length ≤ 1000000)
    (hB : ∀ k, k ≤ l.length → -9000000000000000000 ≤ addS add (min a b) (max a b) x (l.take k) ∧ addS add (min a b) (max a b) x (l.take k) ≤ 9000000000000000000) :
    Calls Try.prog 25 #[v, .int .i64 a, .int .i64 b, .int .i64 x, .bool add] w fun e w' => ∃ u, e = .returned u ∧ (w'.ownsRow w.heap.size 52 3 u (putW l a b x add).length (icells (flatW (putW l a b x add))) ∧ Ge w w') := by
  have HPut : Hid (putW l a b x add = insW ⟨min a b, max a b, addS add (min a b) (max a b) x l⟩ (dropE (min a b) (max a b) l)) := rfl
  have HBd := Lib.hid hB
  obtain ⟨n, hn⟩ : ∃ n, l.length = n := ⟨_, rfl⟩
  have HN := Lib.hid hn
  rw [hn] at hl hs
  obtain ⟨p, cap, rfl, hc⟩ := hs.open
  have HC : Hid (∀ wr, Ge w wr → ∀ k, k < n → ∃ b o, p = some ⟨b, o, none⟩ ∧ wr.cell? ⟨b, o + k * 3, none⟩ = some (.int .i64 (nthW l k).a) ∧ wr.cell? ⟨b, o + k * 3 + 1, none⟩ = some (.int .i64 (nthW l k).b) ∧ wr.cell? ⟨b, o + k * 3 + 2, none⟩ = some (.int .i64 (nthW l k).w)) := fun wr g k hk => by
    obtain ⟨b, o, hp, c0, c1, c2⟩ := wire_cells hc hn hk
    exact ⟨b, o, hp, g.keep c0, g.keep c1, g.keep c2⟩
  have HSt := Lib.hid (Put1.start w (min a b) (max a b) x add l)
  clear hs hc hn hB
  go_enter Try.func25, Try.ntmps25
  go_wp2_with fail
  generalize min a b = A at *
  generalize max a b = B at *
  go_loopw [11, 29] (fun u i wr => ∃ k : Nat, k ≤ n ∧ i = .int .i64 k ∧ Hid (Put1 w wr u A B x add l k)) (fun _ i _ => n - (intOf i).toNat)
  case atStart => exact ⟨0, Nat.zero_le _, rfl, HSt.out⟩
  case round =>
    obtain ⟨k, hk, rfl, HP⟩ := hrel
    obtain ⟨h1, h2, h3, h4, h5, h6, h7, h8⟩ := HP.out
    have z1 : w.heap.size + 1 < wr.heap.size := by omega
    by_cases hlt : k < n
    · obtain ⟨b0, o0, rfl, c0, c1, c2⟩ := HC.out wr h8 k hlt
      have hkl : k < l.length := by rw [HN.out]; exact hlt
      cases he : isE A B (nthW l k) with
      | false =>
        have HApp := Lib.hid (fun wr' w' v' hg hm ho hb => Put1.app HP.out hkl he (wr' := wr') (w' := w') (v' := v') hg hm ho hb)
        have HD := Lib.hid (drop_le A B l k (by rw [HN.out]; exact hl))
        have hne : ¬ ((nthW l k).a = A ∧ (nthW l k).b = B) := fun h => by rw [isE_t h] at he; cases he
        generalize dropE A B (l.take k) = D at *
        generalize nthW l k = E at *
        generalize addS add A B x (l.take k) = Y at *
        obtain ⟨ea, eb, ew⟩ := E
        dsimp only at *
        generalize flatW D = FD at *
        generalize D.length = dn at *
        have ho := h1.alloc (.cells #[.int .i64 ea, .int .i64 eb, .int .i64 ew] 52)
        clear he hkl h1
        by_cases t1 : ea = A
        · have t2 : ¬ eb = B := fun h => hne ⟨t1, h⟩
          have q1 : (ea == A) = true := by simp [t1]
          have q2 : (eb == B) = false := by simp [t2]
          clear t1 t2 hne
          go_wp2_with (at_builtin; refine ap_wire rfl _ _ rfl w.heap.size _ _ _ rfl ho ea eb ew rfl (by simp) (by have := HD.out; omega) (by simp; omega) ?_; intro v' w6 own6 hm6 hb6)
          go_roundw
          case rel => exact ⟨k + 1, by omega, by go_num, HApp.out _ _ _ (Ge.alloc (Ge.refl _) _) hm6 own6 hb6⟩
          case measure => simp [intOf]; omega
        · have q1 : (ea == A) = false := by simp [t1]
          clear t1 hne
          go_wp2_with (at_builtin; refine ap_wire rfl _ _ rfl w.heap.size _ _ _ rfl ho ea eb ew rfl (by simp) (by have := HD.out; omega) (by simp; omega) ?_; intro v' w6 own6 hm6 hb6)
          go_roundw
          case rel => exact ⟨k + 1, by omega, by go_num, HApp.out _ _ _ (Ge.alloc (Ge.refl _) _) hm6 own6 hb6⟩
          case measure => simp [intOf]; omega
      | true =>
        obtain ⟨t1, t2⟩ := isE_of he
        have q1 : ((nthW l k).a == A) = true := by simp [t1]
        have q2 : ((nthW l k).b == B) = true := by simp [t2]
        cases add with
        | false =>
          have HSk := Lib.hid (fun wr' hg => Put1.skip HP.out hkl he (wr' := wr') hg)
          generalize nthW l k = E at *
          obtain ⟨ea, eb, ew⟩ := E
          dsimp only at *
          clear he hkl h1 t1 t2
          go_wp2_with fail
          go_roundw
          case rel => exact ⟨k + 1, by omega, by go_num, HSk.out _ (Ge.alloc (Ge.refl _) _)⟩
          case measure => simp [intOf]; omega
        | true =>
          have HPl := Lib.hid (fun wr' hg y hy => Put1.plus HP.out hkl he (wr' := wr') hg (y := y) hy)
          have b1 := HBd.out (k + 1) (by omega)
          rw [addS_in hkl he] at b1
          generalize addS true A B x (l.take k) = Y at *
          generalize nthW l k = E at *
          obtain ⟨ea, eb, ew⟩ := E
          dsimp only at *
          clear he hkl h1 t1 t2
          go_wp2_with fail
          go_roundw
          case rel => exact ⟨k + 1, by omega, by go_num, Put1.ge (HPl.out _ (Ge.refl _) _ rfl) (Ge.alloc (Ge.refl _) _)⟩
          case measure => simp [intOf]; omega
    · have hkn : k = n := by omega
      subst hkn
      rw [List.take_of_length_le (by rw [HN.out]; exact Nat.le_refl _)] at h1 h5
      have hdl := drop_le A B l l.length (by rw [HN.out]; exact hl)
      rw [List.take_of_length_le (Nat.le_refl _)] at hdl
      have HD := Lib.hid (fun kk => ins_le ⟨A, B, addS add A B x l⟩ (dropE A B l) kk hdl)
      generalize addS add A B x l = Y at *
      generalize dropE A B l = D at *
      have Hs1 := SlF.of_owns h1
      obtain ⟨d, hd⟩ : ∃ d, D.length = d := ⟨_, rfl⟩
      have HDn := Lib.hid hd
      rw [hd] at h1 Hs1 hdl
      obtain ⟨p2, cap2, rfl, hc2⟩ := Hs1.open
      have HC2 : Hid (∀ wq, Ge wr wq → ∀ k, k < d → ∃ b o, p2 = some ⟨b, o, none⟩ ∧ wq.cell? ⟨b, o + k * 3, none⟩ = some (.int .i64 (nthW D k).a) ∧ wq.cell? ⟨b, o + k * 3 + 1, none⟩ = some (.int .i64 (nthW D k).b) ∧ wq.cell? ⟨b, o + k * 3 + 2, none⟩ = some (.int .i64 (nthW D k).w)) := fun wq g k hk => by
        obtain ⟨b, o, hp, c0, c1, c2⟩ := wire_cells hc2 hd hk
        exact ⟨b, o, hp, g.keep c0, g.keep c1, g.keep c2⟩
      have HSt2 : Hid (Put2 wr (wr.alloc (.cells #[] 52)) (.slice (some ⟨wr.heap.size, 0, none⟩) 0 0) wr.heap.size ⟨A, B, Y⟩ D 0) := ⟨owns_lit0 _ _ _, Ge.alloc (Ge.refl _) _⟩
      clear h1 Hs1 hc2 hd h2 h6 HP HBd HC
      go_wp2_with fail
      obtain ⟨wo, hwo⟩ : ∃ wo : World, wo = wr := ⟨_, rfl⟩
      subst hwo
      go_loopw [11, 13, 61] (fun u dn i wr => ∃ k : Nat, k ≤ d ∧ i = .int .i64 k ∧ dn = .bool (insP ⟨A, B, Y⟩ (D.take k)).2 ∧ Hid (Put2 wo wr u wo.heap.size ⟨A, B, Y⟩ D k)) (fun _ _ i _ => d - (intOf i).toNat)
      case atStart => exact ⟨0, Nat.zero_le _, rfl, rfl, HSt2.out⟩
      case round =>
        obtain ⟨k, hk2, rfl, rfl, HP2⟩ := hrel
        obtain ⟨g1, g2⟩ := HP2.out
        have x0 := g2.keep h3
        have x1 := g2.keep h4
        have x2 := g2.keep h5
        have z2 : w.heap.size + 1 < wr.heap.size := Nat.lt_of_lt_of_le z1 g2.size
        have z3 := g2.size
        have HI := Lib.hid (HD.out k)
        by_cases hlt2 : k < d
        · obtain ⟨b1, o1, rfl, c0, c1, c2⟩ := HC2.out wr g2 k hlt2
          have hkd : k < D.length := by rw [HDn.out]; exact hlt2
          cases hdn : (insP ⟨A, B, Y⟩ (D.take k)).2 with
          | true =>
            have HOne := Lib.hid (fun wr' w' v' hg hm ho => Put2.one HP2.out hkd (Nat.le_refl _) (wr' := wr') (w' := w') (v' := v') hg hm (Or.inl hdn) ho)
            rw [hdn] at HOne
            generalize nthW D k = E at *
            obtain ⟨ea, eb, ew⟩ := E
            dsimp only at *
            generalize (insP ⟨A, B, Y⟩ (D.take k)).1.length = il at *
            generalize flatW (insP ⟨A, B, Y⟩ (D.take k)).1 = FI at *
            have ho1 := g1.alloc (.cells #[.int .i64 ea, .int .i64 eb, .int .i64 ew] 52)
            clear hkd hdn g1
            go_wp2_with (at_builtin; refine ap_wire rfl _ _ rfl wo.heap.size _ _ _ rfl ho1 ea eb ew rfl (by simp) (by have := HI.out; omega) (by simp; omega) ?_; intro v' w6 own6 hm6 hb6)
            go_roundw
            case rel => exact ⟨k + 1, by omega, by go_num, by rw [(HOne.out _ _ _ (Ge.alloc (Ge.refl _) _) hm6 own6).2], (HOne.out _ _ _ (Ge.alloc (Ge.refl _) _) hm6 own6).1⟩
            case measure => simp [intOf]; omega
          | false =>
            cases hg : gtE A B (nthW D k) with
            | false =>
              have HOne := Lib.hid (fun wr' w' v' hg1 hm ho => Put2.one HP2.out hkd (Nat.le_refl _) (wr' := wr') (w' := w') (v' := v') hg1 hm (Or.inr hg) ho)
              rw [hdn] at HOne
              have hng : ¬ (A < (nthW D k).a ∨ (nthW D k).a = A ∧ B < (nthW D k).b) := fun h => by rw [gtE_t h] at hg; cases hg
              generalize nthW D k = E at *
              obtain ⟨ea, eb, ew⟩ := E
              dsimp only at *
              generalize (insP ⟨A, B, Y⟩ (D.take k)).1.length = il at *
              generalize flatW (insP ⟨A, B, Y⟩ (D.take k)).1 = FI at *
              have ho1 := g1.alloc (.cells #[.int .i64 ea, .int .i64 eb, .int .i64 ew] 52)
              have q1 : decide (A < ea) = false := by simp; omega
              have q1' : ¬ A < ea := by omega
              clear hkd hdn g1 hg
              by_cases t1 : ea = A
              · have q2 : (ea == A) = true := by simp [t1]
                have q3 : decide (B < eb) = false := by simp; omega
                have q3' : ¬ B < eb := by omega
                clear t1 hng
                go_wp2_with (at_builtin; refine ap_wire rfl _ _ rfl wo.heap.size _ _ _ rfl ho1 ea eb ew rfl (by simp) (by have := HI.out; omega) (by simp; omega) ?_; intro v' w6 own6 hm6 hb6)
                go_roundw
                case rel => exact ⟨k + 1, by omega, by go_num, by rw [(HOne.out _ _ _ (Ge.alloc (Ge.refl _) _) hm6 own6).2], (HOne.out _ _ _ (Ge.alloc (Ge.refl _) _) hm6 own6).1⟩
                case measure => simp [intOf]; omega
              · have q2 : (ea == A) = false := by simp [t1]
                clear t1 hng
                go_wp2_with (at_builtin; refine ap_wire rfl _ _ rfl wo.heap.size _ _ _ rfl ho1 ea eb ew rfl (by simp) (by have := HI.out; omega) (by simp; omega) ?_; intro v' w6 own6 hm6 hb6)
                go_roundw
                case rel => exact ⟨k + 1, by omega, by go_num, by rw [(HOne.out _ _ _ (Ge.alloc (Ge.refl _) _) hm6 own6).2], (HOne.out _ _ _ (Ge.alloc (Ge.refl _) _) hm6 own6).1⟩
                case measure => simp [intOf]; omega
            | true =>
              have HTwo := Lib.hid (fun wr' wa w' va v' hg1 hm hma hoa ho => Put2.two HP2.out hkd (Nat.le_refl _) (wr' := wr') (wa := wa) (w' := w') (va := va) (v' := v') hg1 hm hma hdn hg hoa ho)
              have hyg := gtE_of hg
              generalize nthW D k = E at *
              obtain ⟨ea, eb, ew⟩ := E
              dsimp only at *
              generalize (insP ⟨A, B, Y⟩ (D.take k)).1.length = il at *
              generalize flatW (insP ⟨A, B, Y⟩ (D.take k)).1 = FI at *
              have ho1 := g1.alloc (.cells #[.int .i64 ea, .int .i64 eb, .int .i64 ew] 52)
              have NB := Lib.hid (behind_row g1 (Nat.le_refl _))
              have E0 : Hid ((wr.alloc (.cells #[.int .i64 ea, .int .i64 eb, .int .i64 ew] 52)).cell? ⟨wr.heap.size, 0, none⟩ = some (.int .i64 ea)) := cell_new rfl rfl
              have E1 : Hid ((wr.alloc (.cells #[.int .i64 ea, .int .i64 eb, .int .i64 ew] 52)).cell? ⟨wr.heap.size, 1, none⟩ = some (.int .i64 eb)) := cell_new rfl rfl
              have E2 : Hid ((wr.alloc (.cells #[.int .i64 ea, .int .i64 eb, .int .i64 ew] 52)).cell? ⟨wr.heap.size, 2, none⟩ = some (.int .i64 ew)) := cell_new rfl rfl
              clear hkd hdn g1 hg
              by_cases t0 : A < ea
              · have q1 : decide (A < ea) = true := by simp [t0]
                clear hyg
                go_wp2_with (first
                  | (at_builtin; refine ap_wire rfl _ _ rfl wo.heap.size _ _ _ rfl ho1 A B Y rfl (by simp) (by have := HI.out; omega) (by simp; omega) ?_; intro va wa owna hma hba; clear ho1; have e0 := mine_cell hma E0.out NB.out; have e1 := mine_cell hma E1.out NB.out; have e2 := mine_cell hma E2.out NB.out; have za : wo.heap.size ≤ wa.heap.size := by (have := World.grownBy.size hma; simp at this; omega))
                  | (at_builtin; refine ap_wire rfl _ _ rfl wo.heap.size _ _ _ rfl owna ea eb ew rfl rfl (by have := HI.out; omega) za ?_; intro v' w6 own6 hm6 hb6))
                go_roundw
                case rel => exact ⟨k + 1, by omega, by go_num, by rw [(HTwo.out _ _ _ _ _ (Ge.alloc (Ge.refl _) _) hma hm6 owna own6).2], (HTwo.out _ _ _ _ _ (Ge.alloc (Ge.refl _) _) hma hm6 owna own6).1⟩
                case measure => simp [intOf]; omega
              · have q1 : decide (A < ea) = false := by simp; omega
                obtain ⟨t1, t2⟩ : ea = A ∧ B < eb := by omega
                have q2 : (ea == A) = true := by simp [t1]
                have q3 : decide (B < eb) = true := by simp [t2]
                clear hyg t1
                go_wp2_with (first
                  | (at_builtin; refine ap_wire rfl _ _ rfl wo.heap.size _ _ _ rfl ho1 A B Y rfl (by simp) (by have := HI.out; omega) (by simp; omega) ?_; intro va wa owna hma hba; clear ho1; have e0 := mine_cell hma E0.out NB.out; have e1 := mine_cell hma E1.out NB.out; have e2 := mine_cell hma E2.out NB.out; have za : wo.heap.size ≤ wa.heap.size := by (have := World.grownBy.size hma; simp at this; omega))
                  | (at_builtin; refine ap_wire rfl _ _ rfl wo.heap.size _ _ _ rfl owna ea eb ew rfl rfl (by have := HI.out; omega) za ?_; intro v' w6 own6 hm6 hb6))
                go_roundw
                case rel => exact ⟨k + 1, by omega, by go_num, by rw [(HTwo.out _ _ _ _ _ (Ge.alloc (Ge.refl _) _) hma hm6 owna own6).2], (HTwo.out _ _ _ _ _ (Ge.alloc (Ge.refl _) _) hma hm6 owna own6).1⟩
                case measure => simp [intOf]; omega
        · have hkn : k = d := by omega
          subst hkn
          cases hdn : (insP ⟨A, B, Y⟩ (D.take k)).2 with
          | true =>
            have HF := Lib.hid (Put2.done HP2.out HDn.out hdn h8)
            clear hdn g1
            go_wp2_with fail
            go_ret
            exact ⟨_, rfl, by rw [HPut.out]; exact HF.out⟩
          | false =>
            have HLast := Lib.hid (fun w' v' hm ho => Put2.last HP2.out HDn.out hdn h8 (w' := w') (v' := v') hm ho)
            generalize (insP ⟨A, B, Y⟩ (D.take k)).1.length = il at *
            generalize flatW (insP ⟨A, B, Y⟩ (D.take k)).1 = FI at *
            clear hdn
            go_wp2_with (at_builtin; refine ap_wire rfl _ _ rfl wo.heap.size _ _ _ rfl g1 A B Y rfl rfl (by have := HI.out; omega) z3 ?_; intro v' w6 own6 hm6 hb6)
            go_ret
            exact ⟨_, rfl, by rw [HPut.out]; exact HLast.out _ _ hm6 own6⟩
end Go.Proofs.Ytahicfpnmjofhab

namespace Go.Proofs.Ytahicfpnmjofhab
set_option maxRecDepth 100000
open Go.ChangeShapes Go.WideShapes Go.ChangeAt Go.RowKit Go.Joins

/-- A network in a variable of the call's own, and the result's block. -/
structure NetAt (w : World) (R G : Nat) (n : Nat) (E S : Int) (v : Value) (l : List Wr) : Prop where
  c0 : w.cell? ⟨G, 0, none⟩ = some (.int .i64 (n : Int))
  c1 : w.cell? ⟨G, 1, none⟩ = some (.int .i64 E)
  c2 : w.cell? ⟨G, 2, none⟩ = some (.int .i64 S)
  c3 : w.cell? ⟨G, 3, none⟩ = some v
  f3 : w.frozen? ⟨G, 3, none⟩ = false
  own : w.ownsRow (G + 1) 52 3 v l.length (icells (flatW l))
  res : ∀ i, i < 4 → ∃ u, w.cell? ⟨R, i, none⟩ = some u ∧ w.frozen? ⟨R, i, none⟩ = false
theorem NetAt.ge {w w' : World} {R G n : Nat} {E S : Int} {v : Value} {l : List Wr} (h : NetAt w R G n E S v l) (hg : Ge w w') : NetAt w' R G n E S v l :=
  ⟨hg.keep h.c0, hg.keep h.c1, hg.keep h.c2, hg.keep h.c3, hg.keepF h.c3 h.f3, hg.owns h.own, fun i hi => by obtain ⟨u, h1, h2⟩ := h.res i hi; exact ⟨u, hg.keep h1, hg.keepF h1 h2⟩⟩
theorem NetAt.put {w : World} {R G n : Nat} {E S : Int} {v v' : Value} {l l' : List Wr} (h : NetAt w R G n E S v l) (hR : R < G) (ho : w.ownsRow (G + 1) 52 3 v' l'.length (icells (flatW l'))) : NetAt (w.setCell ⟨G, 3, none⟩ v') R G n E S v' l' :=
  ⟨cell_set2 (by simp) h.c0, cell_set2 (by simp) h.c1, cell_set2 (by simp) h.c2, World.cell?_setCell_same _ _ _ h.c3, froz_set h.f3, by
    refine ho.kept (grown_setN w G 3 v') ?_
    cases hv : v'.ownBlock with
    | none => exact .inl rfl
    | some k =>
      right
      intro e'
      have := (ho.lt k hv).1
      simp at e'
      omega, fun i hi => by
    obtain ⟨u, h1, h2⟩ := h.res i hi
    exact ⟨u, cell_set2 (fun e => by have := congrArg Addr.block e; simp at this; omega) h1, froz_set h2⟩⟩
/-- A block of four cells that may be written. -/
def ResD (w : World) (R : Nat) : Prop := ∀ i, i < 4 → ∃ u, w.cell? ⟨R, i, none⟩ = some u ∧ w.frozen? ⟨R, i, none⟩ = false
theorem ResD.new (w : World) (v0 v1 v2 v3 : Value) (t : TypeId) : ResD (w.alloc (.cells #[v0, v1, v2, v3] t)) w.heap.size := fun i hi => by
  have k : ∃ u, (#[v0, v1, v2, v3] : Array Value)[i]? = some u := ⟨_, Array.getElem?_eq_getElem (by simpa using hi)⟩
  obtain ⟨u, hu⟩ := k
  exact ⟨u, cell_new rfl hu, froz_new rfl hu⟩
theorem ResD.ge {w w' : World} {R : Nat} (h : ResD w R) (hg : Ge w w') : ResD w' R := fun i hi => by
  obtain ⟨u, h1, h2⟩ := h i hi
  exact ⟨u, hg.keep h1, hg.keepF h1 h2⟩
theorem NetAt.start {w : World} {R n : Nat} {E S : Int} (hr : ResD w R) : NetAt (w.alloc (.cells #[.int .i64 (n : Int), .int .i64 E, .int .i64 S, .slice none 0 0] 25)) R w.heap.size n E S (.slice none 0 0) [] :=
  ⟨cell_new rfl rfl, cell_new rfl rfl, cell_new rfl rfl, cell_new rfl rfl, froz_new rfl (v := .slice none 0 0) rfl, ⟨rfl, .inl ⟨rfl, rfl⟩⟩, hr.ge (Ge.alloc (Ge.refl _) _)⟩
theorem NetAt.setE {w : World} {R G n : Nat} {E S E' : Int} {v : Value} {l : List Wr} (h : NetAt w R G n E S v l) (hR : R < G) : NetAt (w.setCell ⟨G, 1, none⟩ (.int .i64 E')) R G n E' S v l :=
  ⟨cell_set2 (by simp) h.c0, World.cell?_setCell_same _ _ _ h.c1, cell_set2 (by simp) h.c2, cell_set2 (by simp) h.c3, froz_set h.f3, by
    refine h.own.kept (grown_setN w G 1 _) ?_
    cases hv : v.ownBlock with
    | none => exact .inl rfl
    | some k =>
      right
      intro e'
      have := (h.own.lt k hv).1
      simp at e'
      omega, fun i hi => by
    obtain ⟨u, h1, h2⟩ := h.res i hi
    exact ⟨u, cell_set2 (fun e => by have := congrArg Addr.block e; simp at this; omega) h1, froz_set h2⟩⟩
theorem own_setD {w : World} {base e sz n R i : Nat} {v x : Value} {xs : List Value} (h : w.ownsRow base e sz v n xs) (hR : R < base) : (w.setCell ⟨R, i, none⟩ x).ownsRow base e sz v n xs := by
  refine h.kept (grown_setN w R i x) ?_
  cases hv : v.ownBlock with
  | none => exact .inl rfl
  | some k =>
    right
    intro e'
    have := (h.lt k hv).1
    simp at e'
    omega
theorem NetAt.app {w w1 w8 : World} {R G n : Nat} {E S : Int} {v v8 : Value} {l : List Wr} {x : Wr} (h : NetAt w R G n E S v l) (hR : R < G) (hg : Ge w w1) (hm : Mine w1 w8 v)
    (ho : w8.ownsRow (G + 1) 52 3 v8 (l.length + 1) (icells (flatW l ++ [x.a, x.b, x.w]))) :
    NetAt (w8.setCell ⟨G, 3, none⟩ v8) R G n E S v8 (l ++ [x]) ∧ w8.cell? ⟨G, 3, none⟩ = some v ∧ w8.frozen? ⟨G, 3, none⟩ = false := by
  have h1 := h.ge hg
  have nG := before_row h1.own (b := G) (by omega)
  have nR := before_row h1.own (b := R) (by omega)
  have k3 := mine_cell hm h1.c3 nG
  have kf := mine_frozN hm h1.c3 h1.f3 nG
  refine ⟨⟨cell_set2 (by simp) (mine_cell hm h1.c0 nG), cell_set2 (by simp) (mine_cell hm h1.c1 nG), cell_set2 (by simp) (mine_cell hm h1.c2 nG), World.cell?_setCell_same _ _ _ k3, froz_set kf, ?_, fun i hi => ?_⟩, k3, kf⟩
  · have : (l ++ [x]).length = l.length + 1 := by simp
    rw [this, flatW_snoc]
    exact own_setD ho (by omega)
  · obtain ⟨u, r1, r2⟩ := h1.res i hi
    exact ⟨u, cell_set2 (fun e => by have := congrArg Addr.block e; simp at this; omega) (mine_cell hm r1 nR), froz_set (mine_frozN hm r1 r2 nR)⟩
theorem NetAt.setS {w : World} {R G n : Nat} {E S S' : Int} {v : Value} {l : List Wr} (h : NetAt w R G n E S v l) (hR : R < G) : NetAt (w.setCell ⟨G, 2, none⟩ (.int .i64 S')) R G n E S' v l :=
  ⟨cell_set2 (by simp) h.c0, cell_set2 (by simp) h.c1, World.cell?_setCell_same _ _ _ h.c2, cell_set2 (by simp) h.c3, froz_set h.f3, own_setD h.own (by omega), fun i hi => by
    obtain ⟨u, h1, h2⟩ := h.res i hi
    exact ⟨u, cell_set2 (fun e => by have := congrArg Addr.block e; simp at this; omega) h1, froz_set h2⟩⟩
theorem NetAt.setW {w : World} {R G n q m cap j : Nat} {E S : Int} {l l' : List Wr} {x : Int} (h : NetAt w R G n E S (.slice (some ⟨q, 0, none⟩) m cap) l) (hR : R < G) (hm : l.length = m) (hl : l'.length = m) (hf : flatW l' = (flatW l).set j x) :
    NetAt (w.setCell ⟨q, j, none⟩ (.int .i64 x)) R G n E S (.slice (some ⟨q, 0, none⟩) m cap) l' ∧ G < q := by
  subst hm
  have hs := h.own.stored j (.int .i64 x)
  have hq := (h.own.lt q rfl).1
  have k : ∀ i : Nat, (⟨q, j, none⟩ : Addr) ≠ ⟨G, i, none⟩ := fun i e => by have := congrArg Addr.block e; simp at this; omega
  refine ⟨⟨cell_set2 (k 0) h.c0, cell_set2 (k 1) h.c1, cell_set2 (k 2) h.c2, cell_set2 (k 3) h.c3, froz_set h.f3, ?_, fun i hi => ?_⟩, by omega⟩
  · rw [hl, hf, ← icells_set]
    exact hs.1
  · obtain ⟨u, h1, h2⟩ := h.res i hi
    exact ⟨u, cell_set2 (fun e => by have := congrArg Addr.block e; simp at this; omega) h1, froz_set h2⟩
end Go.Proofs.Ytahicfpnmjofhab

namespace Go.Proofs.Ytahicfpnmjofhab

open Go

section
variable {P : Program} {ops : Array Oper} {Q : Exit → Act → World → Prop} {md : Region.Mode} {S : World → Prop}

/-- Whatever order the first n operations take: S holds behind each, and at their end L. -/
def wpAnyT (P : Program) (md : Region.Mode) (ops : Array Oper) (Q : Exit → Act → World → Prop) (S : World → Prop) (n : Nat) (L : Array Bool → Act → World → Prop) : Nat → Array Bool → Act → World → Prop
  | 0, listed, a, w => L listed a w
  | f + 1, listed, a, w => Region.ready md ops listed ≠ [] ∧ ∀ i ∈ Region.ready md ops listed, i < n ∧ wpOp P ops Q i (fun a' w' => S w' ∧ wpAnyT P md ops Q S n L f (listed.setIfInBounds i true) a' w') a w

theorem wpAny_of_T {n g : Nat} {L : Array Bool → Act → World → Prop} (hL : ∀ listed a w, L listed a w → wpAny P md ops Q g listed a w) :
    ∀ (f : Nat) (listed : Array Bool) (a : Act) (w : World), wpAnyT P md ops Q S n L f listed a w → wpAny P md ops Q (f + g) listed a w
  | 0, listed, a, w, h => by rw [Nat.zero_add]; exact hL _ _ _ h
  | f + 1, listed, a, w, h => by
    rw [show f + 1 + g = (f + g) + 1 by omega]
    exact ⟨fun h0 => absurd h0 h.1, fun i hi => wpOp_mono (fun a' w' h' => wpAny_of_T hL f _ a' w' h'.2) (h.2 i hi).2⟩

theorem wpAnyT_first {n i : Nat} {oi : Oper} {v : Value} {L : Array Bool → Act → World → Prop} (hi : ops[i]? = some oi) (hsel : ∀ (j : Nat) (o : Oper) cs b, ops[j]? = some o → o.op ≠ .select cs b)
    (hQ : ∀ c a w, Q (.panic c) (a.put oi.dst v) w → Q (.panic c) a w)
    (hs : Region.sinkB md ops n = true) (hc : Region.chainB md ops n = true) (hn : n < ops.size) (hin : i < n)
    (hdone : ∀ listed a w, L listed a w → ∀ j ∈ Region.ready md ops listed, n ≤ j) :
    ∀ (f : Nat) (listed : Array Bool) (a : Act) (w : World), HeadInv md ops n listed →
      (∀ j oj, ops[j]? = some oj → j ≠ i → listed.getD j true = false → (∀ e ∈ oj.after, Region.binds md e = true → e.on ≠ i) → oi.apart ops oj = true) →
      i ∈ Region.ready md ops listed → YieldsIf P ops S oi v a → S w →
      wpAnyT P md ops Q S n L f (listed.setIfInBounds i true) (a.put oi.dst v) w → wpAnyT P md ops Q S n L (f + 1) listed a w := by
  intro f
  induction f with
  | zero =>
    intro listed a w inv _ hr hy hS H
    have hun := (mem_ready.1 hr).1
    refine ⟨fun h => (by rw [h] at hr; cases hr), fun j hj => ?_⟩
    have hjn : j < n := by
      rcases Nat.lt_or_ge j n with h | h
      · exact h
      · exact absurd hj (tail_waits hs hc hn inv _ i rfl hin hun j h)
    refine ⟨hjn, ?_⟩
    by_cases hji : j = i
    · subst hji; exact hy.wpOp hi hS ⟨hS, H⟩
    · have := hdone _ _ _ H j (ready_mono hj hji)
      omega
  | succ f ih =>
    intro listed a w inv hfree hr hy hS H
    have hun := (mem_ready.1 hr).1
    refine ⟨fun h => (by rw [h] at hr; cases hr), fun j hj => ?_⟩
    have hjn : j < n := by
      rcases Nat.lt_or_ge j n with h | h
      · exact h
      · exact absurd hj (tail_waits hs hc hn inv _ i rfl hin hun j h)
    refine ⟨hjn, ?_⟩
    by_cases hji : j = i
    · subst hji; exact hy.wpOp hi hS ⟨hS, H⟩
    · have h1 := (H.2 j (ready_mono hj hji)).2
      obtain ⟨hjun, oj, hoj, hall⟩ := mem_ready.1 hj
      have hnot : ∀ e ∈ oj.after, Region.binds md e = true → e.on ≠ i := fun e he hb heq => by
        have h1 := hall e he hb
        rw [heq, getD_both hun] at h1
        cases h1
      have h2 := wpOp_putIf hoj (hfree j oj hoj hji hjun hnot) (fun cs b => hsel i oi cs b hi) (fun cs b => hsel j oj cs b hoj) hQ hy h1
      have hfree' : ∀ k ok, ops[k]? = some ok → k ≠ i → (listed.setIfInBounds j true).getD k true = false →
          (∀ e ∈ ok.after, Region.binds md e = true → e.on ≠ i) → oi.apart ops ok = true := fun k ok hk hki hun hno => by
        refine hfree k ok hk hki ?_ hno
        by_cases hjk : j = k
        · subst hjk; exact hjun
        · rw [getD_set_ne true hjk] at hun; exact hun
      refine wpOp_mono (fun a' w' h3 => ⟨h3.2.1, ih (listed.setIfInBounds j true) a' w' (inv.set hj hjn) hfree' (ready_mono hr (Ne.symm hji)) h3.1 h3.2.1 ?_⟩) h2
      rw [Array.setIfInBounds_comm _ _ hji]
      exact h3.2.2
end

section
variable {P : Program} {l : List Oper} {Q : Exit → Act → World → Prop} {S : World → Prop}

/-- The head's end. -/
def TailAt (P : Program) (l : List Oper) (Q : Exit → Act → World → Prop) (n : Nat) (listed : Array Bool) (a : Act) (w : World) : Prop :=
  Region.seqB .any l.toArray (l.length - n) n listed = true ∧ wpList P l.toArray Q (l.drop n) a w
/-- What the tactics carry: the head's invariant is at hand. -/
def Head (P : Program) (l : List Oper) (Q : Exit → Act → World → Prop) (S : World → Prop) (n f : Nat) (listed : Array Bool) (a : Act) (w : World) : Prop :=
  HeadInv .any l.toArray n listed → wpAnyT P .any l.toArray Q S n (TailAt P l Q n) f listed a w
/-- All that is asked of the region's form. -/
def okTail (l : List Oper) (n : Nat) : Bool := Region.noSelect l.toArray && (decide (n < l.length) && (Region.sinkB .any l.toArray n && Region.chainB .any l.toArray n))
theorem okTail_of {n : Nat} (h : okTail l n = true) : Region.noSelect l.toArray = true ∧ n < l.length ∧ Region.sinkB .any l.toArray n = true ∧ Region.chainB .any l.toArray n = true := by
  simpa [okTail] using h

/-- The beginning. -/
theorem wp_region_head {id : Nat} {a : Act} {w : World} (n : Nat) (hm : P.follows .mixedOrders = true) (hk : okTail l n = true) (hS : S w.drew)
    (h : S w.drew → Head P l Q S n n (Array.replicate l.length false) a w.drew) : (Code.region id l.toArray true).wp P Q a w := by
  obtain ⟨_, hn, _, _⟩ := okTail_of hk
  have inv0 : HeadInv .any l.toArray n (Array.replicate l.length false) :=
    ⟨by simp, fun j oj _ hl => (by rw [getD_replicate_false] at hl; cases hl), fun t _ ht => getD_in (by simpa using ht) (getD_replicate_false _ _)⟩
  refine wp_region_any hm ?_
  have H := h hS inv0
  have := wpAny_of_T (Q := Q) (g := l.length - n) (fun listed a' w' (hL : TailAt P l Q n listed a' w') => by
    have := wpAny_of_seq (md := .any) (Q' := Q) (l.drop n) n listed a' w' (fun j => by simp [List.getElem?_drop]) (by simpa using hL.1) hL.2
    simpa using this) _ _ _ _ H
  rw [show n + (l.length - n) = l.length by omega] at this
  simpa using this
/-- Take number i first. -/
theorem head_take {n f : Nat} {listed : Array Bool} {a : Act} {w : World} (i : Nat) {oi : Oper} {v : Value} (hi : l[i]? = some oi) (hk : okTail l n = true)
    (hf : (Region.free .any l.toArray listed i && ((Region.ready .any l.toArray listed).contains i && decide (i < n))) = true)
    (hQ : ∀ c a w, Q (.panic c) (a.put oi.dst v) w → Q (.panic c) a w) (hS : S w) (hy : YieldsIf P l.toArray S oi v a)
    (h : Head P l Q S n f (listed.setIfInBounds i true) (a.put oi.dst v) w) : Head P l Q S n (f + 1) listed a w := fun inv => by
  obtain ⟨h1, hn, h2, h3⟩ := okTail_of hk
  simp only [Bool.and_eq_true, decide_eq_true_eq] at hf
  obtain ⟨f1, f2, f3⟩ := hf
  have hr : i ∈ Region.ready .any l.toArray listed := by simpa using f2
  have hi' : l.toArray[i]? = some oi := by simpa using hi
  exact wpAnyT_first hi' (Region.noSelect_spec h1) hQ h2 h3 (by simpa using hn) f3 (fun listed a w hL => seqB_ready hL.1) f listed a w inv (Region.free_spec hi' f1) hr hy hS (h (inv.set hr f3))
/-- Number i is the only one that may come up. -/
theorem head_one {n f : Nat} {listed : Array Bool} {a : Act} {w : World} (i : Nat) {o : Oper} (hi : l[i]? = some o)
    (hr : (decide (Region.ready .any l.toArray listed = [i]) && decide (i < n)) = true)
    (h : ∀ K : Act → World → Prop, Shut (∀ a w, S w → (S w → Head P l Q S n f (listed.setIfInBounds i true) a w) → K a w) → if Region.wanted o (yielded l.toArray a.tmps) = true then Oper.wp P o a w K Q else K (a.put o.dst undef) w) :
    Head P l Q S n (f + 1) listed a w := fun inv => by
  simp only [Bool.and_eq_true, decide_eq_true_eq] at hr
  obtain ⟨h1, h2⟩ := hr
  refine ⟨fun h0 => (by rw [h1] at h0; cases h0), fun j hj => ?_⟩
  have hji : j = i := by rw [h1] at hj; simpa using hj
  have inv' := inv.set hj (by omega)
  rw [hji] at inv' ⊢
  refine ⟨h2, wpOp_step (by simpa using hi) (fun K hK => h K (fun a' w' hS hW => hK a' w' ⟨hS, hW hS inv'⟩))⟩
/-- Two may come up. -/
theorem head_two {n f : Nat} {listed : Array Bool} {a : Act} {w : World} (i j : Nat) {o p : Oper} (hi : l[i]? = some o) (hj : l[j]? = some p)
    (hr : (decide (Region.ready .any l.toArray listed = [i, j]) && (decide (i < n) && decide (j < n))) = true)
    (h : ∀ K : Act → World → Prop, Shut (∀ a w, S w → (S w → Head P l Q S n f (listed.setIfInBounds i true) a w) → K a w) → if Region.wanted o (yielded l.toArray a.tmps) = true then Oper.wp P o a w K Q else K (a.put o.dst undef) w)
    (h' : ∀ K : Act → World → Prop, Shut (∀ a w, S w → (S w → Head P l Q S n f (listed.setIfInBounds j true) a w) → K a w) → if Region.wanted p (yielded l.toArray a.tmps) = true then Oper.wp P p a w K Q else K (a.put p.dst undef) w) :
    Head P l Q S n (f + 1) listed a w := fun inv => by
  simp only [Bool.and_eq_true, decide_eq_true_eq] at hr
  obtain ⟨h1, h2, h3⟩ := hr
  refine ⟨fun h0 => (by rw [h1] at h0; cases h0), fun k hk => ?_⟩
  have hkk : k = i ∨ k = j := by rw [h1] at hk; simpa using hk
  rcases hkk with hkk | hkk
  · have inv' := inv.set hk (by omega)
    rw [hkk] at inv' ⊢
    exact ⟨h2, wpOp_step (by simpa using hi) (fun K hK => h K (fun a' w' hS hW => hK a' w' ⟨hS, hW hS inv'⟩))⟩
  · have inv' := inv.set hk (by omega)
    rw [hkk] at inv' ⊢
    exact ⟨h3, wpOp_step (by simpa using hj) (fun K hK => h' K (fun a' w' hS hW => hK a' w' ⟨hS, hW hS inv'⟩))⟩
/-- The head is done. -/
theorem head_done {n : Nat} {listed : Array Bool} {a : Act} {w : World} (hq : Region.seqB .any l.toArray (l.length - n) n listed = true) (h : wpList P l.toArray Q (l.drop n) a w) : Head P l Q S n 0 listed a w :=
  fun _ => ⟨hq, h⟩
/-- An operation that reads, where the world meets S. -/
theorem yields_if {P : Program} {l : List Oper} {S : World → Prop} {o : Oper} {v : Value} {a : Act} (hw : Region.wanted o (yielded l.toArray a.tmps) = true) (h : ∀ w, S w → (execOp a.eval o).run P w = .ok (.value v) w) : YieldsIf P l.toArray S o v a :=
  .inl ⟨hw, h⟩
end

end Go.Proofs.Ytahicfpnmjofhab

namespace Go.Proofs.Ytahicfpnmjofhab
set_option maxRecDepth 100000
open Go.ChangeShapes Go.WideShapes Go.ChangeAt Go.RowKit Go.Joins

theorem CurD.mine {w w' : World} {g : Nat} {v : Value} (h : Cur w g) (hm : Mine w w' v) (hne : ∀ k, v.ownBlock = some k → g < k) : Cur w' g := by
  obtain ⟨p, n, cap, i, z, c, c0, c1, c2, f0, f1, f2, i0, i1, n1, hb, hcg, hg⟩ := h
  have lg := World.block_lt_of_cell? w _ c0
  have hno : ∀ k, v.ownBlock = some k → g ≠ k := fun k hk => by have := hne k hk; omega
  have hf : ∀ i, w'.frozen? ⟨g, i, none⟩ = w.frozen? ⟨g, i, none⟩ := fun i => by
    have hbk := hm.block g lg (fun e => hno g e.symm rfl)
    unfold World.frozen?
    simp only [hbk]
  exact Cur.mk i hb hcg i0 i1 n1 (mine_cell hm c2 hno) (mine_cell hm c0 hno) (mine_cell hm c1 hno) ((hf 0).trans f0) ((hf 1).trans f1) ((hf 2).trans f2) (hg.grown hm (fun k hk => by have := hne k hk; omega))
theorem CurD.ge {w w' : World} {g : Nat} (h : Cur w g) (hg : Ge w w') : Cur w' g := by
  have hm : Mine w w' (.slice none 0 0) := ⟨hg.os, hg.tape, hg.output, hg.size, fun k hk _ => hg.below.block k hk⟩
  exact CurD.mine h hm (fun k hk => by simp [Value.ownBlock] at hk)
theorem CurD.set {w : World} {g b i : Nat} {x : Value} (h : Cur w g) (hb : g < b) : Cur (w.setCell ⟨b, i, none⟩ x) g := by
  obtain ⟨p, n, cap, j, z, c, c0, c1, c2, f0, f1, f2, i0, i1, n1, hB, hcg, hg⟩ := h
  have ne : ∀ j : Nat, (⟨b, i, none⟩ : Addr) ≠ ⟨g, j, none⟩ := fun j e => by have := congrArg Addr.block e; simp at this; omega
  exact Cur.mk j hB hcg i0 i1 n1 (cell_set2 (ne 2) c2) (cell_set2 (ne 0) c0) (cell_set2 (ne 1) c1) (froz_set f0) (froz_set f1) (froz_set f2) (hg.setCell (by show c.heap.size ≤ b; omega) _)
theorem Drew.cur {a b : World} {g : Nat} (h : Drew a b g) : Cur b g := h.1
theorem Drew.geN {a b c : World} {g : Nat} (h : Drew a b g) (hg : Ge b c) : Drew a c g :=
  ⟨CurD.ge h.1 hg, grown_trans h.2 ⟨hg.os, hg.tape, hg.output, hg.size, fun k hk _ => hg.below.block k hk⟩⟩
theorem Drew.setN {a b : World} {g k i : Nat} {x : Value} (h : Drew a b g) (hk : a.heap.size ≤ k) (hg : g < k) : Drew a (b.setCell ⟨k, i, none⟩ x) g :=
  ⟨CurD.set h.1 hg, ⟨h.2.os, h.2.tape, h.2.output, by simpa using h.2.size, fun j hj hne => by
    rw [← h.2.block j hj hne]
    exact Below.heap_setCell b ⟨k, i, none⟩ x j (fun e => by simp at e; omega)⟩⟩
theorem Drew.self {a : World} {g : Nat} (h : Cur a g) : Drew a a g := ⟨h, ⟨rfl, rfl, rfl, Nat.le_refl _, fun _ _ _ => rfl⟩⟩
theorem Drew.cellN {a b : World} {g : Nat} (h : Drew a b g) {c : Addr} {v : Value} (hc : a.cell? c = some v) (hne : c.block ≠ g) : b.cell? c = some v :=
  World.grownBy.cell h.2 hc (fun e => hne (by simpa using e))
theorem Drew.frozN {a b : World} {g : Nat} (h : Drew a b g) {c : Addr} {v : Value} (hc : a.cell? c = some v) (hne : c.block ≠ g) (hf : a.frozen? c = false) : b.frozen? c = false := by
  rw [World.frozen?_of_block (World.grownBy.block h.2 c.block (World.block_lt_of_cell? _ _ hc) (fun e => hne (by simpa using e)))]
  exact hf
theorem Drew.ownsN {a b : World} {g : Nat} (h : Drew a b g) {base e sz n : Nat} {v : Value} {xs : List Value} (ho : a.ownsRow base e sz v n xs) (hb : g < base) : b.ownsRow base e sz v n xs := by
  refine ho.kept h.2 ?_
  cases hv : v.ownBlock with
  | none => exact .inl rfl
  | some k =>
    right
    intro e'
    have := (ho.lt k hv).1
    simp at e'
    omega
theorem NetAt.drew {w w' : World} {R G n g : Nat} {E S : Int} {v : Value} {l : List Wr} (h : NetAt w R G n E S v l) (hd : Drew w w' g) (hR : g < R) (hG : g < G) : NetAt w' R G n E S v l :=
  have k : ∀ i : Nat, (⟨G, i, none⟩ : Addr).block ≠ g := fun i => by show G ≠ g; omega
  ⟨hd.cellN h.c0 (k 0), hd.cellN h.c1 (k 1), hd.cellN h.c2 (k 2), hd.cellN h.c3 (k 3), hd.frozN h.c3 (k 3) h.f3, hd.ownsN h.own (by omega), fun i hi => by
    obtain ⟨u, h1, h2⟩ := h.res i hi
    have kr : (⟨R, i, none⟩ : Addr).block ≠ g := by show R ≠ g; omega
    exact ⟨u, hd.cellN h1 kr, hd.frozN h1 kr h2⟩⟩
/-- What l03Draw gives. -/
def GivesD (w : World) (g : Nat) (most : Int) (e : Ending) (w' : World) : Prop :=
  ∃ (n : Nat) (E S : Int) (l : List Wr) (s : Value), e = .returned (.agg #[.int .i64 (n : Int), .int .i64 E, .int .i64 S, s]) ∧ w'.ownsRow w.heap.size 52 3 s l.length (icells (flatW l)) ∧ Dwn n n l ∧ 2 ≤ n ∧ (n : Int) ≤ most ∧ (2 ≤ E ∧ E ≤ n) ∧ (1 ≤ S ∧ S ≤ 3) ∧ Drew w w' g
theorem dwn_len {n c : Nat} {l : List Wr} (h : Dwn n c l) (hn : n ≤ 5) : l.length ≤ 10 := prs_len (N := n) (by omega) (dwn_good h)
theorem addS_small {A B x : Int} (hx : 1 ≤ x ∧ x ≤ 6) (l : List Wr) : -9000000000000000000 ≤ addS false A B x l ∧ addS false A B x l ≤ 9000000000000000000 := by
  have : addS false A B x l = x := by unfold addS; simp
  omega

theorem ResD.drew {w w' : World} {R g : Nat} (h : ResD w R) (hd : Drew w w' g) (hR : g < R) : ResD w' R := fun i hi => by
  obtain ⟨u, h1, h2⟩ := h i hi
  have kr : (⟨R, i, none⟩ : Addr).block ≠ g := by show R ≠ g; omega
  exact ⟨u, hd.cellN h1 kr, hd.frozN h1 kr h2⟩
/-- Behind the ends' number. -/
def CutD (w wx : World) (g R G n : Nat) (S : Int) : Prop := ∃ E : Int, (2 ≤ E ∧ E ≤ n) ∧ NetAt wx R G n E S (.slice none 0 0) [] ∧ Drew w wx g
set_option maxHeartbeats 6400000 in
theorem sL03Draw (g : Nat) (most : Int) (w : World) (hc : Cur w g) (h1 : 2 ≤ most) (h2 : most ≤ 5) : Calls Try.prog 11 #[.pointer (some ⟨g, 0, none⟩), .int .i64 most] w (GivesD w g most) := by
  have lg : g < w.heap.size := by obtain ⟨_, _, _, _, _, _, c0, _⟩ := hc; exact World.block_lt_of_cell? _ _ c0
  have HD0 := Lib.hid (Drew.geN (Drew.self hc) (Ge.alloc (Ge.refl w) (.cells #[.int .i64 0, .int .i64 0, .int .i64 0, .slice none 0 0] 25)))
  have RS0 := Lib.hid (ResD.new w (.int .i64 0) (.int .i64 0) (.int .i64 0) (.slice none 0 0) 25)
  have zw : w.heap.size < (w.alloc (.cells #[.int .i64 0, .int .i64 0, .int .i64 0, .slice none 0 0] 25)).heap.size := by simp
  clear hc
  go_enter Try.func11, Try.ntmps11
  go_upto_if 22 with (first
    | ((go_at_call 24; ((with_reducible refine (sL01Below _ _ _ HD0.out.cur (by omega) (by omega)).mono ?_); rintro e w1 ⟨x, rfl, x0, x1, hd1⟩)); have HD1 := Lib.hid (HD0.out.trans hd1); have RS1 := Lib.hid (RS0.out.drew hd1 lg); have zw1 := Nat.lt_of_lt_of_le zw (World.grownBy.size hd1.2); clear hd1 HD0 RS0 zw)
    | ((go_at_call 24; ((with_reducible refine (sL01Below _ _ _ HD1.out.cur (by omega) (by omega)).mono ?_); rintro e w2 ⟨y, rfl, y0, y1, hd2⟩)); have HD2 := Lib.hid (HD1.out.trans hd2); have RS2 := Lib.hid (RS1.out.drew hd2 lg); have zw2 := Nat.lt_of_lt_of_le zw1 (World.grownBy.size hd2.2); clear hd2 HD1 RS1 zw1))
  generalize hN : 2 + x = N at *
  generalize hS : 1 + y = S at *
  obtain ⟨n, rfl⟩ : ∃ n : Nat, N = (n : Int) := ⟨N.toNat, by omega⟩
  have n2 : 2 ≤ n := by omega
  have nm : (n : Int) ≤ most := by omega
  have hS3 : 1 ≤ S ∧ S ≤ 3 := by omega
  have n5 : n ≤ 5 := by omega
  clear hN hS x0 x1 y0 y1
  obtain ⟨G, hG⟩ : ∃ G, w2.heap.size = G := ⟨_, rfl⟩
  have NA := Lib.hid (NetAt.start (n := n) (E := 2) (S := S) RS2.out)
  have HDa := Lib.hid (Drew.geN HD2.out (Ge.alloc (Ge.refl w2) (.cells #[.int .i64 (n : Int), .int .i64 2, .int .i64 S, .slice none 0 0] 25)))
  have F1 : Hid ((w2.alloc (.cells #[.int .i64 (n : Int), .int .i64 2, .int .i64 S, .slice none 0 0] 25)).frozen? ⟨w2.heap.size, 1, none⟩ = false) := froz_new rfl (v := .int .i64 2) rfl
  have lG : g < w2.heap.size := by omega
  clear hG G HD2 RS2
  go_cut [5] (fun q wx => q = .pointer (some ⟨w2.heap.size, 0, none⟩) ∧ CutD w wx g w.heap.size w2.heap.size n S)
  case first =>
    by_cases hn : (2 : Int) < n
    · have t1 : decide ((2 : Int) < n) = true := by simp [hn]
      go_wp2_with ((go_at_call 24; ((with_reducible refine (sL01Below _ _ _ HDa.out.cur (by omega) (by omega)).mono ?_); rintro e w3 ⟨z, rfl, z0, z1, hd3⟩)); have HD3 := Lib.hid (HDa.out.trans hd3); have NA3 := Lib.hid (NA.out.drew hd3 lg lG); have f1 := hd3.frozN NA.out.c1 (by show w2.heap.size ≠ g; omega) F1.out; have a1 := NA3.out.c1)
      go_meet
      exact ⟨rfl, 2 + z, by omega, NA3.out.setE zw2, HD3.out.setN (by omega) (by omega)⟩
    · have t1 : decide ((2 : Int) < n) = false := by simp; omega
      go_wp2_with fail
      go_meet
      exact ⟨rfl, 2, by omega, NA.out, HDa.out⟩
  obtain ⟨rfl, E, hE, hNA, hDD⟩ := hcut
  have NAc := Lib.hid hNA
  have HDc := Lib.hid hDD
  generalize w2.heap.size = G at *
  clear hNA hDD NA HDa F1
  go_wp2_with fail
  go_loopw [6] (fun cv wr => ∃ (c : Nat) (u : Value) (l : List Wr), cv = .int .i64 c ∧ 1 ≤ c ∧ c ≤ n ∧ Hid (Dwn n c l) ∧ Hid (NetAt wr w.heap.size G n E S u l) ∧ Hid (Drew w wr g)) (fun cv _ => n - (intOf cv).toNat)
  case atStart => exact ⟨1, _, [], rfl, by omega, by omega, Dwn.nil n, NAc.out, HDc.out⟩
  case round =>
    obtain ⟨c, u, l, rfl, hc1, hcn, HDw, HN, HDr⟩ := hrel
    have a0 := HN.out.c0
    by_cases hlt : c < n
    · have hll := Lib.hid (dwn_len HDw.out n5)
      have HNd := Lib.hid (HN.out.ge (Ge.drew (Ge.refl wr)))
      have HDd := Lib.hid (Drew.geN HDr.out (Ge.drew (Ge.refl wr)))
      go_wp2_with fail
      refine wp_region_head (S := fun w' => w'.cell? ⟨G, 3, none⟩ = some u) 11 (by kernel_rfl) (by kernel_rfl) (HNd.out.c3) (fun hHeld => ?_)
      refine head_take 0 (v := ?_) rfl (by kernel_rfl) (by kernel_rfl) (fun _ _ _ h => h) (by assumption) (yields_if (by rfl) ?_) ?_
      rotate_left
      focus (intro w' hSw; (try dsimp only at hSw); go_simp; (try with_reducible rfl))
      (try simp only [Act.put, List.setIfInBounds_toArray, List.set_cons_zero, List.set_cons_succ])
      refine head_take 1 (v := ?_) rfl (by kernel_rfl) (by kernel_rfl) (fun _ _ _ h => h) (by assumption) (yields_if (by rfl) ?_) ?_
      rotate_left
      focus (intro w' hSw; (try dsimp only at hSw); go_simp; (try with_reducible rfl))
      (try simp only [Act.put, List.setIfInBounds_toArray, List.set_cons_zero, List.set_cons_succ])
      refine head_take 2 (v := ?_) rfl (by kernel_rfl) (by kernel_rfl) (fun _ _ _ h => h) (by assumption) (yields_if (by rfl) ?_) ?_
      rotate_left
      focus (intro w' hSw; (try dsimp only at hSw); go_simp; (try with_reducible rfl))
      (try simp only [Act.put, List.setIfInBounds_toArray, List.set_cons_zero, List.set_cons_succ])
      refine head_take 3 (v := ?_) rfl (by kernel_rfl) (by kernel_rfl) (fun _ _ _ h => h) (by assumption) (yields_if (by rfl) ?_) ?_
      rotate_left
      focus (intro w' hSw; (try dsimp only at hSw); go_simp; (try with_reducible rfl))
      (try simp only [Act.put, List.setIfInBounds_toArray, List.set_cons_zero, List.set_cons_succ])
      refine head_take 5 (v := ?_) rfl (by kernel_rfl) (by kernel_rfl) (fun _ _ _ h => h) (by assumption) (yields_if (by rfl) ?_) ?_
      rotate_left
      focus (intro w' hSw; (try dsimp only at hSw); go_simp; (try with_reducible rfl))
      (try simp only [Act.put, List.setIfInBounds_toArray, List.set_cons_zero, List.set_cons_succ])
      refine head_take 6 (v := ?_) rfl (by kernel_rfl) (by kernel_rfl) (fun _ _ _ h => h) (by assumption) (yields_if (by rfl) ?_) ?_
      rotate_left
      focus (intro w' hSw; (try dsimp only at hSw); go_simp; (try with_reducible rfl))
      (try simp only [Act.put, List.setIfInBounds_toArray, List.set_cons_zero, List.set_cons_succ])
      refine head_one 4 rfl (by kernel_rfl) (fun K hK => ?_)
      go_simp
      (go_at_call 24; ((with_reducible refine (sL01Below _ _ _ HDd.out.cur (by omega) (by omega)).mono ?_); rintro e w4 ⟨x, rfl, x0, x1, hd4⟩))
      have HN4 := Lib.hid (HNd.out.drew hd4 lg lG)
      have HD4 := Lib.hid (HDd.out.trans hd4)
      clear hd4
      refine hK.out _ _ HN4.out.c3 (fun hHeld => ?_)
      clear hK K
      (try simp only [Act.put, List.setIfInBounds_toArray, List.set_cons_zero, List.set_cons_succ])
      refine head_one 7 rfl (by kernel_rfl) (fun K hK => ?_)
      go_simp
      (go_at_call 24; ((with_reducible refine (sL01Below _ _ _ HD4.out.cur (by omega) (by omega)).mono ?_); rintro e w5 ⟨y, rfl, y0, y1, hd5⟩))
      have HN5 := Lib.hid (HN4.out.drew hd5 lg lG)
      have HD5 := Lib.hid (HD4.out.trans hd5)
      have zG := World.block_lt_of_cell? _ _ HN5.out.c3
      clear hd5
      refine hK.out _ _ HN5.out.c3 (fun hHeld => ?_)
      clear hK K
      (try simp only [Act.put, List.setIfInBounds_toArray, List.set_cons_zero, List.set_cons_succ])
      have tw : IntKind.i64.wrap (1 + y) = 1 + y := IntWalk.i64_in _ (by omega)
      refine head_take 8 (v := ?_) rfl (by kernel_rfl) (by kernel_rfl) (fun _ _ _ h => h) (by assumption) (yields_if (by rfl) ?_) ?_
      rotate_left
      focus (intro w' hSw; (try dsimp only at hSw); go_simp; (try with_reducible rfl))
      (try simp only [Act.put, List.setIfInBounds_toArray, List.set_cons_zero, List.set_cons_succ])
      refine head_one 9 rfl (by kernel_rfl) (fun K hK => ?_)
      go_simp
      (go_at_call 25; ((with_reducible refine (sL03Put u l x c (1 + y) false _ (SlF.of_owns HN5.out.own) (by have := hll.out; omega) (fun k _ => addS_small (by omega) _)).mono ?_); rintro e w6 ⟨u6, rfl, own6, g6⟩))
      obtain ⟨p6, c6, rfl⟩ := owns_form own6
      have HN6 := Lib.hid (HN5.out.ge g6)
      have HD6 := Lib.hid (Drew.geN HD5.out g6)
      have a3 := HN6.out.c3
      have af := HN6.out.f3
      refine hK.out _ _ HN6.out.c3 (fun hHeld => ?_)
      clear hK K
      (try simp only [Act.put, List.setIfInBounds_toArray, List.set_cons_zero, List.set_cons_succ])
      refine head_take 10 (v := ?_) rfl (by kernel_rfl) (by kernel_rfl) (fun _ _ _ h => h) (by assumption) (yields_if (by rfl) ?_) ?_
      rotate_left
      focus (intro w' hSw; (try dsimp only at hSw); go_simp; (try with_reducible rfl))
      (try simp only [Act.put, List.setIfInBounds_toArray, List.set_cons_zero, List.set_cons_succ])
      refine head_done (by kernel_rfl) ?_
      go_wp2_with fail
      go_roundw
      case rel => exact ⟨c + 1, _, putW l x c (1 + y) false, by go_num, by omega, by omega, Dwn.next HDw.out (by omega) hlt (by omega), HN6.out.put zw2 (owns_mono own6 zG), HD6.out.setN (by omega) (by omega)⟩
      case measure => simp [intOf]; omega
    · have hcn2 : n = c := by omega
      subst hcn2
      go_wp2_with ((go_at_call 24; ((with_reducible refine (sL01Below _ _ _ HDr.out.cur (by omega) (by omega)).mono ?_); rintro e w7 ⟨q, rfl, q0, q1, hd7⟩)); have HN7 := Lib.hid (HN.out.drew hd7 lg lG); have HD7 := Lib.hid (HDr.out.trans hd7); clear hd7 HN HDr)
      obtain ⟨q', rfl⟩ : ∃ q' : Nat, q = (q' : Int) := ⟨q.toNat, by omega⟩
      clear a0
      obtain ⟨wo, hwo⟩ : ∃ wo : World, wo = wr := ⟨_, rfl⟩
      clear hwo
      go_loopw [7] (fun kv wr => ∃ (c : Nat) (u : Value) (l : List Wr), kv = .int .i64 c ∧ c ≤ 4 ∧ Hid (Dwn n n l) ∧ Hid (NetAt wr w.heap.size G n E S u l) ∧ Hid (Drew w wr g)) (fun kv _ => (intOf kv).toNat)
      case atStart => exact ⟨q', _, l, rfl, by omega, HDw.out, HN7.out, HD7.out⟩
      case round =>
        clear HN7 HD7 HDw
        obtain ⟨c, u, l, rfl, hc4, HDw, HN, HDr⟩ := hrel
        have a0 := HN.out.c0
        by_cases hlt : 0 < c
        · have hll := Lib.hid (dwn_len HDw.out n5)
          go_upto_if 63 with (first
            | ((go_at_call 24; ((with_reducible refine (sL01Below _ _ _ HDr.out.cur (by omega) (by omega)).mono ?_); rintro e w8 ⟨x, rfl, x0, x1, hd8⟩)); have HN8 := Lib.hid (HN.out.drew hd8 lg lG); have HD8 := Lib.hid (HDr.out.trans hd8); have b0 := HN8.out.c0; clear hd8 HN HDr)
            | ((go_at_call 24; ((with_reducible refine (sL01Below _ _ _ HD8.out.cur (by omega) (by omega)).mono ?_); rintro e w9 ⟨y, rfl, y0, y1, hd9⟩)); have HN9 := Lib.hid (HN8.out.drew hd9 lg lG); have HD9 := Lib.hid (HD8.out.trans hd9); clear hd9 HN8 HD8))
          by_cases hxy : x = y
          · have t1 : (x != y) = false := by simp [hxy]
            go_wp2_with fail
            go_roundw
            case rel => exact ⟨c - 1, u, l, by go_num, by omega, HDw.out, HN9.out, HD9.out⟩
            case measure => simp [intOf]; omega
          · have t1 : (x != y) = true := by simp [hxy]
            have HNd := Lib.hid (HN9.out.ge (Ge.drew (Ge.refl w9)))
            have HDd := Lib.hid (Drew.geN HD9.out (Ge.drew (Ge.refl w9)))
            go_wp2_with fail
            refine wp_region_head (S := fun w' => w'.cell? ⟨G, 3, none⟩ = some u) 9 (by kernel_rfl) (by kernel_rfl) (HNd.out.c3) (fun hHeld => ?_)
            refine head_take 0 (v := ?_) rfl (by kernel_rfl) (by kernel_rfl) (fun _ _ _ h => h) (by assumption) (yields_if (by rfl) ?_) ?_
            rotate_left
            focus (intro w' hSw; (try dsimp only at hSw); go_simp; (try with_reducible rfl))
            (try simp only [Act.put, List.setIfInBounds_toArray, List.set_cons_zero, List.set_cons_succ])
            refine head_take 1 (v := ?_) rfl (by kernel_rfl) (by kernel_rfl) (fun _ _ _ h => h) (by assumption) (yields_if (by rfl) ?_) ?_
            rotate_left
            focus (intro w' hSw; (try dsimp only at hSw); go_simp; (try with_reducible rfl))
            (try simp only [Act.put, List.setIfInBounds_toArray, List.set_cons_zero, List.set_cons_succ])
            refine head_take 2 (v := ?_) rfl (by kernel_rfl) (by kernel_rfl) (fun _ _ _ h => h) (by assumption) (yields_if (by rfl) ?_) ?_
            rotate_left
            focus (intro w' hSw; (try dsimp only at hSw); go_simp; (try with_reducible rfl))
            (try simp only [Act.put, List.setIfInBounds_toArray, List.set_cons_zero, List.set_cons_succ])
            refine head_take 3 (v := ?_) rfl (by kernel_rfl) (by kernel_rfl) (fun _ _ _ h => h) (by assumption) (yields_if (by rfl) ?_) ?_
            rotate_left
            focus (intro w' hSw; (try dsimp only at hSw); go_simp; (try with_reducible rfl))
            (try simp only [Act.put, List.setIfInBounds_toArray, List.set_cons_zero, List.set_cons_succ])
            refine head_take 4 (v := ?_) rfl (by kernel_rfl) (by kernel_rfl) (fun _ _ _ h => h) (by assumption) (yields_if (by rfl) ?_) ?_
            rotate_left
            focus (intro w' hSw; (try dsimp only at hSw); go_simp; (try with_reducible rfl))
            (try simp only [Act.put, List.setIfInBounds_toArray, List.set_cons_zero, List.set_cons_succ])
            refine head_one 5 rfl (by kernel_rfl) (fun K hK => ?_)
            go_simp
            (go_at_call 24; ((with_reducible refine (sL01Below _ _ _ HDd.out.cur (by omega) (by omega)).mono ?_); rintro e w4 ⟨z, rfl, z0, z1, hd4⟩))
            have HN4 := Lib.hid (HNd.out.drew hd4 lg lG)
            have HD4 := Lib.hid (HDd.out.trans hd4)
            have zG := World.block_lt_of_cell? _ _ HN4.out.c3
            clear hd4
            refine hK.out _ _ HN4.out.c3 (fun hHeld => ?_)
            clear hK K
            (try simp only [Act.put, List.setIfInBounds_toArray, List.set_cons_zero, List.set_cons_succ])
            have tw : IntKind.i64.wrap (1 + z) = 1 + z := IntWalk.i64_in _ (by omega)
            refine head_take 6 (v := ?_) rfl (by kernel_rfl) (by kernel_rfl) (fun _ _ _ h => h) (by assumption) (yields_if (by rfl) ?_) ?_
            rotate_left
            focus (intro w' hSw; (try dsimp only at hSw); go_simp; (try with_reducible rfl))
            (try simp only [Act.put, List.setIfInBounds_toArray, List.set_cons_zero, List.set_cons_succ])
            refine head_one 7 rfl (by kernel_rfl) (fun K hK => ?_)
            go_simp
            (go_at_call 25; ((with_reducible refine (sL03Put u l x y (1 + z) false _ (SlF.of_owns HN4.out.own) (by have := hll.out; omega) (fun k _ => addS_small (by omega) _)).mono ?_); rintro e w6 ⟨u6, rfl, own6, g6⟩))
            obtain ⟨p6, c6, rfl⟩ := owns_form own6
            have HN6 := Lib.hid (HN4.out.ge g6)
            have HD6 := Lib.hid (Drew.geN HD4.out g6)
            have a3 := HN6.out.c3
            have af := HN6.out.f3
            refine hK.out _ _ HN6.out.c3 (fun hHeld => ?_)
            clear hK K
            (try simp only [Act.put, List.setIfInBounds_toArray, List.set_cons_zero, List.set_cons_succ])
            refine head_take 8 (v := ?_) rfl (by kernel_rfl) (by kernel_rfl) (fun _ _ _ h => h) (by assumption) (yields_if (by rfl) ?_) ?_
            rotate_left
            focus (intro w' hSw; (try dsimp only at hSw); go_simp; (try with_reducible rfl))
            (try simp only [Act.put, List.setIfInBounds_toArray, List.set_cons_zero, List.set_cons_succ])
            refine head_done (by kernel_rfl) ?_
            go_wp2_with fail
            go_roundw
            case rel => exact ⟨c - 1, _, putW l x y (1 + z) false, by go_num, by omega, Dwn.put HDw.out (by omega) (by omega) hxy (by omega), HN6.out.put zw2 (owns_mono own6 zG), HD6.out.setN (by omega) (by omega)⟩
            case measure => simp [intOf]; omega
        · have hc0 : c = 0 := by omega
          subst hc0
          obtain ⟨b0, b1, b2, b3, bf, bo, br⟩ := HN.out
          obtain ⟨r0, p0, f0⟩ := br 0 (by omega)
          obtain ⟨r1, p1, f1⟩ := br 1 (by omega)
          obtain ⟨r2, p2, f2⟩ := br 2 (by omega)
          obtain ⟨r3, p3, f3⟩ := br 3 (by omega)
          obtain ⟨pu, cu, rfl⟩ := owns_form bo
          have HO := Lib.hid bo
          clear bo br
          have zl := lg
          go_wp2_with fail
          exact bodyPost_ret (v := .agg #[.int .i64 (n : Int), .int .i64 E, .int .i64 S, .slice pu l.length cu]) (by simp [results, Try.results11, go_sem, *]) rfl
            ⟨n, E, S, l, _, rfl, by refine owns_mono (base := G + 1) ?_ (by omega); repeat (first | exact HO.out | refine own_setD ?_ (by omega)), HDw.out, n2, nm, hE, hS3, by repeat (first | exact HDr.out | refine Drew.setN ?_ (Nat.le_refl _) lg)⟩

theorem ResD.drewN {w w' : World} {R g : Nat} (h : ResD w R) (hd : Drew w w' g) (hR : R ≠ g) : ResD w' R := fun i hi => by
  obtain ⟨u, h1, h2⟩ := h i hi
  exact ⟨u, hd.cellN h1 hR, hd.frozN h1 hR h2⟩
set_option maxHeartbeats 1600000 in
theorem sMakeNet (p : Option Addr) (n cap : Nat) (w : World) (hb : SlB w p n) (hn : n ≤ 1048576) : Calls Try.prog 4 #[.slice p n cap] w fun e w' => ∃ (n : Nat) (E S : Int) (l : List Wr) (s : Value),
    e = .returned (.agg #[.int .i64 (n : Int), .int .i64 E, .int .i64 S, s]) ∧ SlF w' s l.length 3 (flatW l) ∧ Drn n l.length (flatW l) ∧ (2 ≤ E ∧ E ≤ n) ∧ (1 ≤ S ∧ S ≤ 3) ∧ Ge w w' := by
  have HB := Lib.hid (hb.ge (Ge.alloc (Ge.refl w) (.cells #[.int .i64 0, .int .i64 0, .int .i64 0, .slice none 0 0] 25)))
  have RS0 := Lib.hid (ResD.new w (.int .i64 0) (.int .i64 0) (.int .i64 0) (.slice none 0 0) 25)
  clear hb
  go_enter Try.func4, Try.ntmps4
  go_wp2_with (first
    | ((go_at_call 12; ((with_reducible refine (sL01New _ _ _ _ HB.out hn).mono ?_); rintro e w1 ⟨g, rfl, hc1, hg, g1⟩)); have HC := Lib.hid hc1; clear hc1; have RS1 := Lib.hid (RS0.out.ge g1); have lg : w.heap.size < g := (by simp at hg; omega); have lw := (g1.size); simp at lw)
    | ((go_at_call 11; ((with_reducible refine (sL03Draw _ _ _ HC.out (by omega) (by omega)).mono ?_); rintro e w2 ⟨m, E, S, l, s, rfl, own2, hdw, n2, n5, hE, hS, hd2⟩)); have RS2 := (RS1.out.drewN hd2 (by omega)); obtain ⟨pu, cu, rfl⟩ := owns_form own2; obtain ⟨r0, p0, f0⟩ := RS2 0 (by omega); obtain ⟨r1, p1, f1⟩ := RS2 1 (by omega); obtain ⟨r2, p2, f2⟩ := RS2 2 (by omega); obtain ⟨r3, p3, f3⟩ := RS2 3 (by omega); have G2 := Lib.hid (Ge.trans (Ge.alloc (Ge.refl w) _) (hd2.ge g1 hg)); have HO := Lib.hid own2; clear RS2 own2 hd2))
  exact bodyPost_ret (v := .agg #[.int .i64 (m : Int), .int .i64 E, .int .i64 S, .slice pu l.length cu]) (by simp [results, Try.results4, go_sem, *]) rfl
    ⟨m, E, S, l, _, rfl, by refine SlF.of_owns (base := w1.heap.size) (e := 52) ?_; repeat (first | exact HO.out | refine own_setD ?_ (by omega)), dwn_drn hdw n2 (by omega), hE, hS, by repeat (first | exact G2.out | refine Ge.setCell ?_ (Nat.le_refl _) _)⟩
end Go.Proofs.Ytahicfpnmjofhab

namespace Go.Proofs.Ytahicfpnmjofhab
set_option maxRecDepth 100000
open Go.ChangeShapes Go.WideShapes Go.ChangeAt Go.RowKit Go.Joins

/-- A drawn network in the world w. -/
structure DN (w : World) (s : Value) (n : Nat) (E S : Int) (m : Nat) (xs : List Int) : Prop where
  sl : SlF w s m 3 xs
  dr : Drn n m xs
  hE : 2 ≤ E ∧ E ≤ n
  hS : 1 ≤ S ∧ S ≤ 3
theorem DN.ge {w w' : World} {s : Value} {n : Nat} {E S : Int} {m : Nat} {xs : List Int} (h : DN w s n E S m xs) (hg : Ge w w') : DN w' s n E S m xs := ⟨h.sl.ge hg, h.dr, h.hE, h.hS⟩
theorem DN.net {w : World} {s : Value} {n : Nat} {E S : Int} {m : Nat} {xs : List Int} (h : DN w s n E S m xs) : netB n E S m xs = true := drn_net h.dr (by have := h.hE; omega) (by have := h.hS; omega)
theorem DN.m10 {w : World} {s : Value} {n : Nat} {E S : Int} {m : Nat} {xs : List Int} (h : DN w s n E S m xs) : m ≤ 10 := prs_len (N := n) (by have := h.dr.five; omega) h.dr.good
theorem DN.tree {w : World} {s : Value} {n : Nat} {E S : Int} {m : Nat} {xs : List Int} (h : DN w s n E S m xs) : treeV n E S m xs = treeT n m xs := treeV_t h.net
theorem DN.forest {w : World} {s : Value} {n : Nat} {E S : Int} {m : Nat} {xs : List Int} (h : DN w s n E S m xs) {a b : Int} (ha : 0 ≤ a ∧ a < n) (hb : 0 ≤ b ∧ b < n) : forV n E S m xs a b = forZ n m xs a b := forZ_V rfl h.net ha hb
/-- A fraction, and that there is one. -/
def GR (R : Rt) (w : World) (e : Ending) (w' : World) : Prop := e = .returned (.tuple #[.agg #[.int .i64 R.n, .int .i64 R.d], .bool true]) ∧ Ge w w'
section
variable {w : World} {s : Value} {n : Nat} {E S : Int} {m : Nat} {xs : List Int}
theorem dStep (h : DN w s n E S m xs) {a b : Int} (ha : 0 ≤ a ∧ a < n) (hb : 0 ≤ b ∧ b < n) : Calls Try.prog 9 #[.agg #[.int .i64 (n : Int), .int .i64 E, .int .i64 S, s], .int .i64 a, .int .i64 b] w (GR (ratioOf (wbet xs m a b) (wat xs a m)) w) := by
  obtain ⟨h1, h2⟩ := step_t (node2_t h.net ha hb) (by have := h.dr.two; omega)
  have := iStepChance n E S s m xs a b w h.sl (by have := h.m10; omega)
  rw [h1, h2] at this
  exact this
theorem dComm (h : DN w s n E S m xs) {a b : Int} (ha : 0 ≤ a ∧ a < n) (hb : 0 ≤ b ∧ b < n) : Calls Try.prog 7 #[.agg #[.int .i64 (n : Int), .int .i64 E, .int .i64 S, s], .int .i64 a, .int .i64 b] w (GR (ratioOf (wtAll xs m * forZ n m xs a b) (treeT n m xs)) w) := by
  have h1 := node2_t h.net ha hb
  have := iCommuteTime n E S s m xs a b w h.sl (by have := h.m10; omega)
  rw [com_t h1, h1, h.tree, h.forest ha hb] at this
  exact this
theorem dHitS (h : DN w s n E S m xs) {a b : Int} (ha : 0 ≤ a ∧ a < n) (hb : 0 ≤ b ∧ b < n) : hitS n E S m xs a b ((n : Int)).toNat = hitZ n m xs a b := by
  have key : ∀ k : Nat, k ≤ n → hitS n E S m xs a b k = sumTo (fun (v : Nat) => wat xs v m * (forZ n m xs a b + forZ n m xs v b - forZ n m xs a v)) k := fun k => by
    induction k with
    | zero => intro _; rfl
    | succ k ih =>
      intro hk
      simp only [hitS, sumTo, ih (by omega)]
      rw [h.forest ha hb, h.forest (a := (k : Int)) (by omega) hb, h.forest ha (b := (k : Int)) (by omega)]
  rw [show ((n : Int)).toNat = n by omega, key n (Nat.le_refl _)]
  rfl
theorem dTime (h : DN w s n E S m xs) {a b : Int} (ha : 0 ≤ a ∧ a < n) (hb : 0 ≤ b ∧ b < n) : Calls Try.prog 6 #[.agg #[.int .i64 (n : Int), .int .i64 E, .int .i64 S, s], .int .i64 a, .int .i64 b] w (GR (ratioOf (hitZ n m xs a b) (2 * treeT n m xs)) w) := by
  have h1 := node2_t h.net ha hb
  have := iHitTime n E S s m xs a b w h.sl (by have := h.m10; omega)
  rw [hit_t h1, h1, h.tree, dHitS h ha hb] at this
  exact this
end
set_option maxHeartbeats 1600000 in
theorem iRatioTimes (n1 d1 n2 d2 : Int) (w : World) :
    Calls Try.prog 10 #[.agg #[.int .i64 n1, .int .i64 d1], .agg #[.int .i64 n2, .int .i64 d2]] w fun e w' => e = .returned (.agg #[.int .i64 (ratioTimes ⟨n1, d1⟩ ⟨n2, d2⟩).n, .int .i64 (ratioTimes ⟨n1, d1⟩ ⟨n2, d2⟩).d]) ∧ Ge w w' := by
  cases c : calcB ⟨n1, d1⟩ ⟨n2, d2⟩ with
  | false =>
    have HF : Hid (ratioTimes ⟨n1, d1⟩ ⟨n2, d2⟩ = ⟨0, 0⟩) := by simp [ratioTimes, c, zeroR]; exact trivial
    go_enter Try.func10, Try.ntmps10
    go_wp2_with (go_at_call 22; ((with_reducible refine (iCalculable _ _ _ _ _).mono ?_); rintro e w1 ⟨rfl, gw1⟩); have Gw1 : Ge w w1 := (Ge.trans (by (repeat (first | with_reducible exact Ge.refl _ | assumption | with_reducible refine Ge.drew ?_ | with_reducible refine Ge.drewN ?_ _ | with_reducible refine Ge.alloc ?_ _ | (with_reducible refine Ge.setCell ?_ (by first | (simp; done) | omega | (simp; omega)) _) | with_reducible refine Ge.trans ?_ (by assumption)))) gw1); have c0_0 : World.cell? w1 ⟨w.heap.size, 0, none⟩ = some (.int .i64 n1) := Ge.keep gw1 (by repeat (first | assumption | exact (own_new (by simp) rfl).1 | with_reducible refine cell_drew ?_ | with_reducible refine cell_drewN ?_ | with_reducible refine cell_alloc ?_ | (simp [*]; done))); have c0_1 : World.cell? w1 ⟨w.heap.size, 1, none⟩ = some (.int .i64 d1) := Ge.keep gw1 (by repeat (first | assumption | exact (own_new (by simp) rfl).1 | with_reducible refine cell_drew ?_ | with_reducible refine cell_drewN ?_ | with_reducible refine cell_alloc ?_ | (simp [*]; done))); have c1_0 : World.cell? w1 ⟨w.heap.size + 1, 0, none⟩ = some (.int .i64 n2) := Ge.keep gw1 (by repeat (first | assumption | exact (own_new (by simp) rfl).1 | with_reducible refine cell_drew ?_ | with_reducible refine cell_drewN ?_ | with_reducible refine cell_alloc ?_ | (simp [*]; done))); have c1_1 : World.cell? w1 ⟨w.heap.size + 1, 1, none⟩ = some (.int .i64 d2) := Ge.keep gw1 (by repeat (first | assumption | exact (own_new (by simp) rfl).1 | with_reducible refine cell_drew ?_ | with_reducible refine cell_drewN ?_ | with_reducible refine cell_alloc ?_ | (simp [*]; done))); have o2_0 : Own w1 ⟨w.heap.size + 2, 0, none⟩ _ := Ge.own gw1 ((by repeat (first | exact ⟨by assumption, by assumption⟩ | exact own_new (by simp) rfl | with_reducible refine own_drew ?_ | with_reducible refine own_old ?_ | (constructor <;> (simp [*]; done))))); have c2_0 := cv_some o2_0.1; have f2_0 := o2_0.2; clear o2_0; have o2_1 : Own w1 ⟨w.heap.size + 2, 1, none⟩ _ := Ge.own gw1 ((by repeat (first | exact ⟨by assumption, by assumption⟩ | exact own_new (by simp) rfl | with_reducible refine own_drew ?_ | with_reducible refine own_old ?_ | (constructor <;> (simp [*]; done))))); have c2_1 := cv_some o2_1.1; have f2_1 := o2_1.2; clear o2_1; have zw1 : w.heap.size + 3 ≤ w1.heap.size := (by have := Ge.size gw1; (try simp at this); omega))
    exact bodyPost_ret (v := .agg #[.int .i64 0, .int .i64 0]) (by simp [results, Try.results10, go_sem, *]) rfl ⟨by rw [HF.out], by (repeat (first | with_reducible exact Ge.refl _ | assumption | with_reducible refine Ge.drew ?_ | with_reducible refine Ge.drewN ?_ _ | with_reducible refine Ge.alloc ?_ _ | (with_reducible refine Ge.setCell ?_ (by first | (simp; done) | omega | (simp; omega)) _) | with_reducible refine Ge.trans ?_ (by assumption)))⟩
  | true =>
    obtain ⟨o1, o2, o3, o4, o5, o6⟩ := calcB_iff.1 c
    have HF : Hid (ratioTimes ⟨n1, d1⟩ ⟨n2, d2⟩ = ratioOf (n1 * n2) (d1 * d2)) := by simp [ratioTimes, c]; exact trivial
    obtain ⟨p1, p2⟩ := prod_small o6
    obtain ⟨p5, p6⟩ := prod_small o5
    simp only at p1 p2 p5 p6
    clear o1 o2 o3 o4 o5 o6
    go_enter Try.func10, Try.ntmps10
    go_wp2_with (first | (go_at_call 22; ((with_reducible refine (iCalculable _ _ _ _ _).mono ?_); rintro e w1 ⟨rfl, gw1⟩); have Gw1 : Ge w w1 := (Ge.trans (by (repeat (first | with_reducible exact Ge.refl _ | assumption | with_reducible refine Ge.drew ?_ | with_reducible refine Ge.drewN ?_ _ | with_reducible refine Ge.alloc ?_ _ | (with_reducible refine Ge.setCell ?_ (by first | (simp; done) | omega | (simp; omega)) _) | with_reducible refine Ge.trans ?_ (by assumption)))) gw1); have c0_0 : World.cell? w1 ⟨w.heap.size, 0, none⟩ = some (.int .i64 n1) := Ge.keep gw1 (by repeat (first | assumption | exact (own_new (by simp) rfl).1 | with_reducible refine cell_drew ?_ | with_reducible refine cell_drewN ?_ | with_reducible refine cell_alloc ?_ | (simp [*]; done))); have c0_1 : World.cell? w1 ⟨w.heap.size, 1, none⟩ = some (.int .i64 d1) := Ge.keep gw1 (by repeat (first | assumption | exact (own_new (by simp) rfl).1 | with_reducible refine cell_drew ?_ | with_reducible refine cell_drewN ?_ | with_reducible refine cell_alloc ?_ | (simp [*]; done))); have c1_0 : World.cell? w1 ⟨w.heap.size + 1, 0, none⟩ = some (.int .i64 n2) := Ge.keep gw1 (by repeat (first | assumption | exact (own_new (by simp) rfl).1 | with_reducible refine cell_drew ?_ | with_reducible refine cell_drewN ?_ | with_reducible refine cell_alloc ?_ | (simp [*]; done))); have c1_1 : World.cell? w1 ⟨w.heap.size + 1, 1, none⟩ = some (.int .i64 d2) := Ge.keep gw1 (by repeat (first | assumption | exact (own_new (by simp) rfl).1 | with_reducible refine cell_drew ?_ | with_reducible refine cell_drewN ?_ | with_reducible refine cell_alloc ?_ | (simp [*]; done))); have o2_0 : Own w1 ⟨w.heap.size + 2, 0, none⟩ _ := Ge.own gw1 ((by repeat (first | exact ⟨by assumption, by assumption⟩ | exact own_new (by simp) rfl | with_reducible refine own_drew ?_ | with_reducible refine own_old ?_ | (constructor <;> (simp [*]; done))))); have c2_0 := cv_some o2_0.1; have f2_0 := o2_0.2; clear o2_0; have o2_1 : Own w1 ⟨w.heap.size + 2, 1, none⟩ _ := Ge.own gw1 ((by repeat (first | exact ⟨by assumption, by assumption⟩ | exact own_new (by simp) rfl | with_reducible refine own_drew ?_ | with_reducible refine own_old ?_ | (constructor <;> (simp [*]; done))))); have c2_1 := cv_some o2_1.1; have f2_1 := o2_1.2; clear o2_1; have zw1 : w.heap.size + 3 ≤ w1.heap.size := (by have := Ge.size gw1; (try simp at this); omega)) | (go_at_call 19; ((with_reducible refine (iRatioOf _ _ _ (mid (by omega) (by omega)) (mid (by omega) (by omega))).mono ?_); rintro e w2 ⟨rfl, gw2⟩); have Gw2 : Ge w w2 := (Ge.trans (by (repeat (first | with_reducible exact Ge.refl _ | assumption | with_reducible refine Ge.drew ?_ | with_reducible refine Ge.drewN ?_ _ | with_reducible refine Ge.alloc ?_ _ | (with_reducible refine Ge.setCell ?_ (by first | (simp; done) | omega | (simp; omega)) _) | with_reducible refine Ge.trans ?_ (by assumption)))) gw2); have c0_0 : World.cell? w2 ⟨w.heap.size, 0, none⟩ = some (.int .i64 n1) := Ge.keep gw2 (by repeat (first | assumption | exact (own_new (by simp) rfl).1 | with_reducible refine cell_drew ?_ | with_reducible refine cell_drewN ?_ | with_reducible refine cell_alloc ?_ | (simp [*]; done))); have c0_1 : World.cell? w2 ⟨w.heap.size, 1, none⟩ = some (.int .i64 d1) := Ge.keep gw2 (by repeat (first | assumption | exact (own_new (by simp) rfl).1 | with_reducible refine cell_drew ?_ | with_reducible refine cell_drewN ?_ | with_reducible refine cell_alloc ?_ | (simp [*]; done))); have c1_0 : World.cell? w2 ⟨w.heap.size + 1, 0, none⟩ = some (.int .i64 n2) := Ge.keep gw2 (by repeat (first | assumption | exact (own_new (by simp) rfl).1 | with_reducible refine cell_drew ?_ | with_reducible refine cell_drewN ?_ | with_reducible refine cell_alloc ?_ | (simp [*]; done))); have c1_1 : World.cell? w2 ⟨w.heap.size + 1, 1, none⟩ = some (.int .i64 d2) := Ge.keep gw2 (by repeat (first | assumption | exact (own_new (by simp) rfl).1 | with_reducible refine cell_drew ?_ | with_reducible refine cell_drewN ?_ | with_reducible refine cell_alloc ?_ | (simp [*]; done))); have o2_0 : Own w2 ⟨w.heap.size + 2, 0, none⟩ _ := Ge.own gw2 ((by repeat (first | exact ⟨by assumption, by assumption⟩ | exact own_new (by simp) rfl | with_reducible refine own_drew ?_ | with_reducible refine own_old ?_ | (constructor <;> (simp [*]; done))))); have c2_0 := cv_some o2_0.1; have f2_0 := o2_0.2; clear o2_0; have o2_1 : Own w2 ⟨w.heap.size + 2, 1, none⟩ _ := Ge.own gw2 ((by repeat (first | exact ⟨by assumption, by assumption⟩ | exact own_new (by simp) rfl | with_reducible refine own_drew ?_ | with_reducible refine own_old ?_ | (constructor <;> (simp [*]; done))))); have c2_1 := cv_some o2_1.1; have f2_1 := o2_1.2; clear o2_1; have zw2 : w.heap.size + 3 ≤ w2.heap.size := (by have := Ge.size gw2; (try simp at this); omega)))
    exact bodyPost_ret (v := .agg #[.int .i64 (ratioOf (n1 * n2) (d1 * d2)).n, .int .i64 (ratioOf (n1 * n2) (d1 * d2)).d]) (by simp [results, Try.results10, go_sem, *]) rfl ⟨by rw [HF.out], by (repeat (first | with_reducible exact Ge.refl _ | assumption | with_reducible refine Ge.drew ?_ | with_reducible refine Ge.drewN ?_ _ | with_reducible refine Ge.alloc ?_ _ | (with_reducible refine Ge.setCell ?_ (by first | (simp; done) | omega | (simp; omega)) _) | with_reducible refine Ge.trans ?_ (by assumption)))⟩
/-- A fraction. -/
def GQ (R : Rt) (w : World) (e : Ending) (w' : World) : Prop := e = .returned (.agg #[.int .i64 R.n, .int .i64 R.d]) ∧ Ge w w'
theorem qSum {r s q : Rt} (h : ratioSum r s = q) (w : World) : Calls Try.prog 8 #[.agg #[.int .i64 r.n, .int .i64 r.d], .agg #[.int .i64 s.n, .int .i64 s.d]] w (GQ q w) := by
  subst h; exact iRatioSum r.n r.d s.n s.d w
theorem qTimes {r s q : Rt} (h : ratioTimes r s = q) (w : World) : Calls Try.prog 10 #[.agg #[.int .i64 r.n, .int .i64 r.d], .agg #[.int .i64 s.n, .int .i64 s.d]] w (GQ q w) := by
  subst h; exact iRatioTimes r.n r.d s.n s.d w
theorem dMake (p : Option Addr) (n cap : Nat) (w : World) (hb : SlB w p n) (hn : n ≤ 1048576) : Calls Try.prog 4 #[.slice p n cap] w fun e w' => ∃ (n : Nat) (E S : Int) (m : Nat) (xs : List Int) (q : Option Addr) (c : Nat),
    e = .returned (.agg #[.int .i64 (n : Int), .int .i64 E, .int .i64 S, .slice q m c]) ∧ DN w' (.slice q m c) n E S m xs ∧ Ge w w' :=
  (sMakeNet p n cap w hb hn).mono fun e w' ⟨n, E, S, l, s, he, hs, hd, hE, hS, hg⟩ => by
    obtain ⟨q, c, rfl, _⟩ := hs.open
    exact ⟨n, E, S, _, _, q, c, he, ⟨hs, hd, hE, hS⟩, hg⟩
end Go.Proofs.Ytahicfpnmjofhab

namespace Go.Proofs.Ytahicfpnmjofhab
set_option maxRecDepth 100000
open Go.ChangeShapes Go.WideShapes Go.ChangeAt Go.RowKit Go.Joins

theorem tmod_bd {x : Int} {n : Nat} (hx : 0 ≤ x) (hn : 0 < n) : 0 ≤ x.tmod (n : Int) ∧ x.tmod (n : Int) < n := by
  rw [Int.tmod_eq_emod_of_nonneg hx]
  exact ⟨Int.emod_nonneg _ (by omega), Int.emod_lt_of_pos _ (by omega)⟩
theorem tmod_other {a y : Int} {n : Nat} (ha : 0 ≤ a ∧ a < n) (hy : 0 ≤ y ∧ y < (n : Int) - 1) : 0 ≤ (a + 1 + y).tmod (n : Int) ∧ (a + 1 + y).tmod (n : Int) < n ∧ ¬ a = (a + 1 + y).tmod (n : Int) := by
  rw [Int.tmod_eq_emod_of_nonneg (by omega)]
  refine ⟨Int.emod_nonneg _ (by omega), Int.emod_lt_of_pos _ (by omega), ?_⟩
  by_cases c : a + 1 + y < n
  · rw [Int.emod_eq_of_lt (by omega) c]; omega
  · have e : (a + 1 + y) % (n : Int) = a + 1 + y - n := by
      have h := Int.add_mul_emod_self_left (a + 1 + y - n) (n : Int) 1
      rw [show a + 1 + y - (n : Int) + (n : Int) * 1 = a + 1 + y by omega] at h
      rw [h, Int.emod_eq_of_lt (by omega) (by omega)]
    rw [e]; omega
/-- The boxes of a fraction and its mark. -/
def Box2 (w : World) (b : Nat) (r : Rt) : Prop := w.cell? ⟨b, 0, none⟩ = some (.int .i64 r.n) ∧ w.cell? ⟨b, 1, none⟩ = some (.int .i64 r.d)
theorem Box2.new (w : World) (r : Rt) (t : TypeId) : Box2 (w.alloc (.cells #[.int .i64 r.n, .int .i64 r.d] t)) w.heap.size r := ⟨cell_new rfl rfl, cell_new rfl rfl⟩
theorem Box2.set {w : World} {b d : Nat} {r : Rt} {x y : Value} (h : Box2 w b r) (hd : d ≠ b) : Box2 ((w.setCell ⟨d, 0, none⟩ x).setCell ⟨d, 1, none⟩ y) b r :=
  have n : ∀ i j : Nat, (⟨d, i, none⟩ : Addr) ≠ ⟨b, j, none⟩ := fun i j e => hd (congrArg Addr.block e)
  ⟨cell_set2 (n 1 0) (cell_set2 (n 0 0) h.1), cell_set2 (n 1 1) (cell_set2 (n 0 1) h.2)⟩
theorem Box2.put {w : World} {b : Nat} {r : Rt} (h : Box2 w b r) (r' : Rt) : Box2 ((w.setCell ⟨b, 0, none⟩ (.int .i64 r'.n)).setCell ⟨b, 1, none⟩ (.int .i64 r'.d)) b r' :=
  ⟨cell_set2 (by simp) (cell_same h.1), cell_same (cell_set2 (by simp) h.2)⟩
theorem Box2.ge {w w' : World} {b : Nat} {r : Rt} (h : Box2 w b r) (hg : Ge w w') : Box2 w' b r := ⟨hg.keep h.1, hg.keep h.2⟩
end Go.Proofs.Ytahicfpnmjofhab
