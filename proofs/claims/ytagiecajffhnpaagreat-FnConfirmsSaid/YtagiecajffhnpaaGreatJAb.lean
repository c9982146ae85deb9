/- l03Put of the reference: a wire put into a list of wires. No condition. A network in a variable of the call's own. No condition. A region that draws its order: the first n operations under a condition S on the world, then a tail in one forced order. No program in sight. Worlds that differ in one cell; slices of rows that are filled one after another. No condition. Plain Lean: fractions. GcdOf, RatioOk, RatioOf, in the program and in the reference. l03Drop, l03Canon of the reference. No condition. Plain law: tilings as flat lists of integers (x, y, size). No condition. -/
import Derived.Test.YtagiecajffhnpaaGreatJAa
import Derived.Test.YtagiecajffhnpaaGreatWFlat
import Derived.Test.YtagiecajffhnpaaGreatWEqInt
import Derived.Test.YtagiecajffhnpaaGreatWDet0
import Derived.Test.YtagiecajffhnpaaGreatWLaw
import Derived.Test.YtagiecajffhnpaaGreatWBase
import Derived.Test.YtagiecajffhnpaaGreatWIn
import Derived.Maps.AppendAt
namespace Go.Proofs.YtagiecajffhnpaaGreat
set_option maxRecDepth 100000
open Go.ChangeShapes Go.WideShapes Go.ChangeAt Go.RowKit Go.Joins

theorem inf_Wire3 : (Tryz.prog.info? 45).map (fun i => (i.zero, i.size, i.bytes)) = some (some (Value.agg #[.int .i64 0, .int .i64 0, .int .i64 0]), 3, 24) := by kernel_rfl
theorem ap_wire {w : World} {ops : Array Oper} {rest : List Oper} {o : Oper} {a : Act} {Q : Exit → Act → World → Prop} (hgd : o.guard = none) (s x : Operand)
    (ho : o.op = .call { callee := .builtin .append, args := #[s, x], argTypes := #[31, 31] })
    (base : Nat) (v : Value) (n : Nat) (l : List Int) (hs : a.eval s = v) (hown : w.ownsRow base 45 3 v n (icells l))
    (y1 y2 y3 : Int) {b0 : Nat} (hx : a.eval x = .slice (some ⟨b0, 0, none⟩) 1 1) (hb0 : b0 = w.heap.size) (hn : n < 1099511627776) (hbase : base ≤ w.heap.size)
    (h : ∀ v' w', w'.ownsRow base 45 3 v' (n + 1) (icells (l ++ [y1, y2, y3])) → Mine w w' v → (v'.ownBlock = v.ownBlock ∨ ∃ b, v'.ownBlock = some b ∧ w.heap.size ≤ b) → wpList Tryz.prog ops Q rest (a.put o.dst v') w') :
    wpList Tryz.prog ops Q (o :: rest) a (w.alloc (.cells #[.int .i64 y1, .int .i64 y2, .int .i64 y3] 45)) := by
  subst hb0
  obtain ⟨i, hi1, hi2, hi3, hi4⟩ := info_parts inf_Wire3
  refine Go.wpList_append_own_at _ hgd s x 31 ho base 45 i _ 3 24 Tryz.underlying31 hi1 hi2 hi3 hi4 rfl (by decide) v n (icells l) hs (hown.alloc _) ⟨w.heap.size, 0, none⟩ 1 1 [.int .i64 y1, .int .i64 y2, .int .i64 y3] hx rfl ?_ (by simp [Value.oneCell']) (by unfold maxLen; omega) ?_ (by simp; omega) ?_
  · intro j u hu
    have hadd : (⟨w.heap.size, 0, none⟩ : Addr).add j = ⟨w.heap.size, j, none⟩ := by unfold Addr.add; split <;> simp_all
    rw [hadd, cell_of_row (w.alloc (.cells #[.int .i64 y1, .int .i64 y2, .int .i64 y3] 45)) w.heap.size j _ _ (0, 0) (heap_alloc_new w _)]
    simpa using hu
  · have : (n + 1) * 24 ≤ (n + 1) * 100 := Nat.mul_le_mul_left _ (by decide)
    omega
  · intro v' w' h2 h3 _ h5
    refine h v' w' (by simpa [icells] using h2) (Mine.alloc _ h3) ?_
    rcases h5 with h5 | h5
    · exact .inl h5
    · exact .inr ⟨_, h5, by simp⟩
theorem grown_setN (w : World) (b o : Nat) (x : Value) : w.grownBy (w.setCell ⟨b, o, none⟩ x) (some b) := by
  refine ⟨rfl, rfl, rfl, by simp, fun k _ hne => ?_⟩
  have : b ≠ k := fun e => hne (by rw [e])
  simp [World.setCell, Array.getElem?_modify, this]
theorem mine_frozN {w w' : World} {v : Value} (hm : Mine w w' v) {a : Addr} {u : Value} (h : w.cell? a = some u) (hf : w.frozen? a = false) (hne : ∀ k, v.ownBlock = some k → a.block ≠ k) : w'.frozen? a = false := by
  rw [World.frozen?_of_block (World.grownBy.block hm a.block (World.block_lt_of_cell? _ _ h) (fun e => hne _ e.symm rfl))]
  exact hf
/-- The row's block is the first, or a late one. -/
def Blk (v : Value) (z a : Nat) : Prop := v.ownBlock = some z ∨ ∃ b, v.ownBlock = some b ∧ a ≤ b
theorem Blk.next {v v' : Value} {z a b : Nat} (h : Blk v z a) (hz : a ≤ b) (h2 : v'.ownBlock = v.ownBlock ∨ ∃ c, v'.ownBlock = some c ∧ b ≤ c) : Blk v' z a := by
  rcases h2 with h2 | ⟨c, h2, h3⟩
  · unfold Blk; rw [h2]; exact h
  · exact Or.inr ⟨c, h2, by omega⟩
theorem Blk.ne {v : Value} {z a g : Nat} (h : Blk v z a) (h1 : z < g) (h2 : g < a) : ∀ k, v.ownBlock = some k → g ≠ k := fun k hk e => by
  rcases h with h | ⟨b, h, h3⟩
  · rw [h] at hk; cases hk; omega
  · rw [h] at hk; cases hk; omega
theorem flatW_snoc (l : List Wr) (e : Wr) : flatW (l ++ [e]) = flatW l ++ [e.a, e.b, e.w] := by rw [flatW_append]; rfl
theorem take_snocW (l : List Wr) (k : Nat) (h : k < l.length) : l.take (k + 1) = l.take k ++ [nthW l k] := by
  rw [List.take_succ_eq_append_getElem h, nthW_eq l k h]
/-- The weight so far. -/
def addS (add : Bool) (A B x : Int) (l : List Wr) : Int := x + (if add = true then sameS A B l else 0)
/-- The first loop of l03Put: what stands behind k rounds. -/
def Put1 (w wr : World) (v : Value) (A B x : Int) (add : Bool) (l : List Wr) (k : Nat) : Prop :=
  wr.ownsRow w.heap.size 45 3 v (dropE A B (l.take k)).length (icells (flatW (dropE A B (l.take k)))) ∧ Blk v w.heap.size (w.heap.size + 2) ∧
  wr.cell? ⟨w.heap.size + 1, 0, none⟩ = some (.int .i64 A) ∧ wr.cell? ⟨w.heap.size + 1, 1, none⟩ = some (.int .i64 B) ∧ wr.cell? ⟨w.heap.size + 1, 2, none⟩ = some (.int .i64 (addS add A B x (l.take k))) ∧
  wr.frozen? ⟨w.heap.size + 1, 2, none⟩ = false ∧ w.heap.size + 2 ≤ wr.heap.size ∧ Ge w wr
theorem Put1.start (w : World) (A B x : Int) (add : Bool) (l : List Wr) : Put1 w ((w.alloc (.cells #[] 45)).alloc (.cells #[.int .i64 A, .int .i64 B, .int .i64 x] 45)) (.slice (some ⟨w.heap.size, 0, none⟩) 0 0) A B x add l 0 := by
  have e : w.heap.size + 1 = (w.alloc (.cells #[] 45)).heap.size := by simp
  refine ⟨Ge.owns (Ge.alloc (Ge.refl _) _) (owns_lit0 _ _ _), Or.inl rfl, cell_new e rfl, cell_new e rfl, ?_, froz_new (v := .int .i64 x) e rfl, by simp, Ge.alloc (Ge.alloc (Ge.refl _) _) _⟩
  have : addS add A B x (l.take 0) = x := by unfold addS; simp [sameS]
  rw [this]
  exact cell_new e rfl
theorem drop_out {A B : Int} {l : List Wr} {k : Nat} (hk : k < l.length) (h : isE A B (nthW l k) = false) : dropE A B (l.take (k + 1)) = dropE A B (l.take k) ++ [nthW l k] := by
  rw [take_snocW l k hk, dropE_snoc, if_neg (by simp [h])]
theorem addS_out {A B x : Int} {add : Bool} {l : List Wr} {k : Nat} (hk : k < l.length) (h : isE A B (nthW l k) = false) : addS add A B x (l.take (k + 1)) = addS add A B x (l.take k) := by
  unfold addS
  rw [take_snocW l k hk, sameS_snoc, h]; simp
theorem Put1.ge {w wr wr' : World} {v : Value} {A B x : Int} {add : Bool} {l : List Wr} {k : Nat} (h : Put1 w wr v A B x add l k) (hg : Ge wr wr') : Put1 w wr' v A B x add l k := by
  obtain ⟨h1, h2, h3, h4, h5, h6, h7, h8⟩ := h
  exact ⟨hg.owns h1, h2, hg.keep h3, hg.keep h4, hg.keep h5, hg.keepF h5 h6, Nat.le_trans h7 hg.size, h8.trans hg⟩
/-- A round that appends the wire. -/
theorem Put1.app {w wr : World} {v : Value} {A B x : Int} {add : Bool} {l : List Wr} {k : Nat} (h : Put1 w wr v A B x add l k) (hk : k < l.length) (he : isE A B (nthW l k) = false) {wr' w' : World} {v' : Value} (hg : Ge wr wr') (hm : Mine wr' w' v)
    (ho : w'.ownsRow w.heap.size 45 3 v' ((dropE A B (l.take k)).length + 1) (icells (flatW (dropE A B (l.take k)) ++ [(nthW l k).a, (nthW l k).b, (nthW l k).w])))
    (hb : v'.ownBlock = v.ownBlock ∨ ∃ b, v'.ownBlock = some b ∧ wr'.heap.size ≤ b) : Put1 w w' v' A B x add l (k + 1) := by
  obtain ⟨h1, h2, h3, h4, h5, h6, h7, h8⟩ := h
  have ne := h2.ne (g := w.heap.size + 1) (by omega) (by omega)
  have z := hg.size
  refine ⟨?_, h2.next (by omega) hb, mine_cell hm (hg.keep h3) ne, mine_cell hm (hg.keep h4) ne, ?_, ?_, Nat.le_trans h7 (Nat.le_trans z (World.grownBy.size hm)), Ge.mine (h8.trans hg) (hg.owns h1) (Nat.le_refl _) hm⟩
  · rw [drop_out hk he, flatW_snoc]
    simpa using ho
  · rw [addS_out hk he]; exact mine_cell hm (hg.keep h5) ne
  · exact mine_frozN hm (hg.keep h5) (hg.keepF h5 h6) ne
/-- The second loop: what stands behind k rounds. -/
def Put2 (w2 wr : World) (v : Value) (B2 : Nat) (X : Wr) (D : List Wr) (k : Nat) : Prop :=
  wr.ownsRow B2 45 3 v (insP X (D.take k)).1.length (icells (flatW (insP X (D.take k)).1)) ∧ Ge w2 wr
theorem Put2.one {w2 wr wr' w' : World} {v v' : Value} {B2 : Nat} {X : Wr} {D : List Wr} {k : Nat} (h : Put2 w2 wr v B2 X D k) (hk : k < D.length) (hb : w2.heap.size ≤ B2) (hg : Ge wr wr') (hm : Mine wr' w' v)
    (hc : (insP X (D.take k)).2 = true ∨ gtE X.a X.b (nthW D k) = false)
    (ho : w'.ownsRow B2 45 3 v' ((insP X (D.take k)).1.length + 1) (icells (flatW (insP X (D.take k)).1 ++ [(nthW D k).a, (nthW D k).b, (nthW D k).w]))) :
    Put2 w2 w' v' B2 X D (k + 1) ∧ (insP X (D.take (k + 1))).2 = (insP X (D.take k)).2 := by
  have e : insP X (D.take (k + 1)) = ((insP X (D.take k)).1 ++ [nthW D k], (insP X (D.take k)).2) := by
    rw [take_snocW D k hk, insP_snoc]
    rcases hc with hc | hc
    · rw [if_pos hc, hc]
    · by_cases d : (insP X (D.take k)).2 = true
      · rw [if_pos d, d]
      · rw [if_neg d, if_neg (by simp [hc])]
        have : (insP X (D.take k)).2 = false := by simpa using d
        rw [this]
  refine ⟨⟨?_, Ge.mine (h.2.trans hg) (hg.owns h.1) hb hm⟩, by rw [e]⟩
  rw [e]
  simp only [flatW_snoc, List.length_append, List.length_singleton]
  exact ho
theorem Put2.done {w w2 wr : World} {v : Value} {X : Wr} {D : List Wr} {k : Nat} (h : Put2 w2 wr v w2.heap.size X D k) (hk : D.length = k) (hd : (insP X (D.take k)).2 = true) (hw : Ge w w2) : wr.ownsRow w.heap.size 45 3 v (insW X D).length (icells (flatW (insW X D))) ∧ Ge w wr := by
  rw [List.take_of_length_le (by omega)] at hd
  have e : insW X D = (insP X D).1 := by unfold insW; rw [if_pos hd]
  have h1 := h.1
  rw [List.take_of_length_le (by omega)] at h1
  rw [e]
  exact ⟨owns_mono h1 hw.size, hw.trans h.2⟩
end Go.Proofs.YtagiecajffhnpaaGreat

namespace Go.Proofs.YtagiecajffhnpaaGreat
set_option maxRecDepth 100000
open Go.ChangeShapes Go.WideShapes Go.ChangeAt Go.RowKit Go.Joins

/-- A network in a variable of the call's own, and the result's block. -/
structure NetAt (w : World) (R G : Nat) (n : Nat) (E S : Int) (v : Value) (l : List Wr) : Prop where
  c0 : w.cell? ⟨G, 0, none⟩ = some (.int .i64 (n : Int))
  c1 : w.cell? ⟨G, 1, none⟩ = some (.int .i64 E)
  c2 : w.cell? ⟨G, 2, none⟩ = some (.int .i64 S)
  c3 : w.cell? ⟨G, 3, none⟩ = some v
  f3 : w.frozen? ⟨G, 3, none⟩ = false
  own : w.ownsRow (G + 1) 45 3 v l.length (icells (flatW l))
  res : ∀ i, i < 4 → ∃ u, w.cell? ⟨R, i, none⟩ = some u ∧ w.frozen? ⟨R, i, none⟩ = false
theorem NetAt.ge {w w' : World} {R G n : Nat} {E S : Int} {v : Value} {l : List Wr} (h : NetAt w R G n E S v l) (hg : Ge w w') : NetAt w' R G n E S v l :=
  ⟨hg.keep h.c0, hg.keep h.c1, hg.keep h.c2, hg.keep h.c3, hg.keepF h.c3 h.f3, hg.owns h.own, fun i hi => by obtain ⟨u, h1, h2⟩ := h.res i hi; exact ⟨u, hg.keep h1, hg.keepF h1 h2⟩⟩
theorem NetAt.put {w : World} {R G n : Nat} {E S : Int} {v v' : Value} {l l' : List Wr} (h : NetAt w R G n E S v l) (hR : R < G) (ho : w.ownsRow (G + 1) 45 3 v' l'.length (icells (flatW l'))) : NetAt (w.setCell ⟨G, 3, none⟩ v') R G n E S v' l' :=
  ⟨cell_set2 (by simp) h.c0, cell_set2 (by simp) h.c1, cell_set2 (by simp) h.c2, World.cell?_setCell_same _ _ _ h.c3, froz_set h.f3, by
    refine ho.kept (grown_setN w G 3 v') ?_
    cases hv : v'.ownBlock with
    | none => exact .inl rfl
    | some k =>
      right
      intro e'
      have := (ho.lt k hv).1
      simp at e'
      omega, fun i hi => by
    obtain ⟨u, h1, h2⟩ := h.res i hi
    exact ⟨u, cell_set2 (fun e => by have := congrArg Addr.block e; simp at this; omega) h1, froz_set h2⟩⟩
/-- A block of four cells that may be written. -/
def ResD (w : World) (R : Nat) : Prop := ∀ i, i < 4 → ∃ u, w.cell? ⟨R, i, none⟩ = some u ∧ w.frozen? ⟨R, i, none⟩ = false
theorem ResD.new (w : World) (v0 v1 v2 v3 : Value) (t : TypeId) : ResD (w.alloc (.cells #[v0, v1, v2, v3] t)) w.heap.size := fun i hi => by
  have k : ∃ u, (#[v0, v1, v2, v3] : Array Value)[i]? = some u := ⟨_, Array.getElem?_eq_getElem (by simpa using hi)⟩
  obtain ⟨u, hu⟩ := k
  exact ⟨u, cell_new rfl hu, froz_new rfl hu⟩
theorem ResD.ge {w w' : World} {R : Nat} (h : ResD w R) (hg : Ge w w') : ResD w' R := fun i hi => by
  obtain ⟨u, h1, h2⟩ := h i hi
  exact ⟨u, hg.keep h1, hg.keepF h1 h2⟩
theorem NetAt.start {w : World} {R n : Nat} {E S : Int} (hr : ResD w R) : NetAt (w.alloc (.cells #[.int .i64 (n : Int), .int .i64 E, .int .i64 S, .slice none 0 0] 33)) R w.heap.size n E S (.slice none 0 0) [] :=
  ⟨cell_new rfl rfl, cell_new rfl rfl, cell_new rfl rfl, cell_new rfl rfl, froz_new rfl (v := .slice none 0 0) rfl, ⟨rfl, .inl ⟨rfl, rfl⟩⟩, hr.ge (Ge.alloc (Ge.refl _) _)⟩
theorem NetAt.setE {w : World} {R G n : Nat} {E S E' : Int} {v : Value} {l : List Wr} (h : NetAt w R G n E S v l) (hR : R < G) : NetAt (w.setCell ⟨G, 1, none⟩ (.int .i64 E')) R G n E' S v l :=
  ⟨cell_set2 (by simp) h.c0, World.cell?_setCell_same _ _ _ h.c1, cell_set2 (by simp) h.c2, cell_set2 (by simp) h.c3, froz_set h.f3, by
    refine h.own.kept (grown_setN w G 1 _) ?_
    cases hv : v.ownBlock with
    | none => exact .inl rfl
    | some k =>
      right
      intro e'
      have := (h.own.lt k hv).1
      simp at e'
      omega, fun i hi => by
    obtain ⟨u, h1, h2⟩ := h.res i hi
    exact ⟨u, cell_set2 (fun e => by have := congrArg Addr.block e; simp at this; omega) h1, froz_set h2⟩⟩
theorem own_setD {w : World} {base e sz n R i : Nat} {v x : Value} {xs : List Value} (h : w.ownsRow base e sz v n xs) (hR : R < base) : (w.setCell ⟨R, i, none⟩ x).ownsRow base e sz v n xs := by
  refine h.kept (grown_setN w R i x) ?_
  cases hv : v.ownBlock with
  | none => exact .inl rfl
  | some k =>
    right
    intro e'
    have := (h.lt k hv).1
    simp at e'
    omega
theorem NetAt.app {w w1 w8 : World} {R G n : Nat} {E S : Int} {v v8 : Value} {l : List Wr} {x : Wr} (h : NetAt w R G n E S v l) (hR : R < G) (hg : Ge w w1) (hm : Mine w1 w8 v)
    (ho : w8.ownsRow (G + 1) 45 3 v8 (l.length + 1) (icells (flatW l ++ [x.a, x.b, x.w]))) :
    NetAt (w8.setCell ⟨G, 3, none⟩ v8) R G n E S v8 (l ++ [x]) ∧ w8.cell? ⟨G, 3, none⟩ = some v ∧ w8.frozen? ⟨G, 3, none⟩ = false := by
  have h1 := h.ge hg
  have nG := before_row h1.own (b := G) (by omega)
  have nR := before_row h1.own (b := R) (by omega)
  have k3 := mine_cell hm h1.c3 nG
  have kf := mine_frozN hm h1.c3 h1.f3 nG
  refine ⟨⟨cell_set2 (by simp) (mine_cell hm h1.c0 nG), cell_set2 (by simp) (mine_cell hm h1.c1 nG), cell_set2 (by simp) (mine_cell hm h1.c2 nG), World.cell?_setCell_same _ _ _ k3, froz_set kf, ?_, fun i hi => ?_⟩, k3, kf⟩
  · have : (l ++ [x]).length = l.length + 1 := by simp
    rw [this, flatW_snoc]
    exact own_setD ho (by omega)
  · obtain ⟨u, r1, r2⟩ := h1.res i hi
    exact ⟨u, cell_set2 (fun e => by have := congrArg Addr.block e; simp at this; omega) (mine_cell hm r1 nR), froz_set (mine_frozN hm r1 r2 nR)⟩
theorem NetAt.setS {w : World} {R G n : Nat} {E S S' : Int} {v : Value} {l : List Wr} (h : NetAt w R G n E S v l) (hR : R < G) : NetAt (w.setCell ⟨G, 2, none⟩ (.int .i64 S')) R G n E S' v l :=
  ⟨cell_set2 (by simp) h.c0, cell_set2 (by simp) h.c1, World.cell?_setCell_same _ _ _ h.c2, cell_set2 (by simp) h.c3, froz_set h.f3, own_setD h.own (by omega), fun i hi => by
    obtain ⟨u, h1, h2⟩ := h.res i hi
    exact ⟨u, cell_set2 (fun e => by have := congrArg Addr.block e; simp at this; omega) h1, froz_set h2⟩⟩
theorem NetAt.setW {w : World} {R G n q m cap j : Nat} {E S : Int} {l l' : List Wr} {x : Int} (h : NetAt w R G n E S (.slice (some ⟨q, 0, none⟩) m cap) l) (hR : R < G) (hm : l.length = m) (hl : l'.length = m) (hf : flatW l' = (flatW l).set j x) :
    NetAt (w.setCell ⟨q, j, none⟩ (.int .i64 x)) R G n E S (.slice (some ⟨q, 0, none⟩) m cap) l' ∧ G < q := by
  subst hm
  have hs := h.own.stored j (.int .i64 x)
  have hq := (h.own.lt q rfl).1
  have k : ∀ i : Nat, (⟨q, j, none⟩ : Addr) ≠ ⟨G, i, none⟩ := fun i e => by have := congrArg Addr.block e; simp at this; omega
  refine ⟨⟨cell_set2 (k 0) h.c0, cell_set2 (k 1) h.c1, cell_set2 (k 2) h.c2, cell_set2 (k 3) h.c3, froz_set h.f3, ?_, fun i hi => ?_⟩, by omega⟩
  · rw [hl, hf, ← icells_set]
    exact hs.1
  · obtain ⟨u, h1, h2⟩ := h.res i hi
    exact ⟨u, cell_set2 (fun e => by have := congrArg Addr.block e; simp at this; omega) h1, froz_set h2⟩
end Go.Proofs.YtagiecajffhnpaaGreat

namespace Go.Proofs.YtagiecajffhnpaaGreat

open Go

section
variable {P : Program} {ops : Array Oper} {Q : Exit → Act → World → Prop} {md : Region.Mode} {S : World → Prop}

/-- Whatever order the first n operations take: S holds behind each, and at their end L. -/
def wpAnyT (P : Program) (md : Region.Mode) (ops : Array Oper) (Q : Exit → Act → World → Prop) (S : World → Prop) (n : Nat) (L : Array Bool → Act → World → Prop) : Nat → Array Bool → Act → World → Prop
  | 0, listed, a, w => L listed a w
  | f + 1, listed, a, w => Region.ready md ops listed ≠ [] ∧ ∀ i ∈ Region.ready md ops listed, i < n ∧ wpOp P ops Q i (fun a' w' => S w' ∧ wpAnyT P md ops Q S n L f (listed.setIfInBounds i true) a' w') a w

theorem wpAny_of_T {n g : Nat} {L : Array Bool → Act → World → Prop} (hL : ∀ listed a w, L listed a w → wpAny P md ops Q g listed a w) :
    ∀ (f : Nat) (listed : Array Bool) (a : Act) (w : World), wpAnyT P md ops Q S n L f listed a w → wpAny P md ops Q (f + g) listed a w
  | 0, listed, a, w, h => by rw [Nat.zero_add]; exact hL _ _ _ h
  | f + 1, listed, a, w, h => by
    rw [show f + 1 + g = (f + g) + 1 by omega]
    exact ⟨fun h0 => absurd h0 h.1, fun i hi => wpOp_mono (fun a' w' h' => wpAny_of_T hL f _ a' w' h'.2) (h.2 i hi).2⟩

theorem wpAnyT_first {n i : Nat} {oi : Oper} {v : Value} {L : Array Bool → Act → World → Prop} (hi : ops[i]? = some oi) (hsel : ∀ (j : Nat) (o : Oper) cs b, ops[j]? = some o → o.op ≠ .select cs b)
    (hQ : ∀ c a w, Q (.panic c) (a.put oi.dst v) w → Q (.panic c) a w)
    (hs : Region.sinkB md ops n = true) (hc : Region.chainB md ops n = true) (hn : n < ops.size) (hin : i < n)
    (hdone : ∀ listed a w, L listed a w → ∀ j ∈ Region.ready md ops listed, n ≤ j) :
    ∀ (f : Nat) (listed : Array Bool) (a : Act) (w : World), HeadInv md ops n listed →
      (∀ j oj, ops[j]? = some oj → j ≠ i → listed.getD j true = false → (∀ e ∈ oj.after, Region.binds md e = true → e.on ≠ i) → oi.apart ops oj = true) →
      i ∈ Region.ready md ops listed → YieldsIf P ops S oi v a → S w →
      wpAnyT P md ops Q S n L f (listed.setIfInBounds i true) (a.put oi.dst v) w → wpAnyT P md ops Q S n L (f + 1) listed a w := by
  intro f
  induction f with
  | zero =>
    intro listed a w inv _ hr hy hS H
    have hun := (mem_ready.1 hr).1
    refine ⟨fun h => (by rw [h] at hr; cases hr), fun j hj => ?_⟩
    have hjn : j < n := by
      rcases Nat.lt_or_ge j n with h | h
      · exact h
      · exact absurd hj (tail_waits hs hc hn inv _ i rfl hin hun j h)
    refine ⟨hjn, ?_⟩
    by_cases hji : j = i
    · subst hji; exact hy.wpOp hi hS ⟨hS, H⟩
    · have := hdone _ _ _ H j (ready_mono hj hji)
      omega
  | succ f ih =>
    intro listed a w inv hfree hr hy hS H
    have hun := (mem_ready.1 hr).1
    refine ⟨fun h => (by rw [h] at hr; cases hr), fun j hj => ?_⟩
    have hjn : j < n := by
      rcases Nat.lt_or_ge j n with h | h
      · exact h
      · exact absurd hj (tail_waits hs hc hn inv _ i rfl hin hun j h)
    refine ⟨hjn, ?_⟩
    by_cases hji : j = i
    · subst hji; exact hy.wpOp hi hS ⟨hS, H⟩
    · have h1 := (H.2 j (ready_mono hj hji)).2
      obtain ⟨hjun, oj, hoj, hall⟩ := mem_ready.1 hj
      have hnot : ∀ e ∈ oj.after, Region.binds md e = true → e.on ≠ i := fun e he hb heq => by
        have h1 := hall e he hb
        rw [heq, getD_both hun] at h1
        cases h1
      have h2 := wpOp_putIf hoj (hfree j oj hoj hji hjun hnot) (fun cs b => hsel i oi cs b hi) (fun cs b => hsel j oj cs b hoj) hQ hy h1
      have hfree' : ∀ k ok, ops[k]? = some ok → k ≠ i → (listed.setIfInBounds j true).getD k true = false →
          (∀ e ∈ ok.after, Region.binds md e = true → e.on ≠ i) → oi.apart ops ok = true := fun k ok hk hki hun hno => by
        refine hfree k ok hk hki ?_ hno
        by_cases hjk : j = k
        · subst hjk; exact hjun
        · rw [getD_set_ne true hjk] at hun; exact hun
      refine wpOp_mono (fun a' w' h3 => ⟨h3.2.1, ih (listed.setIfInBounds j true) a' w' (inv.set hj hjn) hfree' (ready_mono hr (Ne.symm hji)) h3.1 h3.2.1 ?_⟩) h2
      rw [Array.setIfInBounds_comm _ _ hji]
      exact h3.2.2
end

section
variable {P : Program} {l : List Oper} {Q : Exit → Act → World → Prop} {S : World → Prop}

/-- The head's end. -/
def TailAt (P : Program) (l : List Oper) (Q : Exit → Act → World → Prop) (n : Nat) (listed : Array Bool) (a : Act) (w : World) : Prop :=
  Region.seqB .any l.toArray (l.length - n) n listed = true ∧ wpList P l.toArray Q (l.drop n) a w
/-- What the tactics carry: the head's invariant is at hand. -/
def Head (P : Program) (l : List Oper) (Q : Exit → Act → World → Prop) (S : World → Prop) (n f : Nat) (listed : Array Bool) (a : Act) (w : World) : Prop :=
  HeadInv .any l.toArray n listed → wpAnyT P .any l.toArray Q S n (TailAt P l Q n) f listed a w
/-- All that is asked of the region's form. -/
def okTail (l : List Oper) (n : Nat) : Bool := Region.noSelect l.toArray && (decide (n < l.length) && (Region.sinkB .any l.toArray n && Region.chainB .any l.toArray n))
theorem okTail_of {n : Nat} (h : okTail l n = true) : Region.noSelect l.toArray = true ∧ n < l.length ∧ Region.sinkB .any l.toArray n = true ∧ Region.chainB .any l.toArray n = true := by
  simpa [okTail] using h

/-- The beginning. -/
theorem wp_region_head {id : Nat} {a : Act} {w : World} (n : Nat) (hm : P.follows .mixedOrders = true) (hk : okTail l n = true) (hS : S w.drew)
    (h : S w.drew → Head P l Q S n n (Array.replicate l.length false) a w.drew) : (Code.region id l.toArray true).wp P Q a w := by
  obtain ⟨_, hn, _, _⟩ := okTail_of hk
  have inv0 : HeadInv .any l.toArray n (Array.replicate l.length false) :=
    ⟨by simp, fun j oj _ hl => (by rw [getD_replicate_false] at hl; cases hl), fun t _ ht => getD_in (by simpa using ht) (getD_replicate_false _ _)⟩
  refine wp_region_any hm ?_
  have H := h hS inv0
  have := wpAny_of_T (Q := Q) (g := l.length - n) (fun listed a' w' (hL : TailAt P l Q n listed a' w') => by
    have := wpAny_of_seq (md := .any) (Q' := Q) (l.drop n) n listed a' w' (fun j => by simp [List.getElem?_drop]) (by simpa using hL.1) hL.2
    simpa using this) _ _ _ _ H
  rw [show n + (l.length - n) = l.length by omega] at this
  simpa using this
/-- Take number i first. -/
theorem head_take {n f : Nat} {listed : Array Bool} {a : Act} {w : World} (i : Nat) {oi : Oper} {v : Value} (hi : l[i]? = some oi) (hk : okTail l n = true)
    (hf : (Region.free .any l.toArray listed i && ((Region.ready .any l.toArray listed).contains i && decide (i < n))) = true)
    (hQ : ∀ c a w, Q (.panic c) (a.put oi.dst v) w → Q (.panic c) a w) (hS : S w) (hy : YieldsIf P l.toArray S oi v a)
    (h : Head P l Q S n f (listed.setIfInBounds i true) (a.put oi.dst v) w) : Head P l Q S n (f + 1) listed a w := fun inv => by
  obtain ⟨h1, hn, h2, h3⟩ := okTail_of hk
  simp only [Bool.and_eq_true, decide_eq_true_eq] at hf
  obtain ⟨f1, f2, f3⟩ := hf
  have hr : i ∈ Region.ready .any l.toArray listed := by simpa using f2
  have hi' : l.toArray[i]? = some oi := by simpa using hi
  exact wpAnyT_first hi' (Region.noSelect_spec h1) hQ h2 h3 (by simpa using hn) f3 (fun listed a w hL => seqB_ready hL.1) f listed a w inv (Region.free_spec hi' f1) hr hy hS (h (inv.set hr f3))
/-- Number i is the only one that may come up. -/
theorem head_one {n f : Nat} {listed : Array Bool} {a : Act} {w : World} (i : Nat) {o : Oper} (hi : l[i]? = some o)
    (hr : (decide (Region.ready .any l.toArray listed = [i]) && decide (i < n)) = true)
    (h : ∀ K : Act → World → Prop, Shut (∀ a w, S w → (S w → Head P l Q S n f (listed.setIfInBounds i true) a w) → K a w) → if Region.wanted o (yielded l.toArray a.tmps) = true then Oper.wp P o a w K Q else K (a.put o.dst undef) w) :
    Head P l Q S n (f + 1) listed a w := fun inv => by
  simp only [Bool.and_eq_true, decide_eq_true_eq] at hr
  obtain ⟨h1, h2⟩ := hr
  refine ⟨fun h0 => (by rw [h1] at h0; cases h0), fun j hj => ?_⟩
  have hji : j = i := by rw [h1] at hj; simpa using hj
  have inv' := inv.set hj (by omega)
  rw [hji] at inv' ⊢
  refine ⟨h2, wpOp_step (by simpa using hi) (fun K hK => h K (fun a' w' hS hW => hK a' w' ⟨hS, hW hS inv'⟩))⟩
/-- Two may come up. -/
theorem head_two {n f : Nat} {listed : Array Bool} {a : Act} {w : World} (i j : Nat) {o p : Oper} (hi : l[i]? = some o) (hj : l[j]? = some p)
    (hr : (decide (Region.ready .any l.toArray listed = [i, j]) && (decide (i < n) && decide (j < n))) = true)
    (h : ∀ K : Act → World → Prop, Shut (∀ a w, S w → (S w → Head P l Q S n f (listed.setIfInBounds i true) a w) → K a w) → if Region.wanted o (yielded l.toArray a.tmps) = true then Oper.wp P o a w K Q else K (a.put o.dst undef) w)
    (h' : ∀ K : Act → World → Prop, Shut (∀ a w, S w → (S w → Head P l Q S n f (listed.setIfInBounds j true) a w) → K a w) → if Region.wanted p (yielded l.toArray a.tmps) = true then Oper.wp P p a w K Q else K (a.put p.dst undef) w) :
    Head P l Q S n (f + 1) listed a w := fun inv => by
  simp only [Bool.and_eq_true, decide_eq_true_eq] at hr
  obtain ⟨h1, h2, h3⟩ := hr
  refine ⟨fun h0 => (by rw [h1] at h0; cases h0), fun k hk => ?_⟩
  have hkk : k = i ∨ k = j := by rw [h1] at hk; simpa using hk
  rcases hkk with hkk | hkk
  · have inv' := inv.set hk (by omega)
    rw [hkk] at inv' ⊢
    exact ⟨h2, wpOp_step (by simpa using hi) (fun K hK => h K (fun a' w' hS hW => hK a' w' ⟨hS, hW hS inv'⟩))⟩
  · have inv' := inv.set hk (by omega)
    rw [hkk] at inv' ⊢
    exact ⟨h3, wpOp_step (by simpa using hj) (fun K hK => h' K (fun a' w' hS hW => hK a' w' ⟨hS, hW hS inv'⟩))⟩
/-- The head is done. -/
theorem head_done {n : Nat} {listed : Array Bool} {a : Act} {w : World} (hq : Region.seqB .any l.toArray (l.length - n) n listed = true) (h : wpList P l.toArray Q (l.drop n) a w) : Head P l Q S n 0 listed a w :=
  fun _ => ⟨hq, h⟩
/-- An operation that reads, where the world meets S. -/
theorem yields_if {P : Program} {l : List Oper} {S : World → Prop} {o : Oper} {v : Value} {a : Act} (hw : Region.wanted o (yielded l.toArray a.tmps) = true) (h : ∀ w, S w → (execOp a.eval o).run P w = .ok (.value v) w) : YieldsIf P l.toArray S o v a :=
  .inl ⟨hw, h⟩
/-- head_take, its small premises by auto-parameters. -/
theorem head_takeR {n f : Nat} {listed : Array Bool} {a : Act} {w : World} (i : Nat) {oi : Oper} {v : Value} (hi : l[i]? = some oi) (h0 : ∀ w, S w → (execOp a.eval oi).run P w = .ok (.value v) w)
    (h : Head P l Q S n f (listed.setIfInBounds i true) (a.put oi.dst v) w) (hk : okTail l n = true := by kernel_rfl)
    (hf : (Region.free .any l.toArray listed i && ((Region.ready .any l.toArray listed).contains i && decide (i < n))) = true := by kernel_rfl)
    (hQ : ∀ c a w, Q (.panic c) (a.put oi.dst v) w → Q (.panic c) a w := by exact fun _ _ _ h => h) (hS : S w := by assumption) (hw : Region.wanted oi (yielded l.toArray a.tmps) = true := by rfl) : Head P l Q S n (f + 1) listed a w :=
  head_take i hi hk hf hQ hS (yields_if hw h0) h
end

end Go.Proofs.YtagiecajffhnpaaGreat

namespace Go.Proofs.YtagiecajffhnpaaGreat
set_option maxRecDepth 100000
open Go.ChangeShapes Go.WideShapes Go.ChangeAt Go.RowKit Go.Joins

/-- All but one cell is as it was. -/
def GeY (b : Addr) (w w' : World) : Prop := (∀ a v, a ≠ b → w.cell? a = some v → w'.cell? a = some v) ∧ (∀ a v, w.cell? a = some v → w.frozen? a = false → w'.frozen? a = false) ∧ w.heap.size ≤ w'.heap.size
theorem GeY.refl (b : Addr) (w : World) : GeY b w w := ⟨fun _ _ _ h => h, fun _ _ _ h => h, Nat.le_refl _⟩
theorem GeY.ge {b : Addr} {w w' w'' : World} (h : GeY b w w') (hb : ∃ u, w'.cell? b = some u) (hg : Ge w' w'') : GeY b w w'' := by
  refine ⟨fun a v hne hc => hg.keep (h.1 a v hne hc), fun a v hc hf => ?_, Nat.le_trans h.2.2 hg.size⟩
  by_cases e : a = b
  · subst e
    obtain ⟨u, hu⟩ := hb
    exact hg.keepF hu (h.2.1 a v hc hf)
  · exact hg.keepF (h.1 a v e hc) (h.2.1 a v hc hf)
theorem GeY.set {b : Addr} {w w' : World} (h : GeY b w w') (x : Value) : GeY b w (w'.setCell b x) := by
  refine ⟨fun a v hne hc => ?_, fun a v hc hf => ?_, by simpa using h.2.2⟩
  · rw [World.cell?_setCell_other _ _ _ _ (fun e => hne e.symm)]; exact h.1 a v hne hc
  · have := h.2.1 a v hc hf
    simpa using this
theorem GeY.mine {b : Addr} {w w' w'' : World} {base e sz n : Nat} {v : Value} {xs : List Value} (h : GeY b w w') (ho : w'.ownsRow base e sz v n xs) (hb : w.heap.size ≤ base) (hm : Mine w' w'' v) : GeY b w w'' := by
  refine ⟨fun a u hne hc => mine_cell hm (h.1 a u hne hc) (before_row ho (Nat.lt_of_lt_of_le (World.block_lt_of_cell? _ _ hc) hb)), fun a u hc hf => ?_, Nat.le_trans h.2.2 (World.grownBy.size hm)⟩
  have hlt := World.block_lt_of_cell? _ _ hc
  have hne := before_row ho (b := a.block) (Nat.lt_of_lt_of_le hlt hb)
  rw [World.frozen?_of_block (World.grownBy.block hm a.block (Nat.lt_of_lt_of_le hlt h.2.2) (fun e => hne _ e.symm rfl))]
  exact h.2.1 a u hc hf
theorem Sl.gey {b : Addr} {w w' : World} {v u : Value} {n sz : Nat} {l : List Int} (h : Sl w v n sz (icells l)) (hy : GeY b w w') (hb : w.cell? b = some u) (hu : ∀ x, u ≠ .int .i64 x) : Sl w' v n sz (icells l) := by
  obtain ⟨h1, p, cap, hv, hc⟩ := h
  refine ⟨h1, p, cap, hv, fun i y hy' => ?_⟩
  obtain ⟨b', o, hp, hcell⟩ := hc i y hy'
  refine ⟨b', o, hp, hy.1 _ _ (fun e => ?_) hcell⟩
  rw [← e, hcell] at hb
  have hmem := List.mem_of_getElem? hy'
  simp only [icells, List.mem_map] at hmem
  obtain ⟨x, _, rfl⟩ := hmem
  exact hu x (by simpa using hb.symm)
theorem grown_setY (w : World) (b i : Nat) (x : Value) : w.grownBy (w.setCell ⟨b, i, none⟩ x) (some b) := by
  refine ⟨rfl, rfl, rfl, by simp, fun k _ hne => ?_⟩
  have : b ≠ k := fun e => hne (by rw [e])
  simp [World.setCell, Array.getElem?_modify, this]
theorem owns_setY {w : World} {base e sz n b o : Nat} {v : Value} {xs : List Value} (h : w.ownsRow base e sz v n xs) (hb : b < base) (x : Value) : (w.setCell ⟨b, o, none⟩ x).ownsRow base e sz v n xs := by
  refine h.kept (grown_setY w b o x) ?_
  cases hv : v.ownBlock with
  | none => exact .inl rfl
  | some k =>
    right
    intro e
    have := (h.lt k hv).1
    simp at e
    omega
theorem mine_frozY {w w' : World} {v : Value} (hm : Mine w w' v) {a : Addr} {u : Value} (h : w.cell? a = some u) (hf : w.frozen? a = false) (hne : ∀ k, v.ownBlock = some k → a.block ≠ k) : w'.frozen? a = false := by
  rw [World.frozen?_of_block (World.grownBy.block hm a.block (World.block_lt_of_cell? _ _ h) (fun e => hne _ e.symm rfl))]
  exact hf
/-- The first i of E rows (in block G) are filled: row a with the integers D a, sz an element. -/
def RowsY (w : World) (G E i sz : Nat) (D : Nat → List Int) : Prop :=
  ∀ a, a < E → w.frozen? ⟨G, a, none⟩ = false ∧ (∃ u, w.cell? ⟨G, a, none⟩ = some u ∧ (∀ x, u ≠ .int .i64 x) ∧ (a < i → Sl w u E sz (icells (D a))) ∧ (i ≤ a → u = .slice none 0 0))
theorem RowsY.init {w : World} {B G E sz : Nat} {e : TypeId} {D : Nat → List Int} (h : w.ownsRow B e 1 (.slice (some ⟨G, 0, none⟩) E E) E (List.replicate E (.slice none 0 0))) : RowsY w G E 0 sz D := fun a ha =>
  ⟨h.frozenAt a, .slice none 0 0, by rw [h.cellAt a (by omega)]; simp [ha], fun x hx => (by cases hx), fun h => absurd h (Nat.not_lt_zero _), fun _ => rfl⟩
theorem RowsY.at {w : World} {G E i sz : Nat} {D : Nat → List Int} (h : RowsY w G E i sz D) (hi : i < E) : w.cell? ⟨G, i, none⟩ = some (.slice none 0 0) ∧ w.frozen? ⟨G, i, none⟩ = false := by
  obtain ⟨h1, u, h2, _, _, h5⟩ := h i hi
  rw [h5 (Nat.le_refl _)] at h2
  exact ⟨h2, h1⟩
theorem RowsY.next {w w' : World} {G E i sz : Nat} {D : Nat → List Int} {u : Value} (h : RowsY w G E i sz D) (hi : i < E) (hy : GeY ⟨G, i, none⟩ w w') (hc : w'.cell? ⟨G, i, none⟩ = some u) (hu : ∀ x, u ≠ .int .i64 x)
    (hs : Sl w' u E sz (icells (D i))) : RowsY w' G E (i + 1) sz D := fun a ha => by
  have h0 := h.at hi
  obtain ⟨h1, v, h2, h3, h4, h5⟩ := h a ha
  refine ⟨hy.2.1 _ _ h2 h1, ?_⟩
  by_cases e : a = i
  · subst e
    exact ⟨u, hc, hu, fun _ => hs, fun h => by omega⟩
  · exact ⟨v, hy.1 _ _ (fun h => by simp at h) h2, h3, fun h => Sl.gey (h4 (by omega)) hy h0.1 (fun x hx => by cases hx), fun h => h5 (by omega)⟩
theorem RowsY.ge {w w' : World} {G E i sz : Nat} {D : Nat → List Int} (h : RowsY w G E i sz D) (hg : Ge w w') : RowsY w' G E i sz D := fun a ha => by
  obtain ⟨h1, v, h2, h3, h4, h5⟩ := h a ha
  exact ⟨hg.keepF h2 h1, v, hg.keep h2, h3, fun h => Sl.ge (h4 h) hg, h5⟩
/-- E rows, row a with the integers D a. -/
def SlRows (w : World) (v : Value) (E sz : Nat) (D : Nat → List Int) : Prop :=
  ∃ b o c, v = .slice (some ⟨b, o, none⟩) E c ∧ ∀ a, a < E → ∃ p k, w.cell? ⟨b, o + a, none⟩ = some (.slice p E k) ∧ Sl w (.slice p E k) E sz (icells (D a))
theorem SlRows.ge {w w' : World} {v : Value} {E sz : Nat} {D : Nat → List Int} (h : SlRows w v E sz D) (hg : Ge w w') : SlRows w' v E sz D := by
  obtain ⟨b, o, c, hv, hc⟩ := h
  refine ⟨b, o, c, hv, fun a ha => ?_⟩
  obtain ⟨p, k, h1, h2⟩ := hc a ha
  exact ⟨p, k, hg.keep h1, Sl.ge h2 hg⟩
theorem RowsY.rows {w : World} {G E sz : Nat} {D : Nat → List Int} (h : RowsY w G E E sz D) : SlRows w (.slice (some ⟨G, 0, none⟩) E E) E sz D := by
  refine ⟨G, 0, E, rfl, fun a ha => ?_⟩
  obtain ⟨_, v, h2, _, h4, _⟩ := h a ha
  have h5 := h4 ha
  obtain ⟨_, p, k, hv, _⟩ := h5
  refine ⟨p, k, by rw [Nat.zero_add, h2, hv], by rw [← hv]; exact h4 ha⟩
end Go.Proofs.YtagiecajffhnpaaGreat

namespace Go.Proofs.YtagiecajffhnpaaGreat

/-- A fraction as the program keeps it. -/
structure Rt where
  n : Int
  d : Int
deriving DecidableEq, Repr

def zeroR : Rt := ⟨0, 0⟩
/-- The greatest common divisor of the magnitudes. -/
def gcdN (a b : Int) : Nat := Nat.gcd a.natAbs b.natAbs

def ratioOk (n d : Int) : Bool :=
  decide (1 ≤ d) && decide (d ≤ 1000000000000000) && decide (-1000000000000000000 ≤ n) && decide (n ≤ 1000000000000000000) && decide (gcdN n d = 1)

theorem ratioOk_iff {n d : Int} : ratioOk n d = true ↔ 1 ≤ d ∧ d ≤ 1000000000000000 ∧ -1000000000000000000 ≤ n ∧ n ≤ 1000000000000000000 ∧ gcdN n d = 1 := by
  simp [ratioOk, and_assoc]

/-- RatioOf, for arguments that are not the least int. -/
def ratioOf (n d : Int) : Rt :=
  if d = 0 then zeroR
  else
    let g := gcdN n d
    let a := n.natAbs / g
    let b := d.natAbs / g
    if 1000000000000000000 < a ∨ 1000000000000000 < b then zeroR
    else ⟨if (n < 0) ↔ (d < 0) then (a : Int) else -(a : Int), (b : Int)⟩

theorem gcdN_pos {n d : Int} (h : d ≠ 0) : 0 < gcdN n d := by
  unfold gcdN
  exact Nat.gcd_pos_of_pos_right _ (by omega)

theorem gcdN_dvd_left (n d : Int) : gcdN n d ∣ n.natAbs := Nat.gcd_dvd_left _ _
theorem gcdN_dvd_right (n d : Int) : gcdN n d ∣ d.natAbs := Nat.gcd_dvd_right _ _
theorem gcdN_le (n d : Int) (h : d ≠ 0) : gcdN n d ≤ d.natAbs := Nat.le_of_dvd (by omega) (gcdN_dvd_right n d)

/-- What RatioOf gives is zero or valid. -/
theorem ratioOf_ok (n d : Int) : ratioOf n d = zeroR ∨ ratioOk (ratioOf n d).n (ratioOf n d).d = true := by
  unfold ratioOf
  by_cases h0 : d = 0
  · left; simp [h0]
  · rw [if_neg h0]
    simp only
    split
    · left; rfl
    · rename_i h
      right
      have hg := gcdN_pos (n := n) h0
      obtain ⟨a, ha⟩ := gcdN_dvd_left n d
      obtain ⟨b, hb⟩ := gcdN_dvd_right n d
      have ea : n.natAbs / gcdN n d = a := by rw [ha]; exact Nat.mul_div_cancel_left a hg
      have eb : d.natAbs / gcdN n d = b := by rw [hb]; exact Nat.mul_div_cancel_left b hg
      rw [ea, eb] at h ⊢
      have hb0 : b ≠ 0 := fun e => by rw [e] at hb; omega
      have hc : Nat.gcd a b = 1 := by
        have : Nat.gcd (gcdN n d * a) (gcdN n d * b) = gcdN n d * Nat.gcd a b := Nat.gcd_mul_left _ _ _
        rw [← ha, ← hb] at this
        have h1 : gcdN n d * Nat.gcd a b = gcdN n d * 1 := by rw [← this, Nat.mul_one]; rfl
        exact Nat.eq_of_mul_eq_mul_left hg h1
      rw [ratioOk_iff]
      dsimp only
      refine ⟨by omega, by omega, ?_, ?_, ?_⟩
      · split <;> omega
      · split <;> omega
      · unfold gcdN
        have : (if (n < 0) ↔ (d < 0) then (a : Int) else -(a : Int)).natAbs = a := by split <;> simp
        rw [this]
        simpa using hc


end Go.Proofs.YtagiecajffhnpaaGreat

namespace Go.Proofs.YtagiecajffhnpaaGreat

open Go.RowKit

theorem iSize (n : Int) (w : World) (h0 : -9223372036854775808 ≤ n) (h1 : n ≤ 9223372036854775807) :
    Calls Tryz.prog 116 #[.int .i64 n] w fun e w' => e = .returned (.int .u64 (n.natAbs : Int)) ∧ w = w' := by
  by_cases h : n < 0
  · have e1 : IntKind.u64.wrap n = n + 18446744073709551616 := by simp [IntKind.wrap, IntKind.signed, IntKind.bits]; omega
    have e2 : IntKind.u64.wrap (-(n + 18446744073709551616)) = -n := by simp [IntKind.wrap, IntKind.signed, IntKind.bits]; omega
    go_enter Tryz.func116, Tryz.ntmps116
    go_wp2_with fail
    go_ret
    exact ⟨ret_int (by omega), rfl⟩
  · go_enter Tryz.func116, Tryz.ntmps116
    go_wp2_with fail
    go_ret
    exact ⟨ret_int (by omega), rfl⟩

set_option maxHeartbeats 400000 in
theorem iCommon (a b : Nat) (w : World) (ha : a ≤ 9223372036854775808) (hb : b ≤ 9223372036854775808) :
    Calls Tryz.prog 115 #[.int .u64 a, .int .u64 b] w fun e w' => e = .returned (.int .u64 (Nat.gcd a b : Nat)) ∧ Ge w w' := by
  go_enter Tryz.func115, Tryz.ntmps115
  go_wp2_with fail
  go_loopw [0, 1] (fun x y wr => ∃ p q : Nat, x = .int .u64 p ∧ y = .int .u64 q ∧ p ≤ 9223372036854775808 ∧ q ≤ 9223372036854775808 ∧ Hid (Nat.gcd a b = Nat.gcd p q) ∧ Ge w wr) (fun _ y _ => (intOf y).toNat)
  case atStart => exact ⟨a, b, rfl, rfl, ha, hb, rfl, Ge.refl _⟩
  case round =>
    obtain ⟨p, q, rfl, rfl, hp, hq, H, hg⟩ := hrel
    by_cases h0 : q = 0
    · subst h0
      go_wp2_with fail
      go_ret
      exact ⟨ret_int (by rw [H.out, Nat.gcd_zero_right]), hg⟩
    · have t : ((q : Int) != 0) = true := by simp [h0]
      have t' : ((q : Int) == 0) = false := by simp [h0]
      have hq0 : 0 < q := by omega
      have hm := Nat.mod_lt p hq0
      have H2 : Hid (Nat.gcd a b = Nat.gcd q (p % q)) := by rw [H.out, Nat.gcd_comm p q, Nat.gcd_rec q p, Nat.gcd_comm]; exact rfl
      clear h0 H
      go_wp2_with fail
      go_quiet (fail)
      go_wp2_with fail
      go_roundw
      case rel => exact ⟨q, p % q, by go_num, by go_num, hq, by omega, H2, kge⟩
      case measure => simp [intOf]; omega

/-- An int that is not the least one. -/
def Mid (n : Int) : Prop := -9223372036854775807 ≤ n ∧ n ≤ 9223372036854775807
theorem mid {n : Int} (h0 : -9223372036854775807 ≤ n) (h1 : n ≤ 9223372036854775807) : Mid n := ⟨h0, h1⟩

set_option maxHeartbeats 400000 in
theorem iGcdOf (a b : Int) (w : World) (ha : Mid a) (hb : Mid b) :
    Calls Tryz.prog 105 #[.int .i64 a, .int .i64 b] w fun e w' => e = .returned (.int .i64 (gcdN a b : Nat)) ∧ Ge w w' := by
  obtain ⟨a0, a1⟩ := ha
  obtain ⟨b0, b1⟩ := hb
  have t1 : (a == -9223372036854775808) = false := by simp; omega
  have t2 : (b == -9223372036854775808) = false := by simp; omega
  have hg : Nat.gcd a.natAbs b.natAbs ≤ 9223372036854775807 := by
    by_cases h : a.natAbs = 0
    · rw [h, Nat.gcd_zero_left]; omega
    · have := Nat.gcd_le_left b.natAbs (show 0 < a.natAbs by omega); omega
  obtain ⟨g, hg'⟩ : ∃ g, Nat.gcd a.natAbs b.natAbs = g := ⟨_, rfl⟩
  rw [hg'] at hg
  have HG := Lib.hid hg'
  clear hg'
  have HC := Lib.hid (fun w => by have := iCommon a.natAbs b.natAbs w (by omega) (by omega); rwa [HG.out] at this : ∀ w, Calls Tryz.prog 115 #[.int .u64 (a.natAbs : Int), .int .u64 (b.natAbs : Int)] w fun e w' => e = .returned (.int .u64 (g : Int)) ∧ Ge w w')
  have e1 : IntKind.i64.wrap (g : Int) = g := IntWalk.i64_in _ (by omega)
  go_enter Tryz.func105, Tryz.ntmps105
  go_wp2_with (first | (go_at_call 116; ((with_reducible refine (iSize _ _ (by omega) (by omega)).mono ?_); rintro e w' ⟨rfl, rfl⟩)) | (go_at_call 115; ((with_reducible refine (HC.out _).mono ?_); rintro e w' ⟨rfl, hb⟩)))
  go_ret
  exact ⟨ret_int (by rw [← HG.out]; exact rfl), kge⟩

set_option maxHeartbeats 400000 in
theorem iRatioOk (n d : Int) (w : World) :
    Calls Tryz.prog 82 #[.agg #[.int .i64 n, .int .i64 d]] w fun e w' => e = .returned (.bool (ratioOk n d)) ∧ Ge w w' := by
  by_cases h1 : 1 ≤ d
  · by_cases h2 : d ≤ 1000000000000000
    · by_cases h3 : -1000000000000000000 ≤ n
      · by_cases h4 : n ≤ 1000000000000000000
        · by_cases h5 : gcdN n d = 1
          · have t : (((gcdN n d : Nat) : Int) == 1) = true := by simp [h5]
            have H5 := Lib.hid h5
            clear h5
            go_enter Tryz.func82, Tryz.ntmps82
            go_wp2_with (go_at_call 105; ((with_reducible refine (iGcdOf _ _ _ (mid (by omega) (by omega)) (mid (by omega) (by omega))).mono ?_); rintro e w' ⟨rfl, hb⟩))
            go_ret
            exact ⟨ret_bool (by simp [ratioOk, h1, h2, h3, h4, H5.out]), kge⟩
          · have t : (((gcdN n d : Nat) : Int) == 1) = false := by simp; omega
            have H5 := Lib.hid h5
            clear h5
            go_enter Tryz.func82, Tryz.ntmps82
            go_wp2_with (go_at_call 105; ((with_reducible refine (iGcdOf _ _ _ (mid (by omega) (by omega)) (mid (by omega) (by omega))).mono ?_); rintro e w' ⟨rfl, hb⟩))
            go_ret
            exact ⟨ret_bool (by simp [ratioOk, h1, h2, h3, h4, H5.out]), kge⟩
        · go_enter Tryz.func82, Tryz.ntmps82
          go_wp2_with fail
          go_ret
          exact ⟨ret_bool (by simp [ratioOk]; omega), kge⟩
      · go_enter Tryz.func82, Tryz.ntmps82
        go_wp2_with fail
        go_ret
        exact ⟨ret_bool (by simp [ratioOk]; omega), kge⟩
    · go_enter Tryz.func82, Tryz.ntmps82
      go_wp2_with fail
      go_ret
      exact ⟨ret_bool (by simp [ratioOk]; omega), kge⟩
  · go_enter Tryz.func82, Tryz.ntmps82
    go_wp2_with fail
    go_ret
    exact ⟨ret_bool (by simp [ratioOk]; omega), kge⟩

set_option maxHeartbeats 800000 in
theorem iRatioOf (n d : Int) (w : World) (hn : Mid n) (hd : Mid d) :
    Calls Tryz.prog 81 #[.int .i64 n, .int .i64 d] w fun e w' => e = .returned (.agg #[.int .i64 (ratioOf n d).n, .int .i64 (ratioOf n d).d]) ∧ Ge w w' := by
  obtain ⟨n0, n1⟩ := hn
  obtain ⟨d0, d1⟩ := hd
  by_cases h0 : d = 0
  · subst h0
    have HR : Hid (ratioOf n 0 = ⟨0, 0⟩) := by simp [ratioOf, zeroR]; exact trivial
    go_enter Tryz.func81, Tryz.ntmps81
    go_wp2_with fail
    refine bodyPost_ret (v := .agg #[.int .i64 0, .int .i64 0]) (by simp [results, Tryz.results81, go_sem]) rfl ⟨by rw [HR.out], kge⟩
  · have t0 : (d == 0) = false := by simp [h0]
    have hg := gcdN_pos (n := n) h0
    have hgl := gcdN_le n d h0
    obtain ⟨a, ha⟩ := gcdN_dvd_left n d
    obtain ⟨b, hb⟩ := gcdN_dvd_right n d
    have ea : n.natAbs / gcdN n d = a := by rw [ha]; exact Nat.mul_div_cancel_left a hg
    have eb : d.natAbs / gcdN n d = b := by rw [hb]; exact Nat.mul_div_cancel_left b hg
    have la : a ≤ n.natAbs := by rw [← ea]; exact Nat.div_le_self _ _
    have lb : b ≤ d.natAbs := by rw [← eb]; exact Nat.div_le_self _ _
    obtain ⟨x, hx⟩ : ∃ x, n.natAbs = x := ⟨_, rfl⟩
    obtain ⟨y, hy⟩ : ∃ y, d.natAbs = y := ⟨_, rfl⟩
    obtain ⟨g, hg'⟩ : ∃ g, gcdN n d = g := ⟨_, rfl⟩
    have HR : Hid (ratioOf n d = if 1000000000000000000 < a ∨ 1000000000000000 < b then zeroR else ⟨if (n < 0) ↔ (d < 0) then (a : Int) else -(a : Int), (b : Int)⟩) := by
      unfold ratioOf; rw [if_neg h0]; simp only [ea, eb]; exact trivial
    have HC := Lib.hid (fun w => by have := iCommon x y w (by omega) (by omega); rwa [show Nat.gcd x y = g by rw [← hg', ← hx, ← hy]; rfl] at this : ∀ w, Calls Tryz.prog 115 #[.int .u64 (x : Int), .int .u64 (y : Int)] w fun e w' => e = .returned (.int .u64 (g : Int)) ∧ Ge w w')
    have HSn := Lib.hid (fun w => by have := iSize n w (by omega) (by omega); rwa [hx] at this : ∀ w, Calls Tryz.prog 116 #[.int .i64 n] w fun e w' => e = .returned (.int .u64 (x : Int)) ∧ w = w')
    have HSd := Lib.hid (fun w => by have := iSize d w (by omega) (by omega); rwa [hy] at this : ∀ w, Calls Tryz.prog 116 #[.int .i64 d] w fun e w' => e = .returned (.int .u64 (y : Int)) ∧ w = w')
    rw [hx, hg'] at ea
    rw [hy, hg'] at eb
    rw [hg'] at hg hgl
    rw [hy] at hgl
    have ea' : (x : Int) / (g : Int) = (a : Int) := by rw [← ea]; exact rfl
    have eb' : (y : Int) / (g : Int) = (b : Int) := by rw [← eb]; exact rfl
    have tg : ((g : Int) == 0) = false := by simp; omega
    have xb : x ≤ 9223372036854775807 := by omega
    have yb : y ≤ 9223372036854775807 := by omega
    have gb : g ≤ 9223372036854775807 := by omega
    have ab : a ≤ 9223372036854775807 := by omega
    have bb : b ≤ 9223372036854775807 := by omega
    clear ha hb ea eb la lb hx hy hg' hgl h0
    by_cases c1 : 1000000000000000000 < a ∨ 1000000000000000 < b
    · have HZ : Hid (ratioOf n d = ⟨0, 0⟩) := by rw [HR.out, if_pos c1]; exact rfl
      clear HR
      go_enter Tryz.func81, Tryz.ntmps81
      go_wp2_with (first | (go_at_call 115; ((with_reducible refine (HC.out _).mono ?_); rintro e w' ⟨rfl, hGe⟩); obtain ⟨hCe, hFr, hSz⟩ := Ge.rules hGe; (try simp at hSz); have hL0 : w.heap.size < w'.heap.size := (by omega)) | (go_at_call 116; ((with_reducible refine (HSn.out _).mono ?_); rintro e w' ⟨rfl, rfl⟩)) | (go_at_call 116; ((with_reducible refine (HSd.out _).mono ?_); rintro e w' ⟨rfl, rfl⟩)))
      all_goals exact bodyPost_ret (v := .agg #[.int .i64 0, .int .i64 0]) (by simp [results, Tryz.results81, go_sem, *]) rfl ⟨by rw [HZ.out], kge⟩
    · obtain ⟨c2, c3⟩ : a ≤ 1000000000000000000 ∧ b ≤ 1000000000000000 := by omega
      have HZ : Hid (ratioOf n d = ⟨if (n < 0) ↔ (d < 0) then (a : Int) else -(a : Int), (b : Int)⟩) := by rw [HR.out, if_neg c1]; exact rfl
      clear HR c1
      have e3 : IntKind.i64.wrap (a : Int) = a := IntWalk.i64_in _ (by omega)
      have e4 : IntKind.i64.wrap (b : Int) = b := IntWalk.i64_in _ (by omega)
      by_cases s1 : n < 0
      · by_cases s2 : d < 0
        · have HZ2 : Hid (ratioOf n d = ⟨(a : Int), (b : Int)⟩) := by rw [HZ.out, if_pos (by simp [s1, s2])]; exact rfl
          clear HZ
          have q1 : decide (n < 0) = true := by simp; omega
          have q2 : decide (d < 0) = true := by simp; omega
          go_enter Tryz.func81, Tryz.ntmps81
          go_wp2_with (first | (go_at_call 115; ((with_reducible refine (HC.out _).mono ?_); rintro e w' ⟨rfl, hGe⟩); obtain ⟨hCe, hFr, hSz⟩ := Ge.rules hGe; (try simp at hSz); have hL0 : w.heap.size < w'.heap.size := (by omega)) | (go_at_call 116; ((with_reducible refine (HSn.out _).mono ?_); rintro e w' ⟨rfl, rfl⟩)) | (go_at_call 116; ((with_reducible refine (HSd.out _).mono ?_); rintro e w' ⟨rfl, rfl⟩)))
          exact bodyPost_ret (v := .agg #[.int .i64 ((a : Int)), .int .i64 (b : Int)]) (by simp [results, Tryz.results81, go_sem, *]) rfl ⟨by rw [HZ2.out], kge⟩
        · have HZ2 : Hid (ratioOf n d = ⟨-(a : Int), (b : Int)⟩) := by rw [HZ.out, if_neg (by simp [s1, s2])]; exact rfl
          clear HZ
          have q1 : decide (n < 0) = true := by simp; omega
          have q2 : decide (d < 0) = false := by simp; omega
          go_enter Tryz.func81, Tryz.ntmps81
          go_wp2_with (first | (go_at_call 115; ((with_reducible refine (HC.out _).mono ?_); rintro e w' ⟨rfl, hGe⟩); obtain ⟨hCe, hFr, hSz⟩ := Ge.rules hGe; (try simp at hSz); have hL0 : w.heap.size < w'.heap.size := (by omega)) | (go_at_call 116; ((with_reducible refine (HSn.out _).mono ?_); rintro e w' ⟨rfl, rfl⟩)) | (go_at_call 116; ((with_reducible refine (HSd.out _).mono ?_); rintro e w' ⟨rfl, rfl⟩)))
          exact bodyPost_ret (v := .agg #[.int .i64 (-(a : Int)), .int .i64 (b : Int)]) (by simp [results, Tryz.results81, go_sem, *]) rfl ⟨by rw [HZ2.out], kge⟩
      · by_cases s2 : d < 0
        · have HZ2 : Hid (ratioOf n d = ⟨-(a : Int), (b : Int)⟩) := by rw [HZ.out, if_neg (by simp [s1, s2])]; exact rfl
          clear HZ
          have q1 : decide (n < 0) = false := by simp; omega
          have q2 : decide (d < 0) = true := by simp; omega
          go_enter Tryz.func81, Tryz.ntmps81
          go_wp2_with (first | (go_at_call 115; ((with_reducible refine (HC.out _).mono ?_); rintro e w' ⟨rfl, hGe⟩); obtain ⟨hCe, hFr, hSz⟩ := Ge.rules hGe; (try simp at hSz); have hL0 : w.heap.size < w'.heap.size := (by omega)) | (go_at_call 116; ((with_reducible refine (HSn.out _).mono ?_); rintro e w' ⟨rfl, rfl⟩)) | (go_at_call 116; ((with_reducible refine (HSd.out _).mono ?_); rintro e w' ⟨rfl, rfl⟩)))
          exact bodyPost_ret (v := .agg #[.int .i64 (-(a : Int)), .int .i64 (b : Int)]) (by simp [results, Tryz.results81, go_sem, *]) rfl ⟨by rw [HZ2.out], kge⟩
        · have HZ2 : Hid (ratioOf n d = ⟨(a : Int), (b : Int)⟩) := by rw [HZ.out, if_pos (by simp [s1, s2])]; exact rfl
          clear HZ
          have q1 : decide (n < 0) = false := by simp; omega
          have q2 : decide (d < 0) = false := by simp; omega
          go_enter Tryz.func81, Tryz.ntmps81
          go_wp2_with (first | (go_at_call 115; ((with_reducible refine (HC.out _).mono ?_); rintro e w' ⟨rfl, hGe⟩); obtain ⟨hCe, hFr, hSz⟩ := Ge.rules hGe; (try simp at hSz); have hL0 : w.heap.size < w'.heap.size := (by omega)) | (go_at_call 116; ((with_reducible refine (HSn.out _).mono ?_); rintro e w' ⟨rfl, rfl⟩)) | (go_at_call 116; ((with_reducible refine (HSd.out _).mono ?_); rintro e w' ⟨rfl, rfl⟩)))
          exact bodyPost_ret (v := .agg #[.int .i64 ((a : Int)), .int .i64 (b : Int)]) (by simp [results, Tryz.results81, go_sem, *]) rfl ⟨by rw [HZ2.out], kge⟩


end Go.Proofs.YtagiecajffhnpaaGreat

namespace Go.Proofs.YtagiecajffhnpaaGreat
set_option maxRecDepth 100000
open Go.ChangeShapes Go.WideShapes Go.ChangeAt Go.RowKit Go.Joins

/-- The greatest common divisor of a scale and weights. -/
def gcdF (S : Int) (L : List Wr) : Int := L.foldl (fun g e => (gcdN g e.w : Int)) S
theorem gcdF_snoc (S : Int) (L : List Wr) (e : Wr) : gcdF S (L ++ [e]) = (gcdN (gcdF S L) e.w : Int) := by simp [gcdF]
theorem gcdN_le_left {a b : Int} (h : 0 < a) : (0 : Int) < (gcdN a b : Int) ∧ (gcdN a b : Int) ≤ a := by
  have h1 := gcdN_dvd_left a b
  have h2 : 0 < gcdN a b := Nat.pos_of_ne_zero (fun e => by rw [e] at h1; have := Nat.eq_zero_of_zero_dvd h1; omega)
  have h3 := Nat.le_of_dvd (by omega) h1
  omega
theorem gcdF_bd : ∀ (L : List Wr) {S : Int}, 0 < S → 0 < gcdF S L ∧ gcdF S L ≤ S
  | [], S, h => ⟨h, Int.le_refl _⟩
  | e :: l, S, h => by
    have h1 := gcdN_le_left (b := e.w) h
    have h2 := gcdF_bd l (S := (gcdN S e.w : Int)) h1.1
    have h3 : gcdF S (e :: l) = gcdF (gcdN S e.w : Int) l := rfl
    rw [h3]
    omega
theorem tdiv_in {x g : Int} (hx : 0 ≤ x) (hg : 0 < g) : 0 ≤ x.tdiv g ∧ x.tdiv g ≤ x := by
  rw [Int.tdiv_eq_ediv_of_nonneg hx]
  exact ⟨Int.ediv_nonneg hx (by omega), Int.ediv_le_self _ hx⟩
/-- The weights divided. -/
def cutW (g : Int) (L : List Wr) : List Wr := L.map fun e => ⟨e.a, e.b, e.w.tdiv g⟩
theorem cutW_length (g : Int) (L : List Wr) : (cutW g L).length = L.length := by simp [cutW]
theorem cutW_snoc (g : Int) (L : List Wr) (e : Wr) : cutW g (L ++ [e]) = cutW g L ++ [⟨e.a, e.b, e.w.tdiv g⟩] := by simp [cutW]

end Go.Proofs.YtagiecajffhnpaaGreat

namespace Go.Proofs.YtagiecajffhnpaaGreat

open Go.RowKit

def sx (xs : List Int) (k : Nat) : Int := nth xs (k * 3)
def sy (xs : List Int) (k : Nat) : Int := nth xs (k * 3 + 1)
def ss (xs : List Int) (k : Nat) : Int := nth xs (k * 3 + 2)
def ordSq (xs : List Int) (j k : Nat) : Prop := sy xs j < sy xs k ∨ sy xs j = sy xs k ∧ sx xs j < sx xs k
def overSq (xs : List Int) (a b : Nat) : Prop := sx xs a < sx xs b + ss xs b ∧ sx xs b < sx xs a + ss xs a ∧ sy xs a < sy xs b + ss xs b ∧ sy xs b < sy xs a + ss xs a
def okSq (xs : List Int) (k : Nat) : Prop := 0 ≤ sx xs k ∧ sx xs k ≤ 200 ∧ 0 ≤ sy xs k ∧ sy xs k ≤ 200 ∧ 1 ≤ ss xs k ∧ ss xs k ≤ 200
def goodSq (xs : List Int) (k : Nat) : Prop := okSq xs k ∧ (0 < k → ordSq xs (k - 1) k) ∧ ∀ j, j < k → ¬ overSq xs k j
def areaSq (xs : List Int) : Nat → Int
  | 0 => 0
  | k + 1 => areaSq xs k + ss xs k * ss xs k
def minX (xs : List Int) : Nat → Int
  | 0 => 200
  | k + 1 => min (minX xs k) (sx xs k)
def minY (xs : List Int) : Nat → Int
  | 0 => 200
  | k + 1 => min (minY xs k) (sy xs k)
def rightSq (xs : List Int) : Nat → Int
  | 0 => 0
  | k + 1 => max (rightSq xs k) (sx xs k + ss xs k)
def lowSq (xs : List Int) : Nat → Int
  | 0 => 0
  | k + 1 => max (lowSq xs k) (sy xs k + ss xs k)
def tileP (n : Nat) (xs : List Int) : Prop := 1 ≤ n ∧ n ≤ 12 ∧ (∀ k, k < n → goodSq xs k) ∧ minX xs n = 0 ∧ minY xs n = 0 ∧ areaSq xs n = rightSq xs n * lowSq xs n
open Classical in

noncomputable def tileB (n : Nat) (xs : List Int) : Bool := if tileP n xs then true else false
theorem tileB_true {n : Nat} {xs : List Int} (h : tileP n xs) : tileB n xs = true := by simp [tileB, h]
theorem tileB_false {n : Nat} {xs : List Int} (h : ¬ tileP n xs) : tileB n xs = false := by simp [tileB, h]

theorem area_bd {xs : List Int} : ∀ (k : Nat), (∀ j, j < k → okSq xs j) → 0 ≤ areaSq xs k ∧ areaSq xs k ≤ 40000 * k
  | 0, _ => by simp [areaSq]
  | k + 1, h => by
    obtain ⟨a, b⟩ := area_bd k (fun j hj => h j (by omega))
    obtain ⟨_, _, _, _, c, d⟩ := h k (by omega)
    have e : ss xs k * ss xs k ≤ 200 * 200 := Int.mul_le_mul d d (by omega) (by omega)
    have f : 0 ≤ ss xs k * ss xs k := Int.mul_nonneg (by omega) (by omega)
    simp only [areaSq]
    omega
theorem right_bd {xs : List Int} : ∀ (k : Nat), (∀ j, j < k → okSq xs j) → 0 ≤ rightSq xs k ∧ rightSq xs k ≤ 400
  | 0, _ => by simp [rightSq]
  | k + 1, h => by
    obtain ⟨a, b⟩ := right_bd k (fun j hj => h j (by omega))
    obtain ⟨_, _, _, _, c, d⟩ := h k (by omega)
    simp only [rightSq]
    omega
theorem low_bd {xs : List Int} : ∀ (k : Nat), (∀ j, j < k → okSq xs j) → 0 ≤ lowSq xs k ∧ lowSq xs k ≤ 400
  | 0, _ => by simp [lowSq]
  | k + 1, h => by
    obtain ⟨a, b⟩ := low_bd k (fun j hj => h j (by omega))
    obtain ⟨_, _, _, _, c, d⟩ := h k (by omega)
    simp only [lowSq]
    omega
theorem minX_bd {xs : List Int} : ∀ (k : Nat), (∀ j, j < k → okSq xs j) → 0 ≤ minX xs k ∧ minX xs k ≤ 200
  | 0, _ => by simp [minX]
  | k + 1, h => by
    obtain ⟨a, b⟩ := minX_bd k (fun j hj => h j (by omega))
    obtain ⟨_, _, _, _, c, d⟩ := h k (by omega)
    simp only [minX]
    omega
theorem minY_bd {xs : List Int} : ∀ (k : Nat), (∀ j, j < k → okSq xs j) → 0 ≤ minY xs k ∧ minY xs k ≤ 200
  | 0, _ => by simp [minY]
  | k + 1, h => by
    obtain ⟨a, b⟩ := minY_bd k (fun j hj => h j (by omega))
    obtain ⟨_, _, _, _, c, d⟩ := h k (by omega)
    simp only [minY]
    omega
/-- -1, 0 or 1 -/
def cmpI (x y : Int) : Int := if x < y then -1 else if y < x then 1 else 0
def cmpSq (x1 y1 x2 y2 : Int) : Int := if cmpI y1 y2 ≠ 0 then cmpI y1 y2 else cmpI x1 x2
theorem cmpSq_lt {x1 y1 x2 y2 : Int} : cmpSq x1 y1 x2 y2 < 0 ↔ y1 < y2 ∨ y1 = y2 ∧ x1 < x2 := by
  unfold cmpSq cmpI
  repeat' split
  all_goals omega
end Go.Proofs.YtagiecajffhnpaaGreat
