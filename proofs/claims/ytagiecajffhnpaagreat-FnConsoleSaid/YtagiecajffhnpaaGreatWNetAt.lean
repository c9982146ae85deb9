/- A network in a variable of the call's own. No condition. -/
import Derived.Test.YtagiecajffhnpaaGreatWPut
namespace Go.Proofs.YtagiecajffhnpaaGreat
set_option maxRecDepth 100000
open Go.ChangeShapes Go.WideShapes Go.ChangeAt Go.RowKit Go.Joins

/-- A network in a variable of the call's own, and the result's block. -/
structure NetAt (w : World) (R G : Nat) (n : Nat) (E S : Int) (v : Value) (l : List Wr) : Prop where
  c0 : w.cell? ⟨G, 0, none⟩ = some (.int .i64 (n : Int))
  c1 : w.cell? ⟨G, 1, none⟩ = some (.int .i64 E)
  c2 : w.cell? ⟨G, 2, none⟩ = some (.int .i64 S)
  c3 : w.cell? ⟨G, 3, none⟩ = some v
  f3 : w.frozen? ⟨G, 3, none⟩ = false
  own : w.ownsRow (G + 1) 45 3 v l.length (icells (flatW l))
  res : ∀ i, i < 4 → ∃ u, w.cell? ⟨R, i, none⟩ = some u ∧ w.frozen? ⟨R, i, none⟩ = false
theorem NetAt.ge {w w' : World} {R G n : Nat} {E S : Int} {v : Value} {l : List Wr} (h : NetAt w R G n E S v l) (hg : Ge w w') : NetAt w' R G n E S v l :=
  ⟨hg.keep h.c0, hg.keep h.c1, hg.keep h.c2, hg.keep h.c3, hg.keepF h.c3 h.f3, hg.owns h.own, fun i hi => by obtain ⟨u, h1, h2⟩ := h.res i hi; exact ⟨u, hg.keep h1, hg.keepF h1 h2⟩⟩
theorem NetAt.put {w : World} {R G n : Nat} {E S : Int} {v v' : Value} {l l' : List Wr} (h : NetAt w R G n E S v l) (hR : R < G) (ho : w.ownsRow (G + 1) 45 3 v' l'.length (icells (flatW l'))) : NetAt (w.setCell ⟨G, 3, none⟩ v') R G n E S v' l' :=
  ⟨cell_set2 (by simp) h.c0, cell_set2 (by simp) h.c1, cell_set2 (by simp) h.c2, World.cell?_setCell_same _ _ _ h.c3, froz_set h.f3, by
    refine ho.kept (grown_setN w G 3 v') ?_
    cases hv : v'.ownBlock with
    | none => exact .inl rfl
    | some k =>
      right
      intro e'
      have := (ho.lt k hv).1
      simp at e'
      omega, fun i hi => by
    obtain ⟨u, h1, h2⟩ := h.res i hi
    exact ⟨u, cell_set2 (fun e => by have := congrArg Addr.block e; simp at this; omega) h1, froz_set h2⟩⟩
/-- A block of four cells that may be written. -/
def ResD (w : World) (R : Nat) : Prop := ∀ i, i < 4 → ∃ u, w.cell? ⟨R, i, none⟩ = some u ∧ w.frozen? ⟨R, i, none⟩ = false
theorem ResD.new (w : World) (v0 v1 v2 v3 : Value) (t : TypeId) : ResD (w.alloc (.cells #[v0, v1, v2, v3] t)) w.heap.size := fun i hi => by
  have k : ∃ u, (#[v0, v1, v2, v3] : Array Value)[i]? = some u := ⟨_, Array.getElem?_eq_getElem (by simpa using hi)⟩
  obtain ⟨u, hu⟩ := k
  exact ⟨u, cell_new rfl hu, froz_new rfl hu⟩
theorem ResD.ge {w w' : World} {R : Nat} (h : ResD w R) (hg : Ge w w') : ResD w' R := fun i hi => by
  obtain ⟨u, h1, h2⟩ := h i hi
  exact ⟨u, hg.keep h1, hg.keepF h1 h2⟩
theorem NetAt.start {w : World} {R n : Nat} {E S : Int} (hr : ResD w R) : NetAt (w.alloc (.cells #[.int .i64 (n : Int), .int .i64 E, .int .i64 S, .slice none 0 0] 33)) R w.heap.size n E S (.slice none 0 0) [] :=
  ⟨cell_new rfl rfl, cell_new rfl rfl, cell_new rfl rfl, cell_new rfl rfl, froz_new rfl (v := .slice none 0 0) rfl, ⟨rfl, .inl ⟨rfl, rfl⟩⟩, hr.ge (Ge.alloc (Ge.refl _) _)⟩
theorem NetAt.setE {w : World} {R G n : Nat} {E S E' : Int} {v : Value} {l : List Wr} (h : NetAt w R G n E S v l) (hR : R < G) : NetAt (w.setCell ⟨G, 1, none⟩ (.int .i64 E')) R G n E' S v l :=
  ⟨cell_set2 (by simp) h.c0, World.cell?_setCell_same _ _ _ h.c1, cell_set2 (by simp) h.c2, cell_set2 (by simp) h.c3, froz_set h.f3, by
    refine h.own.kept (grown_setN w G 1 _) ?_
    cases hv : v.ownBlock with
    | none => exact .inl rfl
    | some k =>
      right
      intro e'
      have := (h.own.lt k hv).1
      simp at e'
      omega, fun i hi => by
    obtain ⟨u, h1, h2⟩ := h.res i hi
    exact ⟨u, cell_set2 (fun e => by have := congrArg Addr.block e; simp at this; omega) h1, froz_set h2⟩⟩
theorem own_setD {w : World} {base e sz n R i : Nat} {v x : Value} {xs : List Value} (h : w.ownsRow base e sz v n xs) (hR : R < base) : (w.setCell ⟨R, i, none⟩ x).ownsRow base e sz v n xs := by
  refine h.kept (grown_setN w R i x) ?_
  cases hv : v.ownBlock with
  | none => exact .inl rfl
  | some k =>
    right
    intro e'
    have := (h.lt k hv).1
    simp at e'
    omega
theorem NetAt.app {w w1 w8 : World} {R G n : Nat} {E S : Int} {v v8 : Value} {l : List Wr} {x : Wr} (h : NetAt w R G n E S v l) (hR : R < G) (hg : Ge w w1) (hm : Mine w1 w8 v)
    (ho : w8.ownsRow (G + 1) 45 3 v8 (l.length + 1) (icells (flatW l ++ [x.a, x.b, x.w]))) :
    NetAt (w8.setCell ⟨G, 3, none⟩ v8) R G n E S v8 (l ++ [x]) ∧ w8.cell? ⟨G, 3, none⟩ = some v ∧ w8.frozen? ⟨G, 3, none⟩ = false := by
  have h1 := h.ge hg
  have nG := before_row h1.own (b := G) (by omega)
  have nR := before_row h1.own (b := R) (by omega)
  have k3 := mine_cell hm h1.c3 nG
  have kf := mine_frozN hm h1.c3 h1.f3 nG
  refine ⟨⟨cell_set2 (by simp) (mine_cell hm h1.c0 nG), cell_set2 (by simp) (mine_cell hm h1.c1 nG), cell_set2 (by simp) (mine_cell hm h1.c2 nG), World.cell?_setCell_same _ _ _ k3, froz_set kf, ?_, fun i hi => ?_⟩, k3, kf⟩
  · have : (l ++ [x]).length = l.length + 1 := by simp
    rw [this, flatW_snoc]
    exact own_setD ho (by omega)
  · obtain ⟨u, r1, r2⟩ := h1.res i hi
    exact ⟨u, cell_set2 (fun e => by have := congrArg Addr.block e; simp at this; omega) (mine_cell hm r1 nR), froz_set (mine_frozN hm r1 r2 nR)⟩
theorem NetAt.setS {w : World} {R G n : Nat} {E S S' : Int} {v : Value} {l : List Wr} (h : NetAt w R G n E S v l) (hR : R < G) : NetAt (w.setCell ⟨G, 2, none⟩ (.int .i64 S')) R G n E S' v l :=
  ⟨cell_set2 (by simp) h.c0, cell_set2 (by simp) h.c1, World.cell?_setCell_same _ _ _ h.c2, cell_set2 (by simp) h.c3, froz_set h.f3, own_setD h.own (by omega), fun i hi => by
    obtain ⟨u, h1, h2⟩ := h.res i hi
    exact ⟨u, cell_set2 (fun e => by have := congrArg Addr.block e; simp at this; omega) h1, froz_set h2⟩⟩
theorem NetAt.setW {w : World} {R G n q m cap j : Nat} {E S : Int} {l l' : List Wr} {x : Int} (h : NetAt w R G n E S (.slice (some ⟨q, 0, none⟩) m cap) l) (hR : R < G) (hm : l.length = m) (hl : l'.length = m) (hf : flatW l' = (flatW l).set j x) :
    NetAt (w.setCell ⟨q, j, none⟩ (.int .i64 x)) R G n E S (.slice (some ⟨q, 0, none⟩) m cap) l' ∧ G < q := by
  subst hm
  have hs := h.own.stored j (.int .i64 x)
  have hq := (h.own.lt q rfl).1
  have k : ∀ i : Nat, (⟨q, j, none⟩ : Addr) ≠ ⟨G, i, none⟩ := fun i e => by have := congrArg Addr.block e; simp at this; omega
  refine ⟨⟨cell_set2 (k 0) h.c0, cell_set2 (k 1) h.c1, cell_set2 (k 2) h.c2, cell_set2 (k 3) h.c3, froz_set h.f3, ?_, fun i hi => ?_⟩, by omega⟩
  · rw [hl, hf, ← icells_set]
    exact hs.1
  · obtain ⟨u, h1, h2⟩ := h.res i hi
    exact ⟨u, cell_set2 (fun e => by have := congrArg Addr.block e; simp at this; omega) h1, froz_set h2⟩
end Go.Proofs.YtagiecajffhnpaaGreat
