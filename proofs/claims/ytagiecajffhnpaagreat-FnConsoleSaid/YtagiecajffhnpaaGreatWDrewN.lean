/- Behind a draw: a cursor's block alone has turned. No condition. -/
import Derived.Test.YtagiecajffhnpaaGreatWNetAt
import Derived.Test.YtagiecajffhnpaaGreatWCur
namespace Go.Proofs.YtagiecajffhnpaaGreat
set_option maxRecDepth 100000
open Go.ChangeShapes Go.WideShapes Go.ChangeAt Go.RowKit Go.Joins

theorem CurD.mine {w w' : World} {g : Nat} {v : Value} (h : Cur w g) (hm : Mine w w' v) (hne : ∀ k, v.ownBlock = some k → g < k) : Cur w' g := by
  obtain ⟨p, n, cap, i, z, c, c0, c1, c2, f0, f1, f2, i0, i1, n1, hb, hcg, hg⟩ := h
  have lg := World.block_lt_of_cell? w _ c0
  have hno : ∀ k, v.ownBlock = some k → g ≠ k := fun k hk => by have := hne k hk; omega
  have hf : ∀ i, w'.frozen? ⟨g, i, none⟩ = w.frozen? ⟨g, i, none⟩ := fun i => by
    have hbk := hm.block g lg (fun e => hno g e.symm rfl)
    unfold World.frozen?
    simp only [hbk]
  exact Cur.mk i hb hcg i0 i1 n1 (mine_cell hm c2 hno) (mine_cell hm c0 hno) (mine_cell hm c1 hno) ((hf 0).trans f0) ((hf 1).trans f1) ((hf 2).trans f2) (hg.grown hm (fun k hk => by have := hne k hk; omega))
theorem CurD.ge {w w' : World} {g : Nat} (h : Cur w g) (hg : Ge w w') : Cur w' g := by
  have hm : Mine w w' (.slice none 0 0) := ⟨hg.os, hg.tape, hg.output, hg.size, fun k hk _ => hg.below.block k hk⟩
  exact CurD.mine h hm (fun k hk => by simp [Value.ownBlock] at hk)
theorem CurD.set {w : World} {g b i : Nat} {x : Value} (h : Cur w g) (hb : g < b) : Cur (w.setCell ⟨b, i, none⟩ x) g := by
  obtain ⟨p, n, cap, j, z, c, c0, c1, c2, f0, f1, f2, i0, i1, n1, hB, hcg, hg⟩ := h
  have ne : ∀ j : Nat, (⟨b, i, none⟩ : Addr) ≠ ⟨g, j, none⟩ := fun j e => by have := congrArg Addr.block e; simp at this; omega
  exact Cur.mk j hB hcg i0 i1 n1 (cell_set2 (ne 2) c2) (cell_set2 (ne 0) c0) (cell_set2 (ne 1) c1) (froz_set f0) (froz_set f1) (froz_set f2) (hg.setCell (by show c.heap.size ≤ b; omega) _)
theorem Drew.cur {a b : World} {g : Nat} (h : Drew a b g) : Cur b g := h.1
theorem Drew.geN {a b c : World} {g : Nat} (h : Drew a b g) (hg : Ge b c) : Drew a c g :=
  ⟨CurD.ge h.1 hg, grown_trans h.2 ⟨hg.os, hg.tape, hg.output, hg.size, fun k hk _ => hg.below.block k hk⟩⟩
theorem Drew.self {a : World} {g : Nat} (h : Cur a g) : Drew a a g := ⟨h, ⟨rfl, rfl, rfl, Nat.le_refl _, fun _ _ _ => rfl⟩⟩
theorem Drew.cellN {a b : World} {g : Nat} (h : Drew a b g) {c : Addr} {v : Value} (hc : a.cell? c = some v) (hne : c.block ≠ g) : b.cell? c = some v :=
  World.grownBy.cell h.2 hc (fun e => hne (by simpa using e))
theorem Drew.frozN {a b : World} {g : Nat} (h : Drew a b g) {c : Addr} {v : Value} (hc : a.cell? c = some v) (hne : c.block ≠ g) (hf : a.frozen? c = false) : b.frozen? c = false := by
  rw [World.frozen?_of_block (World.grownBy.block h.2 c.block (World.block_lt_of_cell? _ _ hc) (fun e => hne (by simpa using e)))]
  exact hf
theorem Drew.ownsN {a b : World} {g : Nat} (h : Drew a b g) {base e sz n : Nat} {v : Value} {xs : List Value} (ho : a.ownsRow base e sz v n xs) (hb : g < base) : b.ownsRow base e sz v n xs := by
  refine ho.kept h.2 ?_
  cases hv : v.ownBlock with
  | none => exact .inl rfl
  | some k =>
    right
    intro e'
    have := (ho.lt k hv).1
    simp at e'
    omega
theorem NetAt.drew {w w' : World} {R G n g : Nat} {E S : Int} {v : Value} {l : List Wr} (h : NetAt w R G n E S v l) (hd : Drew w w' g) (hR : g < R) (hG : g < G) : NetAt w' R G n E S v l :=
  have k : ∀ i : Nat, (⟨G, i, none⟩ : Addr).block ≠ g := fun i => by show G ≠ g; omega
  ⟨hd.cellN h.c0 (k 0), hd.cellN h.c1 (k 1), hd.cellN h.c2 (k 2), hd.cellN h.c3 (k 3), hd.frozN h.c3 (k 3) h.f3, hd.ownsN h.own (by omega), fun i hi => by
    obtain ⟨u, h1, h2⟩ := h.res i hi
    have kr : (⟨R, i, none⟩ : Addr).block ≠ g := by show R ≠ g; omega
    exact ⟨u, hd.cellN h1 kr, hd.frozN h1 kr h2⟩⟩
end Go.Proofs.YtagiecajffhnpaaGreat
