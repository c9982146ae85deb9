/- The imports and small words of all walks of this seat. -/
import Derived.Test.YtagiecajffhnpaaGreatRows
import Derived.WalkKit
import Derived.WalkSpells
import Derived.WalkLawsBesides
import Derived.Deep.RegionWith
import Derived.Deep.RegionHeld3
import Derived.Deep.QuietTactic
import Derived.BigQuiet
import Derived.StillTailTactics
import Derived.Deep.DeepFit
import Derived.Deep.LoopGhost
import Derived.Deep.Cut
import Derived.Deep.DeepCutAuto
import Derived.Deep.Light
import Derived.Lib.Hide
import Derived.Lib.SmallJoins
import Derived.Laws.MakeOwn
import Derived.Laws.OwnMore
namespace Go.Proofs.YtagiecajffhnpaaGreat

open Go.RowKit

theorem ret_str {a b : ByteArray} (h : a = b) : Ending.returned (.string a) = .returned (.string b) := by rw [h]
theorem ret_int {k : IntKind} {a b : Int} (h : a = b) : Ending.returned (.int k a) = .returned (.int k b) := by rw [h]
theorem ret_bool {a b : Bool} (h : a = b) : Ending.returned (.bool a) = .returned (.bool b) := by rw [h]

/-- What was there when w was is in w' as it was. -/
def Ge (w w' : World) : Prop := Below w.heap.size w w'
theorem Ge.refl (w : World) : Ge w w := Below.refl _ _
theorem Ge.size {a b : World} (h : Ge a b) : a.heap.size ≤ b.heap.size := Below.size h
theorem Ge.trans {a b c : World} (h : Ge a b) (k : Ge b c) : Ge a c := Below.trans h (Below.mono k (Ge.size h))
theorem Ge.alloc {a w : World} (h : Ge a w) (o : Obj) : Ge a (w.alloc o) := Below.alloc h (Ge.size h) o
theorem Ge.drew {a w : World} (h : Ge a w) : Ge a w.drew := Below.drew h
theorem Ge.drewN {a w : World} (h : Ge a w) (n : Nat) : Ge a (w.drewN n) := below_drewN h n
theorem Ge.setCell {a w : World} (h : Ge a w) {p : Addr} (hp : a.heap.size ≤ p.block) (u : Value) : Ge a (w.setCell p u) := Below.setCell h hp u
theorem Ge.grown {a w w' : World} {row : Option Nat} (h : Ge a w) (hg : w.grownBy w' row) (hr : ∀ k, row = some k → a.heap.size ≤ k) : Ge a w' :=
  Below.grown h hg (Ge.size h) hr
theorem Ge.cell {a w : World} (h : Ge a w) {p : Addr} (hp : p.block < a.heap.size) : w.cell? p = a.cell? p := Below.cell h hp
theorem Ge.frozen {a w : World} (h : Ge a w) {p : Addr} (hp : p.block < a.heap.size) : w.frozen? p = a.frozen? p := Below.frozen h hp
theorem Ge.below {a w : World} (h : Ge a w) : Below a.heap.size a w := h
/-- The two rules that the walk takes behind a call. -/
theorem Ge.rules {W w1 : World} (h : Ge W w1) : (∀ b o, b < W.heap.size → w1.cell? ⟨b, o, none⟩ = W.cell? ⟨b, o, none⟩) ∧ (∀ b o, b < W.heap.size → w1.frozen? ⟨b, o, none⟩ = W.frozen? ⟨b, o, none⟩) ∧ W.heap.size ≤ w1.heap.size :=
  ⟨fun b o hb => h.cell (p := ⟨b, o, none⟩) hb, fun b o hb => h.frozen (p := ⟨b, o, none⟩) hb, h.size⟩

theorem Ge.keep {W w1 : World} (h : Ge W w1) {a : Addr} {v : Value} (hc : W.cell? a = some v) : w1.cell? a = some v := (h.cell (World.block_lt_of_cell? W a hc)).trans hc

theorem Ge.keepF {W w1 : World} (h : Ge W w1) {a : Addr} {v : Value} (hc : W.cell? a = some v) (hf : W.frozen? a = false) : w1.frozen? a = false := (h.frozen (World.block_lt_of_cell? W a hc)).trans hf
/-- The cell a holds v, and may be written. -/
def Own (w : World) (a : Addr) (v : Value) : Prop := w.cell? a = some v ∧ w.frozen? a = false
theorem own_new {w : World} {cs : Array Value} {t : TypeId} {i : Nat} {v : Value} {b : Nat} (hb : b = w.heap.size) (h : cs[i]? = some v) : Own (w.alloc (.cells cs t)) ⟨b, i, none⟩ v := by
  subst hb
  refine ⟨?_, frozen_of_row (w.alloc (.cells cs t)) w.heap.size i cs t (heap_alloc_new w _)⟩
  rw [cell_of_row (w.alloc (.cells cs t)) w.heap.size i cs t (0, 0) (heap_alloc_new w _)]
  exact h
theorem Ge.own {w w' : World} (hg : Ge w w') {a : Addr} {v : Value} (h : Own w a v) : Own w' a v :=
  ⟨hg.keep h.1, (hg.frozen (World.block_lt_of_cell? w a h.1)).trans h.2⟩
theorem cell_new {w : World} {cs : Array Value} {t : TypeId} {i : Nat} {v : Value} {b : Nat} (hb : b = w.heap.size) (h : cs[i]? = some v) : (w.alloc (.cells cs t)).cell? ⟨b, i, none⟩ = some v := (own_new hb h).1
theorem froz_new {w : World} {cs : Array Value} {t : TypeId} {i : Nat} {b : Nat} {v : Value} (hb : b = w.heap.size) (h : cs[i]? = some v) : (w.alloc (.cells cs t)).frozen? ⟨b, i, none⟩ = false := (own_new hb h).2
theorem own_old {w : World} {o : Obj} {a : Addr} {v : Value} (h : Own w a v) : Own (w.alloc o) a v := Ge.own ((Ge.refl w).alloc o) h
theorem own_drew {w : World} {a : Addr} {v : Value} (h : Own w a v) : Own w.drew a v := h
theorem cell_drew {w : World} {a : Addr} {v : Value} (h : w.cell? a = some v) : w.drew.cell? a = some v := h
theorem cell_drewN {w : World} {a : Addr} {v : Value} {n : Nat} (h : w.cell? a = some v) : (w.drewN n).cell? a = some v := h
theorem cell_alloc {w : World} {o : Obj} {a : Addr} {v : Value} (h : w.cell? a = some v) : (w.alloc o).cell? a = some v := Ge.keep ((Ge.refl w).alloc o) h
theorem froz_drew {w : World} {a : Addr} (h : w.frozen? a = false) : w.drew.frozen? a = false := h
/-- What a cell holds, whatever it is. -/
def cv (w : World) (a : Addr) : Value := (w.cell? a).getD undef
theorem cv_some {w : World} {a : Addr} {v : Value} (h : w.cell? a = some v) : w.cell? a = some (cv w a) := by unfold cv; rw [h]; rfl
theorem cv_drew {w : World} {a : Addr} (h : w.cell? a = some (cv w a)) : w.drew.cell? a = some (cv w.drew a) := h
theorem cv_alloc {w : World} {o : Obj} {a : Addr} (h : w.cell? a = some (cv w a)) : (w.alloc o).cell? a = some (cv (w.alloc o) a) := cv_some (cell_alloc h)
theorem cell_set {w : World} {a b : Addr} {u v : Value} (h : w.cell? a = some v) (hne : b ≠ a) : (w.setCell b u).cell? a = some v := (World.cell?_setCell_other w b a u hne).trans h
theorem froz_set {w : World} {a b : Addr} {u : Value} (h : w.frozen? a = false) : (w.setCell b u).frozen? a = false := by simpa using h
theorem cv_set {w : World} {a b : Addr} {u : Value} (h : w.cell? a = some (cv w a)) : (w.setCell b u).cell? a = some (cv (w.setCell b u) a) := by
  by_cases e : b = a
  · subst e; exact cv_some (World.cell?_setCell_same w b u h)
  · exact cv_some ((World.cell?_setCell_other w b a u e).trans h)

theorem hnA {α : Type} (l : List α) (i : Nat) (a : α) : l.toArray.setIfInBounds i a = (l.set i a).toArray := List.setIfInBounds_toArray ..
theorem hnB {α : Type} (l : List α) (a b : α) : (a :: l).set 0 b = b :: l := rfl
theorem hnC {α : Type} (l : List α) (n : Nat) (a b : α) : (a :: l).set (n + 1) b = a :: l.set n b := rfl
/-- Closers, as terms: the tactics stand in the auto-parameters. -/
theorem kge {a b : World} (h : Ge a b := by (repeat (first | with_reducible exact Ge.refl _ | assumption | with_reducible refine Ge.drew ?_ | with_reducible refine Ge.drewN ?_ _ | with_reducible refine Ge.alloc ?_ _ | (with_reducible refine Ge.setCell ?_ (by first | (simp; done) | omega | (simp; omega)) _) | with_reducible refine Ge.trans ?_ (by assumption)))) : Ge a b := h
theorem kcell {w : World} {a : Addr} {v : Value} (h : w.cell? a = some v := by repeat (first | assumption | exact (own_new (by simp) rfl).1 | with_reducible refine cell_drew ?_ | with_reducible refine cell_drewN ?_ | with_reducible refine cell_alloc ?_ | (simp [*]; done))) : w.cell? a = some v := h
theorem kown {w : World} {a : Addr} {v : Value} (h : Own w a v := by repeat (first | exact ⟨by assumption, by assumption⟩ | exact own_new (by simp) rfl | with_reducible refine own_drew ?_ | with_reducible refine own_old ?_ | (constructor <;> (simp [*]; done)))) : Own w a v := h
theorem kch {p : Prop} (h : p := by (repeat (first | assumption | with_reducible exact Ge.refl _ | with_reducible refine cv_drew ?_ | with_reducible refine cv_alloc ?_ | with_reducible refine cv_set ?_ | (with_reducible apply cv_some; assumption) | with_reducible refine cell_drew ?_ | with_reducible refine cell_drewN ?_ | ((with_reducible refine cell_new ?_ ?_); (focus (simp; done)); rfl) | with_reducible refine cell_alloc ?_ | with_reducible refine cell_same2 ?_ | ((with_reducible refine cell_set2 ?_ ?_); focus (first | (simp; done) | (intro hE; simp at hE; done) | (intro hE; simp at hE; omega))) | with_reducible refine Ge.drew ?_ | with_reducible refine Ge.drewN ?_ _ | with_reducible refine Ge.alloc ?_ _ | ((with_reducible refine Ge.setCell ?_ ?_ _); rotate_left; focus (first | (simp; done) | omega | (simp; omega))) | with_reducible refine Ge.trans ?_ (by assumption) | with_reducible refine Ge.keep (by assumption) ?_))) : p := h
end Go.Proofs.YtagiecajffhnpaaGreat
