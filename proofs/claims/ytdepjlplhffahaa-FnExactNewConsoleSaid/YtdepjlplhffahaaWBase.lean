/- The imports and small words of all walks of this seat. -/
import Derived.Test.YtdepjlplhffahaaRows
import Derived.WalkKit
import Derived.WalkSpells
import Derived.WalkLawsBesides
import Derived.Deep.RegionWith
import Derived.Deep.RegionHeld3
import Derived.Deep.QuietTactic
import Derived.BigQuiet
import Derived.StillTailTactics
import Derived.Deep.DeepFit
import Derived.Deep.LoopGhost
import Derived.Deep.Cut
import Derived.Deep.DeepCutAuto
import Derived.Deep.Light
import Derived.Lib.Hide
import Derived.Lib.SmallJoins
import Derived.Laws.MakeOwn
import Derived.Laws.OwnMore
namespace Go.Proofs.Ytdepjlplhffahaa
open Go.RowKit

theorem ret_str {a b : ByteArray} (h : a = b) : Ending.returned (.string a) = .returned (.string b) := by rw [h]
theorem ret_int {k : IntKind} {a b : Int} (h : a = b) : Ending.returned (.int k a) = .returned (.int k b) := by rw [h]
theorem ret_bool {a b : Bool} (h : a = b) : Ending.returned (.bool a) = .returned (.bool b) := by rw [h]

/-- What was there when w was is in w' as it was. -/
def Ge (w w' : World) : Prop := Below w.heap.size w w'
theorem Ge.refl (w : World) : Ge w w := Below.refl _ _
theorem Ge.size {a b : World} (h : Ge a b) : a.heap.size ≤ b.heap.size := Below.size h
theorem Ge.trans {a b c : World} (h : Ge a b) (k : Ge b c) : Ge a c := Below.trans h (Below.mono k (Ge.size h))
theorem Ge.alloc {a w : World} (h : Ge a w) (o : Obj) : Ge a (w.alloc o) := Below.alloc h (Ge.size h) o
theorem Ge.drew {a w : World} (h : Ge a w) : Ge a w.drew := Below.drew h
theorem Ge.drewN {a w : World} (h : Ge a w) (n : Nat) : Ge a (w.drewN n) := below_drewN h n
theorem Ge.setCell {a w : World} (h : Ge a w) {p : Addr} (hp : a.heap.size ≤ p.block) (u : Value) : Ge a (w.setCell p u) := Below.setCell h hp u
theorem Ge.grown {a w w' : World} {row : Option Nat} (h : Ge a w) (hg : w.grownBy w' row) (hr : ∀ k, row = some k → a.heap.size ≤ k) : Ge a w' :=
  Below.grown h hg (Ge.size h) hr
theorem Ge.cell {a w : World} (h : Ge a w) {p : Addr} (hp : p.block < a.heap.size) : w.cell? p = a.cell? p := Below.cell h hp
theorem Ge.frozen {a w : World} (h : Ge a w) {p : Addr} (hp : p.block < a.heap.size) : w.frozen? p = a.frozen? p := Below.frozen h hp
theorem Ge.below {a w : World} (h : Ge a w) : Below a.heap.size a w := h
/-- The two rules that the walk takes behind a call. -/
theorem Ge.rules {W w1 : World} (h : Ge W w1) : (∀ b o, b < W.heap.size → w1.cell? ⟨b, o, none⟩ = W.cell? ⟨b, o, none⟩) ∧ (∀ b o, b < W.heap.size → w1.frozen? ⟨b, o, none⟩ = W.frozen? ⟨b, o, none⟩) ∧ W.heap.size ≤ w1.heap.size :=
  ⟨fun b o hb => h.cell (p := ⟨b, o, none⟩) hb, fun b o hb => h.frozen (p := ⟨b, o, none⟩) hb, h.size⟩

theorem Ge.keep {W w1 : World} (h : Ge W w1) {a : Addr} {v : Value} (hc : W.cell? a = some v) : w1.cell? a = some v := (h.cell (World.block_lt_of_cell? W a hc)).trans hc

end Go.Proofs.Ytdepjlplhffahaa
