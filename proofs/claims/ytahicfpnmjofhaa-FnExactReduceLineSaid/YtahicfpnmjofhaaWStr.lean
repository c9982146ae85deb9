/- Slices of strings; Join. No condition. -/
import Derived.Test.YtahicfpnmjofhaaWSl
import Derived.Test.YtahicfpnmjofhaaPlText
import Derived.Test.YtahicfpnmjofhaaShelf
import Derived.Lib.Join
import Derived.Test.YtahicfpnmjofhaaWEqInt
namespace Go.Proofs.Ytahicfpnmjofhaa

open Go.RowKit

/-- Texts as cells. -/
def scells (l : List (List UInt8)) : List Value := l.map fun s => .string (bstr s)
theorem scells_length (l : List (List UInt8)) : (scells l).length = l.length := by simp [scells]
/-- A slice of strings that reads as l. -/
def SlS (w : World) (v : Value) (l : List (List UInt8)) : Prop := Sl w v l.length 1 (scells l)
theorem SlS.ge {w w' : World} {v : Value} {l : List (List UInt8)} (h : SlS w v l) (hg : Ge w w') : SlS w' v l := Sl.ge h hg
theorem SlS.of_owns {w : World} {base : Nat} {e : TypeId} {v : Value} {l : List (List UInt8)} (h : w.ownsRow base e 1 v l.length (scells l)) : SlS w v l := Sl.of_owns h
def tnth (l : List (List UInt8)) (i : Nat) : List UInt8 := l.getD i []
theorem tnth_eq (l : List (List UInt8)) (i : Nat) (h : i < l.length) : tnth l i = l[i] := by simp [tnth, List.getD, h]
theorem SlS.openN {w : World} {v : Value} {l : List (List UInt8)} {n : Nat} (h : SlS w v l) (hn : l.length = n) : ∃ p cap, v = .slice p n cap ∧ ∀ i, i < n → ∃ b o, p = some ⟨b, o, none⟩ ∧ w.cell? ⟨b, o + i, none⟩ = some (.string (bstr (tnth l i))) := by
  subst hn
  obtain ⟨_, p, cap, hv, hc⟩ := h
  refine ⟨p, cap, hv, fun i hi => ?_⟩
  exact hc i (.string (bstr (tnth l i))) (by simp [scells, hi, tnth_eq])

theorem inf_str : (Try.prog.info? 9).map (fun i => (i.zero, i.size, i.bytes)) = some (some (.string ⟨#[]⟩), 1, 16) := by kernel_rfl
theorem lens_le (l : List (List UInt8)) (B : Nat) (h : ∀ x ∈ l, x.length ≤ B) : Lib.lens l ≤ B * l.length := by
  induction l with
  | nil => simp [Lib.lens]
  | cons x r ih =>
    have h1 := ih (fun y hy => h y (List.mem_cons_of_mem _ hy))
    have h2 := h x (by simp)
    simp only [Lib.lens, List.map_cons, List.sum_cons, List.length_cons] at h1 ⊢
    rw [Nat.mul_succ]
    omega
theorem joinTail_le (sep : List UInt8) (l : List (List UInt8)) (B : Nat) (h : ∀ x ∈ l, x.length ≤ B) : (Lib.joinTail sep l).length ≤ (sep.length + B) * l.length := by
  rw [Lib.joinTail_length, Nat.add_mul]
  have := lens_le l B h
  omega
theorem join_le (sep : List UInt8) (l : List (List UInt8)) (B : Nat) (h : ∀ x ∈ l, x.length ≤ B) : (Lib.join l sep).length ≤ (sep.length + B) * l.length := by
  cases l with
  | nil => simp [Lib.join_nil]
  | cons x r =>
    rw [Lib.join_cons, List.length_append]
    have h1 := joinTail_le sep r B (fun y hy => h y (List.mem_cons_of_mem _ hy))
    have h2 := h x (by simp)
    simp only [List.length_cons, Nat.mul_succ]
    omega
theorem joinTail_snoc (sep : List UInt8) (l : List (List UInt8)) (y : List UInt8) : Lib.joinTail sep (l ++ [y]) = Lib.joinTail sep l ++ (sep ++ y) := by
  simp [Lib.joinTail]

end Go.Proofs.Ytahicfpnmjofhaa
