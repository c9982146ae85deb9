/- Slices of structs of integers, by their numbers one behind the other. -/
import Derived.Test.YtagiecajffhnpaaGreatWSl
import Derived.Test.YtagiecajffhnpaaGreatPlNet
namespace Go.Proofs.YtagiecajffhnpaaGreat

open Go.RowKit

/-- The slice v of n structs of m integers reads as the numbers xs. -/
def SlF (w : World) (v : Value) (n m : Nat) (xs : List Int) : Prop := Sl w v n m (icells xs)
theorem SlF.ge {w w' : World} {v : Value} {n m : Nat} {xs : List Int} (h : SlF w v n m xs) (hg : Ge w w') : SlF w' v n m xs := Sl.ge h hg
theorem SlF.of_owns {w : World} {base : Nat} {e : TypeId} {v : Value} {n m : Nat} {xs : List Int} (h : w.ownsRow base e m v n (icells xs)) : SlF w v n m xs := Sl.of_owns h
theorem SlF.length {w : World} {v : Value} {n m : Nat} {xs : List Int} (h : SlF w v n m xs) : xs.length = n * m := by have := h.1; rwa [icells_length] at this
theorem SlF.open {w : World} {v : Value} {n m : Nat} {xs : List Int} (h : SlF w v n m xs) : ∃ p cap, v = .slice p n cap ∧ ∀ i, i < n * m → ∃ b o, p = some ⟨b, o, none⟩ ∧ w.cell? ⟨b, o + i, none⟩ = some (.int .i64 (nth xs i)) := by
  have hl := h.length
  obtain ⟨_, p, cap, hv, hc⟩ := h
  refine ⟨p, cap, hv, fun i hi => ?_⟩
  exact hc i (.int .i64 (nth xs i)) (by simp [icells, hi, nth_eq, hl])

/-- The three cells of element k. -/
theorem three_cells {w : World} {p : Option Addr} {n : Nat} {xs : List Int} (h : ∀ i, i < n * 3 → ∃ b o, p = some ⟨b, o, none⟩ ∧ w.cell? ⟨b, o + i, none⟩ = some (.int .i64 (nth xs i))) {k : Nat} (hk : k < n) :
    ∃ b o, p = some ⟨b, o, none⟩ ∧ w.cell? ⟨b, o + k * 3, none⟩ = some (.int .i64 (nth xs (k * 3))) ∧ w.cell? ⟨b, o + k * 3 + 1, none⟩ = some (.int .i64 (nth xs (k * 3 + 1))) ∧ w.cell? ⟨b, o + k * 3 + 2, none⟩ = some (.int .i64 (nth xs (k * 3 + 2))) := by
  obtain ⟨b, o, rfl, h0⟩ := h (k * 3) (by omega)
  obtain ⟨b', o', e1, h1⟩ := h (k * 3 + 1) (by omega)
  obtain ⟨b'', o'', e2, h2⟩ := h (k * 3 + 2) (by omega)
  simp only [Option.some.injEq, Addr.mk.injEq, and_true] at e1 e2
  obtain ⟨rfl, rfl⟩ := e1
  obtain ⟨rfl, rfl⟩ := e2
  exact ⟨b, o, rfl, h0, h1, h2⟩

theorem two_cells {w : World} {p : Option Addr} {n : Nat} {xs : List Int} (h : ∀ i, i < n * 2 → ∃ b o, p = some ⟨b, o, none⟩ ∧ w.cell? ⟨b, o + i, none⟩ = some (.int .i64 (nth xs i))) {k : Nat} (hk : k < n) :
    ∃ b o, p = some ⟨b, o, none⟩ ∧ w.cell? ⟨b, o + k * 2, none⟩ = some (.int .i64 (nth xs (k * 2))) ∧ w.cell? ⟨b, o + k * 2 + 1, none⟩ = some (.int .i64 (nth xs (k * 2 + 1))) := by
  obtain ⟨b, o, rfl, h0⟩ := h (k * 2) (by omega)
  obtain ⟨b', o', e1, h1⟩ := h (k * 2 + 1) (by omega)
  simp only [Option.some.injEq, Addr.mk.injEq, and_true] at e1
  obtain ⟨rfl, rfl⟩ := e1
  exact ⟨b, o, rfl, h0, h1⟩

end Go.Proofs.YtagiecajffhnpaaGreat
