/- The greatest squares again and again: plain law. No condition. -/
import Derived.Test.YtckjkfcphcnpdaaGreatWSortSq
namespace Go.Proofs.YtckjkfcphcnpdaaGreat

open Go.RowKit

structure CutS where
  w : Nat
  h : Nat
  x : Nat
  y : Nat
def stepC (s : CutS) : CutS := if s.h < s.w then ⟨s.w - s.h, s.h, s.x + s.h, s.y⟩ else ⟨s.w, s.h - s.w, s.x, s.y + s.w⟩
def stC (w h : Nat) : Nat → CutS
  | 0 => ⟨w, h, 0, 0⟩
  | k + 1 => stepC (stC w h k)
def stopC (w h k : Nat) : Prop := (stC w h k).w = 0 ∨ (stC w h k).h = 0
instance (w h k : Nat) : Decidable (stopC w h k) := by unfold stopC; exact inferInstance
/-- The first k squares: x, y and size of each. -/
def cutX (w h : Nat) : Nat → List Int
  | 0 => []
  | k + 1 => cutX w h k ++ [((stC w h k).x : Int), ((stC w h k).y : Int), ((min (stC w h k).w (stC w h k).h : Nat) : Int)]
theorem cutX_length (w h : Nat) : ∀ k, (cutX w h k).length = k * 3
  | 0 => rfl
  | k + 1 => by simp [cutX, cutX_length w h k]; omega
theorem cutX_nth {w h : Nat} : ∀ {k j : Nat}, j < k → nth (cutX w h k) (j * 3) = (stC w h j).x ∧ nth (cutX w h k) (j * 3 + 1) = (stC w h j).y
  | 0, j, hj => by omega
  | k + 1, j, hj => by
    have hl := cutX_length w h k
    have e1 : cutX w h (k + 1) = cutX w h k ++ [((stC w h k).x : Int), ((stC w h k).y : Int), ((min (stC w h k).w (stC w h k).h : Nat) : Int)] := rfl
    rw [e1]
    by_cases e : j = k
    · subst e
      unfold nth
      constructor
      · rw [List.getD_eq_getElem?_getD, List.getElem?_append_right (by omega), hl, Nat.sub_self]; rfl
      · rw [List.getD_eq_getElem?_getD, List.getElem?_append_right (by omega), hl, show j * 3 + 1 - j * 3 = 1 by omega]; rfl
    · have h1 := cutX_nth (w := w) (h := h) (k := k) (j := j) (by omega)
      unfold nth at *
      rw [List.getD_eq_getElem?_getD, List.getD_eq_getElem?_getD, List.getElem?_append_left (by omega), List.getElem?_append_left (by omega), ← List.getD_eq_getElem?_getD, ← List.getD_eq_getElem?_getD]
      exact h1
theorem stC_bd {w h : Nat} (hw : w ≤ 200) (hh : h ≤ 200) : ∀ k, (stC w h k).w + (stC w h k).x = w ∧ (stC w h k).h + (stC w h k).y = h
  | 0 => ⟨rfl, rfl⟩
  | k + 1 => by
    obtain ⟨h1, h2⟩ := stC_bd hw hh k
    unfold stC stepC
    split
    · constructor <;> simp only <;> omega
    · constructor <;> simp only <;> omega
theorem stC_next {w h k : Nat} (hs : ¬ stopC w h k) : (stC w h (k + 1)).y > (stC w h k).y ∨ (stC w h (k + 1)).y = (stC w h k).y ∧ (stC w h (k + 1)).x > (stC w h k).x := by
  unfold stopC at hs
  show (stepC (stC w h k)).y > _ ∨ _
  have e : stC w h (k + 1) = stepC (stC w h k) := rfl
  rw [e]
  unfold stepC
  split
  · right; exact ⟨rfl, by show _ + _ > _; omega⟩
  · left; show _ + _ > _; omega
theorem cut_ord {w h n : Nat} (hs : ∀ j, j < n → ¬ stopC w h j) : ordC n (cutX w h n) := fun k hk => by
  obtain ⟨a1, a2⟩ := cutX_nth (w := w) (h := h) (k := n) (j := k) (by omega)
  obtain ⟨b1, b2⟩ := cutX_nth (w := w) (h := h) (k := n) (j := k + 1) (by omega)
  rw [a1, a2, b1, b2]
  have := stC_next (hs k (by omega))
  intro hlt
  rw [cmpSq_lt] at hlt
  omega
/-- How many squares there are, if there are at most 12. -/
def cutR (w h : Nat) : Option Nat := (List.range 13).find? (fun k => decide (stopC w h k))
theorem cutR_some {w h k : Nat} (hk : k ≤ 12) (hs : ∀ j, j < k → ¬ stopC w h j) (h1 : stopC w h k) : cutR w h = some k := by
  unfold cutR
  rw [List.find?_range_eq_some]
  refine ⟨by simpa using h1, by simp; omega, fun j hj => by simpa using hs j hj⟩
theorem cutR_none {w h : Nat} (hs : ∀ j, j < 13 → ¬ stopC w h j) : cutR w h = none := by
  unfold cutR
  rw [List.find?_eq_none]
  intro x hx
  simp at hx
  simpa using hs x hx
def cutO (a b : Int) : Option Nat := if (1 ≤ a ∧ a ≤ 200) ∧ (1 ≤ b ∧ b ≤ 200) then cutR a.toNat b.toNat else none
end Go.Proofs.YtckjkfcphcnpdaaGreat
