/- Plain law: tilings as flat lists of integers (x, y, size). No condition. -/
import Derived.Test.YtckjkfcphcnpdaaGreatWFlat
namespace Go.Proofs.YtckjkfcphcnpdaaGreat

open Go.RowKit

def sx (xs : List Int) (k : Nat) : Int := nth xs (k * 3)
def sy (xs : List Int) (k : Nat) : Int := nth xs (k * 3 + 1)
def ss (xs : List Int) (k : Nat) : Int := nth xs (k * 3 + 2)
def ordSq (xs : List Int) (j k : Nat) : Prop := sy xs j < sy xs k ∨ sy xs j = sy xs k ∧ sx xs j < sx xs k
def overSq (xs : List Int) (a b : Nat) : Prop := sx xs a < sx xs b + ss xs b ∧ sx xs b < sx xs a + ss xs a ∧ sy xs a < sy xs b + ss xs b ∧ sy xs b < sy xs a + ss xs a
def okSq (xs : List Int) (k : Nat) : Prop := 0 ≤ sx xs k ∧ sx xs k ≤ 200 ∧ 0 ≤ sy xs k ∧ sy xs k ≤ 200 ∧ 1 ≤ ss xs k ∧ ss xs k ≤ 200
def goodSq (xs : List Int) (k : Nat) : Prop := okSq xs k ∧ (0 < k → ordSq xs (k - 1) k) ∧ ∀ j, j < k → ¬ overSq xs k j
def areaSq (xs : List Int) : Nat → Int
  | 0 => 0
  | k + 1 => areaSq xs k + ss xs k * ss xs k
def minX (xs : List Int) : Nat → Int
  | 0 => 200
  | k + 1 => min (minX xs k) (sx xs k)
def minY (xs : List Int) : Nat → Int
  | 0 => 200
  | k + 1 => min (minY xs k) (sy xs k)
def rightSq (xs : List Int) : Nat → Int
  | 0 => 0
  | k + 1 => max (rightSq xs k) (sx xs k + ss xs k)
def lowSq (xs : List Int) : Nat → Int
  | 0 => 0
  | k + 1 => max (lowSq xs k) (sy xs k + ss xs k)
def tileP (n : Nat) (xs : List Int) : Prop := 1 ≤ n ∧ n ≤ 12 ∧ (∀ k, k < n → goodSq xs k) ∧ minX xs n = 0 ∧ minY xs n = 0 ∧ areaSq xs n = rightSq xs n * lowSq xs n
open Classical in

noncomputable def tileB (n : Nat) (xs : List Int) : Bool := if tileP n xs then true else false
theorem tileB_true {n : Nat} {xs : List Int} (h : tileP n xs) : tileB n xs = true := by simp [tileB, h]
theorem tileB_false {n : Nat} {xs : List Int} (h : ¬ tileP n xs) : tileB n xs = false := by simp [tileB, h]

theorem area_bd {xs : List Int} : ∀ (k : Nat), (∀ j, j < k → okSq xs j) → 0 ≤ areaSq xs k ∧ areaSq xs k ≤ 40000 * k
  | 0, _ => by simp [areaSq]
  | k + 1, h => by
    obtain ⟨a, b⟩ := area_bd k (fun j hj => h j (by omega))
    obtain ⟨_, _, _, _, c, d⟩ := h k (by omega)
    have e : ss xs k * ss xs k ≤ 200 * 200 := Int.mul_le_mul d d (by omega) (by omega)
    have f : 0 ≤ ss xs k * ss xs k := Int.mul_nonneg (by omega) (by omega)
    simp only [areaSq]
    omega
theorem right_bd {xs : List Int} : ∀ (k : Nat), (∀ j, j < k → okSq xs j) → 0 ≤ rightSq xs k ∧ rightSq xs k ≤ 400
  | 0, _ => by simp [rightSq]
  | k + 1, h => by
    obtain ⟨a, b⟩ := right_bd k (fun j hj => h j (by omega))
    obtain ⟨_, _, _, _, c, d⟩ := h k (by omega)
    simp only [rightSq]
    omega
theorem low_bd {xs : List Int} : ∀ (k : Nat), (∀ j, j < k → okSq xs j) → 0 ≤ lowSq xs k ∧ lowSq xs k ≤ 400
  | 0, _ => by simp [lowSq]
  | k + 1, h => by
    obtain ⟨a, b⟩ := low_bd k (fun j hj => h j (by omega))
    obtain ⟨_, _, _, _, c, d⟩ := h k (by omega)
    simp only [lowSq]
    omega
theorem minX_bd {xs : List Int} : ∀ (k : Nat), (∀ j, j < k → okSq xs j) → 0 ≤ minX xs k ∧ minX xs k ≤ 200
  | 0, _ => by simp [minX]
  | k + 1, h => by
    obtain ⟨a, b⟩ := minX_bd k (fun j hj => h j (by omega))
    obtain ⟨_, _, _, _, c, d⟩ := h k (by omega)
    simp only [minX]
    omega
theorem minY_bd {xs : List Int} : ∀ (k : Nat), (∀ j, j < k → okSq xs j) → 0 ≤ minY xs k ∧ minY xs k ≤ 200
  | 0, _ => by simp [minY]
  | k + 1, h => by
    obtain ⟨a, b⟩ := minY_bd k (fun j hj => h j (by omega))
    obtain ⟨_, _, _, _, c, d⟩ := h k (by omega)
    simp only [minY]
    omega
/-- In order, the first has the least y. -/
theorem minY_first {xs : List Int} : ∀ (k : Nat), (∀ j, j < k + 1 → goodSq xs j) → minY xs (k + 1) = sy xs 0 ∧ sy xs 0 ≤ sy xs k
  | 0, h => by
    obtain ⟨⟨_, _, _, a, _⟩, _⟩ := h 0 (by omega)
    simp only [minY]; omega
  | k + 1, h => by
    obtain ⟨a, b⟩ := minY_first k (fun j hj => h j (by omega))
    have c := (h (k + 1) (by omega)).2.1 (by omega)
    simp only [Nat.add_sub_cancel] at c
    have d : minY xs (k + 1 + 1) = min (minY xs (k + 1)) (sy xs (k + 1)) := rfl
    rw [d, a]
    unfold ordSq at c
    omega
/-- The least x, from the first on. -/
def minX1 (xs : List Int) : Nat → Int
  | 0 => sx xs 0
  | k + 1 => min (minX1 xs k) (sx xs k)
theorem minX1_eq {xs : List Int} : ∀ (k : Nat), (∀ j, j < k + 1 → okSq xs j) → minX1 xs (k + 1) = minX xs (k + 1)
  | 0, h => by
    obtain ⟨_, b, _⟩ := h 0 (by omega)
    simp only [minX1, minX]; omega
  | k + 1, h => by
    have a := minX1_eq k (fun j hj => h j (by omega))
    show min (minX1 xs (k + 1)) _ = min (minX xs (k + 1)) _
    rw [a]

/-- -1, 0 or 1 -/
def cmpI (x y : Int) : Int := if x < y then -1 else if y < x then 1 else 0
def cmpSq (x1 y1 x2 y2 : Int) : Int := if cmpI y1 y2 ≠ 0 then cmpI y1 y2 else cmpI x1 x2
theorem cmpSq_lt {x1 y1 x2 y2 : Int} : cmpSq x1 y1 x2 y2 < 0 ↔ y1 < y2 ∨ y1 = y2 ∧ x1 < x2 := by
  unfold cmpSq cmpI
  repeat' split
  all_goals omega
end Go.Proofs.YtckjkfcphcnpdaaGreat
