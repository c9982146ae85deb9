/- Plain law: determinants by expansion. No program in sight. -/
import Derived.Test.YtagiecajffhnpaaGreatWSl
namespace Go.Proofs.YtagiecajffhnpaaGreat

open Go.RowKit

def sumTo (f : Nat → Int) : Nat → Int
  | 0 => 0
  | k + 1 => sumTo f k + f k
def sgn (j : Nat) : Int := if j % 2 = 0 then 1 else -1
theorem sgn_succ (j : Nat) : -sgn j = sgn (j + 1) := by
  unfold sgn
  by_cases h : j % 2 = 0
  · rw [if_pos h, if_neg (by omega)]
  · rw [if_neg h, if_pos (by omega)]; omega
/-- The determinant of some rows and columns of M. -/
def detF (M : Int → Int → Int) : List Int → List Int → Int
  | [], _ => 1
  | r :: rs, cols => sumTo (fun j => sgn j * M r (nth cols j) * detF M rs (cols.eraseIdx j)) cols.length
theorem nth_erase_mem {l : List Int} {j : Nat} : ∀ x ∈ l.eraseIdx j, x ∈ l := fun _ hx => List.mem_of_mem_eraseIdx hx
def absB (x B : Int) : Prop := -B ≤ x ∧ x ≤ B
theorem absB_mul {x y A B : Int} (hA : 0 ≤ A) (hx : absB x A) (hy : absB y B) (hB : 0 ≤ B) : absB (x * y) (A * B) := by
  unfold absB at *
  have h1 : (x * y).natAbs ≤ (A * B).natAbs := by
    rw [Int.natAbs_mul, Int.natAbs_mul]
    exact Nat.mul_le_mul (by omega) (by omega)
  have h2 : 0 ≤ A * B := Int.mul_nonneg hA hB
  omega
theorem sumTo_bd {f : Nat → Int} {B : Int} (hB : 0 ≤ B) : ∀ {k : Nat}, (∀ j, j < k → absB (f j) B) → absB (sumTo f k) (k * B)
  | 0, _ => by simp [sumTo, absB]
  | k + 1, h => by
    have h1 := sumTo_bd hB (k := k) (fun j hj => h j (by omega))
    have h2 := h k (by omega)
    have e : ((k + 1 : Nat) : Int) * B = k * B + B := by rw [Int.natCast_add, Int.add_mul]; simp
    simp only [sumTo, absB] at *
    rw [e]; omega
def detB (k : Nat) : Int := (10000 : Int) ^ k
theorem detB_pos (k : Nat) : 0 ≤ detB k := Int.pow_nonneg (by decide)
theorem detB_succ (k : Nat) : detB (k + 1) = 10000 * detB k := by unfold detB; rw [Int.pow_succ, Int.mul_comm]
theorem term_bd {M : Int → Int → Int} (hM : ∀ a b, absB (M a b) 2000) (j : Nat) (r c d B : Int) (hB : 0 ≤ B) (hd : absB d B) : absB (sgn j * M r c * d) (2000 * B) := by
  have h1 : absB (sgn j * M r c) 2000 := by
    have := hM r c
    unfold sgn absB at *
    split <;> omega
  exact absB_mul (by decide) h1 hd hB
theorem detF_bd {M : Int → Int → Int} (hM : ∀ a b, absB (M a b) 2000) : ∀ (rows cols : List Int), cols.length ≤ 5 → absB (detF M rows cols) (detB rows.length)
  | [], cols, _ => by simp [detF, detB, absB]
  | r :: rs, cols, h => by
    have h1 := sumTo_bd (f := fun j => sgn j * M r (nth cols j) * detF M rs (cols.eraseIdx j)) (B := 2000 * detB rs.length) (k := cols.length) (Int.mul_nonneg (by decide) (detB_pos _))
      (fun j _ => term_bd hM j r _ _ _ (detB_pos _) (detF_bd hM rs (cols.eraseIdx j) (Nat.le_trans (List.length_eraseIdx_le _ _) h)))
    have h2 : (cols.length : Int) * (2000 * detB rs.length) ≤ 5 * (2000 * detB rs.length) := Int.mul_le_mul_of_nonneg_right (by omega) (Int.mul_nonneg (by decide) (detB_pos _))
    have h3 := detB_succ rs.length
    simp only [detF, List.length_cons, absB] at *
    omega
/-- The sum up to the j-th column. -/
def detPart (M : Int → Int → Int) (r : Int) (rs cols : List Int) (j : Nat) : Int := sumTo (fun j => sgn j * M r (nth cols j) * detF M rs (cols.eraseIdx j)) j
theorem detPart_succ (M : Int → Int → Int) (r : Int) (rs cols : List Int) (j : Nat) : detPart M r rs cols (j + 1) = detPart M r rs cols j + sgn j * M r (nth cols j) * detF M rs (cols.eraseIdx j) := rfl
theorem detPart_skip (M : Int → Int → Int) (r : Int) (rs cols : List Int) (j : Nat) (h : M r (nth cols j) = 0) : detPart M r rs cols (j + 1) = detPart M r rs cols j := by
  rw [detPart_succ, h]; simp
theorem detF_part (M : Int → Int → Int) (r : Int) (rs cols : List Int) : detF M (r :: rs) cols = detPart M r rs cols cols.length := rfl
theorem detPart_bd {M : Int → Int → Int} (hM : ∀ a b, absB (M a b) 2000) (r : Int) (rs cols : List Int) (h : cols.length ≤ 5) {j : Nat} (hj : j ≤ cols.length) : absB (detPart M r rs cols j) (detB (rs.length + 1)) := by
  have h1 := sumTo_bd (f := fun j => sgn j * M r (nth cols j) * detF M rs (cols.eraseIdx j)) (B := 2000 * detB rs.length) (k := j) (Int.mul_nonneg (by decide) (detB_pos _))
    (fun j _ => term_bd hM j r _ _ _ (detB_pos _) (detF_bd hM rs (cols.eraseIdx j) (Nat.le_trans (List.length_eraseIdx_le _ _) h)))
  have h2 : (j : Int) * (2000 * detB rs.length) ≤ 5 * (2000 * detB rs.length) := Int.mul_le_mul_of_nonneg_right (by omega) (Int.mul_nonneg (by decide) (detB_pos _))
  have h3 := detB_succ rs.length
  simp only [detPart, absB] at *
  omega
theorem detB_le {k : Nat} (h : k ≤ 4) : detB k ≤ 10000000000000000 := by
  have : k = 0 ∨ k = 1 ∨ k = 2 ∨ k = 3 ∨ k = 4 := by omega
  rcases this with rfl | rfl | rfl | rfl | rfl <;> decide
end Go.Proofs.YtagiecajffhnpaaGreat
