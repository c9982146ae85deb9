/- Plain law: bounds of determinants of up to five rows. No program in sight. -/
import Derived.Test.YtahicfpnmjofhaaPlLap
namespace Go.Proofs.Ytahicfpnmjofhaa

open Go.RowKit

def detE (k : Nat) : Int := (4000 : Int) ^ k
theorem detE_pos (k : Nat) : 0 ≤ detE k := Int.pow_nonneg (by decide)
theorem detE_succ (k : Nat) : detE (k + 1) = 4000 * detE k := by unfold detE; rw [Int.pow_succ, Int.mul_comm]
theorem term_bdE {M : Int → Int → Int} (hM : ∀ a b, absB (M a b) 800) (j : Nat) (r c d B : Int) (hB : 0 ≤ B) (hd : absB d B) : absB (sgn j * M r c * d) (800 * B) := by
  have h1 : absB (sgn j * M r c) 800 := by
    have := hM r c
    unfold sgn absB at *
    split <;> omega
  exact absB_mul (by decide) h1 hd hB
theorem detF_bdE {M : Int → Int → Int} (hM : ∀ a b, absB (M a b) 800) : ∀ (rows cols : List Int), cols.length ≤ 5 → absB (detF M rows cols) (detE rows.length)
  | [], cols, _ => by simp [detF, detE, absB]
  | r :: rs, cols, h => by
    have h1 := sumTo_bd (f := fun j => sgn j * M r (nth cols j) * detF M rs (cols.eraseIdx j)) (B := 800 * detE rs.length) (k := cols.length) (Int.mul_nonneg (by decide) (detE_pos _))
      (fun j _ => term_bdE hM j r _ _ _ (detE_pos _) (detF_bdE hM rs (cols.eraseIdx j) (Nat.le_trans (List.length_eraseIdx_le _ _) h)))
    have h2 : (cols.length : Int) * (800 * detE rs.length) ≤ 5 * (800 * detE rs.length) := Int.mul_le_mul_of_nonneg_right (by omega) (Int.mul_nonneg (by decide) (detE_pos _))
    have h3 := detE_succ rs.length
    simp only [detF, List.length_cons, absB] at *
    omega
theorem detPart_bdE {M : Int → Int → Int} (hM : ∀ a b, absB (M a b) 800) (r : Int) (rs cols : List Int) (h : cols.length ≤ 5) {j : Nat} (hj : j ≤ cols.length) : absB (detPart M r rs cols j) (detE (rs.length + 1)) := by
  have h1 := sumTo_bd (f := fun j => sgn j * M r (nth cols j) * detF M rs (cols.eraseIdx j)) (B := 800 * detE rs.length) (k := j) (Int.mul_nonneg (by decide) (detE_pos _))
    (fun j _ => term_bdE hM j r _ _ _ (detE_pos _) (detF_bdE hM rs (cols.eraseIdx j) (Nat.le_trans (List.length_eraseIdx_le _ _) h)))
  have h2 : (j : Int) * (800 * detE rs.length) ≤ 5 * (800 * detE rs.length) := Int.mul_le_mul_of_nonneg_right (by omega) (Int.mul_nonneg (by decide) (detE_pos _))
  have h3 := detE_succ rs.length
  simp only [detPart, absB] at *
  omega
theorem detE_le {k : Nat} (h : k ≤ 5) : detE k ≤ 1024000000000000000 := by
  have : k = 0 ∨ k = 1 ∨ k = 2 ∨ k = 3 ∨ k = 4 ∨ k = 5 := by omega
  rcases this with rfl | rfl | rfl | rfl | rfl | rfl <;> decide
end Go.Proofs.Ytahicfpnmjofhaa
