/- The values of equal resistors, number by number: plain law. No program in sight. -/
import Derived.Test.YtmcnfhpjjmbdmaaPlFr
import Derived.Test.YtmcnfhpjjmbdmaaWFlR
namespace Go.Proofs.Ytmcnfhpjjmbdmaa
set_option maxRecDepth 100000

def valV : Nat → List Rt
  | 1 => V1
  | 2 => v2
  | 3 => v3
  | 4 => v4
  | 5 => v5
  | 6 => v6
  | _ => []
/-- a with the first j values of B. -/
def rowC (a : Rt) (B : List Rt) : Nat → List Rt
  | 0 => []
  | j + 1 => rowC a B j ++ [seriesR a B[j]!, parallelR a B[j]!]
/-- The first i values of A with all of B. -/
def matC (A B : List Rt) : Nat → List Rt
  | 0 => []
  | i + 1 => matC A B i ++ rowC A[i]! B B.length
/-- The combinations of k and n - k resistors, for the first k. -/
def allK (n : Nat) : Nat → List Rt
  | 0 => []
  | k + 1 => allK n k ++ matC (valV (k + 1)) (valV (n - (k + 1))) (valV (k + 1)).length
theorem rowC_len (a : Rt) (B : List Rt) : ∀ j, (rowC a B j).length = j * 2
  | 0 => rfl
  | j + 1 => by rw [rowC, List.length_append, rowC_len a B j]; simp; omega
theorem matC_len (A B : List Rt) : ∀ i, (matC A B i).length = i * (B.length * 2)
  | 0 => by simp [matC]
  | i + 1 => by rw [matC, List.length_append, matC_len A B i, rowC_len, Nat.add_mul, Nat.one_mul]
theorem val_len {n : Nat} (h1 : 1 ≤ n) (h : n ≤ 6) : 1 ≤ (valV n).length ∧ (valV n).length ≤ 53 := by
  have : n = 1 ∨ n = 2 ∨ n = 3 ∨ n = 4 ∨ n = 5 ∨ n = 6 := by omega
  rcases this with rfl | rfl | rfl | rfl | rfl | rfl <;> decide +kernel
/-- All of n resistors. -/
def cand (n : Nat) : List Rt := allK n (n / 2)
theorem unit_facts {n : Nat} (h1 : 2 ≤ n) (h : n ≤ 6) : (∀ r ∈ cand n, goodF r) ∧ (sortR (cand n)).Perm (cand n) ∧ (sortR (cand n)).Pairwise (fun a b => ltR b a = false) ∧ Go.Lib.compactUpTo (sortR (cand n)).toArray (sortR (cand n)).toArray.size = valV n ∧ (cand n).length ≤ 200 ∧ 0 < (cand n).length := by
  have hb : (cand n).all (fun r => decide (goodF r)) = true ∧ (sortR (cand n)).isPerm (cand n) = true ∧ (sortR (cand n)).Pairwise (fun a b => ltR b a = false) ∧ Go.Lib.compactUpTo (sortR (cand n)).toArray (sortR (cand n)).toArray.size = valV n ∧ (cand n).length ≤ 200 ∧ 0 < (cand n).length := by
    have : n = 2 ∨ n = 3 ∨ n = 4 ∨ n = 5 ∨ n = 6 := by omega
    rcases this with rfl | rfl | rfl | rfl | rfl <;> decide +kernel
  obtain ⟨b1, b2, b3, b4, b5, b6⟩ := hb
  refine ⟨fun r hr => by simpa using List.all_eq_true.1 b1 r hr, List.isPerm_iff.1 b2, b3, b4, b5, b6⟩
theorem unit_ins {n : Nat} (h1 : 2 ≤ n) (h : n ≤ 6) : (cand n).foldl insR [] = valV n := by
  have : n = 2 ∨ n = 3 ∨ n = 4 ∨ n = 5 ∨ n = 6 := by omega
  rcases this with rfl | rfl | rfl | rfl | rfl <;> decide +kernel
end Go.Proofs.Ytmcnfhpjjmbdmaa
