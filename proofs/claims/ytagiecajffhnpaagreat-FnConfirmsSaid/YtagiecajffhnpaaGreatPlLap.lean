/- Plain law: the Laplacian, its minors. No program in sight. -/
import Derived.Test.YtagiecajffhnpaaGreatPlWeight
import Derived.Test.YtagiecajffhnpaaGreatPlDet
import Derived.Test.YtagiecajffhnpaaGreatWDet0
namespace Go.Proofs.YtagiecajffhnpaaGreat

open Go.RowKit

/-- An index below N. -/
def below (N : Nat) (x : Int) : Prop := 0 ≤ x ∧ x < N
/-- The Laplacian of a network. -/
def lapZ (xs : List Int) (m : Nat) (a b : Int) : Int := if a = b then wat xs a m else -(wbet xs m a b)
theorem lapZ_bd {N : Int} {xs : List Int} {m : Nat} (h : ∀ k, k < m → goodW N xs k) (hm : m ≤ 10) (a b : Int) : absB (lapZ xs m a b) 2000 := by
  have h1 := wbet_bd h a b
  have h2 := wat_bd a h
  unfold lapZ absB
  split <;> omega
/-- The numbers below k that are not in l. -/
def without (k : Nat) (l : List Int) : List Int := ((List.range k).map (fun (i : Nat) => (i : Int))).filter (fun x => !decide (x ∈ l))
theorem without_in {k : Nat} {l : List Int} (h : (k : Int) ∈ l) : without (k + 1) l = without k l := by
  simp [without, List.range_succ, h]
theorem without_out {k : Nat} {l : List Int} (h : ¬ (k : Int) ∈ l) : without (k + 1) l = without k l ++ [(k : Int)] := by
  simp [without, List.range_succ, h]
theorem without_len (k : Nat) (l : List Int) : (without k l).length ≤ k := by
  refine Nat.le_trans (List.length_filter_le _ _) ?_
  simp
theorem without_below {k : Nat} {l : List Int} : ∀ x ∈ without k l, below k x := fun x hx => by
  simp only [without, List.mem_filter, List.mem_map, List.mem_range] at hx
  obtain ⟨⟨i, hi, rfl⟩, _⟩ := hx
  exact ⟨by omega, by omega⟩
theorem without_lt {k : Nat} {l : List Int} {x : Int} (hx : x ∈ l) (h0 : 0 ≤ x) (h1 : x < k) : (without k l).length + 1 ≤ k := by
  induction k with
  | zero => omega
  | succ k ih =>
    by_cases e : x = k
    · rw [without_in (by rw [← e]; exact hx)]
      have := without_len k l
      omega
    · have h2 := ih (by omega)
      by_cases c : (k : Int) ∈ l
      · rw [without_in c]; omega
      · rw [without_out c]; simp; omega
/-- The minor without some rows and columns. -/
def minorV (n m : Nat) (xs : List Int) (r c : List Int) : Int := detF (lapZ xs m) (without n r) (without n c)
/-- The tree sum of a valid network. -/
def treeT (n m : Nat) (xs : List Int) : Int := minorV n m xs [0] [0]
/-- The forest sum of two nodes of a valid network. -/
def forT (n m : Nat) (xs : List Int) (a b : Int) : Int := minorV n m xs [a, b] [a, b]
theorem minor_bd {n m : Nat} {xs : List Int} (h : ∀ k, k < m → goodW n xs k) (hm : m ≤ 10) (hn : n ≤ 5) (r c : List Int) (hr : (without n r).length ≤ 4) : -10000000000000000 ≤ minorV n m xs r c ∧ minorV n m xs r c ≤ 10000000000000000 := by
  have h1 := detF_bd (lapZ_bd h hm) (without n r) (without n c) (Nat.le_trans (without_len n c) hn)
  have h2 := detB_le (k := (without n r).length) hr
  unfold absB at h1
  unfold minorV
  omega
noncomputable def treeV (N E S : Int) (m : Nat) (xs : List Int) : Int := if netB N E S m xs = true then treeT N.toNat m xs else 0
noncomputable def forV (N E S : Int) (m : Nat) (xs : List Int) (a b : Int) : Int := if netB N E S m xs = true ∧ (0 ≤ a ∧ a < N) ∧ (0 ≤ b ∧ b < N) ∧ ¬ a = b then forT N.toNat m xs a b else 0
theorem treeV_t {N E S : Int} {m : Nat} {xs : List Int} (h : netB N E S m xs = true) : treeV N E S m xs = treeT N.toNat m xs := by simp [treeV, h]
theorem treeV_f {N E S : Int} {m : Nat} {xs : List Int} (h : netB N E S m xs = false) : treeV N E S m xs = 0 := by simp [treeV, h]
theorem forV_t {N E S : Int} {m : Nat} {xs : List Int} {a b : Int} (h : netB N E S m xs = true) (h1 : 0 ≤ a ∧ a < N) (h2 : 0 ≤ b ∧ b < N) (h3 : ¬ a = b) : forV N E S m xs a b = forT N.toNat m xs a b := by
  unfold forV; rw [if_pos ⟨h, h1, h2, h3⟩]
theorem forV_f {N E S : Int} {m : Nat} {xs : List Int} {a b : Int} (h : ¬ (netB N E S m xs = true ∧ (0 ≤ a ∧ a < N) ∧ (0 ≤ b ∧ b < N) ∧ ¬ a = b)) : forV N E S m xs a b = 0 := by
  unfold forV; rw [if_neg h]
end Go.Proofs.YtagiecajffhnpaaGreat
