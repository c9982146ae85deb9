/- Plain law: chances of walks out of tree sums. No program in sight. -/
import Derived.Test.YtipiiimemmkdgaaPlLap
import Derived.Test.YtipiiimemmkdgaaPlRatio
namespace Go.Proofs.Ytipiiimemmkdgaa

open Go.RowKit

noncomputable def grdR (c : Bool) (r : Rt) : Rt := if c = true then r else ⟨0, 0⟩
theorem grdR_t (r : Rt) : grdR true r = r := rfl
theorem grdR_f (r : Rt) : grdR false r = ⟨0, 0⟩ := rfl
/-- a and b are two nodes of a valid network. -/
noncomputable def difB (N E S : Int) (m : Nat) (xs : List Int) (a b : Int) : Bool := netB N E S m xs && (decide (0 ≤ a ∧ a < N) && (decide (0 ≤ b ∧ b < N) && !decide (a = b)))
theorem dif_f0 {N E S : Int} {m : Nat} {xs : List Int} {a b : Int} (h : netB N E S m xs = false) : difB N E S m xs a b = false := by simp [difB, h]
theorem dif_f1 {N E S : Int} {m : Nat} {xs : List Int} {a b : Int} (h : ¬ (0 ≤ a ∧ a < N)) : difB N E S m xs a b = false := by simp [difB, h]
theorem dif_f2 {N E S : Int} {m : Nat} {xs : List Int} {a b : Int} (h : ¬ (0 ≤ b ∧ b < N)) : difB N E S m xs a b = false := by simp [difB, h]
theorem dif_f3 {N E S : Int} {m : Nat} {xs : List Int} {a b : Int} (h : a = b) : difB N E S m xs a b = false := by simp [difB, h]
theorem dif_t {N E S : Int} {m : Nat} {xs : List Int} {a b : Int} (h : netB N E S m xs = true) (h1 : 0 ≤ a ∧ a < N) (h2 : 0 ≤ b ∧ b < N) (h3 : ¬ a = b) : difB N E S m xs a b = true := by simp [difB, h, h1, h2, h3]
theorem dif_of {N E S : Int} {m : Nat} {xs : List Int} {a b : Int} (h : difB N E S m xs a b = true) : netB N E S m xs = true ∧ (0 ≤ a ∧ a < N) ∧ (0 ≤ b ∧ b < N) ∧ ¬ a = b := by simpa [difB] using h

theorem without_lt2 {k : Nat} {l : List Int} {x y : Int} (hx : x ∈ l) (hy : y ∈ l) (hxy : ¬ x = y) (h0 : 0 ≤ x ∧ x < k) (h1 : 0 ≤ y ∧ y < k) : (without k l).length + 2 ≤ k := by
  induction k with
  | zero => omega
  | succ k ih =>
    by_cases e : x = k
    · rw [without_in (by rw [← e]; exact hx)]
      have := without_lt hy (k := k) (by omega) (by omega)
      omega
    · by_cases e2 : y = k
      · rw [without_in (by rw [← e2]; exact hy)]
        have := without_lt hx (k := k) (by omega) (by omega)
        omega
      · have h2 := ih (by omega) (by omega)
        by_cases c : (k : Int) ∈ l
        · rw [without_in c]; omega
        · rw [without_out c]; simp; omega
theorem detB_le3 {k : Nat} (h : k ≤ 3) : detB k ≤ 1000000000000 := by
  have e : k = 0 ∨ k = 1 ∨ k = 2 ∨ k = 3 := by omega
  rcases e with rfl | rfl | rfl | rfl <;> decide
/-- An open walk's facts of a valid network. -/
theorem net_wires {N E S : Int} {m : Nat} {xs : List Int} (h : netB N E S m xs = true) : (1 ≤ N ∧ N ≤ 5) ∧ m ≤ 10 ∧ (∀ k, k < m → goodW N xs k) := by
  obtain ⟨⟨n1, n2⟩, _, _, hK, _⟩ := netP_of h
  obtain ⟨n, rfl⟩ : ∃ n : Nat, N = (n : Int) := ⟨N.toNat, by omega⟩
  exact ⟨⟨n1, n2⟩, prs_len (N := n) (by omega) hK, hK⟩
theorem treeV_bd (N E S : Int) (m : Nat) (xs : List Int) : -10000000000000000 ≤ treeV N E S m xs ∧ treeV N E S m xs ≤ 10000000000000000 := by
  cases h : netB N E S m xs with
  | false => rw [treeV_f h]; omega
  | true =>
    rw [treeV_t h]
    obtain ⟨⟨n1, n2⟩, h10, hK⟩ := net_wires h
    obtain ⟨n, rfl⟩ : ∃ n : Nat, N = (n : Int) := ⟨N.toNat, by omega⟩
    rw [show ((n : Int)).toNat = n by omega]
    refine minor_bd (n := n) hK h10 (by omega) _ _ ?_
    have := without_lt (k := n) (l := [0]) (x := 0) (by simp) (by omega) (by omega)
    omega
theorem forV_bd (N E S : Int) (m : Nat) (xs : List Int) (a b : Int) : -1000000000000 ≤ forV N E S m xs a b ∧ forV N E S m xs a b ≤ 1000000000000 := by
  by_cases h : netB N E S m xs = true ∧ (0 ≤ a ∧ a < N) ∧ (0 ≤ b ∧ b < N) ∧ ¬ a = b
  · rw [forV_t h.1 h.2.1 h.2.2.1 h.2.2.2]
    obtain ⟨⟨n1, n2⟩, h10, hK⟩ := net_wires h.1
    obtain ⟨n, rfl⟩ : ∃ n : Nat, N = (n : Int) := ⟨N.toNat, by omega⟩
    rw [show ((n : Int)).toNat = n by omega]
    have h0 := without_lt2 (k := n) (l := [a, b]) (x := a) (y := b) (by simp) (by simp) h.2.2.2 h.2.1 h.2.2.1
    have h1 := detF_bd (lapZ_bd hK h10) (without n [a, b]) (without n [a, b]) (Nat.le_trans (without_len n _) (by omega))
    have h2 := detB_le3 (k := (without n [a, b]).length) (by omega)
    unfold absB at h1
    unfold forT minorV
    omega
  · rw [forV_f h]; omega
theorem mul_bd {u f A B : Int} (h0 : 0 ≤ u) (h1 : u ≤ A) (h2 : -B ≤ f) (h3 : f ≤ B) (hB : 0 ≤ B) : -(A * B) ≤ u * f ∧ u * f ≤ A * B := by
  have := absB_mul (x := u) (y := f) (A := A) (B := B) (by omega) (by unfold absB; omega) (by unfold absB; omega) hB
  unfold absB at this
  omega
theorem wf_bd {N E S : Int} {m : Nat} {xs : List Int} {u : Int} (h0 : 0 ≤ u) (h1 : u ≤ 20000) (a b : Int) : -20000000000000000 ≤ u * forV N E S m xs a b ∧ u * forV N E S m xs a b ≤ 20000000000000000 := by
  obtain ⟨f0, f1⟩ := forV_bd N E S m xs a b
  have := mul_bd h0 h1 f0 f1 (by omega)
  omega
/-- The weights of all nodes. -/
def wtAll (xs : List Int) : Nat → Int
  | 0 => 0
  | k + 1 => wtAll xs k + 2 * ww xs k
theorem wtAll_bd {N : Int} {xs : List Int} : ∀ {m : Nat}, (∀ k, k < m → goodW N xs k) → 0 ≤ wtAll xs m ∧ wtAll xs m ≤ 400 * m
  | 0, _ => by simp [wtAll]
  | m + 1, h => by
    have h1 := wtAll_bd (m := m) (fun k hk => h k (by omega))
    obtain ⟨_, _, _, q1, q2⟩ := (h m (by omega)).1
    simp only [wtAll]
    omega
/-- The weights at the first k nodes. -/
def watS (xs : List Int) (m : Nat) : Nat → Int
  | 0 => 0
  | k + 1 => watS xs m k + wat xs k m
theorem watS_bd {N : Int} {xs : List Int} {m : Nat} (h : ∀ k, k < m → goodW N xs k) : ∀ k : Nat, 0 ≤ watS xs m k ∧ watS xs m k ≤ 200 * m * k
  | 0 => by simp [watS]
  | k + 1 => by
    have h1 := watS_bd h k
    have h2 := wat_bd (k : Int) h
    simp only [watS]
    have e : 200 * (m : Int) * ((k + 1 : Nat) : Int) = 200 * m * k + 200 * m := by
      rw [show ((k + 1 : Nat) : Int) = (k : Int) + 1 by omega, Int.mul_add, Int.mul_one]
    omega
theorem watS_step (xs : List Int) (m : Nat) (hA : 0 ≤ wa xs m) (hB : 0 ≤ wb xs m) (hne : wa xs m ≠ wb xs m) : ∀ k : Nat, watS xs (m + 1) k = watS xs m k + ((if wa xs m < k then ww xs m else 0) + (if wb xs m < k then ww xs m else 0))
  | 0 => by
    rw [if_neg (by omega), if_neg (by omega)]; simp [watS]
  | k + 1 => by
    have ih := watS_step xs m hA hB hne k
    simp only [watS, wat]
    rw [ih]
    repeat' split
    all_goals omega
theorem watS_zero (xs : List Int) : ∀ k : Nat, watS xs 0 k = 0
  | 0 => rfl
  | k + 1 => by simp [watS, watS_zero xs k, wat]
theorem watS_all {n : Nat} {xs : List Int} : ∀ {m : Nat}, (∀ k, k < m → goodW n xs k) → watS xs m n = wtAll xs m
  | 0, _ => watS_zero xs n
  | m + 1, h => by
    obtain ⟨q0, q1, q2, _, _⟩ := (h m (by omega)).1
    rw [watS_step xs m (by omega) (by omega) (by omega) n, watS_all (m := m) (fun k hk => h k (by omega)), if_pos (by omega), if_pos (by omega)]
    simp only [wtAll]
    omega
/-- The sum of a hitting time over the first k nodes. -/
noncomputable def hitS (N E S : Int) (m : Nat) (xs : List Int) (a b : Int) : Nat → Int
  | 0 => 0
  | k + 1 => hitS N E S m xs a b k + wat xs k m * (forV N E S m xs a b + forV N E S m xs k b - forV N E S m xs a k)
theorem hitS_bd {N E S : Int} {m : Nat} {xs : List Int} {a b : Int} (h : ∀ k, k < m → goodW N xs k) (hm : m ≤ 10) : ∀ k : Nat, -(6000000000000000 * (k : Int)) ≤ hitS N E S m xs a b k ∧ hitS N E S m xs a b k ≤ 6000000000000000 * k
  | 0 => by simp [hitS]
  | k + 1 => by
    have ih := hitS_bd (E := E) (S := S) (a := a) (b := b) h hm k
    have h2 := wat_bd (k : Int) h
    have f1 := forV_bd N E S m xs a b
    have f2 := forV_bd N E S m xs k b
    have f3 := forV_bd N E S m xs a k
    have h3 := mul_bd (u := wat xs k m) (f := forV N E S m xs a b + forV N E S m xs k b - forV N E S m xs a k) (A := 2000) (B := 3000000000000) (by omega) (by omega) (by omega) (by omega) (by omega)
    simp only [hitS]
    omega
noncomputable def escR (N E S : Int) (m : Nat) (xs : List Int) (a b : Int) : Rt := grdR (difB N E S m xs a b) (ratioOf (treeV N E S m xs) (wat xs a m * forV N E S m xs a b))
noncomputable def wireB (N E S : Int) (m : Nat) (xs : List Int) (k : Int) : Bool := netB N E S m xs && decide (0 ≤ k ∧ k < m)
noncomputable def trcR (N E S : Int) (m : Nat) (xs : List Int) (k : Int) : Rt := grdR (wireB N E S m xs k) (ratioOf (ww xs k.toNat * forV N E S m xs (wa xs k.toNat) (wb xs k.toNat)) (treeV N E S m xs))
theorem esc_f {N E S : Int} {m : Nat} {xs : List Int} {a b : Int} (h : difB N E S m xs a b = false) : escR N E S m xs a b = ⟨0, 0⟩ := by unfold escR; rw [h]; rfl
theorem esc_t {N E S : Int} {m : Nat} {xs : List Int} {a b : Int} (h : difB N E S m xs a b = true) : escR N E S m xs a b = ratioOf (treeV N E S m xs) (wat xs a m * forV N E S m xs a b) := by unfold escR; rw [h]; rfl
theorem wire_f0 {N E S : Int} {m : Nat} {xs : List Int} {k : Int} (h : netB N E S m xs = false) : wireB N E S m xs k = false := by simp [wireB, h]
theorem wire_f1 {N E S : Int} {m : Nat} {xs : List Int} {k : Int} (h : ¬ (0 ≤ k ∧ k < m)) : wireB N E S m xs k = false := by simp [wireB, h]
theorem wire_t {N E S : Int} {m : Nat} {xs : List Int} {k : Int} (h : netB N E S m xs = true) (h1 : 0 ≤ k ∧ k < m) : wireB N E S m xs k = true := by simp [wireB, h, h1]
theorem wire_of {N E S : Int} {m : Nat} {xs : List Int} {k : Int} (h : wireB N E S m xs k = true) : netB N E S m xs = true ∧ 0 ≤ k ∧ k < m := by simpa [wireB] using h
theorem trc_f {N E S : Int} {m : Nat} {xs : List Int} {k : Int} (h : wireB N E S m xs k = false) : trcR N E S m xs k = ⟨0, 0⟩ := by unfold trcR; rw [h]; rfl
theorem trc_t {N E S : Int} {m : Nat} {xs : List Int} {k : Nat} (h : wireB N E S m xs k = true) : trcR N E S m xs k = ratioOf (ww xs k * forV N E S m xs (wa xs k) (wb xs k)) (treeV N E S m xs) := by unfold trcR; rw [h]; rfl
end Go.Proofs.Ytipiiimemmkdgaa
