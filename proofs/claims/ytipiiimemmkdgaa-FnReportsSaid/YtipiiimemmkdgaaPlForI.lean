/- Plain law: tree and forest sums of a network in which every node but the first has a wire down. No program in sight. -/
import Derived.Test.YtipiiimemmkdgaaPlFor5
namespace Go.Proofs.Ytipiiimemmkdgaa

open Go.RowKit

/-- Every node but the first has a wire to an earlier one. -/
def downB (n m : Nat) (xs : List Int) : Prop := ∀ v : Nat, 1 ≤ v → v < n → ∃ k, k < m ∧ wb xs k = (v : Int)
/-- A network as the draws make it. -/
structure Drn (n m : Nat) (xs : List Int) : Prop where
  two : 2 ≤ n
  five : n ≤ 5
  good : ∀ k, k < m → goodW n xs k
  six : ∀ k, k < m → ww xs k ≤ 6
  down : downB n m xs
theorem wbet_nn {n m : Nat} {xs : List Int} (h : Drn n m xs) (a b : Int) : 0 ≤ wbet xs m a b := (wbet_bd h.good a b).1
theorem wbet_six {n m : Nat} {xs : List Int} (h : Drn n m xs) (a b : Int) : wbet xs m a b ≤ 6 := by
  cases e : wfind xs a b m with
  | none => rw [wbet_none e]; omega
  | some k => rw [wbet_some e]; exact h.six k (wfind_lt e).1
theorem wbet_self {n m : Nat} {xs : List Int} (h : Drn n m xs) (a : Int) : wbet xs m a a = 0 := wbet_none (wfind_self h.good a)
theorem wbet_one {n m : Nat} {xs : List Int} (h : Drn n m xs) {k : Nat} (hk : k < m) : 1 ≤ wbet xs m (wa xs k) (wb xs k) := by
  have hw : isW xs (wa xs k) (wb xs k) k := by
    obtain ⟨_, q, _⟩ := (h.good k hk).1
    unfold isW; omega
  cases e : wfind xs (wa xs k) (wb xs k) m with
  | none =>
    have : ∀ m', k < m' → wfind xs (wa xs k) (wb xs k) m' ≠ none := fun m' => by
      induction m' with
      | zero => intro h; omega
      | succ m' ih =>
        intro hk'
        simp only [wfind]
        by_cases ek : k = m'
        · subst ek
          split
          · simp
          · rw [if_pos hw]; simp
        · have := ih (by omega)
          split
          · simp
          · rename_i e2; exact absurd e2 this
    exact absurd e (this m hk)
  | some j =>
    rw [wbet_some e]
    exact (h.good j (wfind_lt e).1).1.2.2.2.1
theorem down_sum {n m : Nat} {xs : List Int} (h : Drn n m xs) {v : Nat} (h1 : 1 ≤ v) (h2 : v < n) : ∃ p : Nat, p < v ∧ 1 ≤ wbet xs m p v := by
  obtain ⟨k, hk, hv⟩ := h.down v h1 h2
  obtain ⟨q0, q1, _⟩ := (h.good k hk).1
  have h3 := wbet_one h hk
  rw [hv] at h3
  exact ⟨(wa xs k).toNat, by omega, by rw [show (((wa xs k).toNat : Nat) : Int) = wa xs k by omega]; exact h3⟩
theorem lap_off (xs : List Int) (m : Nat) {a b : Int} (h : a ≠ b) : lapZ xs m a b = -(wbet xs m a b) := by unfold lapZ; rw [if_neg h]
theorem lap_dia (xs : List Int) (m : Nat) (a : Int) : lapZ xs m a a = wat xs a m := by unfold lapZ; rw [if_pos rfl]

theorem lap2_of {m : Nat} {xs : List Int} (h : Drn 2 m xs) : Lap2 (lapZ xs m) (wbet xs m 0 1) := by
  have d0 : lapZ xs m 0 0 = wbet xs m 0 1 := by
    have e := wat_sum (n := 2) (xs := xs) (v := 0) (by decide) (by decide) h.good
    have z := wbet_self h 0
    have c0 : ((0 : Nat) : Int) = 0 := rfl
    have c1 : ((1 : Nat) : Int) = 1 := rfl
    simp only [sumTo, c0, c1] at e
    rw [lap_dia, ← e, z]; omega
  have d1 : lapZ xs m 1 1 = wbet xs m 0 1 := by
    have e := wat_sum (n := 2) (xs := xs) (v := 1) (by decide) (by decide) h.good
    have z := wbet_self h 1
    have c0 : ((0 : Nat) : Int) = 0 := rfl
    have c1 : ((1 : Nat) : Int) = 1 := rfl
    simp only [sumTo, c0, c1] at e
    rw [lap_dia, ← e, z, wbet_symm xs m 1 0]; omega
  exact ⟨d0, lap_off xs m (by decide), by rw [lap_off xs m (by decide), wbet_symm], d1⟩
theorem dn2_1 {m : Nat} {xs : List Int} (h : Drn 2 m xs) : 1 ≤ wbet xs m 0 1 := by
  obtain ⟨p, hp, h1⟩ := down_sum h (v := 1) (by decide) (by decide)
  have n0 := wbet_nn h 0 1
  have hc : p = 0 := by omega
  rcases hc with rfl
  · replace h1 : 1 ≤ wbet xs m 0 1 := h1; omega
theorem trT2 {m : Nat} {xs : List Int} (h : Drn 2 m xs) : treeT 2 m xs = tp2 (wbet xs m 0 1) := tree2 (lap2_of h)
theorem trP2 {m : Nat} {xs : List Int} (h : Drn 2 m xs) : 1 ≤ treeT 2 m xs := by rw [trT2 h]; exact tp2_pos (wbet_nn h 0 1) (dn2_1 h)
theorem foT2_01 {m : Nat} {xs : List Int} (h : Drn 2 m xs) : forZ 2 m xs 0 1 = fp2_01 (wbet xs m 0 1) := for2_01 (lap2_of h)
theorem foP2_01 {m : Nat} {xs : List Int} (h : Drn 2 m xs) : 1 ≤ forZ 2 m xs 0 1 := by rw [foT2_01 h]; exact fp2_01_pos (wbet_nn h 0 1) (dn2_1 h)
theorem foT2_10 {m : Nat} {xs : List Int} (h : Drn 2 m xs) : forZ 2 m xs 1 0 = fp2_01 (wbet xs m 0 1) := for2_01 (lap2_of h)

theorem lap3_of {m : Nat} {xs : List Int} (h : Drn 3 m xs) : Lap3 (lapZ xs m) (wbet xs m 0 1) (wbet xs m 0 2) (wbet xs m 1 2) := by
  have d0 : lapZ xs m 0 0 = wbet xs m 0 1 + wbet xs m 0 2 := by
    have e := wat_sum (n := 3) (xs := xs) (v := 0) (by decide) (by decide) h.good
    have z := wbet_self h 0
    have c0 : ((0 : Nat) : Int) = 0 := rfl
    have c1 : ((1 : Nat) : Int) = 1 := rfl
    have c2 : ((2 : Nat) : Int) = 2 := rfl
    simp only [sumTo, c0, c1, c2] at e
    rw [lap_dia, ← e, z]; omega
  have d1 : lapZ xs m 1 1 = wbet xs m 0 1 + wbet xs m 1 2 := by
    have e := wat_sum (n := 3) (xs := xs) (v := 1) (by decide) (by decide) h.good
    have z := wbet_self h 1
    have c0 : ((0 : Nat) : Int) = 0 := rfl
    have c1 : ((1 : Nat) : Int) = 1 := rfl
    have c2 : ((2 : Nat) : Int) = 2 := rfl
    simp only [sumTo, c0, c1, c2] at e
    rw [lap_dia, ← e, z, wbet_symm xs m 1 0]; omega
  have d2 : lapZ xs m 2 2 = wbet xs m 0 2 + wbet xs m 1 2 := by
    have e := wat_sum (n := 3) (xs := xs) (v := 2) (by decide) (by decide) h.good
    have z := wbet_self h 2
    have c0 : ((0 : Nat) : Int) = 0 := rfl
    have c1 : ((1 : Nat) : Int) = 1 := rfl
    have c2 : ((2 : Nat) : Int) = 2 := rfl
    simp only [sumTo, c0, c1, c2] at e
    rw [lap_dia, ← e, z, wbet_symm xs m 2 0, wbet_symm xs m 2 1]; omega
  exact ⟨d0, lap_off xs m (by decide), lap_off xs m (by decide), by rw [lap_off xs m (by decide), wbet_symm], d1, lap_off xs m (by decide), by rw [lap_off xs m (by decide), wbet_symm], by rw [lap_off xs m (by decide), wbet_symm], d2⟩
theorem dn3_1 {m : Nat} {xs : List Int} (h : Drn 3 m xs) : 1 ≤ wbet xs m 0 1 := by
  obtain ⟨p, hp, h1⟩ := down_sum h (v := 1) (by decide) (by decide)
  have n0 := wbet_nn h 0 1
  have hc : p = 0 := by omega
  rcases hc with rfl
  · replace h1 : 1 ≤ wbet xs m 0 1 := h1; omega
theorem dn3_2 {m : Nat} {xs : List Int} (h : Drn 3 m xs) : 1 ≤ wbet xs m 0 2 + wbet xs m 1 2 := by
  obtain ⟨p, hp, h1⟩ := down_sum h (v := 2) (by decide) (by decide)
  have n0 := wbet_nn h 0 2
  have n1 := wbet_nn h 1 2
  have hc : p = 0 ∨ p = 1 := by omega
  rcases hc with rfl | rfl
  · replace h1 : 1 ≤ wbet xs m 0 2 := h1; omega
  · replace h1 : 1 ≤ wbet xs m 1 2 := h1; omega
theorem trT3 {m : Nat} {xs : List Int} (h : Drn 3 m xs) : treeT 3 m xs = tp3 (wbet xs m 0 1) (wbet xs m 0 2) (wbet xs m 1 2) := tree3 (lap3_of h)
theorem trP3 {m : Nat} {xs : List Int} (h : Drn 3 m xs) : 1 ≤ treeT 3 m xs := by rw [trT3 h]; exact tp3_pos (wbet_nn h 0 1) (wbet_nn h 0 2) (wbet_nn h 1 2) (dn3_1 h) (dn3_2 h)
theorem foT3_01 {m : Nat} {xs : List Int} (h : Drn 3 m xs) : forZ 3 m xs 0 1 = fp3_01 (wbet xs m 0 1) (wbet xs m 0 2) (wbet xs m 1 2) := for3_01 (lap3_of h)
theorem foP3_01 {m : Nat} {xs : List Int} (h : Drn 3 m xs) : 1 ≤ forZ 3 m xs 0 1 := by rw [foT3_01 h]; exact fp3_01_pos (wbet_nn h 0 1) (wbet_nn h 0 2) (wbet_nn h 1 2) (dn3_1 h) (dn3_2 h)
theorem foT3_02 {m : Nat} {xs : List Int} (h : Drn 3 m xs) : forZ 3 m xs 0 2 = fp3_02 (wbet xs m 0 1) (wbet xs m 0 2) (wbet xs m 1 2) := for3_02 (lap3_of h)
theorem foP3_02 {m : Nat} {xs : List Int} (h : Drn 3 m xs) : 1 ≤ forZ 3 m xs 0 2 := by rw [foT3_02 h]; exact fp3_02_pos (wbet_nn h 0 1) (wbet_nn h 0 2) (wbet_nn h 1 2) (dn3_1 h) (dn3_2 h)
theorem foT3_10 {m : Nat} {xs : List Int} (h : Drn 3 m xs) : forZ 3 m xs 1 0 = fp3_01 (wbet xs m 0 1) (wbet xs m 0 2) (wbet xs m 1 2) := for3_01 (lap3_of h)
theorem foT3_12 {m : Nat} {xs : List Int} (h : Drn 3 m xs) : forZ 3 m xs 1 2 = fp3_12 (wbet xs m 0 1) (wbet xs m 0 2) (wbet xs m 1 2) := for3_12 (lap3_of h)
theorem foP3_12 {m : Nat} {xs : List Int} (h : Drn 3 m xs) : 1 ≤ forZ 3 m xs 1 2 := by rw [foT3_12 h]; exact fp3_12_pos (wbet_nn h 0 1) (wbet_nn h 0 2) (wbet_nn h 1 2) (dn3_1 h) (dn3_2 h)
theorem foT3_20 {m : Nat} {xs : List Int} (h : Drn 3 m xs) : forZ 3 m xs 2 0 = fp3_02 (wbet xs m 0 1) (wbet xs m 0 2) (wbet xs m 1 2) := for3_02 (lap3_of h)
theorem foT3_21 {m : Nat} {xs : List Int} (h : Drn 3 m xs) : forZ 3 m xs 2 1 = fp3_12 (wbet xs m 0 1) (wbet xs m 0 2) (wbet xs m 1 2) := for3_12 (lap3_of h)

theorem lap4_of {m : Nat} {xs : List Int} (h : Drn 4 m xs) : Lap4 (lapZ xs m) (wbet xs m 0 1) (wbet xs m 0 2) (wbet xs m 0 3) (wbet xs m 1 2) (wbet xs m 1 3) (wbet xs m 2 3) := by
  have d0 : lapZ xs m 0 0 = wbet xs m 0 1 + wbet xs m 0 2 + wbet xs m 0 3 := by
    have e := wat_sum (n := 4) (xs := xs) (v := 0) (by decide) (by decide) h.good
    have z := wbet_self h 0
    have c0 : ((0 : Nat) : Int) = 0 := rfl
    have c1 : ((1 : Nat) : Int) = 1 := rfl
    have c2 : ((2 : Nat) : Int) = 2 := rfl
    have c3 : ((3 : Nat) : Int) = 3 := rfl
    simp only [sumTo, c0, c1, c2, c3] at e
    rw [lap_dia, ← e, z]; omega
  have d1 : lapZ xs m 1 1 = wbet xs m 0 1 + wbet xs m 1 2 + wbet xs m 1 3 := by
    have e := wat_sum (n := 4) (xs := xs) (v := 1) (by decide) (by decide) h.good
    have z := wbet_self h 1
    have c0 : ((0 : Nat) : Int) = 0 := rfl
    have c1 : ((1 : Nat) : Int) = 1 := rfl
    have c2 : ((2 : Nat) : Int) = 2 := rfl
    have c3 : ((3 : Nat) : Int) = 3 := rfl
    simp only [sumTo, c0, c1, c2, c3] at e
    rw [lap_dia, ← e, z, wbet_symm xs m 1 0]; omega
  have d2 : lapZ xs m 2 2 = wbet xs m 0 2 + wbet xs m 1 2 + wbet xs m 2 3 := by
    have e := wat_sum (n := 4) (xs := xs) (v := 2) (by decide) (by decide) h.good
    have z := wbet_self h 2
    have c0 : ((0 : Nat) : Int) = 0 := rfl
    have c1 : ((1 : Nat) : Int) = 1 := rfl
    have c2 : ((2 : Nat) : Int) = 2 := rfl
    have c3 : ((3 : Nat) : Int) = 3 := rfl
    simp only [sumTo, c0, c1, c2, c3] at e
    rw [lap_dia, ← e, z, wbet_symm xs m 2 0, wbet_symm xs m 2 1]; omega
  have d3 : lapZ xs m 3 3 = wbet xs m 0 3 + wbet xs m 1 3 + wbet xs m 2 3 := by
    have e := wat_sum (n := 4) (xs := xs) (v := 3) (by decide) (by decide) h.good
    have z := wbet_self h 3
    have c0 : ((0 : Nat) : Int) = 0 := rfl
    have c1 : ((1 : Nat) : Int) = 1 := rfl
    have c2 : ((2 : Nat) : Int) = 2 := rfl
    have c3 : ((3 : Nat) : Int) = 3 := rfl
    simp only [sumTo, c0, c1, c2, c3] at e
    rw [lap_dia, ← e, z, wbet_symm xs m 3 0, wbet_symm xs m 3 1, wbet_symm xs m 3 2]; omega
  exact ⟨d0, lap_off xs m (by decide), lap_off xs m (by decide), lap_off xs m (by decide), by rw [lap_off xs m (by decide), wbet_symm], d1, lap_off xs m (by decide), lap_off xs m (by decide), by rw [lap_off xs m (by decide), wbet_symm], by rw [lap_off xs m (by decide), wbet_symm], d2, lap_off xs m (by decide), by rw [lap_off xs m (by decide), wbet_symm], by rw [lap_off xs m (by decide), wbet_symm], by rw [lap_off xs m (by decide), wbet_symm], d3⟩
theorem dn4_1 {m : Nat} {xs : List Int} (h : Drn 4 m xs) : 1 ≤ wbet xs m 0 1 := by
  obtain ⟨p, hp, h1⟩ := down_sum h (v := 1) (by decide) (by decide)
  have n0 := wbet_nn h 0 1
  have hc : p = 0 := by omega
  rcases hc with rfl
  · replace h1 : 1 ≤ wbet xs m 0 1 := h1; omega
theorem dn4_2 {m : Nat} {xs : List Int} (h : Drn 4 m xs) : 1 ≤ wbet xs m 0 2 + wbet xs m 1 2 := by
  obtain ⟨p, hp, h1⟩ := down_sum h (v := 2) (by decide) (by decide)
  have n0 := wbet_nn h 0 2
  have n1 := wbet_nn h 1 2
  have hc : p = 0 ∨ p = 1 := by omega
  rcases hc with rfl | rfl
  · replace h1 : 1 ≤ wbet xs m 0 2 := h1; omega
  · replace h1 : 1 ≤ wbet xs m 1 2 := h1; omega
theorem dn4_3 {m : Nat} {xs : List Int} (h : Drn 4 m xs) : 1 ≤ wbet xs m 0 3 + wbet xs m 1 3 + wbet xs m 2 3 := by
  obtain ⟨p, hp, h1⟩ := down_sum h (v := 3) (by decide) (by decide)
  have n0 := wbet_nn h 0 3
  have n1 := wbet_nn h 1 3
  have n2 := wbet_nn h 2 3
  have hc : p = 0 ∨ p = 1 ∨ p = 2 := by omega
  rcases hc with rfl | rfl | rfl
  · replace h1 : 1 ≤ wbet xs m 0 3 := h1; omega
  · replace h1 : 1 ≤ wbet xs m 1 3 := h1; omega
  · replace h1 : 1 ≤ wbet xs m 2 3 := h1; omega
theorem trT4 {m : Nat} {xs : List Int} (h : Drn 4 m xs) : treeT 4 m xs = tp4 (wbet xs m 0 1) (wbet xs m 0 2) (wbet xs m 0 3) (wbet xs m 1 2) (wbet xs m 1 3) (wbet xs m 2 3) := tree4 (lap4_of h)
theorem trP4 {m : Nat} {xs : List Int} (h : Drn 4 m xs) : 1 ≤ treeT 4 m xs := by rw [trT4 h]; exact tp4_pos (wbet_nn h 0 1) (wbet_nn h 0 2) (wbet_nn h 0 3) (wbet_nn h 1 2) (wbet_nn h 1 3) (wbet_nn h 2 3) (dn4_1 h) (dn4_2 h) (dn4_3 h)
theorem foT4_01 {m : Nat} {xs : List Int} (h : Drn 4 m xs) : forZ 4 m xs 0 1 = fp4_01 (wbet xs m 0 1) (wbet xs m 0 2) (wbet xs m 0 3) (wbet xs m 1 2) (wbet xs m 1 3) (wbet xs m 2 3) := for4_01 (lap4_of h)
theorem foP4_01 {m : Nat} {xs : List Int} (h : Drn 4 m xs) : 1 ≤ forZ 4 m xs 0 1 := by rw [foT4_01 h]; exact fp4_01_pos (wbet_nn h 0 1) (wbet_nn h 0 2) (wbet_nn h 0 3) (wbet_nn h 1 2) (wbet_nn h 1 3) (wbet_nn h 2 3) (dn4_1 h) (dn4_2 h) (dn4_3 h)
theorem foT4_02 {m : Nat} {xs : List Int} (h : Drn 4 m xs) : forZ 4 m xs 0 2 = fp4_02 (wbet xs m 0 1) (wbet xs m 0 2) (wbet xs m 0 3) (wbet xs m 1 2) (wbet xs m 1 3) (wbet xs m 2 3) := for4_02 (lap4_of h)
theorem foP4_02 {m : Nat} {xs : List Int} (h : Drn 4 m xs) : 1 ≤ forZ 4 m xs 0 2 := by rw [foT4_02 h]; exact fp4_02_pos (wbet_nn h 0 1) (wbet_nn h 0 2) (wbet_nn h 0 3) (wbet_nn h 1 2) (wbet_nn h 1 3) (wbet_nn h 2 3) (dn4_1 h) (dn4_2 h) (dn4_3 h)
theorem foT4_03 {m : Nat} {xs : List Int} (h : Drn 4 m xs) : forZ 4 m xs 0 3 = fp4_03 (wbet xs m 0 1) (wbet xs m 0 2) (wbet xs m 0 3) (wbet xs m 1 2) (wbet xs m 1 3) (wbet xs m 2 3) := for4_03 (lap4_of h)
theorem foP4_03 {m : Nat} {xs : List Int} (h : Drn 4 m xs) : 1 ≤ forZ 4 m xs 0 3 := by rw [foT4_03 h]; exact fp4_03_pos (wbet_nn h 0 1) (wbet_nn h 0 2) (wbet_nn h 0 3) (wbet_nn h 1 2) (wbet_nn h 1 3) (wbet_nn h 2 3) (dn4_1 h) (dn4_2 h) (dn4_3 h)
theorem foT4_10 {m : Nat} {xs : List Int} (h : Drn 4 m xs) : forZ 4 m xs 1 0 = fp4_01 (wbet xs m 0 1) (wbet xs m 0 2) (wbet xs m 0 3) (wbet xs m 1 2) (wbet xs m 1 3) (wbet xs m 2 3) := for4_01 (lap4_of h)
theorem foT4_12 {m : Nat} {xs : List Int} (h : Drn 4 m xs) : forZ 4 m xs 1 2 = fp4_12 (wbet xs m 0 1) (wbet xs m 0 2) (wbet xs m 0 3) (wbet xs m 1 2) (wbet xs m 1 3) (wbet xs m 2 3) := for4_12 (lap4_of h)
theorem foP4_12 {m : Nat} {xs : List Int} (h : Drn 4 m xs) : 1 ≤ forZ 4 m xs 1 2 := by rw [foT4_12 h]; exact fp4_12_pos (wbet_nn h 0 1) (wbet_nn h 0 2) (wbet_nn h 0 3) (wbet_nn h 1 2) (wbet_nn h 1 3) (wbet_nn h 2 3) (dn4_1 h) (dn4_2 h) (dn4_3 h)
theorem foT4_13 {m : Nat} {xs : List Int} (h : Drn 4 m xs) : forZ 4 m xs 1 3 = fp4_13 (wbet xs m 0 1) (wbet xs m 0 2) (wbet xs m 0 3) (wbet xs m 1 2) (wbet xs m 1 3) (wbet xs m 2 3) := for4_13 (lap4_of h)
theorem foP4_13 {m : Nat} {xs : List Int} (h : Drn 4 m xs) : 1 ≤ forZ 4 m xs 1 3 := by rw [foT4_13 h]; exact fp4_13_pos (wbet_nn h 0 1) (wbet_nn h 0 2) (wbet_nn h 0 3) (wbet_nn h 1 2) (wbet_nn h 1 3) (wbet_nn h 2 3) (dn4_1 h) (dn4_2 h) (dn4_3 h)
theorem foT4_20 {m : Nat} {xs : List Int} (h : Drn 4 m xs) : forZ 4 m xs 2 0 = fp4_02 (wbet xs m 0 1) (wbet xs m 0 2) (wbet xs m 0 3) (wbet xs m 1 2) (wbet xs m 1 3) (wbet xs m 2 3) := for4_02 (lap4_of h)
theorem foT4_21 {m : Nat} {xs : List Int} (h : Drn 4 m xs) : forZ 4 m xs 2 1 = fp4_12 (wbet xs m 0 1) (wbet xs m 0 2) (wbet xs m 0 3) (wbet xs m 1 2) (wbet xs m 1 3) (wbet xs m 2 3) := for4_12 (lap4_of h)
theorem foT4_23 {m : Nat} {xs : List Int} (h : Drn 4 m xs) : forZ 4 m xs 2 3 = fp4_23 (wbet xs m 0 1) (wbet xs m 0 2) (wbet xs m 0 3) (wbet xs m 1 2) (wbet xs m 1 3) (wbet xs m 2 3) := for4_23 (lap4_of h)
theorem foP4_23 {m : Nat} {xs : List Int} (h : Drn 4 m xs) : 1 ≤ forZ 4 m xs 2 3 := by rw [foT4_23 h]; exact fp4_23_pos (wbet_nn h 0 1) (wbet_nn h 0 2) (wbet_nn h 0 3) (wbet_nn h 1 2) (wbet_nn h 1 3) (wbet_nn h 2 3) (dn4_1 h) (dn4_2 h) (dn4_3 h)
theorem foT4_30 {m : Nat} {xs : List Int} (h : Drn 4 m xs) : forZ 4 m xs 3 0 = fp4_03 (wbet xs m 0 1) (wbet xs m 0 2) (wbet xs m 0 3) (wbet xs m 1 2) (wbet xs m 1 3) (wbet xs m 2 3) := for4_03 (lap4_of h)
theorem foT4_31 {m : Nat} {xs : List Int} (h : Drn 4 m xs) : forZ 4 m xs 3 1 = fp4_13 (wbet xs m 0 1) (wbet xs m 0 2) (wbet xs m 0 3) (wbet xs m 1 2) (wbet xs m 1 3) (wbet xs m 2 3) := for4_13 (lap4_of h)
theorem foT4_32 {m : Nat} {xs : List Int} (h : Drn 4 m xs) : forZ 4 m xs 3 2 = fp4_23 (wbet xs m 0 1) (wbet xs m 0 2) (wbet xs m 0 3) (wbet xs m 1 2) (wbet xs m 1 3) (wbet xs m 2 3) := for4_23 (lap4_of h)

theorem lap5_of {m : Nat} {xs : List Int} (h : Drn 5 m xs) : Lap5 (lapZ xs m) (wbet xs m 0 1) (wbet xs m 0 2) (wbet xs m 0 3) (wbet xs m 0 4) (wbet xs m 1 2) (wbet xs m 1 3) (wbet xs m 1 4) (wbet xs m 2 3) (wbet xs m 2 4) (wbet xs m 3 4) := by
  have d0 : lapZ xs m 0 0 = wbet xs m 0 1 + wbet xs m 0 2 + wbet xs m 0 3 + wbet xs m 0 4 := by
    have e := wat_sum (n := 5) (xs := xs) (v := 0) (by decide) (by decide) h.good
    have z := wbet_self h 0
    have c0 : ((0 : Nat) : Int) = 0 := rfl
    have c1 : ((1 : Nat) : Int) = 1 := rfl
    have c2 : ((2 : Nat) : Int) = 2 := rfl
    have c3 : ((3 : Nat) : Int) = 3 := rfl
    have c4 : ((4 : Nat) : Int) = 4 := rfl
    simp only [sumTo, c0, c1, c2, c3, c4] at e
    rw [lap_dia, ← e, z]; omega
  have d1 : lapZ xs m 1 1 = wbet xs m 0 1 + wbet xs m 1 2 + wbet xs m 1 3 + wbet xs m 1 4 := by
    have e := wat_sum (n := 5) (xs := xs) (v := 1) (by decide) (by decide) h.good
    have z := wbet_self h 1
    have c0 : ((0 : Nat) : Int) = 0 := rfl
    have c1 : ((1 : Nat) : Int) = 1 := rfl
    have c2 : ((2 : Nat) : Int) = 2 := rfl
    have c3 : ((3 : Nat) : Int) = 3 := rfl
    have c4 : ((4 : Nat) : Int) = 4 := rfl
    simp only [sumTo, c0, c1, c2, c3, c4] at e
    rw [lap_dia, ← e, z, wbet_symm xs m 1 0]; omega
  have d2 : lapZ xs m 2 2 = wbet xs m 0 2 + wbet xs m 1 2 + wbet xs m 2 3 + wbet xs m 2 4 := by
    have e := wat_sum (n := 5) (xs := xs) (v := 2) (by decide) (by decide) h.good
    have z := wbet_self h 2
    have c0 : ((0 : Nat) : Int) = 0 := rfl
    have c1 : ((1 : Nat) : Int) = 1 := rfl
    have c2 : ((2 : Nat) : Int) = 2 := rfl
    have c3 : ((3 : Nat) : Int) = 3 := rfl
    have c4 : ((4 : Nat) : Int) = 4 := rfl
    simp only [sumTo, c0, c1, c2, c3, c4] at e
    rw [lap_dia, ← e, z, wbet_symm xs m 2 0, wbet_symm xs m 2 1]; omega
  have d3 : lapZ xs m 3 3 = wbet xs m 0 3 + wbet xs m 1 3 + wbet xs m 2 3 + wbet xs m 3 4 := by
    have e := wat_sum (n := 5) (xs := xs) (v := 3) (by decide) (by decide) h.good
    have z := wbet_self h 3
    have c0 : ((0 : Nat) : Int) = 0 := rfl
    have c1 : ((1 : Nat) : Int) = 1 := rfl
    have c2 : ((2 : Nat) : Int) = 2 := rfl
    have c3 : ((3 : Nat) : Int) = 3 := rfl
    have c4 : ((4 : Nat) : Int) = 4 := rfl
    simp only [sumTo, c0, c1, c2, c3, c4] at e
    rw [lap_dia, ← e, z, wbet_symm xs m 3 0, wbet_symm xs m 3 1, wbet_symm xs m 3 2]; omega
  have d4 : lapZ xs m 4 4 = wbet xs m 0 4 + wbet xs m 1 4 + wbet xs m 2 4 + wbet xs m 3 4 := by
    have e := wat_sum (n := 5) (xs := xs) (v := 4) (by decide) (by decide) h.good
    have z := wbet_self h 4
    have c0 : ((0 : Nat) : Int) = 0 := rfl
    have c1 : ((1 : Nat) : Int) = 1 := rfl
    have c2 : ((2 : Nat) : Int) = 2 := rfl
    have c3 : ((3 : Nat) : Int) = 3 := rfl
    have c4 : ((4 : Nat) : Int) = 4 := rfl
    simp only [sumTo, c0, c1, c2, c3, c4] at e
    rw [lap_dia, ← e, z, wbet_symm xs m 4 0, wbet_symm xs m 4 1, wbet_symm xs m 4 2, wbet_symm xs m 4 3]; omega
  exact ⟨d0, lap_off xs m (by decide), lap_off xs m (by decide), lap_off xs m (by decide), lap_off xs m (by decide), by rw [lap_off xs m (by decide), wbet_symm], d1, lap_off xs m (by decide), lap_off xs m (by decide), lap_off xs m (by decide), by rw [lap_off xs m (by decide), wbet_symm], by rw [lap_off xs m (by decide), wbet_symm], d2, lap_off xs m (by decide), lap_off xs m (by decide), by rw [lap_off xs m (by decide), wbet_symm], by rw [lap_off xs m (by decide), wbet_symm], by rw [lap_off xs m (by decide), wbet_symm], d3, lap_off xs m (by decide), by rw [lap_off xs m (by decide), wbet_symm], by rw [lap_off xs m (by decide), wbet_symm], by rw [lap_off xs m (by decide), wbet_symm], by rw [lap_off xs m (by decide), wbet_symm], d4⟩
theorem dn5_1 {m : Nat} {xs : List Int} (h : Drn 5 m xs) : 1 ≤ wbet xs m 0 1 := by
  obtain ⟨p, hp, h1⟩ := down_sum h (v := 1) (by decide) (by decide)
  have n0 := wbet_nn h 0 1
  have hc : p = 0 := by omega
  rcases hc with rfl
  · replace h1 : 1 ≤ wbet xs m 0 1 := h1; omega
theorem dn5_2 {m : Nat} {xs : List Int} (h : Drn 5 m xs) : 1 ≤ wbet xs m 0 2 + wbet xs m 1 2 := by
  obtain ⟨p, hp, h1⟩ := down_sum h (v := 2) (by decide) (by decide)
  have n0 := wbet_nn h 0 2
  have n1 := wbet_nn h 1 2
  have hc : p = 0 ∨ p = 1 := by omega
  rcases hc with rfl | rfl
  · replace h1 : 1 ≤ wbet xs m 0 2 := h1; omega
  · replace h1 : 1 ≤ wbet xs m 1 2 := h1; omega
theorem dn5_3 {m : Nat} {xs : List Int} (h : Drn 5 m xs) : 1 ≤ wbet xs m 0 3 + wbet xs m 1 3 + wbet xs m 2 3 := by
  obtain ⟨p, hp, h1⟩ := down_sum h (v := 3) (by decide) (by decide)
  have n0 := wbet_nn h 0 3
  have n1 := wbet_nn h 1 3
  have n2 := wbet_nn h 2 3
  have hc : p = 0 ∨ p = 1 ∨ p = 2 := by omega
  rcases hc with rfl | rfl | rfl
  · replace h1 : 1 ≤ wbet xs m 0 3 := h1; omega
  · replace h1 : 1 ≤ wbet xs m 1 3 := h1; omega
  · replace h1 : 1 ≤ wbet xs m 2 3 := h1; omega
theorem dn5_4 {m : Nat} {xs : List Int} (h : Drn 5 m xs) : 1 ≤ wbet xs m 0 4 + wbet xs m 1 4 + wbet xs m 2 4 + wbet xs m 3 4 := by
  obtain ⟨p, hp, h1⟩ := down_sum h (v := 4) (by decide) (by decide)
  have n0 := wbet_nn h 0 4
  have n1 := wbet_nn h 1 4
  have n2 := wbet_nn h 2 4
  have n3 := wbet_nn h 3 4
  have hc : p = 0 ∨ p = 1 ∨ p = 2 ∨ p = 3 := by omega
  rcases hc with rfl | rfl | rfl | rfl
  · replace h1 : 1 ≤ wbet xs m 0 4 := h1; omega
  · replace h1 : 1 ≤ wbet xs m 1 4 := h1; omega
  · replace h1 : 1 ≤ wbet xs m 2 4 := h1; omega
  · replace h1 : 1 ≤ wbet xs m 3 4 := h1; omega
theorem trT5 {m : Nat} {xs : List Int} (h : Drn 5 m xs) : treeT 5 m xs = tp5 (wbet xs m 0 1) (wbet xs m 0 2) (wbet xs m 0 3) (wbet xs m 0 4) (wbet xs m 1 2) (wbet xs m 1 3) (wbet xs m 1 4) (wbet xs m 2 3) (wbet xs m 2 4) (wbet xs m 3 4) := tree5 (lap5_of h)
theorem trP5 {m : Nat} {xs : List Int} (h : Drn 5 m xs) : 1 ≤ treeT 5 m xs := by rw [trT5 h]; exact tp5_pos (wbet_nn h 0 1) (wbet_nn h 0 2) (wbet_nn h 0 3) (wbet_nn h 0 4) (wbet_nn h 1 2) (wbet_nn h 1 3) (wbet_nn h 1 4) (wbet_nn h 2 3) (wbet_nn h 2 4) (wbet_nn h 3 4) (dn5_1 h) (dn5_2 h) (dn5_3 h) (dn5_4 h)
theorem foT5_01 {m : Nat} {xs : List Int} (h : Drn 5 m xs) : forZ 5 m xs 0 1 = fp5_01 (wbet xs m 0 1) (wbet xs m 0 2) (wbet xs m 0 3) (wbet xs m 0 4) (wbet xs m 1 2) (wbet xs m 1 3) (wbet xs m 1 4) (wbet xs m 2 3) (wbet xs m 2 4) (wbet xs m 3 4) := for5_01 (lap5_of h)
theorem foP5_01 {m : Nat} {xs : List Int} (h : Drn 5 m xs) : 1 ≤ forZ 5 m xs 0 1 := by rw [foT5_01 h]; exact fp5_01_pos (wbet_nn h 0 1) (wbet_nn h 0 2) (wbet_nn h 0 3) (wbet_nn h 0 4) (wbet_nn h 1 2) (wbet_nn h 1 3) (wbet_nn h 1 4) (wbet_nn h 2 3) (wbet_nn h 2 4) (wbet_nn h 3 4) (dn5_1 h) (dn5_2 h) (dn5_3 h) (dn5_4 h)
theorem foT5_02 {m : Nat} {xs : List Int} (h : Drn 5 m xs) : forZ 5 m xs 0 2 = fp5_02 (wbet xs m 0 1) (wbet xs m 0 2) (wbet xs m 0 3) (wbet xs m 0 4) (wbet xs m 1 2) (wbet xs m 1 3) (wbet xs m 1 4) (wbet xs m 2 3) (wbet xs m 2 4) (wbet xs m 3 4) := for5_02 (lap5_of h)
theorem foP5_02 {m : Nat} {xs : List Int} (h : Drn 5 m xs) : 1 ≤ forZ 5 m xs 0 2 := by rw [foT5_02 h]; exact fp5_02_pos (wbet_nn h 0 1) (wbet_nn h 0 2) (wbet_nn h 0 3) (wbet_nn h 0 4) (wbet_nn h 1 2) (wbet_nn h 1 3) (wbet_nn h 1 4) (wbet_nn h 2 3) (wbet_nn h 2 4) (wbet_nn h 3 4) (dn5_1 h) (dn5_2 h) (dn5_3 h) (dn5_4 h)
theorem foT5_03 {m : Nat} {xs : List Int} (h : Drn 5 m xs) : forZ 5 m xs 0 3 = fp5_03 (wbet xs m 0 1) (wbet xs m 0 2) (wbet xs m 0 3) (wbet xs m 0 4) (wbet xs m 1 2) (wbet xs m 1 3) (wbet xs m 1 4) (wbet xs m 2 3) (wbet xs m 2 4) (wbet xs m 3 4) := for5_03 (lap5_of h)
theorem foP5_03 {m : Nat} {xs : List Int} (h : Drn 5 m xs) : 1 ≤ forZ 5 m xs 0 3 := by rw [foT5_03 h]; exact fp5_03_pos (wbet_nn h 0 1) (wbet_nn h 0 2) (wbet_nn h 0 3) (wbet_nn h 0 4) (wbet_nn h 1 2) (wbet_nn h 1 3) (wbet_nn h 1 4) (wbet_nn h 2 3) (wbet_nn h 2 4) (wbet_nn h 3 4) (dn5_1 h) (dn5_2 h) (dn5_3 h) (dn5_4 h)
theorem foT5_04 {m : Nat} {xs : List Int} (h : Drn 5 m xs) : forZ 5 m xs 0 4 = fp5_04 (wbet xs m 0 1) (wbet xs m 0 2) (wbet xs m 0 3) (wbet xs m 0 4) (wbet xs m 1 2) (wbet xs m 1 3) (wbet xs m 1 4) (wbet xs m 2 3) (wbet xs m 2 4) (wbet xs m 3 4) := for5_04 (lap5_of h)
theorem foP5_04 {m : Nat} {xs : List Int} (h : Drn 5 m xs) : 1 ≤ forZ 5 m xs 0 4 := by rw [foT5_04 h]; exact fp5_04_pos (wbet_nn h 0 1) (wbet_nn h 0 2) (wbet_nn h 0 3) (wbet_nn h 0 4) (wbet_nn h 1 2) (wbet_nn h 1 3) (wbet_nn h 1 4) (wbet_nn h 2 3) (wbet_nn h 2 4) (wbet_nn h 3 4) (dn5_1 h) (dn5_2 h) (dn5_3 h) (dn5_4 h)
theorem foT5_10 {m : Nat} {xs : List Int} (h : Drn 5 m xs) : forZ 5 m xs 1 0 = fp5_01 (wbet xs m 0 1) (wbet xs m 0 2) (wbet xs m 0 3) (wbet xs m 0 4) (wbet xs m 1 2) (wbet xs m 1 3) (wbet xs m 1 4) (wbet xs m 2 3) (wbet xs m 2 4) (wbet xs m 3 4) := for5_01 (lap5_of h)
theorem foT5_12 {m : Nat} {xs : List Int} (h : Drn 5 m xs) : forZ 5 m xs 1 2 = fp5_12 (wbet xs m 0 1) (wbet xs m 0 2) (wbet xs m 0 3) (wbet xs m 0 4) (wbet xs m 1 2) (wbet xs m 1 3) (wbet xs m 1 4) (wbet xs m 2 3) (wbet xs m 2 4) (wbet xs m 3 4) := for5_12 (lap5_of h)
theorem foP5_12 {m : Nat} {xs : List Int} (h : Drn 5 m xs) : 1 ≤ forZ 5 m xs 1 2 := by rw [foT5_12 h]; exact fp5_12_pos (wbet_nn h 0 1) (wbet_nn h 0 2) (wbet_nn h 0 3) (wbet_nn h 0 4) (wbet_nn h 1 2) (wbet_nn h 1 3) (wbet_nn h 1 4) (wbet_nn h 2 3) (wbet_nn h 2 4) (wbet_nn h 3 4) (dn5_1 h) (dn5_2 h) (dn5_3 h) (dn5_4 h)
theorem foT5_13 {m : Nat} {xs : List Int} (h : Drn 5 m xs) : forZ 5 m xs 1 3 = fp5_13 (wbet xs m 0 1) (wbet xs m 0 2) (wbet xs m 0 3) (wbet xs m 0 4) (wbet xs m 1 2) (wbet xs m 1 3) (wbet xs m 1 4) (wbet xs m 2 3) (wbet xs m 2 4) (wbet xs m 3 4) := for5_13 (lap5_of h)
theorem foP5_13 {m : Nat} {xs : List Int} (h : Drn 5 m xs) : 1 ≤ forZ 5 m xs 1 3 := by rw [foT5_13 h]; exact fp5_13_pos (wbet_nn h 0 1) (wbet_nn h 0 2) (wbet_nn h 0 3) (wbet_nn h 0 4) (wbet_nn h 1 2) (wbet_nn h 1 3) (wbet_nn h 1 4) (wbet_nn h 2 3) (wbet_nn h 2 4) (wbet_nn h 3 4) (dn5_1 h) (dn5_2 h) (dn5_3 h) (dn5_4 h)
theorem foT5_14 {m : Nat} {xs : List Int} (h : Drn 5 m xs) : forZ 5 m xs 1 4 = fp5_14 (wbet xs m 0 1) (wbet xs m 0 2) (wbet xs m 0 3) (wbet xs m 0 4) (wbet xs m 1 2) (wbet xs m 1 3) (wbet xs m 1 4) (wbet xs m 2 3) (wbet xs m 2 4) (wbet xs m 3 4) := for5_14 (lap5_of h)
theorem foP5_14 {m : Nat} {xs : List Int} (h : Drn 5 m xs) : 1 ≤ forZ 5 m xs 1 4 := by rw [foT5_14 h]; exact fp5_14_pos (wbet_nn h 0 1) (wbet_nn h 0 2) (wbet_nn h 0 3) (wbet_nn h 0 4) (wbet_nn h 1 2) (wbet_nn h 1 3) (wbet_nn h 1 4) (wbet_nn h 2 3) (wbet_nn h 2 4) (wbet_nn h 3 4) (dn5_1 h) (dn5_2 h) (dn5_3 h) (dn5_4 h)
theorem foT5_20 {m : Nat} {xs : List Int} (h : Drn 5 m xs) : forZ 5 m xs 2 0 = fp5_02 (wbet xs m 0 1) (wbet xs m 0 2) (wbet xs m 0 3) (wbet xs m 0 4) (wbet xs m 1 2) (wbet xs m 1 3) (wbet xs m 1 4) (wbet xs m 2 3) (wbet xs m 2 4) (wbet xs m 3 4) := for5_02 (lap5_of h)
theorem foT5_21 {m : Nat} {xs : List Int} (h : Drn 5 m xs) : forZ 5 m xs 2 1 = fp5_12 (wbet xs m 0 1) (wbet xs m 0 2) (wbet xs m 0 3) (wbet xs m 0 4) (wbet xs m 1 2) (wbet xs m 1 3) (wbet xs m 1 4) (wbet xs m 2 3) (wbet xs m 2 4) (wbet xs m 3 4) := for5_12 (lap5_of h)
theorem foT5_23 {m : Nat} {xs : List Int} (h : Drn 5 m xs) : forZ 5 m xs 2 3 = fp5_23 (wbet xs m 0 1) (wbet xs m 0 2) (wbet xs m 0 3) (wbet xs m 0 4) (wbet xs m 1 2) (wbet xs m 1 3) (wbet xs m 1 4) (wbet xs m 2 3) (wbet xs m 2 4) (wbet xs m 3 4) := for5_23 (lap5_of h)
theorem foP5_23 {m : Nat} {xs : List Int} (h : Drn 5 m xs) : 1 ≤ forZ 5 m xs 2 3 := by rw [foT5_23 h]; exact fp5_23_pos (wbet_nn h 0 1) (wbet_nn h 0 2) (wbet_nn h 0 3) (wbet_nn h 0 4) (wbet_nn h 1 2) (wbet_nn h 1 3) (wbet_nn h 1 4) (wbet_nn h 2 3) (wbet_nn h 2 4) (wbet_nn h 3 4) (dn5_1 h) (dn5_2 h) (dn5_3 h) (dn5_4 h)
theorem foT5_24 {m : Nat} {xs : List Int} (h : Drn 5 m xs) : forZ 5 m xs 2 4 = fp5_24 (wbet xs m 0 1) (wbet xs m 0 2) (wbet xs m 0 3) (wbet xs m 0 4) (wbet xs m 1 2) (wbet xs m 1 3) (wbet xs m 1 4) (wbet xs m 2 3) (wbet xs m 2 4) (wbet xs m 3 4) := for5_24 (lap5_of h)
theorem foP5_24 {m : Nat} {xs : List Int} (h : Drn 5 m xs) : 1 ≤ forZ 5 m xs 2 4 := by rw [foT5_24 h]; exact fp5_24_pos (wbet_nn h 0 1) (wbet_nn h 0 2) (wbet_nn h 0 3) (wbet_nn h 0 4) (wbet_nn h 1 2) (wbet_nn h 1 3) (wbet_nn h 1 4) (wbet_nn h 2 3) (wbet_nn h 2 4) (wbet_nn h 3 4) (dn5_1 h) (dn5_2 h) (dn5_3 h) (dn5_4 h)
theorem foT5_30 {m : Nat} {xs : List Int} (h : Drn 5 m xs) : forZ 5 m xs 3 0 = fp5_03 (wbet xs m 0 1) (wbet xs m 0 2) (wbet xs m 0 3) (wbet xs m 0 4) (wbet xs m 1 2) (wbet xs m 1 3) (wbet xs m 1 4) (wbet xs m 2 3) (wbet xs m 2 4) (wbet xs m 3 4) := for5_03 (lap5_of h)
theorem foT5_31 {m : Nat} {xs : List Int} (h : Drn 5 m xs) : forZ 5 m xs 3 1 = fp5_13 (wbet xs m 0 1) (wbet xs m 0 2) (wbet xs m 0 3) (wbet xs m 0 4) (wbet xs m 1 2) (wbet xs m 1 3) (wbet xs m 1 4) (wbet xs m 2 3) (wbet xs m 2 4) (wbet xs m 3 4) := for5_13 (lap5_of h)
theorem foT5_32 {m : Nat} {xs : List Int} (h : Drn 5 m xs) : forZ 5 m xs 3 2 = fp5_23 (wbet xs m 0 1) (wbet xs m 0 2) (wbet xs m 0 3) (wbet xs m 0 4) (wbet xs m 1 2) (wbet xs m 1 3) (wbet xs m 1 4) (wbet xs m 2 3) (wbet xs m 2 4) (wbet xs m 3 4) := for5_23 (lap5_of h)
theorem foT5_34 {m : Nat} {xs : List Int} (h : Drn 5 m xs) : forZ 5 m xs 3 4 = fp5_34 (wbet xs m 0 1) (wbet xs m 0 2) (wbet xs m 0 3) (wbet xs m 0 4) (wbet xs m 1 2) (wbet xs m 1 3) (wbet xs m 1 4) (wbet xs m 2 3) (wbet xs m 2 4) (wbet xs m 3 4) := for5_34 (lap5_of h)
theorem foP5_34 {m : Nat} {xs : List Int} (h : Drn 5 m xs) : 1 ≤ forZ 5 m xs 3 4 := by rw [foT5_34 h]; exact fp5_34_pos (wbet_nn h 0 1) (wbet_nn h 0 2) (wbet_nn h 0 3) (wbet_nn h 0 4) (wbet_nn h 1 2) (wbet_nn h 1 3) (wbet_nn h 1 4) (wbet_nn h 2 3) (wbet_nn h 2 4) (wbet_nn h 3 4) (dn5_1 h) (dn5_2 h) (dn5_3 h) (dn5_4 h)
theorem foT5_40 {m : Nat} {xs : List Int} (h : Drn 5 m xs) : forZ 5 m xs 4 0 = fp5_04 (wbet xs m 0 1) (wbet xs m 0 2) (wbet xs m 0 3) (wbet xs m 0 4) (wbet xs m 1 2) (wbet xs m 1 3) (wbet xs m 1 4) (wbet xs m 2 3) (wbet xs m 2 4) (wbet xs m 3 4) := for5_04 (lap5_of h)
theorem foT5_41 {m : Nat} {xs : List Int} (h : Drn 5 m xs) : forZ 5 m xs 4 1 = fp5_14 (wbet xs m 0 1) (wbet xs m 0 2) (wbet xs m 0 3) (wbet xs m 0 4) (wbet xs m 1 2) (wbet xs m 1 3) (wbet xs m 1 4) (wbet xs m 2 3) (wbet xs m 2 4) (wbet xs m 3 4) := for5_14 (lap5_of h)
theorem foT5_42 {m : Nat} {xs : List Int} (h : Drn 5 m xs) : forZ 5 m xs 4 2 = fp5_24 (wbet xs m 0 1) (wbet xs m 0 2) (wbet xs m 0 3) (wbet xs m 0 4) (wbet xs m 1 2) (wbet xs m 1 3) (wbet xs m 1 4) (wbet xs m 2 3) (wbet xs m 2 4) (wbet xs m 3 4) := for5_24 (lap5_of h)
theorem foT5_43 {m : Nat} {xs : List Int} (h : Drn 5 m xs) : forZ 5 m xs 4 3 = fp5_34 (wbet xs m 0 1) (wbet xs m 0 2) (wbet xs m 0 3) (wbet xs m 0 4) (wbet xs m 1 2) (wbet xs m 1 3) (wbet xs m 1 4) (wbet xs m 2 3) (wbet xs m 2 4) (wbet xs m 3 4) := for5_34 (lap5_of h)

theorem forZ_symm (n m : Nat) (xs : List Int) (a b : Int) : forZ n m xs a b = forZ n m xs b a := by
  unfold forZ
  by_cases h : a = b
  · rw [h]
  · rw [if_neg h, if_neg (fun k => h k.symm)]
    have e : without n [a, b] = without n [b, a] := by
      unfold without
      congr 1
      funext x
      congr 2
      simp only [List.mem_cons, List.not_mem_nil, or_false, eq_iff_iff]
      omega
    unfold forT minorV
    rw [e]
theorem forZ_self (n m : Nat) (xs : List Int) (a : Int) : forZ n m xs a a = 0 := if_pos rfl
theorem tree_pos {n m : Nat} {xs : List Int} (h : Drn n m xs) : 1 ≤ treeT n m xs := by
  have h1 := h.two
  have h2 := h.five
  obtain rfl | rfl | rfl | rfl : n = 2 ∨ n = 3 ∨ n = 4 ∨ n = 5 := by omega
  · exact trP2 h
  · exact trP3 h
  · exact trP4 h
  · exact trP5 h
theorem for_pos2 {m : Nat} {xs : List Int} (h : Drn 2 m xs) {a b : Int} (ha : 0 ≤ a ∧ a < 2) (hb : 0 ≤ b ∧ b < 2) (hab : a ≠ b) : 1 ≤ forZ 2 m xs a b := by
  obtain rfl | rfl : a = 0 ∨ a = 1 := by omega
  · obtain rfl | rfl : b = 0 ∨ b = 1 := by omega
    · exact absurd rfl hab
    · exact foP2_01 h
  · obtain rfl | rfl : b = 0 ∨ b = 1 := by omega
    · rw [forZ_symm]; exact foP2_01 h
    · exact absurd rfl hab
theorem for_pos3 {m : Nat} {xs : List Int} (h : Drn 3 m xs) {a b : Int} (ha : 0 ≤ a ∧ a < 3) (hb : 0 ≤ b ∧ b < 3) (hab : a ≠ b) : 1 ≤ forZ 3 m xs a b := by
  obtain rfl | rfl | rfl : a = 0 ∨ a = 1 ∨ a = 2 := by omega
  · obtain rfl | rfl | rfl : b = 0 ∨ b = 1 ∨ b = 2 := by omega
    · exact absurd rfl hab
    · exact foP3_01 h
    · exact foP3_02 h
  · obtain rfl | rfl | rfl : b = 0 ∨ b = 1 ∨ b = 2 := by omega
    · rw [forZ_symm]; exact foP3_01 h
    · exact absurd rfl hab
    · exact foP3_12 h
  · obtain rfl | rfl | rfl : b = 0 ∨ b = 1 ∨ b = 2 := by omega
    · rw [forZ_symm]; exact foP3_02 h
    · rw [forZ_symm]; exact foP3_12 h
    · exact absurd rfl hab
theorem for_pos4 {m : Nat} {xs : List Int} (h : Drn 4 m xs) {a b : Int} (ha : 0 ≤ a ∧ a < 4) (hb : 0 ≤ b ∧ b < 4) (hab : a ≠ b) : 1 ≤ forZ 4 m xs a b := by
  obtain rfl | rfl | rfl | rfl : a = 0 ∨ a = 1 ∨ a = 2 ∨ a = 3 := by omega
  · obtain rfl | rfl | rfl | rfl : b = 0 ∨ b = 1 ∨ b = 2 ∨ b = 3 := by omega
    · exact absurd rfl hab
    · exact foP4_01 h
    · exact foP4_02 h
    · exact foP4_03 h
  · obtain rfl | rfl | rfl | rfl : b = 0 ∨ b = 1 ∨ b = 2 ∨ b = 3 := by omega
    · rw [forZ_symm]; exact foP4_01 h
    · exact absurd rfl hab
    · exact foP4_12 h
    · exact foP4_13 h
  · obtain rfl | rfl | rfl | rfl : b = 0 ∨ b = 1 ∨ b = 2 ∨ b = 3 := by omega
    · rw [forZ_symm]; exact foP4_02 h
    · rw [forZ_symm]; exact foP4_12 h
    · exact absurd rfl hab
    · exact foP4_23 h
  · obtain rfl | rfl | rfl | rfl : b = 0 ∨ b = 1 ∨ b = 2 ∨ b = 3 := by omega
    · rw [forZ_symm]; exact foP4_03 h
    · rw [forZ_symm]; exact foP4_13 h
    · rw [forZ_symm]; exact foP4_23 h
    · exact absurd rfl hab
theorem for_pos5 {m : Nat} {xs : List Int} (h : Drn 5 m xs) {a b : Int} (ha : 0 ≤ a ∧ a < 5) (hb : 0 ≤ b ∧ b < 5) (hab : a ≠ b) : 1 ≤ forZ 5 m xs a b := by
  obtain rfl | rfl | rfl | rfl | rfl : a = 0 ∨ a = 1 ∨ a = 2 ∨ a = 3 ∨ a = 4 := by omega
  · obtain rfl | rfl | rfl | rfl | rfl : b = 0 ∨ b = 1 ∨ b = 2 ∨ b = 3 ∨ b = 4 := by omega
    · exact absurd rfl hab
    · exact foP5_01 h
    · exact foP5_02 h
    · exact foP5_03 h
    · exact foP5_04 h
  · obtain rfl | rfl | rfl | rfl | rfl : b = 0 ∨ b = 1 ∨ b = 2 ∨ b = 3 ∨ b = 4 := by omega
    · rw [forZ_symm]; exact foP5_01 h
    · exact absurd rfl hab
    · exact foP5_12 h
    · exact foP5_13 h
    · exact foP5_14 h
  · obtain rfl | rfl | rfl | rfl | rfl : b = 0 ∨ b = 1 ∨ b = 2 ∨ b = 3 ∨ b = 4 := by omega
    · rw [forZ_symm]; exact foP5_02 h
    · rw [forZ_symm]; exact foP5_12 h
    · exact absurd rfl hab
    · exact foP5_23 h
    · exact foP5_24 h
  · obtain rfl | rfl | rfl | rfl | rfl : b = 0 ∨ b = 1 ∨ b = 2 ∨ b = 3 ∨ b = 4 := by omega
    · rw [forZ_symm]; exact foP5_03 h
    · rw [forZ_symm]; exact foP5_13 h
    · rw [forZ_symm]; exact foP5_23 h
    · exact absurd rfl hab
    · exact foP5_34 h
  · obtain rfl | rfl | rfl | rfl | rfl : b = 0 ∨ b = 1 ∨ b = 2 ∨ b = 3 ∨ b = 4 := by omega
    · rw [forZ_symm]; exact foP5_04 h
    · rw [forZ_symm]; exact foP5_14 h
    · rw [forZ_symm]; exact foP5_24 h
    · rw [forZ_symm]; exact foP5_34 h
    · exact absurd rfl hab
theorem for_pos {n m : Nat} {xs : List Int} (h : Drn n m xs) {a b : Int} (ha : 0 ≤ a ∧ a < n) (hb : 0 ≤ b ∧ b < n) (hab : a ≠ b) : 1 ≤ forZ n m xs a b := by
  have h1 := h.two
  have h2 := h.five
  obtain rfl | rfl | rfl | rfl : n = 2 ∨ n = 3 ∨ n = 4 ∨ n = 5 := by omega
  · exact for_pos2 h ha hb hab
  · exact for_pos3 h ha hb hab
  · exact for_pos4 h ha hb hab
  · exact for_pos5 h ha hb hab
theorem pot_nn3 {m : Nat} {xs : List Int} (h : Drn 3 m xs) {a b v : Int} (ha : 0 ≤ a ∧ a < 3) (hb : 0 ≤ b ∧ b < 3) (hv : 0 ≤ v ∧ v < 3) (hab : a ≠ b) (hav : a < v) (hvb : v ≠ b) : 0 ≤ forZ 3 m xs a b + forZ 3 m xs v b - forZ 3 m xs a v := by
  obtain rfl | rfl | rfl : a = 0 ∨ a = 1 ∨ a = 2 := by omega
  · obtain rfl | rfl | rfl : v = 0 ∨ v = 1 ∨ v = 2 := by omega
    · omega
    · obtain rfl | rfl | rfl : b = 0 ∨ b = 1 ∨ b = 2 := by omega
      · exact absurd rfl hab
      · exact absurd rfl hvb
      · rw [foT3_02 h, foT3_12 h, foT3_01 h]; have e := pp3_012_id (wbet xs m 0 1) (wbet xs m 0 2) (wbet xs m 1 2); have z := pp3_012_nn (wbet_nn h 0 1) (wbet_nn h 0 2) (wbet_nn h 1 2); omega
    · obtain rfl | rfl | rfl : b = 0 ∨ b = 1 ∨ b = 2 := by omega
      · exact absurd rfl hab
      · rw [foT3_01 h, foT3_21 h, foT3_02 h]; have e := pp3_021_id (wbet xs m 0 1) (wbet xs m 0 2) (wbet xs m 1 2); have z := pp3_021_nn (wbet_nn h 0 1) (wbet_nn h 0 2) (wbet_nn h 1 2); omega
      · exact absurd rfl hvb
  · obtain rfl | rfl | rfl : v = 0 ∨ v = 1 ∨ v = 2 := by omega
    · omega
    · omega
    · obtain rfl | rfl | rfl : b = 0 ∨ b = 1 ∨ b = 2 := by omega
      · rw [foT3_10 h, foT3_20 h, foT3_12 h]; have e := pp3_120_id (wbet xs m 0 1) (wbet xs m 0 2) (wbet xs m 1 2); have z := pp3_120_nn (wbet_nn h 0 1) (wbet_nn h 0 2) (wbet_nn h 1 2); omega
      · exact absurd rfl hab
      · exact absurd rfl hvb
  · obtain rfl | rfl | rfl : v = 0 ∨ v = 1 ∨ v = 2 := by omega
    · omega
    · omega
    · omega
theorem pot_nn4 {m : Nat} {xs : List Int} (h : Drn 4 m xs) {a b v : Int} (ha : 0 ≤ a ∧ a < 4) (hb : 0 ≤ b ∧ b < 4) (hv : 0 ≤ v ∧ v < 4) (hab : a ≠ b) (hav : a < v) (hvb : v ≠ b) : 0 ≤ forZ 4 m xs a b + forZ 4 m xs v b - forZ 4 m xs a v := by
  obtain rfl | rfl | rfl | rfl : a = 0 ∨ a = 1 ∨ a = 2 ∨ a = 3 := by omega
  · obtain rfl | rfl | rfl | rfl : v = 0 ∨ v = 1 ∨ v = 2 ∨ v = 3 := by omega
    · omega
    · obtain rfl | rfl | rfl | rfl : b = 0 ∨ b = 1 ∨ b = 2 ∨ b = 3 := by omega
      · exact absurd rfl hab
      · exact absurd rfl hvb
      · rw [foT4_02 h, foT4_12 h, foT4_01 h]; have e := pp4_012_id (wbet xs m 0 1) (wbet xs m 0 2) (wbet xs m 0 3) (wbet xs m 1 2) (wbet xs m 1 3) (wbet xs m 2 3); have z := pp4_012_nn (wbet_nn h 0 1) (wbet_nn h 0 2) (wbet_nn h 0 3) (wbet_nn h 1 2) (wbet_nn h 1 3) (wbet_nn h 2 3); omega
      · rw [foT4_03 h, foT4_13 h, foT4_01 h]; have e := pp4_013_id (wbet xs m 0 1) (wbet xs m 0 2) (wbet xs m 0 3) (wbet xs m 1 2) (wbet xs m 1 3) (wbet xs m 2 3); have z := pp4_013_nn (wbet_nn h 0 1) (wbet_nn h 0 2) (wbet_nn h 0 3) (wbet_nn h 1 2) (wbet_nn h 1 3) (wbet_nn h 2 3); omega
    · obtain rfl | rfl | rfl | rfl : b = 0 ∨ b = 1 ∨ b = 2 ∨ b = 3 := by omega
      · exact absurd rfl hab
      · rw [foT4_01 h, foT4_21 h, foT4_02 h]; have e := pp4_021_id (wbet xs m 0 1) (wbet xs m 0 2) (wbet xs m 0 3) (wbet xs m 1 2) (wbet xs m 1 3) (wbet xs m 2 3); have z := pp4_021_nn (wbet_nn h 0 1) (wbet_nn h 0 2) (wbet_nn h 0 3) (wbet_nn h 1 2) (wbet_nn h 1 3) (wbet_nn h 2 3); omega
      · exact absurd rfl hvb
      · rw [foT4_03 h, foT4_23 h, foT4_02 h]; have e := pp4_023_id (wbet xs m 0 1) (wbet xs m 0 2) (wbet xs m 0 3) (wbet xs m 1 2) (wbet xs m 1 3) (wbet xs m 2 3); have z := pp4_023_nn (wbet_nn h 0 1) (wbet_nn h 0 2) (wbet_nn h 0 3) (wbet_nn h 1 2) (wbet_nn h 1 3) (wbet_nn h 2 3); omega
    · obtain rfl | rfl | rfl | rfl : b = 0 ∨ b = 1 ∨ b = 2 ∨ b = 3 := by omega
      · exact absurd rfl hab
      · rw [foT4_01 h, foT4_31 h, foT4_03 h]; have e := pp4_031_id (wbet xs m 0 1) (wbet xs m 0 2) (wbet xs m 0 3) (wbet xs m 1 2) (wbet xs m 1 3) (wbet xs m 2 3); have z := pp4_031_nn (wbet_nn h 0 1) (wbet_nn h 0 2) (wbet_nn h 0 3) (wbet_nn h 1 2) (wbet_nn h 1 3) (wbet_nn h 2 3); omega
      · rw [foT4_02 h, foT4_32 h, foT4_03 h]; have e := pp4_032_id (wbet xs m 0 1) (wbet xs m 0 2) (wbet xs m 0 3) (wbet xs m 1 2) (wbet xs m 1 3) (wbet xs m 2 3); have z := pp4_032_nn (wbet_nn h 0 1) (wbet_nn h 0 2) (wbet_nn h 0 3) (wbet_nn h 1 2) (wbet_nn h 1 3) (wbet_nn h 2 3); omega
      · exact absurd rfl hvb
  · obtain rfl | rfl | rfl | rfl : v = 0 ∨ v = 1 ∨ v = 2 ∨ v = 3 := by omega
    · omega
    · omega
    · obtain rfl | rfl | rfl | rfl : b = 0 ∨ b = 1 ∨ b = 2 ∨ b = 3 := by omega
      · rw [foT4_10 h, foT4_20 h, foT4_12 h]; have e := pp4_120_id (wbet xs m 0 1) (wbet xs m 0 2) (wbet xs m 0 3) (wbet xs m 1 2) (wbet xs m 1 3) (wbet xs m 2 3); have z := pp4_120_nn (wbet_nn h 0 1) (wbet_nn h 0 2) (wbet_nn h 0 3) (wbet_nn h 1 2) (wbet_nn h 1 3) (wbet_nn h 2 3); omega
      · exact absurd rfl hab
      · exact absurd rfl hvb
      · rw [foT4_13 h, foT4_23 h, foT4_12 h]; have e := pp4_123_id (wbet xs m 0 1) (wbet xs m 0 2) (wbet xs m 0 3) (wbet xs m 1 2) (wbet xs m 1 3) (wbet xs m 2 3); have z := pp4_123_nn (wbet_nn h 0 1) (wbet_nn h 0 2) (wbet_nn h 0 3) (wbet_nn h 1 2) (wbet_nn h 1 3) (wbet_nn h 2 3); omega
    · obtain rfl | rfl | rfl | rfl : b = 0 ∨ b = 1 ∨ b = 2 ∨ b = 3 := by omega
      · rw [foT4_10 h, foT4_30 h, foT4_13 h]; have e := pp4_130_id (wbet xs m 0 1) (wbet xs m 0 2) (wbet xs m 0 3) (wbet xs m 1 2) (wbet xs m 1 3) (wbet xs m 2 3); have z := pp4_130_nn (wbet_nn h 0 1) (wbet_nn h 0 2) (wbet_nn h 0 3) (wbet_nn h 1 2) (wbet_nn h 1 3) (wbet_nn h 2 3); omega
      · exact absurd rfl hab
      · rw [foT4_12 h, foT4_32 h, foT4_13 h]; have e := pp4_132_id (wbet xs m 0 1) (wbet xs m 0 2) (wbet xs m 0 3) (wbet xs m 1 2) (wbet xs m 1 3) (wbet xs m 2 3); have z := pp4_132_nn (wbet_nn h 0 1) (wbet_nn h 0 2) (wbet_nn h 0 3) (wbet_nn h 1 2) (wbet_nn h 1 3) (wbet_nn h 2 3); omega
      · exact absurd rfl hvb
  · obtain rfl | rfl | rfl | rfl : v = 0 ∨ v = 1 ∨ v = 2 ∨ v = 3 := by omega
    · omega
    · omega
    · omega
    · obtain rfl | rfl | rfl | rfl : b = 0 ∨ b = 1 ∨ b = 2 ∨ b = 3 := by omega
      · rw [foT4_20 h, foT4_30 h, foT4_23 h]; have e := pp4_230_id (wbet xs m 0 1) (wbet xs m 0 2) (wbet xs m 0 3) (wbet xs m 1 2) (wbet xs m 1 3) (wbet xs m 2 3); have z := pp4_230_nn (wbet_nn h 0 1) (wbet_nn h 0 2) (wbet_nn h 0 3) (wbet_nn h 1 2) (wbet_nn h 1 3) (wbet_nn h 2 3); omega
      · rw [foT4_21 h, foT4_31 h, foT4_23 h]; have e := pp4_231_id (wbet xs m 0 1) (wbet xs m 0 2) (wbet xs m 0 3) (wbet xs m 1 2) (wbet xs m 1 3) (wbet xs m 2 3); have z := pp4_231_nn (wbet_nn h 0 1) (wbet_nn h 0 2) (wbet_nn h 0 3) (wbet_nn h 1 2) (wbet_nn h 1 3) (wbet_nn h 2 3); omega
      · exact absurd rfl hab
      · exact absurd rfl hvb
  · obtain rfl | rfl | rfl | rfl : v = 0 ∨ v = 1 ∨ v = 2 ∨ v = 3 := by omega
    · omega
    · omega
    · omega
    · omega
theorem pot_nn5 {m : Nat} {xs : List Int} (h : Drn 5 m xs) {a b v : Int} (ha : 0 ≤ a ∧ a < 5) (hb : 0 ≤ b ∧ b < 5) (hv : 0 ≤ v ∧ v < 5) (hab : a ≠ b) (hav : a < v) (hvb : v ≠ b) : 0 ≤ forZ 5 m xs a b + forZ 5 m xs v b - forZ 5 m xs a v := by
  obtain rfl | rfl | rfl | rfl | rfl : a = 0 ∨ a = 1 ∨ a = 2 ∨ a = 3 ∨ a = 4 := by omega
  · obtain rfl | rfl | rfl | rfl | rfl : v = 0 ∨ v = 1 ∨ v = 2 ∨ v = 3 ∨ v = 4 := by omega
    · omega
    · obtain rfl | rfl | rfl | rfl | rfl : b = 0 ∨ b = 1 ∨ b = 2 ∨ b = 3 ∨ b = 4 := by omega
      · exact absurd rfl hab
      · exact absurd rfl hvb
      · rw [foT5_02 h, foT5_12 h, foT5_01 h]; have e := pp5_012_id (wbet xs m 0 1) (wbet xs m 0 2) (wbet xs m 0 3) (wbet xs m 0 4) (wbet xs m 1 2) (wbet xs m 1 3) (wbet xs m 1 4) (wbet xs m 2 3) (wbet xs m 2 4) (wbet xs m 3 4); have z := pp5_012_nn (wbet_nn h 0 1) (wbet_nn h 0 2) (wbet_nn h 0 3) (wbet_nn h 0 4) (wbet_nn h 1 2) (wbet_nn h 1 3) (wbet_nn h 1 4) (wbet_nn h 2 3) (wbet_nn h 2 4) (wbet_nn h 3 4); omega
      · rw [foT5_03 h, foT5_13 h, foT5_01 h]; have e := pp5_013_id (wbet xs m 0 1) (wbet xs m 0 2) (wbet xs m 0 3) (wbet xs m 0 4) (wbet xs m 1 2) (wbet xs m 1 3) (wbet xs m 1 4) (wbet xs m 2 3) (wbet xs m 2 4) (wbet xs m 3 4); have z := pp5_013_nn (wbet_nn h 0 1) (wbet_nn h 0 2) (wbet_nn h 0 3) (wbet_nn h 0 4) (wbet_nn h 1 2) (wbet_nn h 1 3) (wbet_nn h 1 4) (wbet_nn h 2 3) (wbet_nn h 2 4) (wbet_nn h 3 4); omega
      · rw [foT5_04 h, foT5_14 h, foT5_01 h]; have e := pp5_014_id (wbet xs m 0 1) (wbet xs m 0 2) (wbet xs m 0 3) (wbet xs m 0 4) (wbet xs m 1 2) (wbet xs m 1 3) (wbet xs m 1 4) (wbet xs m 2 3) (wbet xs m 2 4) (wbet xs m 3 4); have z := pp5_014_nn (wbet_nn h 0 1) (wbet_nn h 0 2) (wbet_nn h 0 3) (wbet_nn h 0 4) (wbet_nn h 1 2) (wbet_nn h 1 3) (wbet_nn h 1 4) (wbet_nn h 2 3) (wbet_nn h 2 4) (wbet_nn h 3 4); omega
    · obtain rfl | rfl | rfl | rfl | rfl : b = 0 ∨ b = 1 ∨ b = 2 ∨ b = 3 ∨ b = 4 := by omega
      · exact absurd rfl hab
      · rw [foT5_01 h, foT5_21 h, foT5_02 h]; have e := pp5_021_id (wbet xs m 0 1) (wbet xs m 0 2) (wbet xs m 0 3) (wbet xs m 0 4) (wbet xs m 1 2) (wbet xs m 1 3) (wbet xs m 1 4) (wbet xs m 2 3) (wbet xs m 2 4) (wbet xs m 3 4); have z := pp5_021_nn (wbet_nn h 0 1) (wbet_nn h 0 2) (wbet_nn h 0 3) (wbet_nn h 0 4) (wbet_nn h 1 2) (wbet_nn h 1 3) (wbet_nn h 1 4) (wbet_nn h 2 3) (wbet_nn h 2 4) (wbet_nn h 3 4); omega
      · exact absurd rfl hvb
      · rw [foT5_03 h, foT5_23 h, foT5_02 h]; have e := pp5_023_id (wbet xs m 0 1) (wbet xs m 0 2) (wbet xs m 0 3) (wbet xs m 0 4) (wbet xs m 1 2) (wbet xs m 1 3) (wbet xs m 1 4) (wbet xs m 2 3) (wbet xs m 2 4) (wbet xs m 3 4); have z := pp5_023_nn (wbet_nn h 0 1) (wbet_nn h 0 2) (wbet_nn h 0 3) (wbet_nn h 0 4) (wbet_nn h 1 2) (wbet_nn h 1 3) (wbet_nn h 1 4) (wbet_nn h 2 3) (wbet_nn h 2 4) (wbet_nn h 3 4); omega
      · rw [foT5_04 h, foT5_24 h, foT5_02 h]; have e := pp5_024_id (wbet xs m 0 1) (wbet xs m 0 2) (wbet xs m 0 3) (wbet xs m 0 4) (wbet xs m 1 2) (wbet xs m 1 3) (wbet xs m 1 4) (wbet xs m 2 3) (wbet xs m 2 4) (wbet xs m 3 4); have z := pp5_024_nn (wbet_nn h 0 1) (wbet_nn h 0 2) (wbet_nn h 0 3) (wbet_nn h 0 4) (wbet_nn h 1 2) (wbet_nn h 1 3) (wbet_nn h 1 4) (wbet_nn h 2 3) (wbet_nn h 2 4) (wbet_nn h 3 4); omega
    · obtain rfl | rfl | rfl | rfl | rfl : b = 0 ∨ b = 1 ∨ b = 2 ∨ b = 3 ∨ b = 4 := by omega
      · exact absurd rfl hab
      · rw [foT5_01 h, foT5_31 h, foT5_03 h]; have e := pp5_031_id (wbet xs m 0 1) (wbet xs m 0 2) (wbet xs m 0 3) (wbet xs m 0 4) (wbet xs m 1 2) (wbet xs m 1 3) (wbet xs m 1 4) (wbet xs m 2 3) (wbet xs m 2 4) (wbet xs m 3 4); have z := pp5_031_nn (wbet_nn h 0 1) (wbet_nn h 0 2) (wbet_nn h 0 3) (wbet_nn h 0 4) (wbet_nn h 1 2) (wbet_nn h 1 3) (wbet_nn h 1 4) (wbet_nn h 2 3) (wbet_nn h 2 4) (wbet_nn h 3 4); omega
      · rw [foT5_02 h, foT5_32 h, foT5_03 h]; have e := pp5_032_id (wbet xs m 0 1) (wbet xs m 0 2) (wbet xs m 0 3) (wbet xs m 0 4) (wbet xs m 1 2) (wbet xs m 1 3) (wbet xs m 1 4) (wbet xs m 2 3) (wbet xs m 2 4) (wbet xs m 3 4); have z := pp5_032_nn (wbet_nn h 0 1) (wbet_nn h 0 2) (wbet_nn h 0 3) (wbet_nn h 0 4) (wbet_nn h 1 2) (wbet_nn h 1 3) (wbet_nn h 1 4) (wbet_nn h 2 3) (wbet_nn h 2 4) (wbet_nn h 3 4); omega
      · exact absurd rfl hvb
      · rw [foT5_04 h, foT5_34 h, foT5_03 h]; have e := pp5_034_id (wbet xs m 0 1) (wbet xs m 0 2) (wbet xs m 0 3) (wbet xs m 0 4) (wbet xs m 1 2) (wbet xs m 1 3) (wbet xs m 1 4) (wbet xs m 2 3) (wbet xs m 2 4) (wbet xs m 3 4); have z := pp5_034_nn (wbet_nn h 0 1) (wbet_nn h 0 2) (wbet_nn h 0 3) (wbet_nn h 0 4) (wbet_nn h 1 2) (wbet_nn h 1 3) (wbet_nn h 1 4) (wbet_nn h 2 3) (wbet_nn h 2 4) (wbet_nn h 3 4); omega
    · obtain rfl | rfl | rfl | rfl | rfl : b = 0 ∨ b = 1 ∨ b = 2 ∨ b = 3 ∨ b = 4 := by omega
      · exact absurd rfl hab
      · rw [foT5_01 h, foT5_41 h, foT5_04 h]; have e := pp5_041_id (wbet xs m 0 1) (wbet xs m 0 2) (wbet xs m 0 3) (wbet xs m 0 4) (wbet xs m 1 2) (wbet xs m 1 3) (wbet xs m 1 4) (wbet xs m 2 3) (wbet xs m 2 4) (wbet xs m 3 4); have z := pp5_041_nn (wbet_nn h 0 1) (wbet_nn h 0 2) (wbet_nn h 0 3) (wbet_nn h 0 4) (wbet_nn h 1 2) (wbet_nn h 1 3) (wbet_nn h 1 4) (wbet_nn h 2 3) (wbet_nn h 2 4) (wbet_nn h 3 4); omega
      · rw [foT5_02 h, foT5_42 h, foT5_04 h]; have e := pp5_042_id (wbet xs m 0 1) (wbet xs m 0 2) (wbet xs m 0 3) (wbet xs m 0 4) (wbet xs m 1 2) (wbet xs m 1 3) (wbet xs m 1 4) (wbet xs m 2 3) (wbet xs m 2 4) (wbet xs m 3 4); have z := pp5_042_nn (wbet_nn h 0 1) (wbet_nn h 0 2) (wbet_nn h 0 3) (wbet_nn h 0 4) (wbet_nn h 1 2) (wbet_nn h 1 3) (wbet_nn h 1 4) (wbet_nn h 2 3) (wbet_nn h 2 4) (wbet_nn h 3 4); omega
      · rw [foT5_03 h, foT5_43 h, foT5_04 h]; have e := pp5_043_id (wbet xs m 0 1) (wbet xs m 0 2) (wbet xs m 0 3) (wbet xs m 0 4) (wbet xs m 1 2) (wbet xs m 1 3) (wbet xs m 1 4) (wbet xs m 2 3) (wbet xs m 2 4) (wbet xs m 3 4); have z := pp5_043_nn (wbet_nn h 0 1) (wbet_nn h 0 2) (wbet_nn h 0 3) (wbet_nn h 0 4) (wbet_nn h 1 2) (wbet_nn h 1 3) (wbet_nn h 1 4) (wbet_nn h 2 3) (wbet_nn h 2 4) (wbet_nn h 3 4); omega
      · exact absurd rfl hvb
  · obtain rfl | rfl | rfl | rfl | rfl : v = 0 ∨ v = 1 ∨ v = 2 ∨ v = 3 ∨ v = 4 := by omega
    · omega
    · omega
    · obtain rfl | rfl | rfl | rfl | rfl : b = 0 ∨ b = 1 ∨ b = 2 ∨ b = 3 ∨ b = 4 := by omega
      · rw [foT5_10 h, foT5_20 h, foT5_12 h]; have e := pp5_120_id (wbet xs m 0 1) (wbet xs m 0 2) (wbet xs m 0 3) (wbet xs m 0 4) (wbet xs m 1 2) (wbet xs m 1 3) (wbet xs m 1 4) (wbet xs m 2 3) (wbet xs m 2 4) (wbet xs m 3 4); have z := pp5_120_nn (wbet_nn h 0 1) (wbet_nn h 0 2) (wbet_nn h 0 3) (wbet_nn h 0 4) (wbet_nn h 1 2) (wbet_nn h 1 3) (wbet_nn h 1 4) (wbet_nn h 2 3) (wbet_nn h 2 4) (wbet_nn h 3 4); omega
      · exact absurd rfl hab
      · exact absurd rfl hvb
      · rw [foT5_13 h, foT5_23 h, foT5_12 h]; have e := pp5_123_id (wbet xs m 0 1) (wbet xs m 0 2) (wbet xs m 0 3) (wbet xs m 0 4) (wbet xs m 1 2) (wbet xs m 1 3) (wbet xs m 1 4) (wbet xs m 2 3) (wbet xs m 2 4) (wbet xs m 3 4); have z := pp5_123_nn (wbet_nn h 0 1) (wbet_nn h 0 2) (wbet_nn h 0 3) (wbet_nn h 0 4) (wbet_nn h 1 2) (wbet_nn h 1 3) (wbet_nn h 1 4) (wbet_nn h 2 3) (wbet_nn h 2 4) (wbet_nn h 3 4); omega
      · rw [foT5_14 h, foT5_24 h, foT5_12 h]; have e := pp5_124_id (wbet xs m 0 1) (wbet xs m 0 2) (wbet xs m 0 3) (wbet xs m 0 4) (wbet xs m 1 2) (wbet xs m 1 3) (wbet xs m 1 4) (wbet xs m 2 3) (wbet xs m 2 4) (wbet xs m 3 4); have z := pp5_124_nn (wbet_nn h 0 1) (wbet_nn h 0 2) (wbet_nn h 0 3) (wbet_nn h 0 4) (wbet_nn h 1 2) (wbet_nn h 1 3) (wbet_nn h 1 4) (wbet_nn h 2 3) (wbet_nn h 2 4) (wbet_nn h 3 4); omega
    · obtain rfl | rfl | rfl | rfl | rfl : b = 0 ∨ b = 1 ∨ b = 2 ∨ b = 3 ∨ b = 4 := by omega
      · rw [foT5_10 h, foT5_30 h, foT5_13 h]; have e := pp5_130_id (wbet xs m 0 1) (wbet xs m 0 2) (wbet xs m 0 3) (wbet xs m 0 4) (wbet xs m 1 2) (wbet xs m 1 3) (wbet xs m 1 4) (wbet xs m 2 3) (wbet xs m 2 4) (wbet xs m 3 4); have z := pp5_130_nn (wbet_nn h 0 1) (wbet_nn h 0 2) (wbet_nn h 0 3) (wbet_nn h 0 4) (wbet_nn h 1 2) (wbet_nn h 1 3) (wbet_nn h 1 4) (wbet_nn h 2 3) (wbet_nn h 2 4) (wbet_nn h 3 4); omega
      · exact absurd rfl hab
      · rw [foT5_12 h, foT5_32 h, foT5_13 h]; have e := pp5_132_id (wbet xs m 0 1) (wbet xs m 0 2) (wbet xs m 0 3) (wbet xs m 0 4) (wbet xs m 1 2) (wbet xs m 1 3) (wbet xs m 1 4) (wbet xs m 2 3) (wbet xs m 2 4) (wbet xs m 3 4); have z := pp5_132_nn (wbet_nn h 0 1) (wbet_nn h 0 2) (wbet_nn h 0 3) (wbet_nn h 0 4) (wbet_nn h 1 2) (wbet_nn h 1 3) (wbet_nn h 1 4) (wbet_nn h 2 3) (wbet_nn h 2 4) (wbet_nn h 3 4); omega
      · exact absurd rfl hvb
      · rw [foT5_14 h, foT5_34 h, foT5_13 h]; have e := pp5_134_id (wbet xs m 0 1) (wbet xs m 0 2) (wbet xs m 0 3) (wbet xs m 0 4) (wbet xs m 1 2) (wbet xs m 1 3) (wbet xs m 1 4) (wbet xs m 2 3) (wbet xs m 2 4) (wbet xs m 3 4); have z := pp5_134_nn (wbet_nn h 0 1) (wbet_nn h 0 2) (wbet_nn h 0 3) (wbet_nn h 0 4) (wbet_nn h 1 2) (wbet_nn h 1 3) (wbet_nn h 1 4) (wbet_nn h 2 3) (wbet_nn h 2 4) (wbet_nn h 3 4); omega
    · obtain rfl | rfl | rfl | rfl | rfl : b = 0 ∨ b = 1 ∨ b = 2 ∨ b = 3 ∨ b = 4 := by omega
      · rw [foT5_10 h, foT5_40 h, foT5_14 h]; have e := pp5_140_id (wbet xs m 0 1) (wbet xs m 0 2) (wbet xs m 0 3) (wbet xs m 0 4) (wbet xs m 1 2) (wbet xs m 1 3) (wbet xs m 1 4) (wbet xs m 2 3) (wbet xs m 2 4) (wbet xs m 3 4); have z := pp5_140_nn (wbet_nn h 0 1) (wbet_nn h 0 2) (wbet_nn h 0 3) (wbet_nn h 0 4) (wbet_nn h 1 2) (wbet_nn h 1 3) (wbet_nn h 1 4) (wbet_nn h 2 3) (wbet_nn h 2 4) (wbet_nn h 3 4); omega
      · exact absurd rfl hab
      · rw [foT5_12 h, foT5_42 h, foT5_14 h]; have e := pp5_142_id (wbet xs m 0 1) (wbet xs m 0 2) (wbet xs m 0 3) (wbet xs m 0 4) (wbet xs m 1 2) (wbet xs m 1 3) (wbet xs m 1 4) (wbet xs m 2 3) (wbet xs m 2 4) (wbet xs m 3 4); have z := pp5_142_nn (wbet_nn h 0 1) (wbet_nn h 0 2) (wbet_nn h 0 3) (wbet_nn h 0 4) (wbet_nn h 1 2) (wbet_nn h 1 3) (wbet_nn h 1 4) (wbet_nn h 2 3) (wbet_nn h 2 4) (wbet_nn h 3 4); omega
      · rw [foT5_13 h, foT5_43 h, foT5_14 h]; have e := pp5_143_id (wbet xs m 0 1) (wbet xs m 0 2) (wbet xs m 0 3) (wbet xs m 0 4) (wbet xs m 1 2) (wbet xs m 1 3) (wbet xs m 1 4) (wbet xs m 2 3) (wbet xs m 2 4) (wbet xs m 3 4); have z := pp5_143_nn (wbet_nn h 0 1) (wbet_nn h 0 2) (wbet_nn h 0 3) (wbet_nn h 0 4) (wbet_nn h 1 2) (wbet_nn h 1 3) (wbet_nn h 1 4) (wbet_nn h 2 3) (wbet_nn h 2 4) (wbet_nn h 3 4); omega
      · exact absurd rfl hvb
  · obtain rfl | rfl | rfl | rfl | rfl : v = 0 ∨ v = 1 ∨ v = 2 ∨ v = 3 ∨ v = 4 := by omega
    · omega
    · omega
    · omega
    · obtain rfl | rfl | rfl | rfl | rfl : b = 0 ∨ b = 1 ∨ b = 2 ∨ b = 3 ∨ b = 4 := by omega
      · rw [foT5_20 h, foT5_30 h, foT5_23 h]; have e := pp5_230_id (wbet xs m 0 1) (wbet xs m 0 2) (wbet xs m 0 3) (wbet xs m 0 4) (wbet xs m 1 2) (wbet xs m 1 3) (wbet xs m 1 4) (wbet xs m 2 3) (wbet xs m 2 4) (wbet xs m 3 4); have z := pp5_230_nn (wbet_nn h 0 1) (wbet_nn h 0 2) (wbet_nn h 0 3) (wbet_nn h 0 4) (wbet_nn h 1 2) (wbet_nn h 1 3) (wbet_nn h 1 4) (wbet_nn h 2 3) (wbet_nn h 2 4) (wbet_nn h 3 4); omega
      · rw [foT5_21 h, foT5_31 h, foT5_23 h]; have e := pp5_231_id (wbet xs m 0 1) (wbet xs m 0 2) (wbet xs m 0 3) (wbet xs m 0 4) (wbet xs m 1 2) (wbet xs m 1 3) (wbet xs m 1 4) (wbet xs m 2 3) (wbet xs m 2 4) (wbet xs m 3 4); have z := pp5_231_nn (wbet_nn h 0 1) (wbet_nn h 0 2) (wbet_nn h 0 3) (wbet_nn h 0 4) (wbet_nn h 1 2) (wbet_nn h 1 3) (wbet_nn h 1 4) (wbet_nn h 2 3) (wbet_nn h 2 4) (wbet_nn h 3 4); omega
      · exact absurd rfl hab
      · exact absurd rfl hvb
      · rw [foT5_24 h, foT5_34 h, foT5_23 h]; have e := pp5_234_id (wbet xs m 0 1) (wbet xs m 0 2) (wbet xs m 0 3) (wbet xs m 0 4) (wbet xs m 1 2) (wbet xs m 1 3) (wbet xs m 1 4) (wbet xs m 2 3) (wbet xs m 2 4) (wbet xs m 3 4); have z := pp5_234_nn (wbet_nn h 0 1) (wbet_nn h 0 2) (wbet_nn h 0 3) (wbet_nn h 0 4) (wbet_nn h 1 2) (wbet_nn h 1 3) (wbet_nn h 1 4) (wbet_nn h 2 3) (wbet_nn h 2 4) (wbet_nn h 3 4); omega
    · obtain rfl | rfl | rfl | rfl | rfl : b = 0 ∨ b = 1 ∨ b = 2 ∨ b = 3 ∨ b = 4 := by omega
      · rw [foT5_20 h, foT5_40 h, foT5_24 h]; have e := pp5_240_id (wbet xs m 0 1) (wbet xs m 0 2) (wbet xs m 0 3) (wbet xs m 0 4) (wbet xs m 1 2) (wbet xs m 1 3) (wbet xs m 1 4) (wbet xs m 2 3) (wbet xs m 2 4) (wbet xs m 3 4); have z := pp5_240_nn (wbet_nn h 0 1) (wbet_nn h 0 2) (wbet_nn h 0 3) (wbet_nn h 0 4) (wbet_nn h 1 2) (wbet_nn h 1 3) (wbet_nn h 1 4) (wbet_nn h 2 3) (wbet_nn h 2 4) (wbet_nn h 3 4); omega
      · rw [foT5_21 h, foT5_41 h, foT5_24 h]; have e := pp5_241_id (wbet xs m 0 1) (wbet xs m 0 2) (wbet xs m 0 3) (wbet xs m 0 4) (wbet xs m 1 2) (wbet xs m 1 3) (wbet xs m 1 4) (wbet xs m 2 3) (wbet xs m 2 4) (wbet xs m 3 4); have z := pp5_241_nn (wbet_nn h 0 1) (wbet_nn h 0 2) (wbet_nn h 0 3) (wbet_nn h 0 4) (wbet_nn h 1 2) (wbet_nn h 1 3) (wbet_nn h 1 4) (wbet_nn h 2 3) (wbet_nn h 2 4) (wbet_nn h 3 4); omega
      · exact absurd rfl hab
      · rw [foT5_23 h, foT5_43 h, foT5_24 h]; have e := pp5_243_id (wbet xs m 0 1) (wbet xs m 0 2) (wbet xs m 0 3) (wbet xs m 0 4) (wbet xs m 1 2) (wbet xs m 1 3) (wbet xs m 1 4) (wbet xs m 2 3) (wbet xs m 2 4) (wbet xs m 3 4); have z := pp5_243_nn (wbet_nn h 0 1) (wbet_nn h 0 2) (wbet_nn h 0 3) (wbet_nn h 0 4) (wbet_nn h 1 2) (wbet_nn h 1 3) (wbet_nn h 1 4) (wbet_nn h 2 3) (wbet_nn h 2 4) (wbet_nn h 3 4); omega
      · exact absurd rfl hvb
  · obtain rfl | rfl | rfl | rfl | rfl : v = 0 ∨ v = 1 ∨ v = 2 ∨ v = 3 ∨ v = 4 := by omega
    · omega
    · omega
    · omega
    · omega
    · obtain rfl | rfl | rfl | rfl | rfl : b = 0 ∨ b = 1 ∨ b = 2 ∨ b = 3 ∨ b = 4 := by omega
      · rw [foT5_30 h, foT5_40 h, foT5_34 h]; have e := pp5_340_id (wbet xs m 0 1) (wbet xs m 0 2) (wbet xs m 0 3) (wbet xs m 0 4) (wbet xs m 1 2) (wbet xs m 1 3) (wbet xs m 1 4) (wbet xs m 2 3) (wbet xs m 2 4) (wbet xs m 3 4); have z := pp5_340_nn (wbet_nn h 0 1) (wbet_nn h 0 2) (wbet_nn h 0 3) (wbet_nn h 0 4) (wbet_nn h 1 2) (wbet_nn h 1 3) (wbet_nn h 1 4) (wbet_nn h 2 3) (wbet_nn h 2 4) (wbet_nn h 3 4); omega
      · rw [foT5_31 h, foT5_41 h, foT5_34 h]; have e := pp5_341_id (wbet xs m 0 1) (wbet xs m 0 2) (wbet xs m 0 3) (wbet xs m 0 4) (wbet xs m 1 2) (wbet xs m 1 3) (wbet xs m 1 4) (wbet xs m 2 3) (wbet xs m 2 4) (wbet xs m 3 4); have z := pp5_341_nn (wbet_nn h 0 1) (wbet_nn h 0 2) (wbet_nn h 0 3) (wbet_nn h 0 4) (wbet_nn h 1 2) (wbet_nn h 1 3) (wbet_nn h 1 4) (wbet_nn h 2 3) (wbet_nn h 2 4) (wbet_nn h 3 4); omega
      · rw [foT5_32 h, foT5_42 h, foT5_34 h]; have e := pp5_342_id (wbet xs m 0 1) (wbet xs m 0 2) (wbet xs m 0 3) (wbet xs m 0 4) (wbet xs m 1 2) (wbet xs m 1 3) (wbet xs m 1 4) (wbet xs m 2 3) (wbet xs m 2 4) (wbet xs m 3 4); have z := pp5_342_nn (wbet_nn h 0 1) (wbet_nn h 0 2) (wbet_nn h 0 3) (wbet_nn h 0 4) (wbet_nn h 1 2) (wbet_nn h 1 3) (wbet_nn h 1 4) (wbet_nn h 2 3) (wbet_nn h 2 4) (wbet_nn h 3 4); omega
      · exact absurd rfl hab
      · exact absurd rfl hvb
  · obtain rfl | rfl | rfl | rfl | rfl : v = 0 ∨ v = 1 ∨ v = 2 ∨ v = 3 ∨ v = 4 := by omega
    · omega
    · omega
    · omega
    · omega
    · omega
theorem pot_nn {n m : Nat} {xs : List Int} (h : Drn n m xs) {a b v : Int} (ha : 0 ≤ a ∧ a < n) (hb : 0 ≤ b ∧ b < n) (hv : 0 ≤ v ∧ v < n) : 0 ≤ forZ n m xs a b + forZ n m xs v b - forZ n m xs a v := by
  have h1 := h.two
  have h2 := h.five
  by_cases e1 : a = b
  · subst e1
    rw [forZ_self, forZ_symm n m xs v a]; omega
  have p1 := for_pos h ha hb e1
  by_cases e2 : v = b
  · subst e2; rw [forZ_self]; omega
  have p2 := for_pos h hv hb e2
  by_cases e3 : a = v
  · subst e3; rw [forZ_self]; omega
  obtain rfl | rfl | rfl | rfl : n = 2 ∨ n = 3 ∨ n = 4 ∨ n = 5 := by omega
  · omega
  · by_cases e4 : a < v
    · exact pot_nn3 h ha hb hv e1 e4 e2
    · have := pot_nn3 h hv hb ha e2 (by omega) e1
      rw [forZ_symm _ _ _ v a] at this; omega
  · by_cases e4 : a < v
    · exact pot_nn4 h ha hb hv e1 e4 e2
    · have := pot_nn4 h hv hb ha e2 (by omega) e1
      rw [forZ_symm _ _ _ v a] at this; omega
  · by_cases e4 : a < v
    · exact pot_nn5 h ha hb hv e1 e4 e2
    · have := pot_nn5 h hv hb ha e2 (by omega) e1
      rw [forZ_symm _ _ _ v a] at this; omega
theorem kir2 {m : Nat} {xs : List Int} (h : Drn 2 m xs) {a y : Int} (ha : 0 ≤ a ∧ a < 2) (hy : 0 ≤ y ∧ y < 2) (hay : a ≠ y) : sumTo (fun (w : Nat) => wbet xs m a w * (forZ 2 m xs a y - forZ 2 m xs w y + forZ 2 m xs w a)) 2 = 2 * treeT 2 m xs := by
  rw [trT2 h]
  obtain rfl | rfl : a = 0 ∨ a = 1 := by omega
  · obtain rfl | rfl : y = 0 ∨ y = 1 := by omega
    · exact absurd rfl hay
    · have e := kir2_01 (wbet xs m 0 1); have c0 : ((0 : Nat) : Int) = 0 := rfl; have c1 : ((1 : Nat) : Int) = 1 := rfl; have z := wbet_self h 0; have s := forZ_self 2 m xs 1; have s2 := forZ_self 2 m xs 0
      simp only [sumTo, c0, c1, z, s, s2, foT2_10 h, foT2_01 h]
      rw [← e]
      simp only [Int.zero_add, Int.zero_mul, Int.add_zero, Int.sub_zero]
  · obtain rfl | rfl : y = 0 ∨ y = 1 := by omega
    · have e := kir2_10 (wbet xs m 0 1); have c0 : ((0 : Nat) : Int) = 0 := rfl; have c1 : ((1 : Nat) : Int) = 1 := rfl; have z := wbet_self h 1; have s := forZ_self 2 m xs 0; have s2 := forZ_self 2 m xs 1
      simp only [sumTo, c0, c1, z, s, s2, foT2_01 h, foT2_10 h, wbet_symm xs m 1 0]
      rw [← e]
      simp only [Int.zero_add, Int.zero_mul, Int.add_zero, Int.sub_zero]
    · exact absurd rfl hay
theorem kir3 {m : Nat} {xs : List Int} (h : Drn 3 m xs) {a y : Int} (ha : 0 ≤ a ∧ a < 3) (hy : 0 ≤ y ∧ y < 3) (hay : a ≠ y) : sumTo (fun (w : Nat) => wbet xs m a w * (forZ 3 m xs a y - forZ 3 m xs w y + forZ 3 m xs w a)) 3 = 2 * treeT 3 m xs := by
  rw [trT3 h]
  obtain rfl | rfl | rfl : a = 0 ∨ a = 1 ∨ a = 2 := by omega
  · obtain rfl | rfl | rfl : y = 0 ∨ y = 1 ∨ y = 2 := by omega
    · exact absurd rfl hay
    · have e := kir3_01 (wbet xs m 0 1) (wbet xs m 0 2) (wbet xs m 1 2); have c0 : ((0 : Nat) : Int) = 0 := rfl; have c1 : ((1 : Nat) : Int) = 1 := rfl; have c2 : ((2 : Nat) : Int) = 2 := rfl; have z := wbet_self h 0; have s := forZ_self 3 m xs 1; have s2 := forZ_self 3 m xs 0
      simp only [sumTo, c0, c1, c2, z, s, s2, foT3_10 h, foT3_21 h, foT3_20 h, foT3_01 h]
      rw [← e]
      simp only [Int.zero_add, Int.zero_mul, Int.add_zero, Int.sub_zero]
    · have e := kir3_02 (wbet xs m 0 1) (wbet xs m 0 2) (wbet xs m 1 2); have c0 : ((0 : Nat) : Int) = 0 := rfl; have c1 : ((1 : Nat) : Int) = 1 := rfl; have c2 : ((2 : Nat) : Int) = 2 := rfl; have z := wbet_self h 0; have s := forZ_self 3 m xs 2; have s2 := forZ_self 3 m xs 0
      simp only [sumTo, c0, c1, c2, z, s, s2, foT3_12 h, foT3_10 h, foT3_20 h, foT3_02 h]
      rw [← e]
      simp only [Int.zero_add, Int.zero_mul, Int.add_zero, Int.sub_zero]
  · obtain rfl | rfl | rfl : y = 0 ∨ y = 1 ∨ y = 2 := by omega
    · have e := kir3_10 (wbet xs m 0 1) (wbet xs m 0 2) (wbet xs m 1 2); have c0 : ((0 : Nat) : Int) = 0 := rfl; have c1 : ((1 : Nat) : Int) = 1 := rfl; have c2 : ((2 : Nat) : Int) = 2 := rfl; have z := wbet_self h 1; have s := forZ_self 3 m xs 0; have s2 := forZ_self 3 m xs 1
      simp only [sumTo, c0, c1, c2, z, s, s2, foT3_01 h, foT3_20 h, foT3_21 h, foT3_10 h, wbet_symm xs m 1 0]
      rw [← e]
      simp only [Int.zero_add, Int.zero_mul, Int.add_zero, Int.sub_zero]
    · exact absurd rfl hay
    · have e := kir3_12 (wbet xs m 0 1) (wbet xs m 0 2) (wbet xs m 1 2); have c0 : ((0 : Nat) : Int) = 0 := rfl; have c1 : ((1 : Nat) : Int) = 1 := rfl; have c2 : ((2 : Nat) : Int) = 2 := rfl; have z := wbet_self h 1; have s := forZ_self 3 m xs 2; have s2 := forZ_self 3 m xs 1
      simp only [sumTo, c0, c1, c2, z, s, s2, foT3_02 h, foT3_01 h, foT3_21 h, foT3_12 h, wbet_symm xs m 1 0]
      rw [← e]
      simp only [Int.zero_add, Int.zero_mul, Int.add_zero, Int.sub_zero]
  · obtain rfl | rfl | rfl : y = 0 ∨ y = 1 ∨ y = 2 := by omega
    · have e := kir3_20 (wbet xs m 0 1) (wbet xs m 0 2) (wbet xs m 1 2); have c0 : ((0 : Nat) : Int) = 0 := rfl; have c1 : ((1 : Nat) : Int) = 1 := rfl; have c2 : ((2 : Nat) : Int) = 2 := rfl; have z := wbet_self h 2; have s := forZ_self 3 m xs 0; have s2 := forZ_self 3 m xs 2
      simp only [sumTo, c0, c1, c2, z, s, s2, foT3_02 h, foT3_10 h, foT3_12 h, foT3_20 h, wbet_symm xs m 2 0, wbet_symm xs m 2 1]
      rw [← e]
      simp only [Int.zero_add, Int.zero_mul, Int.add_zero, Int.sub_zero]
    · have e := kir3_21 (wbet xs m 0 1) (wbet xs m 0 2) (wbet xs m 1 2); have c0 : ((0 : Nat) : Int) = 0 := rfl; have c1 : ((1 : Nat) : Int) = 1 := rfl; have c2 : ((2 : Nat) : Int) = 2 := rfl; have z := wbet_self h 2; have s := forZ_self 3 m xs 1; have s2 := forZ_self 3 m xs 2
      simp only [sumTo, c0, c1, c2, z, s, s2, foT3_01 h, foT3_02 h, foT3_12 h, foT3_21 h, wbet_symm xs m 2 0, wbet_symm xs m 2 1]
      rw [← e]
      simp only [Int.zero_add, Int.zero_mul, Int.add_zero, Int.sub_zero]
    · exact absurd rfl hay
theorem kir4 {m : Nat} {xs : List Int} (h : Drn 4 m xs) {a y : Int} (ha : 0 ≤ a ∧ a < 4) (hy : 0 ≤ y ∧ y < 4) (hay : a ≠ y) : sumTo (fun (w : Nat) => wbet xs m a w * (forZ 4 m xs a y - forZ 4 m xs w y + forZ 4 m xs w a)) 4 = 2 * treeT 4 m xs := by
  rw [trT4 h]
  obtain rfl | rfl | rfl | rfl : a = 0 ∨ a = 1 ∨ a = 2 ∨ a = 3 := by omega
  · obtain rfl | rfl | rfl | rfl : y = 0 ∨ y = 1 ∨ y = 2 ∨ y = 3 := by omega
    · exact absurd rfl hay
    · have e := kir4_01 (wbet xs m 0 1) (wbet xs m 0 2) (wbet xs m 0 3) (wbet xs m 1 2) (wbet xs m 1 3) (wbet xs m 2 3); have c0 : ((0 : Nat) : Int) = 0 := rfl; have c1 : ((1 : Nat) : Int) = 1 := rfl; have c2 : ((2 : Nat) : Int) = 2 := rfl; have c3 : ((3 : Nat) : Int) = 3 := rfl; have z := wbet_self h 0; have s := forZ_self 4 m xs 1; have s2 := forZ_self 4 m xs 0
      simp only [sumTo, c0, c1, c2, c3, z, s, s2, foT4_10 h, foT4_21 h, foT4_20 h, foT4_31 h, foT4_30 h, foT4_01 h]
      rw [← e]
      simp only [Int.zero_add, Int.zero_mul, Int.add_zero, Int.sub_zero]
    · have e := kir4_02 (wbet xs m 0 1) (wbet xs m 0 2) (wbet xs m 0 3) (wbet xs m 1 2) (wbet xs m 1 3) (wbet xs m 2 3); have c0 : ((0 : Nat) : Int) = 0 := rfl; have c1 : ((1 : Nat) : Int) = 1 := rfl; have c2 : ((2 : Nat) : Int) = 2 := rfl; have c3 : ((3 : Nat) : Int) = 3 := rfl; have z := wbet_self h 0; have s := forZ_self 4 m xs 2; have s2 := forZ_self 4 m xs 0
      simp only [sumTo, c0, c1, c2, c3, z, s, s2, foT4_12 h, foT4_10 h, foT4_20 h, foT4_32 h, foT4_30 h, foT4_02 h]
      rw [← e]
      simp only [Int.zero_add, Int.zero_mul, Int.add_zero, Int.sub_zero]
    · have e := kir4_03 (wbet xs m 0 1) (wbet xs m 0 2) (wbet xs m 0 3) (wbet xs m 1 2) (wbet xs m 1 3) (wbet xs m 2 3); have c0 : ((0 : Nat) : Int) = 0 := rfl; have c1 : ((1 : Nat) : Int) = 1 := rfl; have c2 : ((2 : Nat) : Int) = 2 := rfl; have c3 : ((3 : Nat) : Int) = 3 := rfl; have z := wbet_self h 0; have s := forZ_self 4 m xs 3; have s2 := forZ_self 4 m xs 0
      simp only [sumTo, c0, c1, c2, c3, z, s, s2, foT4_13 h, foT4_10 h, foT4_23 h, foT4_20 h, foT4_30 h, foT4_03 h]
      rw [← e]
      simp only [Int.zero_add, Int.zero_mul, Int.add_zero, Int.sub_zero]
  · obtain rfl | rfl | rfl | rfl : y = 0 ∨ y = 1 ∨ y = 2 ∨ y = 3 := by omega
    · have e := kir4_10 (wbet xs m 0 1) (wbet xs m 0 2) (wbet xs m 0 3) (wbet xs m 1 2) (wbet xs m 1 3) (wbet xs m 2 3); have c0 : ((0 : Nat) : Int) = 0 := rfl; have c1 : ((1 : Nat) : Int) = 1 := rfl; have c2 : ((2 : Nat) : Int) = 2 := rfl; have c3 : ((3 : Nat) : Int) = 3 := rfl; have z := wbet_self h 1; have s := forZ_self 4 m xs 0; have s2 := forZ_self 4 m xs 1
      simp only [sumTo, c0, c1, c2, c3, z, s, s2, foT4_01 h, foT4_20 h, foT4_21 h, foT4_30 h, foT4_31 h, foT4_10 h, wbet_symm xs m 1 0]
      rw [← e]
      simp only [Int.zero_add, Int.zero_mul, Int.add_zero, Int.sub_zero]
    · exact absurd rfl hay
    · have e := kir4_12 (wbet xs m 0 1) (wbet xs m 0 2) (wbet xs m 0 3) (wbet xs m 1 2) (wbet xs m 1 3) (wbet xs m 2 3); have c0 : ((0 : Nat) : Int) = 0 := rfl; have c1 : ((1 : Nat) : Int) = 1 := rfl; have c2 : ((2 : Nat) : Int) = 2 := rfl; have c3 : ((3 : Nat) : Int) = 3 := rfl; have z := wbet_self h 1; have s := forZ_self 4 m xs 2; have s2 := forZ_self 4 m xs 1
      simp only [sumTo, c0, c1, c2, c3, z, s, s2, foT4_02 h, foT4_01 h, foT4_21 h, foT4_32 h, foT4_31 h, foT4_12 h, wbet_symm xs m 1 0]
      rw [← e]
      simp only [Int.zero_add, Int.zero_mul, Int.add_zero, Int.sub_zero]
    · have e := kir4_13 (wbet xs m 0 1) (wbet xs m 0 2) (wbet xs m 0 3) (wbet xs m 1 2) (wbet xs m 1 3) (wbet xs m 2 3); have c0 : ((0 : Nat) : Int) = 0 := rfl; have c1 : ((1 : Nat) : Int) = 1 := rfl; have c2 : ((2 : Nat) : Int) = 2 := rfl; have c3 : ((3 : Nat) : Int) = 3 := rfl; have z := wbet_self h 1; have s := forZ_self 4 m xs 3; have s2 := forZ_self 4 m xs 1
      simp only [sumTo, c0, c1, c2, c3, z, s, s2, foT4_03 h, foT4_01 h, foT4_23 h, foT4_21 h, foT4_31 h, foT4_13 h, wbet_symm xs m 1 0]
      rw [← e]
      simp only [Int.zero_add, Int.zero_mul, Int.add_zero, Int.sub_zero]
  · obtain rfl | rfl | rfl | rfl : y = 0 ∨ y = 1 ∨ y = 2 ∨ y = 3 := by omega
    · have e := kir4_20 (wbet xs m 0 1) (wbet xs m 0 2) (wbet xs m 0 3) (wbet xs m 1 2) (wbet xs m 1 3) (wbet xs m 2 3); have c0 : ((0 : Nat) : Int) = 0 := rfl; have c1 : ((1 : Nat) : Int) = 1 := rfl; have c2 : ((2 : Nat) : Int) = 2 := rfl; have c3 : ((3 : Nat) : Int) = 3 := rfl; have z := wbet_self h 2; have s := forZ_self 4 m xs 0; have s2 := forZ_self 4 m xs 2
      simp only [sumTo, c0, c1, c2, c3, z, s, s2, foT4_02 h, foT4_10 h, foT4_12 h, foT4_30 h, foT4_32 h, foT4_20 h, wbet_symm xs m 2 0, wbet_symm xs m 2 1]
      rw [← e]
      simp only [Int.zero_add, Int.zero_mul, Int.add_zero, Int.sub_zero]
    · have e := kir4_21 (wbet xs m 0 1) (wbet xs m 0 2) (wbet xs m 0 3) (wbet xs m 1 2) (wbet xs m 1 3) (wbet xs m 2 3); have c0 : ((0 : Nat) : Int) = 0 := rfl; have c1 : ((1 : Nat) : Int) = 1 := rfl; have c2 : ((2 : Nat) : Int) = 2 := rfl; have c3 : ((3 : Nat) : Int) = 3 := rfl; have z := wbet_self h 2; have s := forZ_self 4 m xs 1; have s2 := forZ_self 4 m xs 2
      simp only [sumTo, c0, c1, c2, c3, z, s, s2, foT4_01 h, foT4_02 h, foT4_12 h, foT4_31 h, foT4_32 h, foT4_21 h, wbet_symm xs m 2 0, wbet_symm xs m 2 1]
      rw [← e]
      simp only [Int.zero_add, Int.zero_mul, Int.add_zero, Int.sub_zero]
    · exact absurd rfl hay
    · have e := kir4_23 (wbet xs m 0 1) (wbet xs m 0 2) (wbet xs m 0 3) (wbet xs m 1 2) (wbet xs m 1 3) (wbet xs m 2 3); have c0 : ((0 : Nat) : Int) = 0 := rfl; have c1 : ((1 : Nat) : Int) = 1 := rfl; have c2 : ((2 : Nat) : Int) = 2 := rfl; have c3 : ((3 : Nat) : Int) = 3 := rfl; have z := wbet_self h 2; have s := forZ_self 4 m xs 3; have s2 := forZ_self 4 m xs 2
      simp only [sumTo, c0, c1, c2, c3, z, s, s2, foT4_03 h, foT4_02 h, foT4_13 h, foT4_12 h, foT4_32 h, foT4_23 h, wbet_symm xs m 2 0, wbet_symm xs m 2 1]
      rw [← e]
      simp only [Int.zero_add, Int.zero_mul, Int.add_zero, Int.sub_zero]
  · obtain rfl | rfl | rfl | rfl : y = 0 ∨ y = 1 ∨ y = 2 ∨ y = 3 := by omega
    · have e := kir4_30 (wbet xs m 0 1) (wbet xs m 0 2) (wbet xs m 0 3) (wbet xs m 1 2) (wbet xs m 1 3) (wbet xs m 2 3); have c0 : ((0 : Nat) : Int) = 0 := rfl; have c1 : ((1 : Nat) : Int) = 1 := rfl; have c2 : ((2 : Nat) : Int) = 2 := rfl; have c3 : ((3 : Nat) : Int) = 3 := rfl; have z := wbet_self h 3; have s := forZ_self 4 m xs 0; have s2 := forZ_self 4 m xs 3
      simp only [sumTo, c0, c1, c2, c3, z, s, s2, foT4_03 h, foT4_10 h, foT4_13 h, foT4_20 h, foT4_23 h, foT4_30 h, wbet_symm xs m 3 0, wbet_symm xs m 3 1, wbet_symm xs m 3 2]
      rw [← e]
      simp only [Int.zero_add, Int.zero_mul, Int.add_zero, Int.sub_zero]
    · have e := kir4_31 (wbet xs m 0 1) (wbet xs m 0 2) (wbet xs m 0 3) (wbet xs m 1 2) (wbet xs m 1 3) (wbet xs m 2 3); have c0 : ((0 : Nat) : Int) = 0 := rfl; have c1 : ((1 : Nat) : Int) = 1 := rfl; have c2 : ((2 : Nat) : Int) = 2 := rfl; have c3 : ((3 : Nat) : Int) = 3 := rfl; have z := wbet_self h 3; have s := forZ_self 4 m xs 1; have s2 := forZ_self 4 m xs 3
      simp only [sumTo, c0, c1, c2, c3, z, s, s2, foT4_01 h, foT4_03 h, foT4_13 h, foT4_21 h, foT4_23 h, foT4_31 h, wbet_symm xs m 3 0, wbet_symm xs m 3 1, wbet_symm xs m 3 2]
      rw [← e]
      simp only [Int.zero_add, Int.zero_mul, Int.add_zero, Int.sub_zero]
    · have e := kir4_32 (wbet xs m 0 1) (wbet xs m 0 2) (wbet xs m 0 3) (wbet xs m 1 2) (wbet xs m 1 3) (wbet xs m 2 3); have c0 : ((0 : Nat) : Int) = 0 := rfl; have c1 : ((1 : Nat) : Int) = 1 := rfl; have c2 : ((2 : Nat) : Int) = 2 := rfl; have c3 : ((3 : Nat) : Int) = 3 := rfl; have z := wbet_self h 3; have s := forZ_self 4 m xs 2; have s2 := forZ_self 4 m xs 3
      simp only [sumTo, c0, c1, c2, c3, z, s, s2, foT4_02 h, foT4_03 h, foT4_12 h, foT4_13 h, foT4_23 h, foT4_32 h, wbet_symm xs m 3 0, wbet_symm xs m 3 1, wbet_symm xs m 3 2]
      rw [← e]
      simp only [Int.zero_add, Int.zero_mul, Int.add_zero, Int.sub_zero]
    · exact absurd rfl hay
theorem kir5 {m : Nat} {xs : List Int} (h : Drn 5 m xs) {a y : Int} (ha : 0 ≤ a ∧ a < 5) (hy : 0 ≤ y ∧ y < 5) (hay : a ≠ y) : sumTo (fun (w : Nat) => wbet xs m a w * (forZ 5 m xs a y - forZ 5 m xs w y + forZ 5 m xs w a)) 5 = 2 * treeT 5 m xs := by
  rw [trT5 h]
  obtain rfl | rfl | rfl | rfl | rfl : a = 0 ∨ a = 1 ∨ a = 2 ∨ a = 3 ∨ a = 4 := by omega
  · obtain rfl | rfl | rfl | rfl | rfl : y = 0 ∨ y = 1 ∨ y = 2 ∨ y = 3 ∨ y = 4 := by omega
    · exact absurd rfl hay
    · have e := kir5_01 (wbet xs m 0 1) (wbet xs m 0 2) (wbet xs m 0 3) (wbet xs m 0 4) (wbet xs m 1 2) (wbet xs m 1 3) (wbet xs m 1 4) (wbet xs m 2 3) (wbet xs m 2 4) (wbet xs m 3 4); have c0 : ((0 : Nat) : Int) = 0 := rfl; have c1 : ((1 : Nat) : Int) = 1 := rfl; have c2 : ((2 : Nat) : Int) = 2 := rfl; have c3 : ((3 : Nat) : Int) = 3 := rfl; have c4 : ((4 : Nat) : Int) = 4 := rfl; have z := wbet_self h 0; have s := forZ_self 5 m xs 1; have s2 := forZ_self 5 m xs 0
      simp only [sumTo, c0, c1, c2, c3, c4, z, s, s2, foT5_10 h, foT5_21 h, foT5_20 h, foT5_31 h, foT5_30 h, foT5_41 h, foT5_40 h, foT5_01 h]
      rw [← e]
      simp only [Int.zero_add, Int.zero_mul, Int.add_zero, Int.sub_zero]
    · have e := kir5_02 (wbet xs m 0 1) (wbet xs m 0 2) (wbet xs m 0 3) (wbet xs m 0 4) (wbet xs m 1 2) (wbet xs m 1 3) (wbet xs m 1 4) (wbet xs m 2 3) (wbet xs m 2 4) (wbet xs m 3 4); have c0 : ((0 : Nat) : Int) = 0 := rfl; have c1 : ((1 : Nat) : Int) = 1 := rfl; have c2 : ((2 : Nat) : Int) = 2 := rfl; have c3 : ((3 : Nat) : Int) = 3 := rfl; have c4 : ((4 : Nat) : Int) = 4 := rfl; have z := wbet_self h 0; have s := forZ_self 5 m xs 2; have s2 := forZ_self 5 m xs 0
      simp only [sumTo, c0, c1, c2, c3, c4, z, s, s2, foT5_12 h, foT5_10 h, foT5_20 h, foT5_32 h, foT5_30 h, foT5_42 h, foT5_40 h, foT5_02 h]
      rw [← e]
      simp only [Int.zero_add, Int.zero_mul, Int.add_zero, Int.sub_zero]
    · have e := kir5_03 (wbet xs m 0 1) (wbet xs m 0 2) (wbet xs m 0 3) (wbet xs m 0 4) (wbet xs m 1 2) (wbet xs m 1 3) (wbet xs m 1 4) (wbet xs m 2 3) (wbet xs m 2 4) (wbet xs m 3 4); have c0 : ((0 : Nat) : Int) = 0 := rfl; have c1 : ((1 : Nat) : Int) = 1 := rfl; have c2 : ((2 : Nat) : Int) = 2 := rfl; have c3 : ((3 : Nat) : Int) = 3 := rfl; have c4 : ((4 : Nat) : Int) = 4 := rfl; have z := wbet_self h 0; have s := forZ_self 5 m xs 3; have s2 := forZ_self 5 m xs 0
      simp only [sumTo, c0, c1, c2, c3, c4, z, s, s2, foT5_13 h, foT5_10 h, foT5_23 h, foT5_20 h, foT5_30 h, foT5_43 h, foT5_40 h, foT5_03 h]
      rw [← e]
      simp only [Int.zero_add, Int.zero_mul, Int.add_zero, Int.sub_zero]
    · have e := kir5_04 (wbet xs m 0 1) (wbet xs m 0 2) (wbet xs m 0 3) (wbet xs m 0 4) (wbet xs m 1 2) (wbet xs m 1 3) (wbet xs m 1 4) (wbet xs m 2 3) (wbet xs m 2 4) (wbet xs m 3 4); have c0 : ((0 : Nat) : Int) = 0 := rfl; have c1 : ((1 : Nat) : Int) = 1 := rfl; have c2 : ((2 : Nat) : Int) = 2 := rfl; have c3 : ((3 : Nat) : Int) = 3 := rfl; have c4 : ((4 : Nat) : Int) = 4 := rfl; have z := wbet_self h 0; have s := forZ_self 5 m xs 4; have s2 := forZ_self 5 m xs 0
      simp only [sumTo, c0, c1, c2, c3, c4, z, s, s2, foT5_14 h, foT5_10 h, foT5_24 h, foT5_20 h, foT5_34 h, foT5_30 h, foT5_40 h, foT5_04 h]
      rw [← e]
      simp only [Int.zero_add, Int.zero_mul, Int.add_zero, Int.sub_zero]
  · obtain rfl | rfl | rfl | rfl | rfl : y = 0 ∨ y = 1 ∨ y = 2 ∨ y = 3 ∨ y = 4 := by omega
    · have e := kir5_10 (wbet xs m 0 1) (wbet xs m 0 2) (wbet xs m 0 3) (wbet xs m 0 4) (wbet xs m 1 2) (wbet xs m 1 3) (wbet xs m 1 4) (wbet xs m 2 3) (wbet xs m 2 4) (wbet xs m 3 4); have c0 : ((0 : Nat) : Int) = 0 := rfl; have c1 : ((1 : Nat) : Int) = 1 := rfl; have c2 : ((2 : Nat) : Int) = 2 := rfl; have c3 : ((3 : Nat) : Int) = 3 := rfl; have c4 : ((4 : Nat) : Int) = 4 := rfl; have z := wbet_self h 1; have s := forZ_self 5 m xs 0; have s2 := forZ_self 5 m xs 1
      simp only [sumTo, c0, c1, c2, c3, c4, z, s, s2, foT5_01 h, foT5_20 h, foT5_21 h, foT5_30 h, foT5_31 h, foT5_40 h, foT5_41 h, foT5_10 h, wbet_symm xs m 1 0]
      rw [← e]
      simp only [Int.zero_add, Int.zero_mul, Int.add_zero, Int.sub_zero]
    · exact absurd rfl hay
    · have e := kir5_12 (wbet xs m 0 1) (wbet xs m 0 2) (wbet xs m 0 3) (wbet xs m 0 4) (wbet xs m 1 2) (wbet xs m 1 3) (wbet xs m 1 4) (wbet xs m 2 3) (wbet xs m 2 4) (wbet xs m 3 4); have c0 : ((0 : Nat) : Int) = 0 := rfl; have c1 : ((1 : Nat) : Int) = 1 := rfl; have c2 : ((2 : Nat) : Int) = 2 := rfl; have c3 : ((3 : Nat) : Int) = 3 := rfl; have c4 : ((4 : Nat) : Int) = 4 := rfl; have z := wbet_self h 1; have s := forZ_self 5 m xs 2; have s2 := forZ_self 5 m xs 1
      simp only [sumTo, c0, c1, c2, c3, c4, z, s, s2, foT5_02 h, foT5_01 h, foT5_21 h, foT5_32 h, foT5_31 h, foT5_42 h, foT5_41 h, foT5_12 h, wbet_symm xs m 1 0]
      rw [← e]
      simp only [Int.zero_add, Int.zero_mul, Int.add_zero, Int.sub_zero]
    · have e := kir5_13 (wbet xs m 0 1) (wbet xs m 0 2) (wbet xs m 0 3) (wbet xs m 0 4) (wbet xs m 1 2) (wbet xs m 1 3) (wbet xs m 1 4) (wbet xs m 2 3) (wbet xs m 2 4) (wbet xs m 3 4); have c0 : ((0 : Nat) : Int) = 0 := rfl; have c1 : ((1 : Nat) : Int) = 1 := rfl; have c2 : ((2 : Nat) : Int) = 2 := rfl; have c3 : ((3 : Nat) : Int) = 3 := rfl; have c4 : ((4 : Nat) : Int) = 4 := rfl; have z := wbet_self h 1; have s := forZ_self 5 m xs 3; have s2 := forZ_self 5 m xs 1
      simp only [sumTo, c0, c1, c2, c3, c4, z, s, s2, foT5_03 h, foT5_01 h, foT5_23 h, foT5_21 h, foT5_31 h, foT5_43 h, foT5_41 h, foT5_13 h, wbet_symm xs m 1 0]
      rw [← e]
      simp only [Int.zero_add, Int.zero_mul, Int.add_zero, Int.sub_zero]
    · have e := kir5_14 (wbet xs m 0 1) (wbet xs m 0 2) (wbet xs m 0 3) (wbet xs m 0 4) (wbet xs m 1 2) (wbet xs m 1 3) (wbet xs m 1 4) (wbet xs m 2 3) (wbet xs m 2 4) (wbet xs m 3 4); have c0 : ((0 : Nat) : Int) = 0 := rfl; have c1 : ((1 : Nat) : Int) = 1 := rfl; have c2 : ((2 : Nat) : Int) = 2 := rfl; have c3 : ((3 : Nat) : Int) = 3 := rfl; have c4 : ((4 : Nat) : Int) = 4 := rfl; have z := wbet_self h 1; have s := forZ_self 5 m xs 4; have s2 := forZ_self 5 m xs 1
      simp only [sumTo, c0, c1, c2, c3, c4, z, s, s2, foT5_04 h, foT5_01 h, foT5_24 h, foT5_21 h, foT5_34 h, foT5_31 h, foT5_41 h, foT5_14 h, wbet_symm xs m 1 0]
      rw [← e]
      simp only [Int.zero_add, Int.zero_mul, Int.add_zero, Int.sub_zero]
  · obtain rfl | rfl | rfl | rfl | rfl : y = 0 ∨ y = 1 ∨ y = 2 ∨ y = 3 ∨ y = 4 := by omega
    · have e := kir5_20 (wbet xs m 0 1) (wbet xs m 0 2) (wbet xs m 0 3) (wbet xs m 0 4) (wbet xs m 1 2) (wbet xs m 1 3) (wbet xs m 1 4) (wbet xs m 2 3) (wbet xs m 2 4) (wbet xs m 3 4); have c0 : ((0 : Nat) : Int) = 0 := rfl; have c1 : ((1 : Nat) : Int) = 1 := rfl; have c2 : ((2 : Nat) : Int) = 2 := rfl; have c3 : ((3 : Nat) : Int) = 3 := rfl; have c4 : ((4 : Nat) : Int) = 4 := rfl; have z := wbet_self h 2; have s := forZ_self 5 m xs 0; have s2 := forZ_self 5 m xs 2
      simp only [sumTo, c0, c1, c2, c3, c4, z, s, s2, foT5_02 h, foT5_10 h, foT5_12 h, foT5_30 h, foT5_32 h, foT5_40 h, foT5_42 h, foT5_20 h, wbet_symm xs m 2 0, wbet_symm xs m 2 1]
      rw [← e]
      simp only [Int.zero_add, Int.zero_mul, Int.add_zero, Int.sub_zero]
    · have e := kir5_21 (wbet xs m 0 1) (wbet xs m 0 2) (wbet xs m 0 3) (wbet xs m 0 4) (wbet xs m 1 2) (wbet xs m 1 3) (wbet xs m 1 4) (wbet xs m 2 3) (wbet xs m 2 4) (wbet xs m 3 4); have c0 : ((0 : Nat) : Int) = 0 := rfl; have c1 : ((1 : Nat) : Int) = 1 := rfl; have c2 : ((2 : Nat) : Int) = 2 := rfl; have c3 : ((3 : Nat) : Int) = 3 := rfl; have c4 : ((4 : Nat) : Int) = 4 := rfl; have z := wbet_self h 2; have s := forZ_self 5 m xs 1; have s2 := forZ_self 5 m xs 2
      simp only [sumTo, c0, c1, c2, c3, c4, z, s, s2, foT5_01 h, foT5_02 h, foT5_12 h, foT5_31 h, foT5_32 h, foT5_41 h, foT5_42 h, foT5_21 h, wbet_symm xs m 2 0, wbet_symm xs m 2 1]
      rw [← e]
      simp only [Int.zero_add, Int.zero_mul, Int.add_zero, Int.sub_zero]
    · exact absurd rfl hay
    · have e := kir5_23 (wbet xs m 0 1) (wbet xs m 0 2) (wbet xs m 0 3) (wbet xs m 0 4) (wbet xs m 1 2) (wbet xs m 1 3) (wbet xs m 1 4) (wbet xs m 2 3) (wbet xs m 2 4) (wbet xs m 3 4); have c0 : ((0 : Nat) : Int) = 0 := rfl; have c1 : ((1 : Nat) : Int) = 1 := rfl; have c2 : ((2 : Nat) : Int) = 2 := rfl; have c3 : ((3 : Nat) : Int) = 3 := rfl; have c4 : ((4 : Nat) : Int) = 4 := rfl; have z := wbet_self h 2; have s := forZ_self 5 m xs 3; have s2 := forZ_self 5 m xs 2
      simp only [sumTo, c0, c1, c2, c3, c4, z, s, s2, foT5_03 h, foT5_02 h, foT5_13 h, foT5_12 h, foT5_32 h, foT5_43 h, foT5_42 h, foT5_23 h, wbet_symm xs m 2 0, wbet_symm xs m 2 1]
      rw [← e]
      simp only [Int.zero_add, Int.zero_mul, Int.add_zero, Int.sub_zero]
    · have e := kir5_24 (wbet xs m 0 1) (wbet xs m 0 2) (wbet xs m 0 3) (wbet xs m 0 4) (wbet xs m 1 2) (wbet xs m 1 3) (wbet xs m 1 4) (wbet xs m 2 3) (wbet xs m 2 4) (wbet xs m 3 4); have c0 : ((0 : Nat) : Int) = 0 := rfl; have c1 : ((1 : Nat) : Int) = 1 := rfl; have c2 : ((2 : Nat) : Int) = 2 := rfl; have c3 : ((3 : Nat) : Int) = 3 := rfl; have c4 : ((4 : Nat) : Int) = 4 := rfl; have z := wbet_self h 2; have s := forZ_self 5 m xs 4; have s2 := forZ_self 5 m xs 2
      simp only [sumTo, c0, c1, c2, c3, c4, z, s, s2, foT5_04 h, foT5_02 h, foT5_14 h, foT5_12 h, foT5_34 h, foT5_32 h, foT5_42 h, foT5_24 h, wbet_symm xs m 2 0, wbet_symm xs m 2 1]
      rw [← e]
      simp only [Int.zero_add, Int.zero_mul, Int.add_zero, Int.sub_zero]
  · obtain rfl | rfl | rfl | rfl | rfl : y = 0 ∨ y = 1 ∨ y = 2 ∨ y = 3 ∨ y = 4 := by omega
    · have e := kir5_30 (wbet xs m 0 1) (wbet xs m 0 2) (wbet xs m 0 3) (wbet xs m 0 4) (wbet xs m 1 2) (wbet xs m 1 3) (wbet xs m 1 4) (wbet xs m 2 3) (wbet xs m 2 4) (wbet xs m 3 4); have c0 : ((0 : Nat) : Int) = 0 := rfl; have c1 : ((1 : Nat) : Int) = 1 := rfl; have c2 : ((2 : Nat) : Int) = 2 := rfl; have c3 : ((3 : Nat) : Int) = 3 := rfl; have c4 : ((4 : Nat) : Int) = 4 := rfl; have z := wbet_self h 3; have s := forZ_self 5 m xs 0; have s2 := forZ_self 5 m xs 3
      simp only [sumTo, c0, c1, c2, c3, c4, z, s, s2, foT5_03 h, foT5_10 h, foT5_13 h, foT5_20 h, foT5_23 h, foT5_40 h, foT5_43 h, foT5_30 h, wbet_symm xs m 3 0, wbet_symm xs m 3 1, wbet_symm xs m 3 2]
      rw [← e]
      simp only [Int.zero_add, Int.zero_mul, Int.add_zero, Int.sub_zero]
    · have e := kir5_31 (wbet xs m 0 1) (wbet xs m 0 2) (wbet xs m 0 3) (wbet xs m 0 4) (wbet xs m 1 2) (wbet xs m 1 3) (wbet xs m 1 4) (wbet xs m 2 3) (wbet xs m 2 4) (wbet xs m 3 4); have c0 : ((0 : Nat) : Int) = 0 := rfl; have c1 : ((1 : Nat) : Int) = 1 := rfl; have c2 : ((2 : Nat) : Int) = 2 := rfl; have c3 : ((3 : Nat) : Int) = 3 := rfl; have c4 : ((4 : Nat) : Int) = 4 := rfl; have z := wbet_self h 3; have s := forZ_self 5 m xs 1; have s2 := forZ_self 5 m xs 3
      simp only [sumTo, c0, c1, c2, c3, c4, z, s, s2, foT5_01 h, foT5_03 h, foT5_13 h, foT5_21 h, foT5_23 h, foT5_41 h, foT5_43 h, foT5_31 h, wbet_symm xs m 3 0, wbet_symm xs m 3 1, wbet_symm xs m 3 2]
      rw [← e]
      simp only [Int.zero_add, Int.zero_mul, Int.add_zero, Int.sub_zero]
    · have e := kir5_32 (wbet xs m 0 1) (wbet xs m 0 2) (wbet xs m 0 3) (wbet xs m 0 4) (wbet xs m 1 2) (wbet xs m 1 3) (wbet xs m 1 4) (wbet xs m 2 3) (wbet xs m 2 4) (wbet xs m 3 4); have c0 : ((0 : Nat) : Int) = 0 := rfl; have c1 : ((1 : Nat) : Int) = 1 := rfl; have c2 : ((2 : Nat) : Int) = 2 := rfl; have c3 : ((3 : Nat) : Int) = 3 := rfl; have c4 : ((4 : Nat) : Int) = 4 := rfl; have z := wbet_self h 3; have s := forZ_self 5 m xs 2; have s2 := forZ_self 5 m xs 3
      simp only [sumTo, c0, c1, c2, c3, c4, z, s, s2, foT5_02 h, foT5_03 h, foT5_12 h, foT5_13 h, foT5_23 h, foT5_42 h, foT5_43 h, foT5_32 h, wbet_symm xs m 3 0, wbet_symm xs m 3 1, wbet_symm xs m 3 2]
      rw [← e]
      simp only [Int.zero_add, Int.zero_mul, Int.add_zero, Int.sub_zero]
    · exact absurd rfl hay
    · have e := kir5_34 (wbet xs m 0 1) (wbet xs m 0 2) (wbet xs m 0 3) (wbet xs m 0 4) (wbet xs m 1 2) (wbet xs m 1 3) (wbet xs m 1 4) (wbet xs m 2 3) (wbet xs m 2 4) (wbet xs m 3 4); have c0 : ((0 : Nat) : Int) = 0 := rfl; have c1 : ((1 : Nat) : Int) = 1 := rfl; have c2 : ((2 : Nat) : Int) = 2 := rfl; have c3 : ((3 : Nat) : Int) = 3 := rfl; have c4 : ((4 : Nat) : Int) = 4 := rfl; have z := wbet_self h 3; have s := forZ_self 5 m xs 4; have s2 := forZ_self 5 m xs 3
      simp only [sumTo, c0, c1, c2, c3, c4, z, s, s2, foT5_04 h, foT5_03 h, foT5_14 h, foT5_13 h, foT5_24 h, foT5_23 h, foT5_43 h, foT5_34 h, wbet_symm xs m 3 0, wbet_symm xs m 3 1, wbet_symm xs m 3 2]
      rw [← e]
      simp only [Int.zero_add, Int.zero_mul, Int.add_zero, Int.sub_zero]
  · obtain rfl | rfl | rfl | rfl | rfl : y = 0 ∨ y = 1 ∨ y = 2 ∨ y = 3 ∨ y = 4 := by omega
    · have e := kir5_40 (wbet xs m 0 1) (wbet xs m 0 2) (wbet xs m 0 3) (wbet xs m 0 4) (wbet xs m 1 2) (wbet xs m 1 3) (wbet xs m 1 4) (wbet xs m 2 3) (wbet xs m 2 4) (wbet xs m 3 4); have c0 : ((0 : Nat) : Int) = 0 := rfl; have c1 : ((1 : Nat) : Int) = 1 := rfl; have c2 : ((2 : Nat) : Int) = 2 := rfl; have c3 : ((3 : Nat) : Int) = 3 := rfl; have c4 : ((4 : Nat) : Int) = 4 := rfl; have z := wbet_self h 4; have s := forZ_self 5 m xs 0; have s2 := forZ_self 5 m xs 4
      simp only [sumTo, c0, c1, c2, c3, c4, z, s, s2, foT5_04 h, foT5_10 h, foT5_14 h, foT5_20 h, foT5_24 h, foT5_30 h, foT5_34 h, foT5_40 h, wbet_symm xs m 4 0, wbet_symm xs m 4 1, wbet_symm xs m 4 2, wbet_symm xs m 4 3]
      rw [← e]
      simp only [Int.zero_add, Int.zero_mul, Int.add_zero, Int.sub_zero]
    · have e := kir5_41 (wbet xs m 0 1) (wbet xs m 0 2) (wbet xs m 0 3) (wbet xs m 0 4) (wbet xs m 1 2) (wbet xs m 1 3) (wbet xs m 1 4) (wbet xs m 2 3) (wbet xs m 2 4) (wbet xs m 3 4); have c0 : ((0 : Nat) : Int) = 0 := rfl; have c1 : ((1 : Nat) : Int) = 1 := rfl; have c2 : ((2 : Nat) : Int) = 2 := rfl; have c3 : ((3 : Nat) : Int) = 3 := rfl; have c4 : ((4 : Nat) : Int) = 4 := rfl; have z := wbet_self h 4; have s := forZ_self 5 m xs 1; have s2 := forZ_self 5 m xs 4
      simp only [sumTo, c0, c1, c2, c3, c4, z, s, s2, foT5_01 h, foT5_04 h, foT5_14 h, foT5_21 h, foT5_24 h, foT5_31 h, foT5_34 h, foT5_41 h, wbet_symm xs m 4 0, wbet_symm xs m 4 1, wbet_symm xs m 4 2, wbet_symm xs m 4 3]
      rw [← e]
      simp only [Int.zero_add, Int.zero_mul, Int.add_zero, Int.sub_zero]
    · have e := kir5_42 (wbet xs m 0 1) (wbet xs m 0 2) (wbet xs m 0 3) (wbet xs m 0 4) (wbet xs m 1 2) (wbet xs m 1 3) (wbet xs m 1 4) (wbet xs m 2 3) (wbet xs m 2 4) (wbet xs m 3 4); have c0 : ((0 : Nat) : Int) = 0 := rfl; have c1 : ((1 : Nat) : Int) = 1 := rfl; have c2 : ((2 : Nat) : Int) = 2 := rfl; have c3 : ((3 : Nat) : Int) = 3 := rfl; have c4 : ((4 : Nat) : Int) = 4 := rfl; have z := wbet_self h 4; have s := forZ_self 5 m xs 2; have s2 := forZ_self 5 m xs 4
      simp only [sumTo, c0, c1, c2, c3, c4, z, s, s2, foT5_02 h, foT5_04 h, foT5_12 h, foT5_14 h, foT5_24 h, foT5_32 h, foT5_34 h, foT5_42 h, wbet_symm xs m 4 0, wbet_symm xs m 4 1, wbet_symm xs m 4 2, wbet_symm xs m 4 3]
      rw [← e]
      simp only [Int.zero_add, Int.zero_mul, Int.add_zero, Int.sub_zero]
    · have e := kir5_43 (wbet xs m 0 1) (wbet xs m 0 2) (wbet xs m 0 3) (wbet xs m 0 4) (wbet xs m 1 2) (wbet xs m 1 3) (wbet xs m 1 4) (wbet xs m 2 3) (wbet xs m 2 4) (wbet xs m 3 4); have c0 : ((0 : Nat) : Int) = 0 := rfl; have c1 : ((1 : Nat) : Int) = 1 := rfl; have c2 : ((2 : Nat) : Int) = 2 := rfl; have c3 : ((3 : Nat) : Int) = 3 := rfl; have c4 : ((4 : Nat) : Int) = 4 := rfl; have z := wbet_self h 4; have s := forZ_self 5 m xs 3; have s2 := forZ_self 5 m xs 4
      simp only [sumTo, c0, c1, c2, c3, c4, z, s, s2, foT5_03 h, foT5_04 h, foT5_13 h, foT5_14 h, foT5_23 h, foT5_24 h, foT5_34 h, foT5_43 h, wbet_symm xs m 4 0, wbet_symm xs m 4 1, wbet_symm xs m 4 2, wbet_symm xs m 4 3]
      rw [← e]
      simp only [Int.zero_add, Int.zero_mul, Int.add_zero, Int.sub_zero]
    · exact absurd rfl hay
theorem kirchhoff {n m : Nat} {xs : List Int} (h : Drn n m xs) {a y : Int} (ha : 0 ≤ a ∧ a < n) (hy : 0 ≤ y ∧ y < n) (hay : a ≠ y) : sumTo (fun (w : Nat) => wbet xs m a w * (forZ n m xs a y - forZ n m xs w y + forZ n m xs w a)) n = 2 * treeT n m xs := by
  have h1 := h.two
  have h2 := h.five
  obtain rfl | rfl | rfl | rfl : n = 2 ∨ n = 3 ∨ n = 4 ∨ n = 5 := by omega
  · exact kir2 h ha hy hay
  · exact kir3 h ha hy hay
  · exact kir4 h ha hy hay
  · exact kir5 h ha hy hay
/-- A sum over the first k wires. -/
def wireS (xs : List Int) (f : Int → Int → Int) : Nat → Int
  | 0 => 0
  | k + 1 => wireS xs f k + ww xs k * f (wa xs k) (wb xs k)
def pairS2 (g : Int → Int → Int) : Int := g 0 1
theorem wireS2 {xs : List Int} (f : Int → Int → Int) : ∀ {m : Nat}, (∀ k, k < m → goodW 2 xs k) → wireS xs f m = pairS2 (fun i j => wbet xs m i j * f i j)
  | 0, _ => by
    have z : ∀ i j, wbet xs 0 i j = 0 := fun i j => rfl
    simp only [wireS, pairS2, z]; simp
  | m + 1, h => by
    have ih := wireS2 f (m := m) (fun k hk => h k (by omega))
    obtain ⟨q0, q1, q2, _, _⟩ := (h m (by omega)).1
    have st : ∀ i j : Int, i < j → wbet xs (m + 1) i j * f i j = wbet xs m i j * f i j + (if wa xs m = i ∧ wb xs m = j then ww xs m * f (wa xs m) (wb xs m) else 0) := fun i j hij => by
      rw [wbet_snoc h]
      by_cases c : wa xs m = i ∧ wb xs m = j
      · rw [if_pos c, if_pos (by unfold isW; omega), c.1, c.2, Int.add_mul]
      · rw [if_neg c, if_neg (by unfold isW; omega)]; simp
    simp only [wireS, ih, pairS2, st 0 1 (by decide)]
    generalize ww xs m * f (wa xs m) (wb xs m) = z
    have hc : (wa xs m = 0 ∧ wb xs m = 1) := by omega
    rcases hc with hc
    all_goals (simp [hc.1, hc.2]; try omega)
theorem foster2 {m : Nat} {xs : List Int} (h : Drn 2 m xs) : wireS xs (forZ 2 m xs) m = 1 * treeT 2 m xs := by
  rw [wireS2 _ h.good, trT2 h, ← fos2 (wbet xs m 0 1)]
  unfold pairS2
  dsimp only
  rw [foT2_01 h]
def pairS3 (g : Int → Int → Int) : Int := g 0 1 + g 0 2 + g 1 2
theorem wireS3 {xs : List Int} (f : Int → Int → Int) : ∀ {m : Nat}, (∀ k, k < m → goodW 3 xs k) → wireS xs f m = pairS3 (fun i j => wbet xs m i j * f i j)
  | 0, _ => by
    have z : ∀ i j, wbet xs 0 i j = 0 := fun i j => rfl
    simp only [wireS, pairS3, z]; simp
  | m + 1, h => by
    have ih := wireS3 f (m := m) (fun k hk => h k (by omega))
    obtain ⟨q0, q1, q2, _, _⟩ := (h m (by omega)).1
    have st : ∀ i j : Int, i < j → wbet xs (m + 1) i j * f i j = wbet xs m i j * f i j + (if wa xs m = i ∧ wb xs m = j then ww xs m * f (wa xs m) (wb xs m) else 0) := fun i j hij => by
      rw [wbet_snoc h]
      by_cases c : wa xs m = i ∧ wb xs m = j
      · rw [if_pos c, if_pos (by unfold isW; omega), c.1, c.2, Int.add_mul]
      · rw [if_neg c, if_neg (by unfold isW; omega)]; simp
    simp only [wireS, ih, pairS3, st 0 1 (by decide), st 0 2 (by decide), st 1 2 (by decide)]
    generalize ww xs m * f (wa xs m) (wb xs m) = z
    have hc : (wa xs m = 0 ∧ wb xs m = 1) ∨ (wa xs m = 0 ∧ wb xs m = 2) ∨ (wa xs m = 1 ∧ wb xs m = 2) := by omega
    rcases hc with hc | hc | hc
    all_goals (simp [hc.1, hc.2]; try omega)
theorem foster3 {m : Nat} {xs : List Int} (h : Drn 3 m xs) : wireS xs (forZ 3 m xs) m = 2 * treeT 3 m xs := by
  rw [wireS3 _ h.good, trT3 h, ← fos3 (wbet xs m 0 1) (wbet xs m 0 2) (wbet xs m 1 2)]
  unfold pairS3
  dsimp only
  rw [foT3_01 h, foT3_02 h, foT3_12 h]
def pairS4 (g : Int → Int → Int) : Int := g 0 1 + g 0 2 + g 0 3 + g 1 2 + g 1 3 + g 2 3
theorem wireS4 {xs : List Int} (f : Int → Int → Int) : ∀ {m : Nat}, (∀ k, k < m → goodW 4 xs k) → wireS xs f m = pairS4 (fun i j => wbet xs m i j * f i j)
  | 0, _ => by
    have z : ∀ i j, wbet xs 0 i j = 0 := fun i j => rfl
    simp only [wireS, pairS4, z]; simp
  | m + 1, h => by
    have ih := wireS4 f (m := m) (fun k hk => h k (by omega))
    obtain ⟨q0, q1, q2, _, _⟩ := (h m (by omega)).1
    have st : ∀ i j : Int, i < j → wbet xs (m + 1) i j * f i j = wbet xs m i j * f i j + (if wa xs m = i ∧ wb xs m = j then ww xs m * f (wa xs m) (wb xs m) else 0) := fun i j hij => by
      rw [wbet_snoc h]
      by_cases c : wa xs m = i ∧ wb xs m = j
      · rw [if_pos c, if_pos (by unfold isW; omega), c.1, c.2, Int.add_mul]
      · rw [if_neg c, if_neg (by unfold isW; omega)]; simp
    simp only [wireS, ih, pairS4, st 0 1 (by decide), st 0 2 (by decide), st 0 3 (by decide), st 1 2 (by decide), st 1 3 (by decide), st 2 3 (by decide)]
    generalize ww xs m * f (wa xs m) (wb xs m) = z
    have hc : (wa xs m = 0 ∧ wb xs m = 1) ∨ (wa xs m = 0 ∧ wb xs m = 2) ∨ (wa xs m = 0 ∧ wb xs m = 3) ∨ (wa xs m = 1 ∧ wb xs m = 2) ∨ (wa xs m = 1 ∧ wb xs m = 3) ∨ (wa xs m = 2 ∧ wb xs m = 3) := by omega
    rcases hc with hc | hc | hc | hc | hc | hc
    all_goals (simp [hc.1, hc.2]; try omega)
theorem foster4 {m : Nat} {xs : List Int} (h : Drn 4 m xs) : wireS xs (forZ 4 m xs) m = 3 * treeT 4 m xs := by
  rw [wireS4 _ h.good, trT4 h, ← fos4 (wbet xs m 0 1) (wbet xs m 0 2) (wbet xs m 0 3) (wbet xs m 1 2) (wbet xs m 1 3) (wbet xs m 2 3)]
  unfold pairS4
  dsimp only
  rw [foT4_01 h, foT4_02 h, foT4_03 h, foT4_12 h, foT4_13 h, foT4_23 h]
def pairS5 (g : Int → Int → Int) : Int := g 0 1 + g 0 2 + g 0 3 + g 0 4 + g 1 2 + g 1 3 + g 1 4 + g 2 3 + g 2 4 + g 3 4
theorem wireS5 {xs : List Int} (f : Int → Int → Int) : ∀ {m : Nat}, (∀ k, k < m → goodW 5 xs k) → wireS xs f m = pairS5 (fun i j => wbet xs m i j * f i j)
  | 0, _ => by
    have z : ∀ i j, wbet xs 0 i j = 0 := fun i j => rfl
    simp only [wireS, pairS5, z]; simp
  | m + 1, h => by
    have ih := wireS5 f (m := m) (fun k hk => h k (by omega))
    obtain ⟨q0, q1, q2, _, _⟩ := (h m (by omega)).1
    have st : ∀ i j : Int, i < j → wbet xs (m + 1) i j * f i j = wbet xs m i j * f i j + (if wa xs m = i ∧ wb xs m = j then ww xs m * f (wa xs m) (wb xs m) else 0) := fun i j hij => by
      rw [wbet_snoc h]
      by_cases c : wa xs m = i ∧ wb xs m = j
      · rw [if_pos c, if_pos (by unfold isW; omega), c.1, c.2, Int.add_mul]
      · rw [if_neg c, if_neg (by unfold isW; omega)]; simp
    simp only [wireS, ih, pairS5, st 0 1 (by decide), st 0 2 (by decide), st 0 3 (by decide), st 0 4 (by decide), st 1 2 (by decide), st 1 3 (by decide), st 1 4 (by decide), st 2 3 (by decide), st 2 4 (by decide), st 3 4 (by decide)]
    generalize ww xs m * f (wa xs m) (wb xs m) = z
    have hc : (wa xs m = 0 ∧ wb xs m = 1) ∨ (wa xs m = 0 ∧ wb xs m = 2) ∨ (wa xs m = 0 ∧ wb xs m = 3) ∨ (wa xs m = 0 ∧ wb xs m = 4) ∨ (wa xs m = 1 ∧ wb xs m = 2) ∨ (wa xs m = 1 ∧ wb xs m = 3) ∨ (wa xs m = 1 ∧ wb xs m = 4) ∨ (wa xs m = 2 ∧ wb xs m = 3) ∨ (wa xs m = 2 ∧ wb xs m = 4) ∨ (wa xs m = 3 ∧ wb xs m = 4) := by omega
    rcases hc with hc | hc | hc | hc | hc | hc | hc | hc | hc | hc
    all_goals (simp [hc.1, hc.2]; try omega)
theorem foster5 {m : Nat} {xs : List Int} (h : Drn 5 m xs) : wireS xs (forZ 5 m xs) m = 4 * treeT 5 m xs := by
  rw [wireS5 _ h.good, trT5 h, ← fos5 (wbet xs m 0 1) (wbet xs m 0 2) (wbet xs m 0 3) (wbet xs m 0 4) (wbet xs m 1 2) (wbet xs m 1 3) (wbet xs m 1 4) (wbet xs m 2 3) (wbet xs m 2 4) (wbet xs m 3 4)]
  unfold pairS5
  dsimp only
  rw [foT5_01 h, foT5_02 h, foT5_03 h, foT5_04 h, foT5_12 h, foT5_13 h, foT5_14 h, foT5_23 h, foT5_24 h, foT5_34 h]
theorem foster {n m : Nat} {xs : List Int} (h : Drn n m xs) : wireS xs (forZ n m xs) m = ((n : Int) - 1) * treeT n m xs := by
  have h1 := h.two
  have h2 := h.five
  obtain rfl | rfl | rfl | rfl : n = 2 ∨ n = 3 ∨ n = 4 ∨ n = 5 := by omega
  · exact foster2 h
  · exact foster3 h
  · exact foster4 h
  · exact foster5 h

/-! ### bounds -/
def nsum (g : Int → Nat) (l : List Int) : Nat := (l.map g).sum
theorem nsum_erase (g : Int → Nat) : ∀ (l : List Int) (j : Nat), nsum g (l.eraseIdx j) ≤ nsum g l
  | [], _ => by simp [nsum]
  | x :: l, 0 => by simp [nsum]
  | x :: l, j + 1 => by have := nsum_erase g l j; simp [nsum] at *; omega
theorem nsum_filter (g : Int → Nat) (p : Int → Bool) : ∀ l : List Int, nsum g (l.filter p) ≤ nsum g l
  | [] => by simp [nsum]
  | x :: l => by
    have := nsum_filter g p l
    unfold nsum at *
    rw [List.filter_cons]
    split
    · simp only [List.map_cons, List.sum_cons]; omega
    · simp only [List.map_cons, List.sum_cons]; omega
theorem nsum_snoc (g : Int → Nat) (l : List Int) (x : Int) : nsum g (l ++ [x]) = nsum g l + g x := by simp [nsum]
theorem sumTo_na {f : Nat → Int} {g : Int → Nat} {l : List Int} {B : Nat} (h : ∀ j, j < l.length → (f j).natAbs ≤ g (nth l j) * B) : ∀ {k : Nat}, k ≤ l.length → (sumTo f k).natAbs ≤ nsum g (l.take k) * B
  | 0, _ => by simp [sumTo]
  | k + 1, hk => by
    have ih := sumTo_na h (k := k) (by omega)
    have h2 := h k (by omega)
    have e : l.take (k + 1) = l.take k ++ [nth l k] := by
      rw [List.take_succ_eq_append_getElem (by omega)]
      congr 2
      unfold nth
      rw [List.getD_eq_getElem?_getD, List.getElem?_eq_getElem (by omega)]; rfl
    rw [e, nsum_snoc, Nat.add_mul]
    simp only [sumTo]
    omega
theorem detF_na {M : Int → Int → Int} {B : Nat} : ∀ (rows cols : List Int), (∀ r ∈ rows, nsum (fun c => (M r c).natAbs) cols ≤ B) → (detF M rows cols).natAbs ≤ B ^ rows.length
  | [], cols, _ => by simp [detF]
  | r :: rs, cols, h => by
    have h1 := sumTo_na (f := fun j => sgn j * M r (nth cols j) * detF M rs (cols.eraseIdx j)) (g := fun c => (M r c).natAbs) (l := cols) (B := B ^ rs.length) (fun j _ => by
      have ih := detF_na rs (cols.eraseIdx j) (fun r' hr' => Nat.le_trans (nsum_erase _ cols j) (h r' (List.mem_cons_of_mem _ hr')))
      rw [Int.natAbs_mul, Int.natAbs_mul]
      have hs : (sgn j).natAbs = 1 := by unfold sgn; split <;> rfl
      rw [hs, Nat.one_mul]
      exact Nat.mul_le_mul_left _ ih) (k := cols.length) (Nat.le_refl _)
    rw [List.take_of_length_le (Nat.le_refl _)] at h1
    have h2 := Nat.mul_le_mul_right (B ^ rs.length) (h r (by simp))
    simp only [detF, List.length_cons, Nat.pow_succ]
    rw [Nat.mul_comm (B ^ rs.length) B]
    omega
theorem wat_24 {n m : Nat} {xs : List Int} (h : Drn n m xs) {v : Int} (hv : 0 ≤ v ∧ v < n) : 0 ≤ wat xs v m ∧ wat xs v m ≤ 24 := by
  have h5 := h.five
  refine ⟨(wat_bd v h.good).1, ?_⟩
  rw [← wat_sum hv.1 hv.2 h.good]
  have key : ∀ k : Nat, sumTo (fun (u : Nat) => wbet xs m v u) k ≤ 6 * (k : Int) - (if v < k then 6 else 0) := fun k => by
    induction k with
    | zero => rw [if_neg (by omega)]; simp [sumTo]
    | succ k ih =>
      simp only [sumTo]
      have h6 := wbet_six h v (k : Int)
      by_cases e : v = (k : Int)
      · subst e
        rw [wbet_self h]
        rw [if_neg (by omega)] at ih
        rw [if_pos (by omega)]; omega
      · by_cases d : v < (k : Int)
        · rw [if_pos d] at ih
          rw [if_pos (by omega)]; omega
        · rw [if_neg d] at ih
          rw [if_neg (by omega)]; omega
  have := key n
  rw [if_pos hv.2] at this
  omega
theorem lap_row48 {n m : Nat} {xs : List Int} (h : Drn n m xs) {v : Int} (hv : 0 ≤ v ∧ v < n) (l : List Int) : nsum (fun c => (lapZ xs m v c).natAbs) (without n l) ≤ 48 := by
  refine Nat.le_trans (nsum_filter _ _ _) ?_
  have key : ∀ k : Nat, ((nsum (fun c => (lapZ xs m v c).natAbs) ((List.range k).map (fun (i : Nat) => (i : Int))) : Nat) : Int) = sumTo (fun (u : Nat) => wbet xs m v u) k + (if v < k then wat xs v m else 0) := fun k => by
    induction k with
    | zero => rw [if_neg (by omega)]; rfl
    | succ k ih =>
      rw [List.range_succ, List.map_append, List.map_singleton, nsum_snoc, Int.natCast_add, ih]
      simp only [sumTo]
      have w0 := wbet_nn h v (k : Int)
      have w1 := (wat_24 h hv).1
      unfold lapZ
      by_cases e : v = (k : Int)
      · rw [if_pos e, if_neg (by omega), if_pos (by omega), ← e, wbet_self h]; omega
      · rw [if_neg e]
        by_cases d : v < (k : Int)
        · rw [if_pos d, if_pos (by omega)]; omega
        · rw [if_neg d, if_neg (by omega)]; omega
  have k1 := key n
  rw [wat_sum hv.1 hv.2 h.good, if_pos hv.2] at k1
  have := (wat_24 h hv).2
  omega
theorem minor48 {n m : Nat} {xs : List Int} (h : Drn n m xs) (l : List Int) : (minorV n m xs l l).natAbs ≤ 48 ^ (without n l).length :=
  detF_na _ _ (fun r hr => lap_row48 h (without_below r hr) l)
theorem tree_le {n m : Nat} {xs : List Int} (h : Drn n m xs) : treeT n m xs ≤ 5308416 := by
  have h5 := h.five
  have h2 := h.two
  have h1 := minor48 h [0]
  have h3 := without_lt (k := n) (l := [0]) (x := 0) (by simp) (by omega) (by omega)
  have h4 : 48 ^ (without n [0]).length ≤ 48 ^ 4 := Nat.pow_le_pow_right (by decide) (by omega)
  unfold treeT
  omega
theorem for_le {n m : Nat} {xs : List Int} (h : Drn n m xs) {a b : Int} (ha : 0 ≤ a ∧ a < n) (hb : 0 ≤ b ∧ b < n) : 0 ≤ forZ n m xs a b ∧ forZ n m xs a b ≤ 110592 := by
  have h5 := h.five
  by_cases e : a = b
  · rw [e, forZ_self]; omega
  · have p := for_pos h ha hb e
    refine ⟨by omega, ?_⟩
    have h1 := minor48 h [a, b]
    have h3 := without_lt2 (k := n) (l := [a, b]) (x := a) (y := b) (by simp) (by simp) e ha hb
    have h4 : 48 ^ (without n [a, b]).length ≤ 48 ^ 3 := Nat.pow_le_pow_right (by decide) (by omega)
    unfold forZ
    rw [if_neg e]
    unfold forT
    omega
end Go.Proofs.Ytipiiimemmkdgaa
