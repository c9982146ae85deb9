/- Plain law: the terms of a ladder and their value. -/
import Derived.Test.YtndbdbcbnipmaaaPlSum
import Derived.Test.YtndbdbcbnipmaaaPlTerms
import Derived.Test.YtndbdbcbnipmaaaWSl
namespace Go.Proofs.Ytndbdbcbnipmaaa

open Go.RowKit

/-- q and p of the ladder of terms. -/
def lad : List Int → Int × Int
  | [] => (1, 0)
  | x :: l => (x * (lad l).1 + (lad l).2, (lad l).1)

def goodT (x : Int) (i : Nat) : Prop := 0 ≤ x ∧ x ≤ 40 ∧ (0 < i → x ≠ 0)
def termsP (l : List Int) : Prop := 1 ≤ l.length ∧ l.length ≤ 40 ∧ (∀ j, j < l.length → goodT (nth l j) j) ∧ 1 ≤ isum l ∧ isum l ≤ 40
open Classical in
noncomputable def valOf (l : List Int) : Rt := if termsP l then ratioOf (lad l).1 (lad l).2 else zeroR
open Classical in
noncomputable def valOk (l : List Int) : Bool := if termsP l then true else false
theorem valOf_bad {l : List Int} (h : ¬ termsP l) : valOf l = ⟨0, 0⟩ ∧ valOk l = false := by simp [valOf, valOk, h, zeroR]
theorem valOf_good {l : List Int} (h : termsP l) : valOf l = ratioOf (lad l).1 (lad l).2 ∧ valOk l = true := by simp [valOf, valOk, h]

theorem bad_len {l : List Int} {n : Nat} (hn : l.length = n) (h : n = 0 ∨ 40 < n) : ¬ termsP l := fun ⟨a, b, _⟩ => by omega
theorem bad_at {l : List Int} {n k : Nat} (hn : l.length = n) (hk : k < n) (h : nth l k < 0 ∨ 40 < nth l k ∨ nth l k = 0 ∧ 0 < k) : ¬ termsP l := fun ⟨_, _, c, _⟩ => by
  obtain ⟨p, q, r⟩ := c k (by omega)
  rcases h with h | h | ⟨h1, h2⟩
  · omega
  · omega
  · exact r h2 h1
theorem bad_sum {l : List Int} (h : isum l < 1 ∨ 40 < isum l) : ¬ termsP l := fun ⟨_, _, _, d, e⟩ => by omega
theorem good_all {l : List Int} {n : Nat} (hn : l.length = n) (h1 : 1 ≤ n) (h2 : n ≤ 40) (h : ∀ j, j < n → goodT (nth l j) j) (s1 : 1 ≤ isum l) (s2 : isum l ≤ 40) : termsP l := ⟨by omega, by omega, fun j hj => h j (by omega), s1, s2⟩
theorem good_step {l : List Int} {k : Nat} (h : Hid (∀ j, j < k → goodT (nth l j) j)) (a : 0 ≤ nth l k) (b : nth l k ≤ 40) (c : ¬ (nth l k = 0 ∧ 0 < k)) : Hid (∀ j, j < k + 1 → goodT (nth l j) j) := by
  intro j hj
  by_cases e : j = k
  · subst e; exact ⟨a, b, fun hp hz => c ⟨hz, hp⟩⟩
  · exact h.out j (by omega)
theorem isum_nth (l : List Int) (k : Nat) (h : k < l.length) : isum (l.take (k + 1)) = isum (l.take k) + nth l k := by rw [isum_take l k h, nth_eq l k h]

theorem lad_pos : ∀ (l : List Int), (∀ x ∈ l, 1 ≤ x) → 1 ≤ (lad l).1 ∧ 0 ≤ (lad l).2 ∧ (lad l).2 ≤ (lad l).1 ∧ (lad l).1 ≤ 2 ^ (isum l).toNat ∧ 0 ≤ isum l
  | [], _ => by simp [lad, isum]
  | x :: l, h => by
    obtain ⟨a, b, c, d, e⟩ := lad_pos l (fun y hy => h y (List.mem_cons_of_mem _ hy))
    have hx := h x (List.mem_cons_self ..)
    have h1 : 1 * (lad l).1 ≤ x * (lad l).1 := Int.mul_le_mul_of_nonneg_right hx (by omega)
    have h2 : (isum (x :: l)).toNat = x.toNat + (isum l).toNat := by simp only [isum]; omega
    have h3 : x + 1 ≤ 2 ^ x.toNat := by
      have := Nat.lt_two_pow_self (n := x.toNat)
      have h4 : ((x.toNat + 1 : Nat) : Int) ≤ ((2 ^ x.toNat : Nat) : Int) := by exact_mod_cast this
      push_cast at h4; omega
    have h5 : (x + 1) * (lad l).1 ≤ 2 ^ x.toNat * 2 ^ (isum l).toNat := Int.mul_le_mul h3 d (by omega) (Int.pow_nonneg (by decide : (0 : Int) ≤ 2))
    refine ⟨by simp only [lad]; omega, by simp only [lad]; omega, by simp only [lad]; omega, ?_, by simp only [isum]; omega⟩
    rw [h2, Int.pow_add]
    simp only [lad]
    have h6 : (x + 1) * (lad l).1 = x * (lad l).1 + (lad l).1 := by rw [Int.add_mul, Int.one_mul]
    omega

theorem isum_drop_le (l : List Int) (h : ∀ x ∈ l, 0 ≤ x) (k : Nat) : isum (l.drop k) ≤ isum l := by
  have h1 : isum l = isum (l.take k) + isum (l.drop k) := by rw [← isum_append, List.take_append_drop]
  have h2 : 0 ≤ isum (l.take k) := by
    generalize ht : l.take k = t
    have ht' : ∀ x ∈ t, 0 ≤ x := fun x hx => h x (List.mem_of_mem_take (ht ▸ hx))
    clear ht h1
    induction t with
    | nil => simp [isum]
    | cons y t ih =>
      have := ih (fun x hx => ht' x (List.mem_cons_of_mem _ hx))
      have := ht' y (List.mem_cons_self ..)
      simp only [isum]; omega
  omega

theorem nth_mem_drop {l : List Int} {k : Nat} {x : Int} (hx : x ∈ l.drop k) : ∃ j, k ≤ j ∧ j < l.length ∧ x = nth l j := by
  obtain ⟨i, hi, rfl⟩ := List.getElem_of_mem hx
  rw [List.length_drop] at hi
  refine ⟨k + i, by omega, by omega, ?_⟩
  rw [nth_eq _ _ (by omega), List.getElem_drop]

theorem lad_cons_drop (l : List Int) (k : Nat) (h : k < l.length) : lad (l.drop k) = (nth l k * (lad (l.drop (k + 1))).1 + (lad (l.drop (k + 1))).2, (lad (l.drop (k + 1))).1) := by
  rw [List.drop_eq_getElem_cons h, nth_eq _ _ h]; rfl

/-- All that the second loop wants. -/
theorem lad_bd {l : List Int} (h : termsP l) (k : Nat) : 0 ≤ (lad (l.drop k)).1 ∧ (lad (l.drop k)).1 ≤ 1099511627776 ∧ 0 ≤ (lad (l.drop k)).2 ∧ (lad (l.drop k)).2 ≤ 1099511627776 := by
  obtain ⟨a, b, c, d, e⟩ := h
  have hall : ∀ x ∈ l, 0 ≤ x := fun x hx => by
    obtain ⟨j, _, hj, rfl⟩ := nth_mem_drop (k := 0) (by simpa using hx)
    exact (c j hj).1
  have pw : ∀ s : Int, 0 ≤ s → s ≤ 40 → (2 : Int) ^ s.toNat ≤ 1099511627776 := fun s s1 s2 => by
    have h1 : (2 : Nat) ^ s.toNat ≤ 2 ^ 40 := Nat.pow_le_pow_right (by omega) (by omega)
    have h0 : (2 : Nat) ^ 40 = 1099511627776 := by decide
    rw [h0] at h1
    have h2 : ((2 ^ s.toNat : Nat) : Int) ≤ ((1099511627776 : Nat) : Int) := Int.ofNat_le.2 h1
    rw [Int.natCast_pow] at h2
    exact h2
  have key : ∀ k, 1 ≤ k → 1 ≤ (lad (l.drop k)).1 ∧ 0 ≤ (lad (l.drop k)).2 ∧ (lad (l.drop k)).2 ≤ (lad (l.drop k)).1 ∧ (lad (l.drop k)).1 ≤ 2 ^ (isum (l.drop k)).toNat ∧ 0 ≤ isum (l.drop k) ∧ isum (l.drop k) ≤ isum l := fun k hk => by
    obtain ⟨p1, p2, p3, p4, p5⟩ := lad_pos (l.drop k) (fun x hx => by
      obtain ⟨j, j1, j2, rfl⟩ := nth_mem_drop hx
      have := c j j2
      have := this.2.2 (by omega)
      have := (c j j2).1
      omega)
    exact ⟨p1, p2, p3, p4, p5, isum_drop_le l hall k⟩
  by_cases hk : 1 ≤ k
  · obtain ⟨p1, p2, p3, p4, p5, p6⟩ := key k hk
    have := pw _ p5 (by omega)
    omega
  · have hk0 : k = 0 := by omega
    subst hk0
    obtain ⟨p1, p2, p3, p4, p5, p6⟩ := key 1 (by omega)
    rw [lad_cons_drop l 0 (by omega)]
    have x1 := (c 0 (by omega)).1
    have x2 : nth l 0 + isum (l.drop 1) = isum l := by
      have : l = nth l 0 :: l.drop 1 := by
        have h1 := List.drop_eq_getElem_cons (l := l) (i := 0) (by omega)
        rw [nth_eq l 0 (by omega)]
        simpa using h1
      calc nth l 0 + isum (l.drop 1) = isum (nth l 0 :: l.drop 1) := rfl
        _ = isum l := by rw [← this]
    simp only [Nat.zero_add]
    generalize hP : (lad (l.drop 1)).1 = P at *
    generalize hQ : (lad (l.drop 1)).2 = Q at *
    have hs := pw (isum l) (by omega) e
    have h2 : (isum l).toNat = (nth l 0).toNat + (isum (l.drop 1)).toNat := by omega
    have h3 : nth l 0 + 1 ≤ 2 ^ (nth l 0).toNat := by
      have := Nat.lt_two_pow_self (n := (nth l 0).toNat)
      have h4 : (((nth l 0).toNat + 1 : Nat) : Int) ≤ ((2 ^ (nth l 0).toNat : Nat) : Int) := by exact_mod_cast this
      push_cast at h4; omega
    have h5 : (nth l 0 + 1) * P ≤ 2 ^ (nth l 0).toNat * 2 ^ (isum (l.drop 1)).toNat := Int.mul_le_mul h3 p4 (by omega) (Int.pow_nonneg (by decide : (0 : Int) ≤ 2))
    rw [← Int.pow_add, ← h2, Int.add_mul, Int.one_mul] at h5
    have h6 := Int.mul_nonneg x1 (show 0 ≤ P by omega)
    omega
end Go.Proofs.Ytndbdbcbnipmaaa
