/- Plain law: the finite facts that FnLadders wants. No condition. -/
import Derived.Test.YtndbdbcbnipmaaaPlLadder
namespace Go.Proofs.Ytndbdbcbnipmaaa

open Go.RowKit

def goodB (x : Int) (i : Nat) : Bool := decide (0 ≤ x) && decide (x ≤ 40) && (decide (i = 0) || decide (x ≠ 0))
def tB (l : List Int) : Bool := decide (1 ≤ l.length) && decide (l.length ≤ 40) && ((List.range l.length).all fun j => goodB (nth l j) j) && decide (1 ≤ isum l) && decide (isum l ≤ 40)
theorem goodB_iff (x : Int) (i : Nat) : goodB x i = true ↔ goodT x i := by
  simp [goodB, goodT]
  constructor
  · rintro ⟨⟨a, b⟩, c⟩; exact ⟨a, b, fun h => by omega⟩
  · rintro ⟨a, b, c⟩
    refine ⟨⟨a, b⟩, ?_⟩
    by_cases h : i = 0
    · exact .inl h
    · exact .inr (c (by omega))
theorem tB_iff (l : List Int) : tB l = true ↔ termsP l := by
  simp only [tB, termsP, Bool.and_eq_true, decide_eq_true_eq, List.all_eq_true, List.mem_range, goodB_iff]
  constructor
  · rintro ⟨⟨⟨⟨a, b⟩, c⟩, d⟩, e⟩; exact ⟨a, b, c, d, e⟩
  · rintro ⟨a, b, c, d, e⟩; exact ⟨⟨⟨⟨a, b⟩, c⟩, d⟩, e⟩

/-- The last term two greater. -/
def bump : List Int → List Int
  | [] => []
  | [x] => [x + 2]
  | x :: y :: l => x :: bump (y :: l)

def lists : Nat → List (List Int)
  | 0 => [[]]
  | n + 1 => [] :: (lists n).flatMap fun l => [1 :: l, 2 :: l, 3 :: l, 4 :: l]
theorem mem_lists : ∀ (n : Nat) (l : List Int), l.length ≤ n → (∀ x ∈ l, 1 ≤ x ∧ x ≤ 4) → l ∈ lists n
  | 0, [], _, _ => by simp [lists]
  | n + 1, [], _, _ => by simp [lists]
  | n + 1, x :: l, h, hx => by
    have h1 := mem_lists n l (by simpa using h) (fun y hy => hx y (List.mem_cons_of_mem _ hy))
    have h2 := hx x (List.mem_cons_self ..)
    simp only [lists, List.mem_cons, List.mem_flatMap]
    refine .inr ⟨l, h1, ?_⟩
    have : x = 1 ∨ x = 2 ∨ x = 3 ∨ x = 4 := by omega
    rcases this with rfl | rfl | rfl | rfl <;> simp

def okA (l : List Int) : Bool := tB l && decide (1 ≤ (ratioOf (lad l).1 (lad l).2).n) && decide (termsOf (ratioOf (lad l).1 (lad l).2).n (ratioOf (lad l).1 (lad l).2).d = l)
set_option maxRecDepth 100000 in
theorem allA : ((List.range 5).all fun a => (lists 3).all fun l => okA (bump ((a : Int) :: l))) = true := by decide +kernel

theorem factA {a : Int} {l : List Int} (a0 : 0 ≤ a) (a1 : a < 5) (hl : l.length ≤ 3) (hx : ∀ x ∈ l, 1 ≤ x ∧ x ≤ 4) :
    termsP (bump (a :: l)) ∧ 1 ≤ (valOf (bump (a :: l))).n ∧ termsOf (valOf (bump (a :: l))).n (valOf (bump (a :: l))).d = bump (a :: l) := by
  have h := allA
  rw [List.all_eq_true] at h
  have h1 := h a.toNat (List.mem_range.2 (by omega))
  rw [List.all_eq_true] at h1
  have h2 := h1 l (mem_lists 3 l hl hx)
  have e : ((a.toNat : Nat) : Int) = a := by omega
  rw [e] at h2
  simp only [okA, Bool.and_eq_true, decide_eq_true_eq] at h2
  have hT := (tB_iff _).1 h2.1.1
  rw [(valOf_good hT).1]
  exact ⟨hT, h2.1.2, h2.2⟩

def okB (p q : Int) : Bool :=
  let u := termsOf p q
  decide (1 ≤ u.length) && decide (1 ≤ isum u) && (tB u == decide (isum u ≤ 40)) && (!(tB u) || decide (ratioOf (lad u).1 (lad u).2 = ratioOf p q))
set_option maxRecDepth 100000 in
theorem allB : ((List.range 60).all fun p => (List.range 60).all fun q => okB (1 + (p : Int)) (1 + (q : Int))) = true := by decide +kernel

theorem factB {p q : Int} (p0 : 1 ≤ p) (p1 : p ≤ 60) (q0 : 1 ≤ q) (q1 : q ≤ 60) :
    1 ≤ (termsOf p q).length ∧ 1 ≤ countUnits p q ∧ valOk (termsOf p q) = decide (countUnits p q ≤ 40) ∧ (valOk (termsOf p q) = true → valOf (termsOf p q) = ratioOf p q) := by
  have h := allB
  rw [List.all_eq_true] at h
  have h1 := h (p - 1).toNat (List.mem_range.2 (by omega))
  rw [List.all_eq_true] at h1
  have h2 := h1 (q - 1).toNat (List.mem_range.2 (by omega))
  have e1 : 1 + (((p - 1).toNat : Nat) : Int) = p := by omega
  have e2 : 1 + (((q - 1).toNat : Nat) : Int) = q := by omega
  rw [e1, e2] at h2
  simp only [okB, Bool.and_eq_true, decide_eq_true_eq, beq_iff_eq, Bool.or_eq_true, Bool.not_eq_true'] at h2
  obtain ⟨⟨⟨a, b⟩, c⟩, d⟩ := h2
  have hne : termsOf p q ≠ [] := fun e => by rw [e] at a; simp at a
  have hcu : countUnits p q = isum (termsOf p q) := by unfold countUnits; rw [if_neg hne]
  rw [hcu, ← c]
  by_cases hT : termsP (termsOf p q)
  · have ht := (tB_iff _).2 hT
    refine ⟨a, b, by rw [ht, (valOf_good hT).2], fun _ => ?_⟩
    rw [(valOf_good hT).1]
    rcases d with d | d
    · rw [ht] at d; cases d
    · exact d
  · have ht : tB (termsOf p q) = false := by
      cases hb : tB (termsOf p q) with
      | false => rfl
      | true => exact (hT ((tB_iff _).1 hb)).elim
    exact ⟨a, b, by rw [ht, (valOf_bad hT).2], fun hv => by rw [(valOf_bad hT).2] at hv; cases hv⟩
end Go.Proofs.Ytndbdbcbnipmaaa
