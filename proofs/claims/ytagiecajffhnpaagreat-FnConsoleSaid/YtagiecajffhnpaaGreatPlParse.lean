/- Plain law: an integer's text read back. No program in sight. -/
import Derived.Test.YtagiecajffhnpaaGreatPlText
namespace Go.Proofs.YtagiecajffhnpaaGreat

/-- The byte number k of a text. -/
def bnth (t : List UInt8) (k : Nat) : UInt8 := t.getD k 0
theorem bnth_eq (t : List UInt8) (k : Nat) (h : k < t.length) : bnth t k = t[k] := by simp [bnth, List.getD, h]
def isDig (c : UInt8) : Prop := 48 ≤ c.toNat ∧ c.toNat ≤ 57
instance (c : UInt8) : Decidable (isDig c) := by unfold isDig; infer_instance
def digsP (t : List UInt8) : Prop := t ≠ [] ∧ ∀ c ∈ t, isDig c
/-- The value of a text of digits. -/
def dval (t : List UInt8) : Int := t.foldl (fun a c => 10 * a + ((c.toNat : Int) - 48)) 0
theorem dval_snoc (t : List UInt8) (c : UInt8) : dval (t ++ [c]) = 10 * dval t + ((c.toNat : Int) - 48) := by simp [dval, List.foldl_append]
theorem dval_take (t : List UInt8) (k : Nat) (h : k < t.length) : dval (t.take (k + 1)) = 10 * dval (t.take k) + (((bnth t k).toNat : Int) - 48) := by
  rw [List.take_succ_eq_append_getElem h, dval_snoc, bnth_eq t k h]
theorem dig_toNat (n : Nat) (h : n < 10) : ((48 + n).toUInt8).toNat = 48 + n := by
  have : n = 0 ∨ n = 1 ∨ n = 2 ∨ n = 3 ∨ n = 4 ∨ n = 5 ∨ n = 6 ∨ n = 7 ∨ n = 8 ∨ n = 9 := by omega
  rcases this with rfl | rfl | rfl | rfl | rfl | rfl | rfl | rfl | rfl | rfl <;> rfl
theorem fmtNat_facts : ∀ (k n : Nat), 1 ≤ k → k ≤ 20 → n < 10 ^ k → (∀ c ∈ fmtNat n, isDig c) ∧ (fmtNat n).length ≤ k ∧ dval (fmtNat n) = n ∧ fmtNat n ≠ [] := by
  intro k
  induction k with
  | zero => intro n h; omega
  | succ k ih =>
    intro n _ hk hn
    by_cases h10 : n < 10
    · rw [fmtNat_small n h10]
      refine ⟨fun c hc => ?_, by simp, ?_, by simp⟩
      · simp only [List.mem_singleton] at hc
        subst hc
        have := dig_toNat n h10
        unfold isDig; omega
      · have := dig_toNat n h10
        simp only [dval, List.foldl_cons, List.foldl_nil]
        omega
    · have hk1 : 1 ≤ k := by
        cases k with
        | zero => simp at hn; omega
        | succ k => omega
      have hlt : n / 10 < 10 ^ k := by
        rw [Nat.div_lt_iff_lt_mul (by omega)]; rw [Nat.pow_succ] at hn; exact hn
      obtain ⟨h1, h2, h3, h4⟩ := ih (n / 10) hk1 (by omega) hlt
      have hb : n < 10 ^ 20 := Nat.lt_of_lt_of_le hn (Nat.pow_le_pow_right (by omega) hk)
      rw [fmtNat_step n (by omega) hb]
      have hd := dig_toNat (n % 10) (by omega)
      refine ⟨fun c hc => ?_, by simp; omega, ?_, by simp⟩
      · rcases List.mem_append.1 hc with h | h
        · exact h1 c h
        · simp only [List.mem_singleton] at h
          subst h
          unfold isDig; omega
      · rw [dval_snoc, h3, hd]; omega

/-- An integer of 64 bits. -/
def in64 (x : Int) : Prop := -9223372036854775808 ≤ x ∧ x ≤ 9223372036854775807
/-- The text without a leading minus. -/
def tailP (s : List UInt8) : List UInt8 := match s with
  | 45 :: t => t
  | s => s
theorem tailP_minus (t : List UInt8) : tailP (45 :: t) = t := rfl
theorem tailP_other {s : List UInt8} (h : ∀ t, s ≠ 45 :: t) : tailP s = s := by
  unfold tailP
  split
  · exact absurd rfl (h _)
  · rfl
/-- What is read, where the text is that of an integer. -/
theorem read_back {n : Int} {s : List UInt8} (hn : in64 n) (h : fmtInt n = s) :
    digsP (tailP s) ∧ (tailP s).length ≤ 19 ∧ ((tailP s).length = s.length → dval (tailP s) = n) ∧ (¬ (tailP s).length = s.length → dval (tailP s) = -n) := by
  subst h
  unfold in64 at hn
  have hf := fmtNat_facts 19 n.natAbs (by omega) (by omega) (by omega)
  obtain ⟨h1, h2, h3, h4⟩ := hf
  by_cases hneg : n < 0
  · have e : fmtInt n = 45 :: fmtNat n.natAbs := by unfold fmtInt; rw [if_pos hneg]
    rw [e, tailP_minus]
    refine ⟨⟨h4, h1⟩, h2, fun h => by simp at h, fun _ => by rw [h3]; omega⟩
  · have e : fmtInt n = fmtNat n.natAbs := by unfold fmtInt; rw [if_neg hneg]
    have hne : ∀ t, fmtNat n.natAbs ≠ 45 :: t := fun t ht => by
      have := h1 45 (by rw [ht]; simp)
      unfold isDig at this
      have h45 : (45 : UInt8).toNat = 45 := rfl
      omega
    rw [e, tailP_other hne]
    exact ⟨⟨h4, h1⟩, h2, fun _ => by rw [h3]; omega, fun h => absurd rfl h⟩

open Classical in

/-- The integer of which s is the text, if there is one. -/
noncomputable def parseI (s : List UInt8) : Option Int := if h : ∃ n, in64 n ∧ fmtInt n = s then some h.choose else none
theorem fmtInt_uniq {n m : Int} (hn : in64 n) (hm : in64 m) (h : fmtInt n = fmtInt m) : n = m := by
  obtain ⟨_, _, a1, a2⟩ := read_back hn rfl
  obtain ⟨_, _, b1, b2⟩ := read_back hm rfl
  rw [h] at a1 a2
  by_cases e : (tailP (fmtInt m)).length = (fmtInt m).length
  · have := a1 e; have := b1 e; omega
  · have := a2 e; have := b2 e; omega
theorem parseI_some {n : Int} {s : List UInt8} (hn : in64 n) (h : fmtInt n = s) : parseI s = some n := by
  have hex : ∃ n, in64 n ∧ fmtInt n = s := ⟨n, hn, h⟩
  unfold parseI
  rw [dif_pos hex]
  exact congrArg some (fmtInt_uniq hex.choose_spec.1 hn (hex.choose_spec.2.trans h.symm))
theorem parseI_none {s : List UInt8} (h : ∀ n, in64 n → fmtInt n ≠ s) : parseI s = none := by
  unfold parseI
  rw [dif_neg (fun ⟨n, hn, he⟩ => h n hn he)]
noncomputable def pv (s : List UInt8) : Int := (parseI s).getD 0
noncomputable def pb (s : List UInt8) : Bool := (parseI s).isSome
theorem p_some {n : Int} {s : List UInt8} (hn : in64 n) (h : fmtInt n = s) : pv s = n ∧ pb s = true := by
  simp [pv, pb, parseI_some hn h]
theorem p_none {s : List UInt8} (h : ∀ n, in64 n → fmtInt n ≠ s) : pv s = 0 ∧ pb s = false := by
  simp [pv, pb, parseI_none h]
theorem p_bad {s : List UInt8} (h : ¬ digsP (tailP s) ∨ 19 < (tailP s).length) : pv s = 0 ∧ pb s = false :=
  p_none (fun n hn e => by
    obtain ⟨h1, h2, _⟩ := read_back hn e
    rcases h with h | h
    · exact h h1
    · omega)

end Go.Proofs.YtagiecajffhnpaaGreat
