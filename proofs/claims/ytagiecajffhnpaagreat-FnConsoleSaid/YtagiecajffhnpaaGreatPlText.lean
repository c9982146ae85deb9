/- Plain Lean: decimal texts of integers as lists of bytes. No program in sight. -/
namespace Go.Proofs.YtagiecajffhnpaaGreat

/-- Decimal digits by fuel. -/
def fmtF : Nat → Nat → List UInt8
  | 0, n => [(48 + n % 10).toUInt8]
  | f + 1, n => if n < 10 then [(48 + n).toUInt8] else fmtF f (n / 10) ++ [(48 + n % 10).toUInt8]

/-- The decimal digits of a number below 10^20. -/
def fmtNat (n : Nat) : List UInt8 := fmtF 20 n

/-- FormatInt. -/
def fmtInt (n : Int) : List UInt8 := if n < 0 then 45 :: fmtNat n.natAbs else fmtNat n.natAbs

/-- A list of bytes as a string's bytes. -/
def bstr (l : List UInt8) : ByteArray := ⟨l.toArray⟩

theorem bstr_append (a b : List UInt8) : bstr a ++ bstr b = bstr (a ++ b) := by
  apply ByteArray.ext
  simp [bstr]

theorem bstr_size (a : List UInt8) : (bstr a).size = a.length := by
  simp [bstr, ByteArray.size]

theorem bstr_data (a : List UInt8) : (bstr a).data.toList = a := by simp [bstr]

theorem bstr_inj {a b : List UInt8} (h : bstr a = bstr b) : a = b := by
  have := congrArg (fun s => s.data.toList) h
  simpa [bstr] using this

theorem fmtF_fuel : ∀ (f g n : Nat), n < 10 ^ (f + 1) → f ≤ g → fmtF g n = fmtF f n := by
  intro f
  induction f with
  | zero =>
    intro g n hn hg
    simp at hn
    cases g with
    | zero => rfl
    | succ g => simp [fmtF, hn, Nat.mod_eq_of_lt hn]
  | succ f ih =>
    intro g n hn hg
    cases g with
    | zero => omega
    | succ g =>
      simp only [fmtF]
      split
      · rfl
      · rw [ih g (n / 10) (by rw [Nat.div_lt_iff_lt_mul (by omega)]; rw [Nat.pow_succ] at hn; exact hn) (by omega)]

theorem fmtNat_small (n : Nat) (h : n < 10) : fmtNat n = [(48 + n).toUInt8] := by simp [fmtNat, fmtF, h]

theorem fmtNat_step (n : Nat) (h : 10 ≤ n) (hb : n < 10 ^ 20) : fmtNat n = fmtNat (n / 10) ++ [(48 + n % 10).toUInt8] := by
  show fmtF 20 n = fmtF 20 (n / 10) ++ _
  rw [fmtF_fuel 19 20 (n / 10) (by omega) (by omega)]
  simp [fmtF, show ¬ n < 10 by omega]

theorem fmtF_length : ∀ f n, (fmtF f n).length ≤ f + 1 := by
  intro f
  induction f with
  | zero => intro n; simp [fmtF]
  | succ f ih =>
    intro n
    simp only [fmtF]
    split
    · simp
    · have := ih (n / 10); simp; omega

theorem fmtInt_length (n : Int) : (fmtInt n).length ≤ 22 := by
  unfold fmtInt fmtNat
  have := fmtF_length 20 n.natAbs
  split <;> simp <;> omega

/-- The two ways in which the program comes to the digits of a negative number. -/
theorem fmtInt_neg_step (n : Int) (h : n ≤ -10) (hb : -9223372036854775808 ≤ n) : fmtInt n = fmtInt (n.tdiv 10) ++ fmtInt (-(n.tmod 10)) := by
  have e1 : (n.tdiv 10).natAbs = n.natAbs / 10 := Int.natAbs_tdiv n 10
  have e2 : (-(n.tmod 10)).natAbs = n.natAbs % 10 := by rw [Int.natAbs_neg]; exact Int.natAbs_tmod n 10
  obtain ⟨m, rfl⟩ : ∃ m : Int, n = -m := ⟨-n, by omega⟩
  have d1 : (-m).tdiv 10 = -(m / 10) := by rw [Int.neg_tdiv, Int.tdiv_eq_ediv_of_nonneg (by omega)]
  have d2 : (-m).tmod 10 = -(m % 10) := by rw [Int.neg_tmod, Int.tmod_eq_emod_of_nonneg (by omega)]
  have h1 : -m < 0 := by omega
  have h2 : (-m).tdiv 10 < 0 := by omega
  have h3 : ¬ (-((-m).tmod 10) < 0) := by omega
  unfold fmtInt
  rw [if_pos h1, if_pos h2, if_neg h3, e1, e2, fmtNat_step (-m).natAbs (by omega) (by omega), fmtNat_small ((-m).natAbs % 10) (by omega)]
  rfl

theorem fmtInt_pos_step (n : Int) (h : 10 ≤ n) (hb : n ≤ 9223372036854775807) : fmtInt n = fmtInt (n / 10) ++ fmtInt (n % 10) := by
  have e1 : (n / 10).natAbs = n.natAbs / 10 := by omega
  have e2 : (n % 10).natAbs = n.natAbs % 10 := by omega
  unfold fmtInt
  rw [if_neg (by omega), if_neg (by omega), if_neg (by omega), e1, e2, fmtNat_step n.natAbs (by omega) (by omega), fmtNat_small (n.natAbs % 10) (by omega)]

theorem fmtInt_neg_one (n : Int) (h : n < 0) : fmtInt n = 45 :: fmtInt (-n) := by
  unfold fmtInt
  rw [if_pos h, if_neg (by omega)]
  congr 2
  omega

end Go.Proofs.YtagiecajffhnpaaGreat
