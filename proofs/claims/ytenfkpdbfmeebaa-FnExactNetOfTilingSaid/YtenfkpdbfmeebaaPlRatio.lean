/- Plain Lean: fractions. -/
namespace Go.Proofs.Ytenfkpdbfmeebaa

/-- A fraction as the program keeps it. -/
structure Rt where
  n : Int
  d : Int
deriving DecidableEq, Repr

def zeroR : Rt := ⟨0, 0⟩
/-- The greatest common divisor of the magnitudes. -/
def gcdN (a b : Int) : Nat := Nat.gcd a.natAbs b.natAbs

def ratioOk (n d : Int) : Bool :=
  decide (1 ≤ d) && decide (d ≤ 1000000000000000) && decide (-1000000000000000000 ≤ n) && decide (n ≤ 1000000000000000000) && decide (gcdN n d = 1)

theorem ratioOk_iff {n d : Int} : ratioOk n d = true ↔ 1 ≤ d ∧ d ≤ 1000000000000000 ∧ -1000000000000000000 ≤ n ∧ n ≤ 1000000000000000000 ∧ gcdN n d = 1 := by
  simp [ratioOk, and_assoc]

/-- RatioOf, for arguments that are not the least int. -/
def ratioOf (n d : Int) : Rt :=
  if d = 0 then zeroR
  else
    let g := gcdN n d
    let a := n.natAbs / g
    let b := d.natAbs / g
    if 1000000000000000000 < a ∨ 1000000000000000 < b then zeroR
    else ⟨if (n < 0) ↔ (d < 0) then (a : Int) else -(a : Int), (b : Int)⟩

theorem gcdN_pos {n d : Int} (h : d ≠ 0) : 0 < gcdN n d := by
  unfold gcdN
  exact Nat.gcd_pos_of_pos_right _ (by omega)

theorem gcdN_dvd_left (n d : Int) : gcdN n d ∣ n.natAbs := Nat.gcd_dvd_left _ _
theorem gcdN_dvd_right (n d : Int) : gcdN n d ∣ d.natAbs := Nat.gcd_dvd_right _ _
theorem gcdN_le (n d : Int) (h : d ≠ 0) : gcdN n d ≤ d.natAbs := Nat.le_of_dvd (by omega) (gcdN_dvd_right n d)

/-- What RatioOf gives is zero or valid. -/
theorem ratioOf_ok (n d : Int) : ratioOf n d = zeroR ∨ ratioOk (ratioOf n d).n (ratioOf n d).d = true := by
  unfold ratioOf
  by_cases h0 : d = 0
  · left; simp [h0]
  · rw [if_neg h0]
    simp only
    split
    · left; rfl
    · rename_i h
      right
      have hg := gcdN_pos (n := n) h0
      obtain ⟨a, ha⟩ := gcdN_dvd_left n d
      obtain ⟨b, hb⟩ := gcdN_dvd_right n d
      have ea : n.natAbs / gcdN n d = a := by rw [ha]; exact Nat.mul_div_cancel_left a hg
      have eb : d.natAbs / gcdN n d = b := by rw [hb]; exact Nat.mul_div_cancel_left b hg
      rw [ea, eb] at h ⊢
      have hb0 : b ≠ 0 := fun e => by rw [e] at hb; omega
      have hc : Nat.gcd a b = 1 := by
        have : Nat.gcd (gcdN n d * a) (gcdN n d * b) = gcdN n d * Nat.gcd a b := Nat.gcd_mul_left _ _ _
        rw [← ha, ← hb] at this
        have h1 : gcdN n d * Nat.gcd a b = gcdN n d * 1 := by rw [← this, Nat.mul_one]; rfl
        exact Nat.eq_of_mul_eq_mul_left hg h1
      rw [ratioOk_iff]
      dsimp only
      refine ⟨by omega, by omega, ?_, ?_, ?_⟩
      · split <;> omega
      · split <;> omega
      · unfold gcdN
        have : (if (n < 0) ↔ (d < 0) then (a : Int) else -(a : Int)).natAbs = a := by split <;> simp
        rw [this]
        simpa using hc


theorem tdiv_exact (n : Int) (g a : Nat) (h : n.natAbs = g * a) (hg : 0 < g) : n.tdiv (g : Int) = if n < 0 then -(a : Int) else (a : Int) := by
  have hg' : (g : Int) ≠ 0 := by omega
  split
  · rename_i hn
    have e : n = -((g : Int) * (a : Int)) := by
      have : ((g * a : Nat) : Int) = (g : Int) * (a : Int) := Int.natCast_mul g a
      omega
    rw [e, Int.neg_tdiv, Int.mul_tdiv_cancel_left _ hg']
  · rename_i hn
    have e : n = (g : Int) * (a : Int) := by
      have : ((g * a : Nat) : Int) = (g : Int) * (a : Int) := Int.natCast_mul g a
      omega
    rw [e, Int.mul_tdiv_cancel_left _ hg']

end Go.Proofs.Ytenfkpdbfmeebaa
