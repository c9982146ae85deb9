/- Comparing fractions by their whole parts: plain law. No program in sight. -/
import Derived.Test.YtmcnfhpjjmbdmaaWBase
namespace Go.Proofs.Ytmcnfhpjjmbdmaa

def sgnI (x : Int) : Int := if x < 0 then -1 else if x = 0 then 0 else 1
theorem sgnI_neg {x : Int} (h : x < 0) : sgnI x = -1 := by unfold sgnI; rw [if_pos h]
theorem sgnI_zero {x : Int} (h : x = 0) : sgnI x = 0 := by unfold sgnI; rw [if_neg (by omega), if_pos h]
theorem sgnI_pos {x : Int} (h : 0 < x) : sgnI x = 1 := by unfold sgnI; rw [if_neg (by omega), if_neg (by omega)]
/-- How a / b stands to c / d. -/
def cmpQ (a b c d : Nat) : Int := sgnI ((a : Int) * d - (c : Int) * b)
theorem cmp_split (a b c d : Nat) (hb : 1 ≤ b) (hd : 1 ≤ d) : (a : Int) * d - (c : Int) * b = ((a / b : Nat) - (c / d : Nat) : Int) * ((b : Int) * d) + ((a % b : Nat) : Int) * d - ((c % d : Nat) : Int) * b := by
  have h1 : (a : Int) = (b : Int) * (a / b : Nat) + (a % b : Nat) := by
    have := Nat.div_add_mod a b
    omega
  have h2 : (c : Int) = (d : Int) * (c / d : Nat) + (c % d : Nat) := by
    have := Nat.div_add_mod c d
    omega
  generalize ((a / b : Nat) : Int) = x at *
  generalize ((c / d : Nat) : Int) = y at *
  generalize ((a % b : Nat) : Int) = p at *
  generalize ((c % d : Nat) : Int) = q at *
  rw [h1, h2]
  grind
theorem mod_mul_lt {a b d : Nat} (hb : 1 ≤ b) (hd : 1 ≤ d) : ((a % b : Nat) : Int) * d < (b : Int) * d ∧ 0 ≤ ((a % b : Nat) : Int) * d := by
  have h1 : a % b < b := Nat.mod_lt _ (by omega)
  have h2 : (a % b) * d < b * d := Nat.mul_lt_mul_of_pos_right h1 (by omega)
  constructor
  · exact_mod_cast h2
  · exact Int.mul_nonneg (by omega) (by omega)
theorem cmpQ_less {a b c d : Nat} (hb : 1 ≤ b) (hd : 1 ≤ d) (h : a / b < c / d) : cmpQ a b c d = -1 := by
  refine sgnI_neg ?_
  rw [cmp_split a b c d hb hd]
  obtain ⟨p1, p2⟩ := mod_mul_lt (a := a) hb hd
  obtain ⟨q1, q2⟩ := mod_mul_lt (a := c) hd hb
  have hx : ((a / b : Nat) - (c / d : Nat) : Int) ≤ -1 := by omega
  have hP : 0 ≤ (b : Int) * d := Int.mul_nonneg (by omega) (by omega)
  have h3 : ((a / b : Nat) - (c / d : Nat) : Int) * ((b : Int) * d) ≤ -1 * ((b : Int) * d) := Int.mul_le_mul_of_nonneg_right hx hP
  omega
theorem cmpQ_more {a b c d : Nat} (hb : 1 ≤ b) (hd : 1 ≤ d) (h : c / d < a / b) : cmpQ a b c d = 1 := by
  refine sgnI_pos ?_
  rw [cmp_split a b c d hb hd]
  obtain ⟨p1, p2⟩ := mod_mul_lt (a := a) hb hd
  obtain ⟨q1, q2⟩ := mod_mul_lt (a := c) hd hb
  have hx : (1 : Int) ≤ ((a / b : Nat) - (c / d : Nat) : Int) := by omega
  have hP : 0 ≤ (b : Int) * d := Int.mul_nonneg (by omega) (by omega)
  have h3 : 1 * ((b : Int) * d) ≤ ((a / b : Nat) - (c / d : Nat) : Int) * ((b : Int) * d) := Int.mul_le_mul_of_nonneg_right hx hP
  have h4 : (d : Int) * b = (b : Int) * d := Int.mul_comm _ _
  omega
theorem cmpQ_same {a b c d : Nat} (hb : 1 ≤ b) (hd : 1 ≤ d) (h : a / b = c / d) : cmpQ a b c d = cmpQ d (c % d) b (a % b) := by
  unfold cmpQ
  rw [cmp_split a b c d hb hd, h]
  congr 1
  have h1 := Int.mul_comm (d : Int) ((a % b : Nat) : Int)
  have h2 := Int.mul_comm (b : Int) ((c % d : Nat) : Int)
  rw [Int.sub_self, Int.zero_mul]
  omega
theorem cmpQ_00 {a b c d : Nat} (hb : 1 ≤ b) (hd : 1 ≤ d) (h : a / b = c / d) (h1 : a % b = 0) (h2 : c % d = 0) : cmpQ a b c d = 0 := by
  rw [cmpQ_same hb hd h, h1, h2]
  exact sgnI_zero (by simp)
theorem cmpQ_0 {a b c d : Nat} (hb : 1 ≤ b) (hd : 1 ≤ d) (h : a / b = c / d) (h1 : a % b = 0) (h2 : 1 ≤ c % d) : cmpQ a b c d = -1 := by
  rw [cmpQ_same hb hd h, h1]
  refine sgnI_neg ?_
  have : 0 < (b : Int) * ((c % d : Nat) : Int) := Int.mul_pos (by omega) (by omega)
  simp
  exact this
theorem cmpQ_1 {a b c d : Nat} (hb : 1 ≤ b) (hd : 1 ≤ d) (h : a / b = c / d) (h1 : 1 ≤ a % b) (h2 : c % d = 0) : cmpQ a b c d = 1 := by
  rw [cmpQ_same hb hd h, h2]
  refine sgnI_pos ?_
  have : 0 < (d : Int) * ((a % b : Nat) : Int) := Int.mul_pos (by omega) (by omega)
  simp
  exact this
end Go.Proofs.Ytmcnfhpjjmbdmaa
