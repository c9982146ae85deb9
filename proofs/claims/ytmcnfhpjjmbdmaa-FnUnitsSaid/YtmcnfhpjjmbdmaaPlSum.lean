/- Plain Lean: sums, inverses and ladders of fractions. -/
import Derived.Test.YtmcnfhpjjmbdmaaPlRatio
namespace Go.Proofs.Ytmcnfhpjjmbdmaa

/-- The magnitude of a product is small enough. -/
def fitsB (a b : Int) : Bool := decide ((a * b).natAbs ≤ 1000000000000000000)
def calcB (r s : Rt) : Bool := ratioOk r.n r.d && ratioOk s.n s.d && fitsB r.n s.d && fitsB s.n r.d && fitsB r.d s.d && fitsB r.n s.n
def ratioSum (r s : Rt) : Rt := if calcB r s = true then ratioOf (r.n * s.d + s.n * r.d) (r.d * s.d) else zeroR
def ratioDiff (r s : Rt) : Rt := if calcB r s = true then ratioOf (r.n * s.d - s.n * r.d) (r.d * s.d) else zeroR
def ratioTimes (r s : Rt) : Rt := if calcB r s = true then ratioOf (r.n * s.n) (r.d * s.d) else zeroR
def ratioInv (r : Rt) : Rt := if ratioOk r.n r.d = true then ratioOf r.d r.n else zeroR
def posB (r : Rt) : Bool := ratioOk r.n r.d && decide (0 < r.n)
def seriesR (r s : Rt) : Rt := if posB r = true ∧ posB s = true then ratioSum r s else zeroR
def parallelR (r s : Rt) : Rt := if posB r = true ∧ posB s = true then ratioInv (ratioSum (ratioInv r) (ratioInv s)) else zeroR

theorem fitsB_iff {a b : Int} : fitsB a b = true ↔ -1000000000000000000 ≤ a * b ∧ a * b ≤ 1000000000000000000 := by
  simp [fitsB]; omega

theorem calcB_iff {r s : Rt} : calcB r s = true ↔ ratioOk r.n r.d = true ∧ ratioOk s.n s.d = true ∧ fitsB r.n s.d = true ∧ fitsB s.n r.d = true ∧ fitsB r.d s.d = true ∧ fitsB r.n s.n = true := by
  simp [calcB, and_assoc]

/-- How the program asks whether a product fits. -/
theorem fits_div (a b : Int) (hb : b ≠ 0) (ha : a ≠ 0) : fitsB a b = decide (a.natAbs ≤ 1000000000000000000 / b.natAbs) := by
  unfold fitsB
  rw [Int.natAbs_mul]
  congr 1
  rw [Nat.le_div_iff_mul_le (by omega)]
theorem fits_zero_left (b : Int) : fitsB 0 b = true := by simp [fitsB]
theorem fits_zero_right (a : Int) : fitsB a 0 = true := by simp [fitsB]

/-- A product that fits; else 0. -/
def prodOr (a b : Int) : Int := if fitsB a b = true then a * b else 0

theorem ratioOk_zero : ratioOk 0 0 = false := by decide

theorem ratioOf_cases (n d : Int) : (ratioOf n d).n = 0 ∧ (ratioOf n d).d = 0 ∨ ratioOk (ratioOf n d).n (ratioOf n d).d = true := by
  rcases ratioOf_ok n d with h | h
  · left; rw [h]; exact ⟨rfl, rfl⟩
  · exact .inr h

/-- A fraction that came out of RatioOf lies within the bounds. -/
theorem ratioOf_bd (n d : Int) : -1000000000000000000 ≤ (ratioOf n d).n ∧ (ratioOf n d).n ≤ 1000000000000000000 ∧ 0 ≤ (ratioOf n d).d ∧ (ratioOf n d).d ≤ 1000000000000000 := by
  rcases ratioOf_cases n d with ⟨h1, h2⟩ | h
  · rw [h1, h2]; omega
  · rw [ratioOk_iff] at h; omega

def zeroOrOk (r : Rt) : Prop := r = zeroR ∨ ratioOk r.n r.d = true
theorem ratioOf_zok (n d : Int) : zeroOrOk (ratioOf n d) := ratioOf_ok n d
theorem zok_zero : zeroOrOk zeroR := .inl rfl

/-- RatioOfTerms: q and p of the ladder. -/
def ladder : List Int → Int × Int
  | [] => (1, 0)
  | x :: l => (x * (ladder l).1 + (ladder l).2, (ladder l).1)

def termsB (l : List Int) : Bool :=
  decide (1 ≤ l.length) && decide (l.length ≤ 40) && (l.all fun x => decide (0 ≤ x) && decide (x ≤ 40)) && (l.tail.all fun x => decide (x ≠ 0)) &&
    decide (1 ≤ l.foldr (· + ·) 0) && decide (l.foldr (· + ·) 0 ≤ 40)

def ratioOfTerms (l : List Int) : Rt := if termsB l = true then ratioOf (ladder l).1 (ladder l).2 else zeroR

end Go.Proofs.Ytmcnfhpjjmbdmaa
