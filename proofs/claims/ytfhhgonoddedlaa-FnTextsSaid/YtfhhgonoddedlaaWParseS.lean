/- ParseInt of spec. No condition. -/
import Derived.Test.YtfhhgonoddedlaaWParse
namespace Go.Proofs.Ytfhhgonoddedlaa
set_option maxRecDepth 100000
open Go.ChangeShapes Go.WideShapes Go.ChangeAt Go.RowKit Go.Joins

theorem bstr_extract (l : List UInt8) (i j : Nat) : (bstr l).extract i j = bstr ((l.drop i).take (j - i)) := by
  apply ByteArray.ext
  simp [bstr]
theorem tail_drop {s : List UInt8} (hl : 0 < s.length) (h : bnth s 0 = 45) : s.drop 1 = tailP s := by
  cases s with
  | nil => simp at hl
  | cons c s =>
    simp [bnth] at h
    subst h; rfl
theorem over_none {s t : List UInt8} (ht : t = tailP s) (hd : ∀ c ∈ t, isDig c) {k : Nat} (hk : k ≤ t.length) (h : 9223372036854775808 < dval (t.take k)) : pv s = 0 ∧ pb s = false :=
  p_none (fun m hm e => by
    obtain ⟨_, _, r1, r2⟩ := read_back hm e
    rw [← ht] at r1 r2
    unfold in64 at hm
    have h1 := dval_mono t hd k (t.length - k) (by omega)
    rw [show k + (t.length - k) = t.length by omega, List.take_length] at h1
    by_cases hl : t.length = s.length
    · have := r1 hl; omega
    · have := r2 hl; omega)
theorem tdiv_test (V d : Int) (h0 : 0 ≤ d) (h9 : d ≤ 9) : -V < (-9223372036854775808 + d).tdiv 10 ↔ 9223372036854775808 < 10 * V + d := by
  have e : (-9223372036854775808 + d).tdiv 10 = -((9223372036854775808 - d) / 10) := by
    rw [show (-9223372036854775808 + d) = -(9223372036854775808 - d) by omega, Int.neg_tdiv, Int.tdiv_eq_ediv_of_nonneg (by omega)]
  rw [e]; omega

end Go.Proofs.Ytfhhgonoddedlaa
