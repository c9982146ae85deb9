/- FormatRatio of impl and of spec. No condition. -/
import Derived.Test.YtjdhjoifiebpeaaWRatio
import Derived.Test.YtjdhjoifiebpeaaWFmt
namespace Go.Proofs.Ytjdhjoifiebpeaa
set_option maxRecDepth 100000
open Go.ChangeShapes Go.WideShapes Go.ChangeAt Go.RowKit Go.Joins

def ratioTxt (n d : Int) : List UInt8 := if ratioOk n d = true then (if d = 1 then fmtInt n else fmtInt n ++ [47] ++ fmtInt d) else []
theorem ratioTxt_le (n d : Int) : (ratioTxt n d).length ≤ 45 := by
  have := fmtInt_length n; have := fmtInt_length d
  unfold ratioTxt
  repeat' split
  all_goals simp
  all_goals omega
theorem ratioTxt_1 {n d : Int} (h : ratioOk n d = true) (h1 : d = 1) : bstr (fmtInt n) = bstr (ratioTxt n d) := by simp [ratioTxt, h, h1]; rw [h1] at h; simp [h]
theorem ratioTxt_2 {n d : Int} (h : ratioOk n d = true) (h1 : ¬ d = 1) : bstr (fmtInt n) ++ (⟨#[47]⟩ : ByteArray) ++ bstr (fmtInt d) = bstr (ratioTxt n d) := by
  rw [show (⟨#[47]⟩ : ByteArray) = bstr [47] from rfl, bstr_append, bstr_append]; simp [ratioTxt, h, h1]
theorem ratioTxt_0 {n d : Int} (h : ratioOk n d = false) : (⟨#[]⟩ : ByteArray) = bstr (ratioTxt n d) := by simp [ratioTxt, h, bstr]
theorem ratio_sm {n d : Int} (h : ratioOk n d = true) : (-9223372036854775808 ≤ n ∧ n ≤ 9223372036854775807) ∧ (-9223372036854775808 ≤ d ∧ d ≤ 9223372036854775807) := by
  have := ratioOk_iff.1 h; omega

end Go.Proofs.Ytjdhjoifiebpeaa
