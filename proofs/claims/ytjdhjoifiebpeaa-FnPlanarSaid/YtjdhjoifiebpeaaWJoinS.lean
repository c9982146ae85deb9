/- Join of spec. No condition. -/
import Derived.Test.YtjdhjoifiebpeaaWStr
import Derived.Test.YtjdhjoifiebpeaaWLaw
namespace Go.Proofs.Ytjdhjoifiebpeaa
set_option maxRecDepth 100000
open Go.ChangeShapes Go.WideShapes Go.ChangeAt Go.RowKit Go.Joins

theorem join_step (l : List (List UInt8)) (sep : List UInt8) (k : Nat) (h : k < l.length) : Lib.join (l.take (k + 1)) sep = Lib.join (l.take k) sep ++ (if k = 0 then [] else sep) ++ tnth l k := by
  cases l with
  | nil => simp at h
  | cons x r =>
    cases k with
    | zero => simp [Lib.join_one, Lib.join_nil, tnth]
    | succ k =>
      have hk : k < r.length := by simpa using h
      have e : r[k]? = some r[k] := List.getElem?_eq_getElem hk
      simp only [List.take_succ_cons, Lib.join_cons]
      rw [Lib.joinTail_take_succ sep r k _ e]
      simp [tnth, hk]
theorem join_take_le (l : List (List UInt8)) (sep : List UInt8) (k : Nat) : (Lib.join (l.take k) sep).length ≤ (Lib.join l sep).length := by
  cases l with
  | nil => simp
  | cons x r =>
    cases k with
    | zero => simp [Lib.join_nil]
    | succ k =>
      simp only [List.take_succ_cons, Lib.join_cons, List.length_append]
      have := Lib.joinTail_take_le sep r k
      omega

end Go.Proofs.Ytjdhjoifiebpeaa
