/- The values of equal resistors: plain law. No program in sight. -/
import Derived.Test.YtmcnfhpjjmbdmaaPlSum
namespace Go.Proofs.Ytmcnfhpjjmbdmaa

/-- The combinations of a value of A and one of B. -/
def candR (A B : List Rt) : List Rt := A.flatMap fun a => B.flatMap fun b => [seriesR a b, parallelR a b]
/-- r < s. -/
def ltR (r s : Rt) : Bool := decide (r.n * s.d < s.n * r.d)
/-- At its place, if it is not there yet. -/
def insR : List Rt → Rt → List Rt
  | [], r => [r]
  | x :: l, r => if x = r then x :: l else if ltR r x then r :: x :: l else x :: insR l r
/-- At its place, behind its equals. -/
def putR : List Rt → Rt → List Rt
  | [], r => [r]
  | x :: l, r => if ltR r x then r :: x :: l else x :: putR l r
def sortR (l : List Rt) : List Rt := l.foldl putR []
def compR : List Rt → List Rt
  | [] => []
  | x :: l => match compR l with
    | [] => [x]
    | y :: m => if x = y then y :: m else x :: y :: m
def allC (V : Nat → List Rt) (n : Nat) : List Rt := (List.range (n / 2)).flatMap fun k => candR (V (k + 1)) (V (n - (k + 1)))
def V1 : List Rt := [⟨1, 1⟩]
def v2 : List Rt := compR (sortR (candR V1 V1))
def v3 : List Rt := compR (sortR (candR V1 v2))
def v4 : List Rt := compR (sortR (candR V1 v3 ++ candR v2 v2))
def v5 : List Rt := compR (sortR (candR V1 v4 ++ candR v2 v3))
def v6 : List Rt := compR (sortR (candR V1 v5 ++ candR v2 v4 ++ candR v3 v3))
theorem v2_ins : (candR V1 V1).foldl insR [] = v2 := by decide +kernel
theorem v3_ins : (candR V1 v2).foldl insR [] = v3 := by decide +kernel
theorem v4_ins : (candR V1 v3 ++ candR v2 v2).foldl insR [] = v4 := by decide +kernel
theorem v5_ins : (candR V1 v4 ++ candR v2 v3).foldl insR [] = v5 := by decide +kernel
theorem v6_ins : (candR V1 v5 ++ candR v2 v4 ++ candR v3 v3).foldl insR [] = v6 := by decide +kernel
theorem v_len : v2.length = 2 ∧ v3.length = 4 ∧ v4.length = 9 ∧ v5.length = 22 ∧ v6.length = 53 := by decide +kernel
end Go.Proofs.Ytmcnfhpjjmbdmaa
