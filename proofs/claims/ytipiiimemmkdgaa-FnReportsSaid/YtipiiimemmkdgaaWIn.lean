/- l01In. -/
import Derived.Test.YtipiiimemmkdgaaWBase
namespace Go.Proofs.Ytipiiimemmkdgaa

open Go.RowKit

/-- lo <= n <= hi, as the reference asks it. -/
def inB (n lo hi : Int) : Bool := decide (lo ≤ n) && decide (n ≤ hi)
theorem inB_true {n lo hi : Int} (h1 : lo ≤ n) (h2 : n ≤ hi) : inB n lo hi = true := by simp [inB, h1, h2]
theorem inB_false {n lo hi : Int} (h : n < lo ∨ hi < n) : inB n lo hi = false := by simp [inB]; omega
theorem inB_iff {n lo hi : Int} : inB n lo hi = true ↔ lo ≤ n ∧ n ≤ hi := by simp [inB]
end Go.Proofs.Ytipiiimemmkdgaa
