/- Plain law: tree and forest sums of 2 nodes as polynomials with positive terms; their identities. No program in sight. -/
import Derived.Test.YtipiiimemmkdgaaPlPot
namespace Go.Proofs.Ytipiiimemmkdgaa
set_option maxRecDepth 100000
open Go.RowKit

theorem addN {a b : Int} (h : 0 ≤ a) (k : 0 ≤ b) : 0 ≤ a + b := Int.add_nonneg h k
theorem mulN {a b : Int} (h : 0 ≤ a) (k : 0 ≤ b) : 0 ≤ a * b := Int.mul_nonneg h k
theorem mulP {a b : Int} (h : 1 ≤ a) (k : 1 ≤ b) : 1 ≤ a * b := by have := Int.mul_pos (a := a) (b := b) (by omega) (by omega); omega
def Lap2 (M : Int → Int → Int) (w01 : Int) : Prop := (M 0 0 = w01) ∧ (M 0 1 = -w01) ∧ (M 1 0 = -w01) ∧ (M 1 1 = w01)
def rt2 (_w01 : Int) : Int := 0
theorem rt2_nn {w01 : Int} (_n01 : 0 ≤ w01) : 0 ≤ rt2 w01 := by
  unfold rt2
  omega
def tp2 (w01 : Int) : Int := (w01) + rt2 w01
theorem tree2 {M : Int → Int → Int} {w01 : Int} (h : Lap2 M w01) : detF M [1] [1] = tp2 w01 := by
  obtain ⟨m00, m01, m10, m11⟩ := h
  simp only [detF, sumTo, sgn, nth, List.length, List.getD_cons_zero, List.getD_cons_succ, List.eraseIdx, m11]
  unfold tp2 rt2
  grind

theorem tp2_pos {w01 : Int} (_n01 : 0 ≤ w01) (_t1 : 1 ≤ w01) : 1 ≤ tp2 w01 := by
  have h1 := rt2_nn _n01
  have h2 := _t1
  unfold tp2
  omega
def rf2_01 (_w01 : Int) : Int := 0
theorem rf2_01_nn {w01 : Int} (_n01 : 0 ≤ w01) : 0 ≤ rf2_01 w01 := by
  unfold rf2_01
  omega
def fp2_01 (w01 : Int) : Int := 1 + rf2_01 w01
theorem for2_01 {M : Int → Int → Int} {w01 : Int} (_h : Lap2 M w01) : detF M [] [] = fp2_01 w01 := rfl

theorem fp2_01_pos {w01 : Int} (_n01 : 0 ≤ w01) (_t1 : 1 ≤ w01) : 1 ≤ fp2_01 w01 := by
  have h1 := rf2_01_nn _n01
  have h2 := (by decide : (1:Int) ≤ 1)
  unfold fp2_01
  omega
theorem kir2_01 (w01 : Int) : w01*(fp2_01 w01 + fp2_01 w01) = 2 * tp2 w01 := by
  unfold tp2 rt2 fp2_01 rf2_01
  grind

theorem kir2_10 (w01 : Int) : w01*(fp2_01 w01 + fp2_01 w01) = 2 * tp2 w01 := by
  unfold tp2 rt2 fp2_01 rf2_01
  grind

theorem fos2 (w01 : Int) : w01*(fp2_01 w01) = 1 * tp2 w01 := by
  unfold tp2 rt2 fp2_01 rf2_01
  grind

end Go.Proofs.Ytipiiimemmkdgaa
