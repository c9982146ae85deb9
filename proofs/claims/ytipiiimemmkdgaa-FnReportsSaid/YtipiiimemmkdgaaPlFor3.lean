/- Plain law: tree and forest sums of 3 nodes as polynomials with positive terms; their identities. No program in sight. -/
import Derived.Test.YtipiiimemmkdgaaPlFor2
namespace Go.Proofs.Ytipiiimemmkdgaa
set_option maxRecDepth 100000
open Go.RowKit

def Lap3 (M : Int → Int → Int) (w01 w02 w12 : Int) : Prop := (M 0 0 = w01 + w02) ∧ (M 0 1 = -w01) ∧ (M 0 2 = -w02) ∧ (M 1 0 = -w01) ∧ (M 1 1 = w01 + w12) ∧ (M 1 2 = -w12) ∧ (M 2 0 = -w02) ∧ (M 2 1 = -w12) ∧ (M 2 2 = w02 + w12)
def rt3 (_w01 w02 w12 : Int) : Int := w02*w12
theorem rt3_nn {w01 w02 w12 : Int} (_n01 : 0 ≤ w01) (_n02 : 0 ≤ w02) (_n12 : 0 ≤ w12) : 0 ≤ rt3 w01 w02 w12 := by
  unfold rt3
  repeat (first | assumption | apply addN | apply mulN)
def tp3 (w01 w02 w12 : Int) : Int := (w01)*(w02 + w12) + rt3 w01 w02 w12
theorem tree3 {M : Int → Int → Int} {w01 w02 w12 : Int} (h : Lap3 M w01 w02 w12) : detF M [1, 2] [1, 2] = tp3 w01 w02 w12 := by
  obtain ⟨m00, m01, m02, m10, m11, m12, m20, m21, m22⟩ := h
  simp only [detF, sumTo, sgn, nth, List.length, List.getD_cons_zero, List.getD_cons_succ, List.eraseIdx, m11, m12, m21, m22]
  unfold tp3 rt3
  grind

theorem tp3_pos {w01 w02 w12 : Int} (_n01 : 0 ≤ w01) (_n02 : 0 ≤ w02) (_n12 : 0 ≤ w12) (_t1 : 1 ≤ w01) (_t2 : 1 ≤ w02 + w12) : 1 ≤ tp3 w01 w02 w12 := by
  have h1 := rt3_nn _n01 _n02 _n12
  have h2 := mulP (_t1) _t2
  unfold tp3
  omega
def rf3_01 (_w01 _w02 _w12 : Int) : Int := 0
theorem rf3_01_nn {w01 w02 w12 : Int} (_n01 : 0 ≤ w01) (_n02 : 0 ≤ w02) (_n12 : 0 ≤ w12) : 0 ≤ rf3_01 w01 w02 w12 := by
  unfold rf3_01
  omega
def fp3_01 (w01 w02 w12 : Int) : Int := (w02 + w12) + rf3_01 w01 w02 w12
theorem for3_01 {M : Int → Int → Int} {w01 w02 w12 : Int} (h : Lap3 M w01 w02 w12) : detF M [2] [2] = fp3_01 w01 w02 w12 := by
  obtain ⟨m00, m01, m02, m10, m11, m12, m20, m21, m22⟩ := h
  simp only [detF, sumTo, sgn, nth, List.length, List.getD_cons_zero, List.getD_cons_succ, List.eraseIdx, m22]
  unfold fp3_01 rf3_01
  grind

theorem fp3_01_pos {w01 w02 w12 : Int} (_n01 : 0 ≤ w01) (_n02 : 0 ≤ w02) (_n12 : 0 ≤ w12) (_t1 : 1 ≤ w01) (_t2 : 1 ≤ w02 + w12) : 1 ≤ fp3_01 w01 w02 w12 := by
  have h1 := rf3_01_nn _n01 _n02 _n12
  have h2 := _t2
  unfold fp3_01
  omega
def rf3_02 (_w01 _w02 w12 : Int) : Int := w12
theorem rf3_02_nn {w01 w02 w12 : Int} (_n01 : 0 ≤ w01) (_n02 : 0 ≤ w02) (_n12 : 0 ≤ w12) : 0 ≤ rf3_02 w01 w02 w12 := by
  unfold rf3_02
  repeat (first | assumption | apply addN | apply mulN)
def fp3_02 (w01 w02 w12 : Int) : Int := (w01) + rf3_02 w01 w02 w12
theorem for3_02 {M : Int → Int → Int} {w01 w02 w12 : Int} (h : Lap3 M w01 w02 w12) : detF M [1] [1] = fp3_02 w01 w02 w12 := by
  obtain ⟨m00, m01, m02, m10, m11, m12, m20, m21, m22⟩ := h
  simp only [detF, sumTo, sgn, nth, List.length, List.getD_cons_zero, List.getD_cons_succ, List.eraseIdx, m11]
  unfold fp3_02 rf3_02
  grind

theorem fp3_02_pos {w01 w02 w12 : Int} (_n01 : 0 ≤ w01) (_n02 : 0 ≤ w02) (_n12 : 0 ≤ w12) (_t1 : 1 ≤ w01) (_t2 : 1 ≤ w02 + w12) : 1 ≤ fp3_02 w01 w02 w12 := by
  have h1 := rf3_02_nn _n01 _n02 _n12
  have h2 := _t1
  unfold fp3_02
  omega
def rf3_12 (_w01 w02 _w12 : Int) : Int := w02
theorem rf3_12_nn {w01 w02 w12 : Int} (_n01 : 0 ≤ w01) (_n02 : 0 ≤ w02) (_n12 : 0 ≤ w12) : 0 ≤ rf3_12 w01 w02 w12 := by
  unfold rf3_12
  repeat (first | assumption | apply addN | apply mulN)
def fp3_12 (w01 w02 w12 : Int) : Int := (w01) + rf3_12 w01 w02 w12
theorem for3_12 {M : Int → Int → Int} {w01 w02 w12 : Int} (h : Lap3 M w01 w02 w12) : detF M [0] [0] = fp3_12 w01 w02 w12 := by
  obtain ⟨m00, m01, m02, m10, m11, m12, m20, m21, m22⟩ := h
  simp only [detF, sumTo, sgn, nth, List.length, List.getD_cons_zero, List.getD_cons_succ, List.eraseIdx, m00]
  unfold fp3_12 rf3_12
  grind

theorem fp3_12_pos {w01 w02 w12 : Int} (_n01 : 0 ≤ w01) (_n02 : 0 ≤ w02) (_n12 : 0 ≤ w12) (_t1 : 1 ≤ w01) (_t2 : 1 ≤ w02 + w12) : 1 ≤ fp3_12 w01 w02 w12 := by
  have h1 := rf3_12_nn _n01 _n02 _n12
  have h2 := _t1
  unfold fp3_12
  omega
def pp3_012 (w01 _w02 _w12 : Int) : Int := w01
theorem pp3_012_nn {w01 w02 w12 : Int} (_n01 : 0 ≤ w01) (_n02 : 0 ≤ w02) (_n12 : 0 ≤ w12) : 0 ≤ pp3_012 w01 w02 w12 := by
  unfold pp3_012
  repeat (first | assumption | apply addN | apply mulN)
theorem pp3_012_id (w01 w02 w12 : Int) : fp3_02 w01 w02 w12 + fp3_12 w01 w02 w12 - fp3_01 w01 w02 w12 = 2 * pp3_012 w01 w02 w12 := by
  unfold pp3_012 fp3_01 fp3_02 fp3_12 rf3_01 rf3_02 rf3_12
  grind

def pp3_021 (_w01 w02 _w12 : Int) : Int := w02
theorem pp3_021_nn {w01 w02 w12 : Int} (_n01 : 0 ≤ w01) (_n02 : 0 ≤ w02) (_n12 : 0 ≤ w12) : 0 ≤ pp3_021 w01 w02 w12 := by
  unfold pp3_021
  repeat (first | assumption | apply addN | apply mulN)
theorem pp3_021_id (w01 w02 w12 : Int) : fp3_01 w01 w02 w12 + fp3_12 w01 w02 w12 - fp3_02 w01 w02 w12 = 2 * pp3_021 w01 w02 w12 := by
  unfold pp3_021 fp3_01 fp3_02 fp3_12 rf3_01 rf3_02 rf3_12
  grind

def pp3_120 (_w01 _w02 w12 : Int) : Int := w12
theorem pp3_120_nn {w01 w02 w12 : Int} (_n01 : 0 ≤ w01) (_n02 : 0 ≤ w02) (_n12 : 0 ≤ w12) : 0 ≤ pp3_120 w01 w02 w12 := by
  unfold pp3_120
  repeat (first | assumption | apply addN | apply mulN)
theorem pp3_120_id (w01 w02 w12 : Int) : fp3_01 w01 w02 w12 + fp3_02 w01 w02 w12 - fp3_12 w01 w02 w12 = 2 * pp3_120 w01 w02 w12 := by
  unfold pp3_120 fp3_01 fp3_02 fp3_12 rf3_01 rf3_02 rf3_12
  grind

theorem kir3_01 (w01 w02 w12 : Int) : w01*(fp3_01 w01 w02 w12 + fp3_01 w01 w02 w12) + w02*(fp3_01 w01 w02 w12 - fp3_12 w01 w02 w12 + fp3_02 w01 w02 w12) = 2 * tp3 w01 w02 w12 := by
  unfold tp3 rt3 fp3_01 fp3_02 fp3_12 rf3_01 rf3_02 rf3_12
  grind

theorem kir3_02 (w01 w02 w12 : Int) : w01*(fp3_02 w01 w02 w12 - fp3_12 w01 w02 w12 + fp3_01 w01 w02 w12) + w02*(fp3_02 w01 w02 w12 + fp3_02 w01 w02 w12) = 2 * tp3 w01 w02 w12 := by
  unfold tp3 rt3 fp3_01 fp3_02 fp3_12 rf3_01 rf3_02 rf3_12
  grind

theorem kir3_10 (w01 w02 w12 : Int) : w01*(fp3_01 w01 w02 w12 + fp3_01 w01 w02 w12) + w12*(fp3_01 w01 w02 w12 - fp3_02 w01 w02 w12 + fp3_12 w01 w02 w12) = 2 * tp3 w01 w02 w12 := by
  unfold tp3 rt3 fp3_01 fp3_02 fp3_12 rf3_01 rf3_02 rf3_12
  grind

theorem kir3_12 (w01 w02 w12 : Int) : w01*(fp3_12 w01 w02 w12 - fp3_02 w01 w02 w12 + fp3_01 w01 w02 w12) + w12*(fp3_12 w01 w02 w12 + fp3_12 w01 w02 w12) = 2 * tp3 w01 w02 w12 := by
  unfold tp3 rt3 fp3_01 fp3_02 fp3_12 rf3_01 rf3_02 rf3_12
  grind

theorem kir3_20 (w01 w02 w12 : Int) : w02*(fp3_02 w01 w02 w12 + fp3_02 w01 w02 w12) + w12*(fp3_02 w01 w02 w12 - fp3_01 w01 w02 w12 + fp3_12 w01 w02 w12) = 2 * tp3 w01 w02 w12 := by
  unfold tp3 rt3 fp3_01 fp3_02 fp3_12 rf3_01 rf3_02 rf3_12
  grind

theorem kir3_21 (w01 w02 w12 : Int) : w02*(fp3_12 w01 w02 w12 - fp3_01 w01 w02 w12 + fp3_02 w01 w02 w12) + w12*(fp3_12 w01 w02 w12 + fp3_12 w01 w02 w12) = 2 * tp3 w01 w02 w12 := by
  unfold tp3 rt3 fp3_01 fp3_02 fp3_12 rf3_01 rf3_02 rf3_12
  grind

theorem fos3 (w01 w02 w12 : Int) : w01*(fp3_01 w01 w02 w12) + w02*(fp3_02 w01 w02 w12) + w12*(fp3_12 w01 w02 w12) = 2 * tp3 w01 w02 w12 := by
  unfold tp3 rt3 fp3_01 fp3_02 fp3_12 rf3_01 rf3_02 rf3_12
  grind

end Go.Proofs.Ytipiiimemmkdgaa
