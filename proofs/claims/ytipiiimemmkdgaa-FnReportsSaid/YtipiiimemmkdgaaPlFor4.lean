/- Plain law: tree and forest sums of 4 nodes as polynomials with positive terms; their identities. No program in sight. -/
import Derived.Test.YtipiiimemmkdgaaPlFor3
namespace Go.Proofs.Ytipiiimemmkdgaa
set_option maxRecDepth 100000
open Go.RowKit

def Lap4 (M : Int → Int → Int) (w01 w02 w03 w12 w13 w23 : Int) : Prop := (M 0 0 = w01 + w02 + w03) ∧ (M 0 1 = -w01) ∧ (M 0 2 = -w02) ∧ (M 0 3 = -w03) ∧ (M 1 0 = -w01) ∧ (M 1 1 = w01 + w12 + w13) ∧ (M 1 2 = -w12) ∧ (M 1 3 = -w13) ∧ (M 2 0 = -w02) ∧ (M 2 1 = -w12) ∧ (M 2 2 = w02 + w12 + w23) ∧ (M 2 3 = -w23) ∧ (M 3 0 = -w03) ∧ (M 3 1 = -w13) ∧ (M 3 2 = -w23) ∧ (M 3 3 = w03 + w13 + w23)
def rt4 (w01 w02 w03 w12 w13 w23 : Int) : Int := w01*w03*w23 + w01*w13*w23 + w02*w03*w12 + w02*w03*w13 + w02*w12*w13 + w02*w12*w23 + w02*w13*w23 + w03*w12*w13 + w03*w12*w23 + w03*w13*w23
theorem rt4_nn {w01 w02 w03 w12 w13 w23 : Int} (_n01 : 0 ≤ w01) (_n02 : 0 ≤ w02) (_n03 : 0 ≤ w03) (_n12 : 0 ≤ w12) (_n13 : 0 ≤ w13) (_n23 : 0 ≤ w23) : 0 ≤ rt4 w01 w02 w03 w12 w13 w23 := by
  unfold rt4
  repeat (first | assumption | apply addN | apply mulN)
def tp4 (w01 w02 w03 w12 w13 w23 : Int) : Int := (w01)*(w02 + w12)*(w03 + w13 + w23) + rt4 w01 w02 w03 w12 w13 w23
theorem tree4 {M : Int → Int → Int} {w01 w02 w03 w12 w13 w23 : Int} (h : Lap4 M w01 w02 w03 w12 w13 w23) : detF M [1, 2, 3] [1, 2, 3] = tp4 w01 w02 w03 w12 w13 w23 := by
  obtain ⟨m00, m01, m02, m03, m10, m11, m12, m13, m20, m21, m22, m23, m30, m31, m32, m33⟩ := h
  simp only [detF, sumTo, sgn, nth, List.length, List.getD_cons_zero, List.getD_cons_succ, List.eraseIdx, m11, m12, m13, m21, m22, m23, m31, m32, m33]
  unfold tp4 rt4
  grind

theorem tp4_pos {w01 w02 w03 w12 w13 w23 : Int} (_n01 : 0 ≤ w01) (_n02 : 0 ≤ w02) (_n03 : 0 ≤ w03) (_n12 : 0 ≤ w12) (_n13 : 0 ≤ w13) (_n23 : 0 ≤ w23) (_t1 : 1 ≤ w01) (_t2 : 1 ≤ w02 + w12) (_t3 : 1 ≤ w03 + w13 + w23) : 1 ≤ tp4 w01 w02 w03 w12 w13 w23 := by
  have h1 := rt4_nn _n01 _n02 _n03 _n12 _n13 _n23
  have h2 := mulP (mulP (_t1) _t2) _t3
  unfold tp4
  omega
def rf4_01 (_w01 _w02 w03 _w12 w13 w23 : Int) : Int := w03*w23 + w13*w23
theorem rf4_01_nn {w01 w02 w03 w12 w13 w23 : Int} (_n01 : 0 ≤ w01) (_n02 : 0 ≤ w02) (_n03 : 0 ≤ w03) (_n12 : 0 ≤ w12) (_n13 : 0 ≤ w13) (_n23 : 0 ≤ w23) : 0 ≤ rf4_01 w01 w02 w03 w12 w13 w23 := by
  unfold rf4_01
  repeat (first | assumption | apply addN | apply mulN)
def fp4_01 (w01 w02 w03 w12 w13 w23 : Int) : Int := (w02 + w12)*(w03 + w13 + w23) + rf4_01 w01 w02 w03 w12 w13 w23
theorem for4_01 {M : Int → Int → Int} {w01 w02 w03 w12 w13 w23 : Int} (h : Lap4 M w01 w02 w03 w12 w13 w23) : detF M [2, 3] [2, 3] = fp4_01 w01 w02 w03 w12 w13 w23 := by
  obtain ⟨m00, m01, m02, m03, m10, m11, m12, m13, m20, m21, m22, m23, m30, m31, m32, m33⟩ := h
  simp only [detF, sumTo, sgn, nth, List.length, List.getD_cons_zero, List.getD_cons_succ, List.eraseIdx, m22, m23, m32, m33]
  unfold fp4_01 rf4_01
  grind

theorem fp4_01_pos {w01 w02 w03 w12 w13 w23 : Int} (_n01 : 0 ≤ w01) (_n02 : 0 ≤ w02) (_n03 : 0 ≤ w03) (_n12 : 0 ≤ w12) (_n13 : 0 ≤ w13) (_n23 : 0 ≤ w23) (_t1 : 1 ≤ w01) (_t2 : 1 ≤ w02 + w12) (_t3 : 1 ≤ w03 + w13 + w23) : 1 ≤ fp4_01 w01 w02 w03 w12 w13 w23 := by
  have h1 := rf4_01_nn _n01 _n02 _n03 _n12 _n13 _n23
  have h2 := mulP (_t2) _t3
  unfold fp4_01
  omega
def rf4_02 (_w01 _w02 w03 w12 w13 w23 : Int) : Int := w03*w12 + w03*w13 + w12*w13 + w12*w23 + w13*w23
theorem rf4_02_nn {w01 w02 w03 w12 w13 w23 : Int} (_n01 : 0 ≤ w01) (_n02 : 0 ≤ w02) (_n03 : 0 ≤ w03) (_n12 : 0 ≤ w12) (_n13 : 0 ≤ w13) (_n23 : 0 ≤ w23) : 0 ≤ rf4_02 w01 w02 w03 w12 w13 w23 := by
  unfold rf4_02
  repeat (first | assumption | apply addN | apply mulN)
def fp4_02 (w01 w02 w03 w12 w13 w23 : Int) : Int := (w01)*(w03 + w13 + w23) + rf4_02 w01 w02 w03 w12 w13 w23
theorem for4_02 {M : Int → Int → Int} {w01 w02 w03 w12 w13 w23 : Int} (h : Lap4 M w01 w02 w03 w12 w13 w23) : detF M [1, 3] [1, 3] = fp4_02 w01 w02 w03 w12 w13 w23 := by
  obtain ⟨m00, m01, m02, m03, m10, m11, m12, m13, m20, m21, m22, m23, m30, m31, m32, m33⟩ := h
  simp only [detF, sumTo, sgn, nth, List.length, List.getD_cons_zero, List.getD_cons_succ, List.eraseIdx, m11, m13, m31, m33]
  unfold fp4_02 rf4_02
  grind

theorem fp4_02_pos {w01 w02 w03 w12 w13 w23 : Int} (_n01 : 0 ≤ w01) (_n02 : 0 ≤ w02) (_n03 : 0 ≤ w03) (_n12 : 0 ≤ w12) (_n13 : 0 ≤ w13) (_n23 : 0 ≤ w23) (_t1 : 1 ≤ w01) (_t2 : 1 ≤ w02 + w12) (_t3 : 1 ≤ w03 + w13 + w23) : 1 ≤ fp4_02 w01 w02 w03 w12 w13 w23 := by
  have h1 := rf4_02_nn _n01 _n02 _n03 _n12 _n13 _n23
  have h2 := mulP (_t1) _t3
  unfold fp4_02
  omega
def rf4_03 (w01 w02 _w03 w12 w13 w23 : Int) : Int := w01*w23 + w02*w12 + w02*w13 + w12*w13 + w12*w23 + w13*w23
theorem rf4_03_nn {w01 w02 w03 w12 w13 w23 : Int} (_n01 : 0 ≤ w01) (_n02 : 0 ≤ w02) (_n03 : 0 ≤ w03) (_n12 : 0 ≤ w12) (_n13 : 0 ≤ w13) (_n23 : 0 ≤ w23) : 0 ≤ rf4_03 w01 w02 w03 w12 w13 w23 := by
  unfold rf4_03
  repeat (first | assumption | apply addN | apply mulN)
def fp4_03 (w01 w02 w03 w12 w13 w23 : Int) : Int := (w01)*(w02 + w12) + rf4_03 w01 w02 w03 w12 w13 w23
theorem for4_03 {M : Int → Int → Int} {w01 w02 w03 w12 w13 w23 : Int} (h : Lap4 M w01 w02 w03 w12 w13 w23) : detF M [1, 2] [1, 2] = fp4_03 w01 w02 w03 w12 w13 w23 := by
  obtain ⟨m00, m01, m02, m03, m10, m11, m12, m13, m20, m21, m22, m23, m30, m31, m32, m33⟩ := h
  simp only [detF, sumTo, sgn, nth, List.length, List.getD_cons_zero, List.getD_cons_succ, List.eraseIdx, m11, m12, m21, m22]
  unfold fp4_03 rf4_03
  grind

theorem fp4_03_pos {w01 w02 w03 w12 w13 w23 : Int} (_n01 : 0 ≤ w01) (_n02 : 0 ≤ w02) (_n03 : 0 ≤ w03) (_n12 : 0 ≤ w12) (_n13 : 0 ≤ w13) (_n23 : 0 ≤ w23) (_t1 : 1 ≤ w01) (_t2 : 1 ≤ w02 + w12) (_t3 : 1 ≤ w03 + w13 + w23) : 1 ≤ fp4_03 w01 w02 w03 w12 w13 w23 := by
  have h1 := rf4_03_nn _n01 _n02 _n03 _n12 _n13 _n23
  have h2 := mulP (_t1) _t2
  unfold fp4_03
  omega
def rf4_12 (_w01 w02 w03 _w12 w13 w23 : Int) : Int := w02*w03 + w02*w13 + w02*w23 + w03*w13 + w03*w23
theorem rf4_12_nn {w01 w02 w03 w12 w13 w23 : Int} (_n01 : 0 ≤ w01) (_n02 : 0 ≤ w02) (_n03 : 0 ≤ w03) (_n12 : 0 ≤ w12) (_n13 : 0 ≤ w13) (_n23 : 0 ≤ w23) : 0 ≤ rf4_12 w01 w02 w03 w12 w13 w23 := by
  unfold rf4_12
  repeat (first | assumption | apply addN | apply mulN)
def fp4_12 (w01 w02 w03 w12 w13 w23 : Int) : Int := (w01)*(w03 + w13 + w23) + rf4_12 w01 w02 w03 w12 w13 w23
theorem for4_12 {M : Int → Int → Int} {w01 w02 w03 w12 w13 w23 : Int} (h : Lap4 M w01 w02 w03 w12 w13 w23) : detF M [0, 3] [0, 3] = fp4_12 w01 w02 w03 w12 w13 w23 := by
  obtain ⟨m00, m01, m02, m03, m10, m11, m12, m13, m20, m21, m22, m23, m30, m31, m32, m33⟩ := h
  simp only [detF, sumTo, sgn, nth, List.length, List.getD_cons_zero, List.getD_cons_succ, List.eraseIdx, m00, m03, m30, m33]
  unfold fp4_12 rf4_12
  grind

theorem fp4_12_pos {w01 w02 w03 w12 w13 w23 : Int} (_n01 : 0 ≤ w01) (_n02 : 0 ≤ w02) (_n03 : 0 ≤ w03) (_n12 : 0 ≤ w12) (_n13 : 0 ≤ w13) (_n23 : 0 ≤ w23) (_t1 : 1 ≤ w01) (_t2 : 1 ≤ w02 + w12) (_t3 : 1 ≤ w03 + w13 + w23) : 1 ≤ fp4_12 w01 w02 w03 w12 w13 w23 := by
  have h1 := rf4_12_nn _n01 _n02 _n03 _n12 _n13 _n23
  have h2 := mulP (_t1) _t3
  unfold fp4_12
  omega
def rf4_13 (w01 w02 w03 w12 _w13 w23 : Int) : Int := w01*w23 + w02*w03 + w02*w12 + w02*w23 + w03*w12 + w03*w23
theorem rf4_13_nn {w01 w02 w03 w12 w13 w23 : Int} (_n01 : 0 ≤ w01) (_n02 : 0 ≤ w02) (_n03 : 0 ≤ w03) (_n12 : 0 ≤ w12) (_n13 : 0 ≤ w13) (_n23 : 0 ≤ w23) : 0 ≤ rf4_13 w01 w02 w03 w12 w13 w23 := by
  unfold rf4_13
  repeat (first | assumption | apply addN | apply mulN)
def fp4_13 (w01 w02 w03 w12 w13 w23 : Int) : Int := (w01)*(w02 + w12) + rf4_13 w01 w02 w03 w12 w13 w23
theorem for4_13 {M : Int → Int → Int} {w01 w02 w03 w12 w13 w23 : Int} (h : Lap4 M w01 w02 w03 w12 w13 w23) : detF M [0, 2] [0, 2] = fp4_13 w01 w02 w03 w12 w13 w23 := by
  obtain ⟨m00, m01, m02, m03, m10, m11, m12, m13, m20, m21, m22, m23, m30, m31, m32, m33⟩ := h
  simp only [detF, sumTo, sgn, nth, List.length, List.getD_cons_zero, List.getD_cons_succ, List.eraseIdx, m00, m02, m20, m22]
  unfold fp4_13 rf4_13
  grind

theorem fp4_13_pos {w01 w02 w03 w12 w13 w23 : Int} (_n01 : 0 ≤ w01) (_n02 : 0 ≤ w02) (_n03 : 0 ≤ w03) (_n12 : 0 ≤ w12) (_n13 : 0 ≤ w13) (_n23 : 0 ≤ w23) (_t1 : 1 ≤ w01) (_t2 : 1 ≤ w02 + w12) (_t3 : 1 ≤ w03 + w13 + w23) : 1 ≤ fp4_13 w01 w02 w03 w12 w13 w23 := by
  have h1 := rf4_13_nn _n01 _n02 _n03 _n12 _n13 _n23
  have h2 := mulP (_t1) _t2
  unfold fp4_13
  omega
def rf4_23 (w01 w02 w03 w12 w13 _w23 : Int) : Int := w01*w03 + w01*w13 + w02*w12 + w02*w13 + w03*w12 + w03*w13
theorem rf4_23_nn {w01 w02 w03 w12 w13 w23 : Int} (_n01 : 0 ≤ w01) (_n02 : 0 ≤ w02) (_n03 : 0 ≤ w03) (_n12 : 0 ≤ w12) (_n13 : 0 ≤ w13) (_n23 : 0 ≤ w23) : 0 ≤ rf4_23 w01 w02 w03 w12 w13 w23 := by
  unfold rf4_23
  repeat (first | assumption | apply addN | apply mulN)
def fp4_23 (w01 w02 w03 w12 w13 w23 : Int) : Int := (w01)*(w02 + w12) + rf4_23 w01 w02 w03 w12 w13 w23
theorem for4_23 {M : Int → Int → Int} {w01 w02 w03 w12 w13 w23 : Int} (h : Lap4 M w01 w02 w03 w12 w13 w23) : detF M [0, 1] [0, 1] = fp4_23 w01 w02 w03 w12 w13 w23 := by
  obtain ⟨m00, m01, m02, m03, m10, m11, m12, m13, m20, m21, m22, m23, m30, m31, m32, m33⟩ := h
  simp only [detF, sumTo, sgn, nth, List.length, List.getD_cons_zero, List.getD_cons_succ, List.eraseIdx, m00, m01, m10, m11]
  unfold fp4_23 rf4_23
  grind

theorem fp4_23_pos {w01 w02 w03 w12 w13 w23 : Int} (_n01 : 0 ≤ w01) (_n02 : 0 ≤ w02) (_n03 : 0 ≤ w03) (_n12 : 0 ≤ w12) (_n13 : 0 ≤ w13) (_n23 : 0 ≤ w23) (_t1 : 1 ≤ w01) (_t2 : 1 ≤ w02 + w12) (_t3 : 1 ≤ w03 + w13 + w23) : 1 ≤ fp4_23 w01 w02 w03 w12 w13 w23 := by
  have h1 := rf4_23_nn _n01 _n02 _n03 _n12 _n13 _n23
  have h2 := mulP (_t1) _t2
  unfold fp4_23
  omega
def pp4_012 (w01 _w02 w03 _w12 w13 w23 : Int) : Int := w01*w03 + w01*w13 + w01*w23 + w03*w13
theorem pp4_012_nn {w01 w02 w03 w12 w13 w23 : Int} (_n01 : 0 ≤ w01) (_n02 : 0 ≤ w02) (_n03 : 0 ≤ w03) (_n12 : 0 ≤ w12) (_n13 : 0 ≤ w13) (_n23 : 0 ≤ w23) : 0 ≤ pp4_012 w01 w02 w03 w12 w13 w23 := by
  unfold pp4_012
  repeat (first | assumption | apply addN | apply mulN)
theorem pp4_012_id (w01 w02 w03 w12 w13 w23 : Int) : fp4_02 w01 w02 w03 w12 w13 w23 + fp4_12 w01 w02 w03 w12 w13 w23 - fp4_01 w01 w02 w03 w12 w13 w23 = 2 * pp4_012 w01 w02 w03 w12 w13 w23 := by
  unfold pp4_012 fp4_01 fp4_02 fp4_12 rf4_01 rf4_02 rf4_12
  grind

def pp4_013 (w01 w02 _w03 w12 _w13 w23 : Int) : Int := w01*w02 + w01*w12 + w01*w23 + w02*w12
theorem pp4_013_nn {w01 w02 w03 w12 w13 w23 : Int} (_n01 : 0 ≤ w01) (_n02 : 0 ≤ w02) (_n03 : 0 ≤ w03) (_n12 : 0 ≤ w12) (_n13 : 0 ≤ w13) (_n23 : 0 ≤ w23) : 0 ≤ pp4_013 w01 w02 w03 w12 w13 w23 := by
  unfold pp4_013
  repeat (first | assumption | apply addN | apply mulN)
theorem pp4_013_id (w01 w02 w03 w12 w13 w23 : Int) : fp4_03 w01 w02 w03 w12 w13 w23 + fp4_13 w01 w02 w03 w12 w13 w23 - fp4_01 w01 w02 w03 w12 w13 w23 = 2 * pp4_013 w01 w02 w03 w12 w13 w23 := by
  unfold pp4_013 fp4_01 fp4_03 fp4_13 rf4_01 rf4_03 rf4_13
  grind

def pp4_021 (_w01 w02 w03 _w12 w13 w23 : Int) : Int := w02*w03 + w02*w13 + w02*w23 + w03*w23
theorem pp4_021_nn {w01 w02 w03 w12 w13 w23 : Int} (_n01 : 0 ≤ w01) (_n02 : 0 ≤ w02) (_n03 : 0 ≤ w03) (_n12 : 0 ≤ w12) (_n13 : 0 ≤ w13) (_n23 : 0 ≤ w23) : 0 ≤ pp4_021 w01 w02 w03 w12 w13 w23 := by
  unfold pp4_021
  repeat (first | assumption | apply addN | apply mulN)
theorem pp4_021_id (w01 w02 w03 w12 w13 w23 : Int) : fp4_01 w01 w02 w03 w12 w13 w23 + fp4_12 w01 w02 w03 w12 w13 w23 - fp4_02 w01 w02 w03 w12 w13 w23 = 2 * pp4_021 w01 w02 w03 w12 w13 w23 := by
  unfold pp4_021 fp4_01 fp4_02 fp4_12 rf4_01 rf4_02 rf4_12
  grind

def pp4_023 (w01 w02 _w03 w12 w13 _w23 : Int) : Int := w01*w02 + w01*w12 + w02*w12 + w02*w13
theorem pp4_023_nn {w01 w02 w03 w12 w13 w23 : Int} (_n01 : 0 ≤ w01) (_n02 : 0 ≤ w02) (_n03 : 0 ≤ w03) (_n12 : 0 ≤ w12) (_n13 : 0 ≤ w13) (_n23 : 0 ≤ w23) : 0 ≤ pp4_023 w01 w02 w03 w12 w13 w23 := by
  unfold pp4_023
  repeat (first | assumption | apply addN | apply mulN)
theorem pp4_023_id (w01 w02 w03 w12 w13 w23 : Int) : fp4_03 w01 w02 w03 w12 w13 w23 + fp4_23 w01 w02 w03 w12 w13 w23 - fp4_02 w01 w02 w03 w12 w13 w23 = 2 * pp4_023 w01 w02 w03 w12 w13 w23 := by
  unfold pp4_023 fp4_02 fp4_03 fp4_23 rf4_02 rf4_03 rf4_23
  grind

def pp4_031 (_w01 w02 w03 w12 _w13 w23 : Int) : Int := w02*w03 + w02*w23 + w03*w12 + w03*w23
theorem pp4_031_nn {w01 w02 w03 w12 w13 w23 : Int} (_n01 : 0 ≤ w01) (_n02 : 0 ≤ w02) (_n03 : 0 ≤ w03) (_n12 : 0 ≤ w12) (_n13 : 0 ≤ w13) (_n23 : 0 ≤ w23) : 0 ≤ pp4_031 w01 w02 w03 w12 w13 w23 := by
  unfold pp4_031
  repeat (first | assumption | apply addN | apply mulN)
theorem pp4_031_id (w01 w02 w03 w12 w13 w23 : Int) : fp4_01 w01 w02 w03 w12 w13 w23 + fp4_13 w01 w02 w03 w12 w13 w23 - fp4_03 w01 w02 w03 w12 w13 w23 = 2 * pp4_031 w01 w02 w03 w12 w13 w23 := by
  unfold pp4_031 fp4_01 fp4_03 fp4_13 rf4_01 rf4_03 rf4_13
  grind

def pp4_032 (w01 _w02 w03 w12 w13 _w23 : Int) : Int := w01*w03 + w01*w13 + w03*w12 + w03*w13
theorem pp4_032_nn {w01 w02 w03 w12 w13 w23 : Int} (_n01 : 0 ≤ w01) (_n02 : 0 ≤ w02) (_n03 : 0 ≤ w03) (_n12 : 0 ≤ w12) (_n13 : 0 ≤ w13) (_n23 : 0 ≤ w23) : 0 ≤ pp4_032 w01 w02 w03 w12 w13 w23 := by
  unfold pp4_032
  repeat (first | assumption | apply addN | apply mulN)
theorem pp4_032_id (w01 w02 w03 w12 w13 w23 : Int) : fp4_02 w01 w02 w03 w12 w13 w23 + fp4_23 w01 w02 w03 w12 w13 w23 - fp4_03 w01 w02 w03 w12 w13 w23 = 2 * pp4_032 w01 w02 w03 w12 w13 w23 := by
  unfold pp4_032 fp4_02 fp4_03 fp4_23 rf4_02 rf4_03 rf4_23
  grind

def pp4_120 (_w01 _w02 w03 w12 w13 w23 : Int) : Int := w03*w12 + w12*w13 + w12*w23 + w13*w23
theorem pp4_120_nn {w01 w02 w03 w12 w13 w23 : Int} (_n01 : 0 ≤ w01) (_n02 : 0 ≤ w02) (_n03 : 0 ≤ w03) (_n12 : 0 ≤ w12) (_n13 : 0 ≤ w13) (_n23 : 0 ≤ w23) : 0 ≤ pp4_120 w01 w02 w03 w12 w13 w23 := by
  unfold pp4_120
  repeat (first | assumption | apply addN | apply mulN)
theorem pp4_120_id (w01 w02 w03 w12 w13 w23 : Int) : fp4_01 w01 w02 w03 w12 w13 w23 + fp4_02 w01 w02 w03 w12 w13 w23 - fp4_12 w01 w02 w03 w12 w13 w23 = 2 * pp4_120 w01 w02 w03 w12 w13 w23 := by
  unfold pp4_120 fp4_01 fp4_02 fp4_12 rf4_01 rf4_02 rf4_12
  grind

def pp4_123 (w01 w02 w03 w12 _w13 _w23 : Int) : Int := w01*w02 + w01*w12 + w02*w12 + w03*w12
theorem pp4_123_nn {w01 w02 w03 w12 w13 w23 : Int} (_n01 : 0 ≤ w01) (_n02 : 0 ≤ w02) (_n03 : 0 ≤ w03) (_n12 : 0 ≤ w12) (_n13 : 0 ≤ w13) (_n23 : 0 ≤ w23) : 0 ≤ pp4_123 w01 w02 w03 w12 w13 w23 := by
  unfold pp4_123
  repeat (first | assumption | apply addN | apply mulN)
theorem pp4_123_id (w01 w02 w03 w12 w13 w23 : Int) : fp4_13 w01 w02 w03 w12 w13 w23 + fp4_23 w01 w02 w03 w12 w13 w23 - fp4_12 w01 w02 w03 w12 w13 w23 = 2 * pp4_123 w01 w02 w03 w12 w13 w23 := by
  unfold pp4_123 fp4_12 fp4_13 fp4_23 rf4_12 rf4_13 rf4_23
  grind

def pp4_130 (_w01 w02 _w03 w12 w13 w23 : Int) : Int := w02*w13 + w12*w13 + w12*w23 + w13*w23
theorem pp4_130_nn {w01 w02 w03 w12 w13 w23 : Int} (_n01 : 0 ≤ w01) (_n02 : 0 ≤ w02) (_n03 : 0 ≤ w03) (_n12 : 0 ≤ w12) (_n13 : 0 ≤ w13) (_n23 : 0 ≤ w23) : 0 ≤ pp4_130 w01 w02 w03 w12 w13 w23 := by
  unfold pp4_130
  repeat (first | assumption | apply addN | apply mulN)
theorem pp4_130_id (w01 w02 w03 w12 w13 w23 : Int) : fp4_01 w01 w02 w03 w12 w13 w23 + fp4_03 w01 w02 w03 w12 w13 w23 - fp4_13 w01 w02 w03 w12 w13 w23 = 2 * pp4_130 w01 w02 w03 w12 w13 w23 := by
  unfold pp4_130 fp4_01 fp4_03 fp4_13 rf4_01 rf4_03 rf4_13
  grind

def pp4_132 (w01 w02 w03 _w12 w13 _w23 : Int) : Int := w01*w03 + w01*w13 + w02*w13 + w03*w13
theorem pp4_132_nn {w01 w02 w03 w12 w13 w23 : Int} (_n01 : 0 ≤ w01) (_n02 : 0 ≤ w02) (_n03 : 0 ≤ w03) (_n12 : 0 ≤ w12) (_n13 : 0 ≤ w13) (_n23 : 0 ≤ w23) : 0 ≤ pp4_132 w01 w02 w03 w12 w13 w23 := by
  unfold pp4_132
  repeat (first | assumption | apply addN | apply mulN)
theorem pp4_132_id (w01 w02 w03 w12 w13 w23 : Int) : fp4_12 w01 w02 w03 w12 w13 w23 + fp4_23 w01 w02 w03 w12 w13 w23 - fp4_13 w01 w02 w03 w12 w13 w23 = 2 * pp4_132 w01 w02 w03 w12 w13 w23 := by
  unfold pp4_132 fp4_12 fp4_13 fp4_23 rf4_12 rf4_13 rf4_23
  grind

def pp4_230 (w01 _w02 _w03 w12 w13 w23 : Int) : Int := w01*w23 + w12*w13 + w12*w23 + w13*w23
theorem pp4_230_nn {w01 w02 w03 w12 w13 w23 : Int} (_n01 : 0 ≤ w01) (_n02 : 0 ≤ w02) (_n03 : 0 ≤ w03) (_n12 : 0 ≤ w12) (_n13 : 0 ≤ w13) (_n23 : 0 ≤ w23) : 0 ≤ pp4_230 w01 w02 w03 w12 w13 w23 := by
  unfold pp4_230
  repeat (first | assumption | apply addN | apply mulN)
theorem pp4_230_id (w01 w02 w03 w12 w13 w23 : Int) : fp4_02 w01 w02 w03 w12 w13 w23 + fp4_03 w01 w02 w03 w12 w13 w23 - fp4_23 w01 w02 w03 w12 w13 w23 = 2 * pp4_230 w01 w02 w03 w12 w13 w23 := by
  unfold pp4_230 fp4_02 fp4_03 fp4_23 rf4_02 rf4_03 rf4_23
  grind

def pp4_231 (w01 w02 w03 _w12 _w13 w23 : Int) : Int := w01*w23 + w02*w03 + w02*w23 + w03*w23
theorem pp4_231_nn {w01 w02 w03 w12 w13 w23 : Int} (_n01 : 0 ≤ w01) (_n02 : 0 ≤ w02) (_n03 : 0 ≤ w03) (_n12 : 0 ≤ w12) (_n13 : 0 ≤ w13) (_n23 : 0 ≤ w23) : 0 ≤ pp4_231 w01 w02 w03 w12 w13 w23 := by
  unfold pp4_231
  repeat (first | assumption | apply addN | apply mulN)
theorem pp4_231_id (w01 w02 w03 w12 w13 w23 : Int) : fp4_12 w01 w02 w03 w12 w13 w23 + fp4_13 w01 w02 w03 w12 w13 w23 - fp4_23 w01 w02 w03 w12 w13 w23 = 2 * pp4_231 w01 w02 w03 w12 w13 w23 := by
  unfold pp4_231 fp4_12 fp4_13 fp4_23 rf4_12 rf4_13 rf4_23
  grind

theorem kir4_01 (w01 w02 w03 w12 w13 w23 : Int) : w01*(fp4_01 w01 w02 w03 w12 w13 w23 + fp4_01 w01 w02 w03 w12 w13 w23) + w02*(fp4_01 w01 w02 w03 w12 w13 w23 - fp4_12 w01 w02 w03 w12 w13 w23 + fp4_02 w01 w02 w03 w12 w13 w23) + w03*(fp4_01 w01 w02 w03 w12 w13 w23 - fp4_13 w01 w02 w03 w12 w13 w23 + fp4_03 w01 w02 w03 w12 w13 w23) = 2 * tp4 w01 w02 w03 w12 w13 w23 := by
  unfold tp4 rt4 fp4_01 fp4_02 fp4_03 fp4_12 fp4_13 rf4_01 rf4_02 rf4_03 rf4_12 rf4_13
  grind

theorem kir4_02 (w01 w02 w03 w12 w13 w23 : Int) : w01*(fp4_02 w01 w02 w03 w12 w13 w23 - fp4_12 w01 w02 w03 w12 w13 w23 + fp4_01 w01 w02 w03 w12 w13 w23) + w02*(fp4_02 w01 w02 w03 w12 w13 w23 + fp4_02 w01 w02 w03 w12 w13 w23) + w03*(fp4_02 w01 w02 w03 w12 w13 w23 - fp4_23 w01 w02 w03 w12 w13 w23 + fp4_03 w01 w02 w03 w12 w13 w23) = 2 * tp4 w01 w02 w03 w12 w13 w23 := by
  unfold tp4 rt4 fp4_01 fp4_02 fp4_03 fp4_12 fp4_23 rf4_01 rf4_02 rf4_03 rf4_12 rf4_23
  grind

theorem kir4_03 (w01 w02 w03 w12 w13 w23 : Int) : w01*(fp4_03 w01 w02 w03 w12 w13 w23 - fp4_13 w01 w02 w03 w12 w13 w23 + fp4_01 w01 w02 w03 w12 w13 w23) + w02*(fp4_03 w01 w02 w03 w12 w13 w23 - fp4_23 w01 w02 w03 w12 w13 w23 + fp4_02 w01 w02 w03 w12 w13 w23) + w03*(fp4_03 w01 w02 w03 w12 w13 w23 + fp4_03 w01 w02 w03 w12 w13 w23) = 2 * tp4 w01 w02 w03 w12 w13 w23 := by
  unfold tp4 rt4 fp4_01 fp4_02 fp4_03 fp4_13 fp4_23 rf4_01 rf4_02 rf4_03 rf4_13 rf4_23
  grind

theorem kir4_10 (w01 w02 w03 w12 w13 w23 : Int) : w01*(fp4_01 w01 w02 w03 w12 w13 w23 + fp4_01 w01 w02 w03 w12 w13 w23) + w12*(fp4_01 w01 w02 w03 w12 w13 w23 - fp4_02 w01 w02 w03 w12 w13 w23 + fp4_12 w01 w02 w03 w12 w13 w23) + w13*(fp4_01 w01 w02 w03 w12 w13 w23 - fp4_03 w01 w02 w03 w12 w13 w23 + fp4_13 w01 w02 w03 w12 w13 w23) = 2 * tp4 w01 w02 w03 w12 w13 w23 := by
  unfold tp4 rt4 fp4_01 fp4_02 fp4_03 fp4_12 fp4_13 rf4_01 rf4_02 rf4_03 rf4_12 rf4_13
  grind

theorem kir4_12 (w01 w02 w03 w12 w13 w23 : Int) : w01*(fp4_12 w01 w02 w03 w12 w13 w23 - fp4_02 w01 w02 w03 w12 w13 w23 + fp4_01 w01 w02 w03 w12 w13 w23) + w12*(fp4_12 w01 w02 w03 w12 w13 w23 + fp4_12 w01 w02 w03 w12 w13 w23) + w13*(fp4_12 w01 w02 w03 w12 w13 w23 - fp4_23 w01 w02 w03 w12 w13 w23 + fp4_13 w01 w02 w03 w12 w13 w23) = 2 * tp4 w01 w02 w03 w12 w13 w23 := by
  unfold tp4 rt4 fp4_01 fp4_02 fp4_12 fp4_13 fp4_23 rf4_01 rf4_02 rf4_12 rf4_13 rf4_23
  grind

theorem kir4_13 (w01 w02 w03 w12 w13 w23 : Int) : w01*(fp4_13 w01 w02 w03 w12 w13 w23 - fp4_03 w01 w02 w03 w12 w13 w23 + fp4_01 w01 w02 w03 w12 w13 w23) + w12*(fp4_13 w01 w02 w03 w12 w13 w23 - fp4_23 w01 w02 w03 w12 w13 w23 + fp4_12 w01 w02 w03 w12 w13 w23) + w13*(fp4_13 w01 w02 w03 w12 w13 w23 + fp4_13 w01 w02 w03 w12 w13 w23) = 2 * tp4 w01 w02 w03 w12 w13 w23 := by
  unfold tp4 rt4 fp4_01 fp4_03 fp4_12 fp4_13 fp4_23 rf4_01 rf4_03 rf4_12 rf4_13 rf4_23
  grind

theorem kir4_20 (w01 w02 w03 w12 w13 w23 : Int) : w02*(fp4_02 w01 w02 w03 w12 w13 w23 + fp4_02 w01 w02 w03 w12 w13 w23) + w12*(fp4_02 w01 w02 w03 w12 w13 w23 - fp4_01 w01 w02 w03 w12 w13 w23 + fp4_12 w01 w02 w03 w12 w13 w23) + w23*(fp4_02 w01 w02 w03 w12 w13 w23 - fp4_03 w01 w02 w03 w12 w13 w23 + fp4_23 w01 w02 w03 w12 w13 w23) = 2 * tp4 w01 w02 w03 w12 w13 w23 := by
  unfold tp4 rt4 fp4_01 fp4_02 fp4_03 fp4_12 fp4_23 rf4_01 rf4_02 rf4_03 rf4_12 rf4_23
  grind

theorem kir4_21 (w01 w02 w03 w12 w13 w23 : Int) : w02*(fp4_12 w01 w02 w03 w12 w13 w23 - fp4_01 w01 w02 w03 w12 w13 w23 + fp4_02 w01 w02 w03 w12 w13 w23) + w12*(fp4_12 w01 w02 w03 w12 w13 w23 + fp4_12 w01 w02 w03 w12 w13 w23) + w23*(fp4_12 w01 w02 w03 w12 w13 w23 - fp4_13 w01 w02 w03 w12 w13 w23 + fp4_23 w01 w02 w03 w12 w13 w23) = 2 * tp4 w01 w02 w03 w12 w13 w23 := by
  unfold tp4 rt4 fp4_01 fp4_02 fp4_12 fp4_13 fp4_23 rf4_01 rf4_02 rf4_12 rf4_13 rf4_23
  grind

theorem kir4_23 (w01 w02 w03 w12 w13 w23 : Int) : w02*(fp4_23 w01 w02 w03 w12 w13 w23 - fp4_03 w01 w02 w03 w12 w13 w23 + fp4_02 w01 w02 w03 w12 w13 w23) + w12*(fp4_23 w01 w02 w03 w12 w13 w23 - fp4_13 w01 w02 w03 w12 w13 w23 + fp4_12 w01 w02 w03 w12 w13 w23) + w23*(fp4_23 w01 w02 w03 w12 w13 w23 + fp4_23 w01 w02 w03 w12 w13 w23) = 2 * tp4 w01 w02 w03 w12 w13 w23 := by
  unfold tp4 rt4 fp4_02 fp4_03 fp4_12 fp4_13 fp4_23 rf4_02 rf4_03 rf4_12 rf4_13 rf4_23
  grind

theorem kir4_30 (w01 w02 w03 w12 w13 w23 : Int) : w03*(fp4_03 w01 w02 w03 w12 w13 w23 + fp4_03 w01 w02 w03 w12 w13 w23) + w13*(fp4_03 w01 w02 w03 w12 w13 w23 - fp4_01 w01 w02 w03 w12 w13 w23 + fp4_13 w01 w02 w03 w12 w13 w23) + w23*(fp4_03 w01 w02 w03 w12 w13 w23 - fp4_02 w01 w02 w03 w12 w13 w23 + fp4_23 w01 w02 w03 w12 w13 w23) = 2 * tp4 w01 w02 w03 w12 w13 w23 := by
  unfold tp4 rt4 fp4_01 fp4_02 fp4_03 fp4_13 fp4_23 rf4_01 rf4_02 rf4_03 rf4_13 rf4_23
  grind

theorem kir4_31 (w01 w02 w03 w12 w13 w23 : Int) : w03*(fp4_13 w01 w02 w03 w12 w13 w23 - fp4_01 w01 w02 w03 w12 w13 w23 + fp4_03 w01 w02 w03 w12 w13 w23) + w13*(fp4_13 w01 w02 w03 w12 w13 w23 + fp4_13 w01 w02 w03 w12 w13 w23) + w23*(fp4_13 w01 w02 w03 w12 w13 w23 - fp4_12 w01 w02 w03 w12 w13 w23 + fp4_23 w01 w02 w03 w12 w13 w23) = 2 * tp4 w01 w02 w03 w12 w13 w23 := by
  unfold tp4 rt4 fp4_01 fp4_03 fp4_12 fp4_13 fp4_23 rf4_01 rf4_03 rf4_12 rf4_13 rf4_23
  grind

theorem kir4_32 (w01 w02 w03 w12 w13 w23 : Int) : w03*(fp4_23 w01 w02 w03 w12 w13 w23 - fp4_02 w01 w02 w03 w12 w13 w23 + fp4_03 w01 w02 w03 w12 w13 w23) + w13*(fp4_23 w01 w02 w03 w12 w13 w23 - fp4_12 w01 w02 w03 w12 w13 w23 + fp4_13 w01 w02 w03 w12 w13 w23) + w23*(fp4_23 w01 w02 w03 w12 w13 w23 + fp4_23 w01 w02 w03 w12 w13 w23) = 2 * tp4 w01 w02 w03 w12 w13 w23 := by
  unfold tp4 rt4 fp4_02 fp4_03 fp4_12 fp4_13 fp4_23 rf4_02 rf4_03 rf4_12 rf4_13 rf4_23
  grind

theorem fos4 (w01 w02 w03 w12 w13 w23 : Int) : w01*(fp4_01 w01 w02 w03 w12 w13 w23) + w02*(fp4_02 w01 w02 w03 w12 w13 w23) + w03*(fp4_03 w01 w02 w03 w12 w13 w23) + w12*(fp4_12 w01 w02 w03 w12 w13 w23) + w13*(fp4_13 w01 w02 w03 w12 w13 w23) + w23*(fp4_23 w01 w02 w03 w12 w13 w23) = 3 * tp4 w01 w02 w03 w12 w13 w23 := by
  unfold tp4 rt4 fp4_01 fp4_02 fp4_03 fp4_12 fp4_13 fp4_23 rf4_01 rf4_02 rf4_03 rf4_12 rf4_13 rf4_23
  grind

end Go.Proofs.Ytipiiimemmkdgaa
