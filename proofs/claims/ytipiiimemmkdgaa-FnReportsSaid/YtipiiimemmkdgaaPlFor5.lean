/- Plain law: tree and forest sums of 5 nodes as polynomials with positive terms; their identities. No program in sight. -/
import Derived.Test.YtipiiimemmkdgaaPlFor4
namespace Go.Proofs.Ytipiiimemmkdgaa
set_option maxRecDepth 100000
open Go.RowKit

def Lap5 (M : Int → Int → Int) (w01 w02 w03 w04 w12 w13 w14 w23 w24 w34 : Int) : Prop := (M 0 0 = w01 + w02 + w03 + w04) ∧ (M 0 1 = -w01) ∧ (M 0 2 = -w02) ∧ (M 0 3 = -w03) ∧ (M 0 4 = -w04) ∧ (M 1 0 = -w01) ∧ (M 1 1 = w01 + w12 + w13 + w14) ∧ (M 1 2 = -w12) ∧ (M 1 3 = -w13) ∧ (M 1 4 = -w14) ∧ (M 2 0 = -w02) ∧ (M 2 1 = -w12) ∧ (M 2 2 = w02 + w12 + w23 + w24) ∧ (M 2 3 = -w23) ∧ (M 2 4 = -w24) ∧ (M 3 0 = -w03) ∧ (M 3 1 = -w13) ∧ (M 3 2 = -w23) ∧ (M 3 3 = w03 + w13 + w23 + w34) ∧ (M 3 4 = -w34) ∧ (M 4 0 = -w04) ∧ (M 4 1 = -w14) ∧ (M 4 2 = -w24) ∧ (M 4 3 = -w34) ∧ (M 4 4 = w04 + w14 + w24 + w34)
def rt5 (w01 w02 w03 w04 w12 w13 w14 w23 w24 w34 : Int) : Int := w01*w02*w04*w34 + w01*w02*w14*w34 + w01*w02*w24*w34 + w01*w03*w04*w23 + w01*w03*w04*w24 + w01*w03*w14*w23 + w01*w03*w14*w24 + w01*w03*w23*w24 + w01*w03*w23*w34 + w01*w03*w24*w34 + w01*w04*w12*w34 + w01*w04*w13*w23 + w01*w04*w13*w24 + w01*w04*w23*w24 + w01*w04*w23*w34 + w01*w04*w24*w34 + w01*w12*w14*w34 + w01*w12*w24*w34 + w01*w13*w14*w23 + w01*w13*w14*w24 + w01*w13*w23*w24 + w01*w13*w23*w34 + w01*w13*w24*w34 + w01*w14*w23*w24 + w01*w14*w23*w34 + w01*w14*w24*w34 + w02*w03*w04*w12 + w02*w03*w04*w13 + w02*w03*w04*w14 + w02*w03*w12*w14 + w02*w03*w12*w24 + w02*w03*w12*w34 + w02*w03*w13*w14 + w02*w03*w13*w24 + w02*w03*w13*w34 + w02*w03*w14*w24 + w02*w03*w14*w34 + w02*w04*w12*w13 + w02*w04*w12*w23 + w02*w04*w12*w34 + w02*w04*w13*w14 + w02*w04*w13*w23 + w02*w04*w13*w34 + w02*w04*w14*w23 + w02*w04*w14*w34 + w02*w12*w13*w14 + w02*w12*w13*w24 + w02*w12*w13*w34 + w02*w12*w14*w23 + w02*w12*w14*w34 + w02*w12*w23*w24 + w02*w12*w23*w34 + w02*w12*w24*w34 + w02*w13*w14*w23 + w02*w13*w14*w24 + w02*w13*w23*w24 + w02*w13*w23*w34 + w02*w13*w24*w34 + w02*w14*w23*w24 + w02*w14*w23*w34 + w02*w14*w24*w34 + w03*w04*w12*w13 + w03*w04*w12*w14 + w03*w04*w12*w23 + w03*w04*w12*w24 + w03*w04*w13*w23 + w03*w04*w13*w24 + w03*w04*w14*w23 + w03*w04*w14*w24 + w03*w12*w13*w14 + w03*w12*w13*w24 + w03*w12*w13*w34 + w03*w12*w14*w23 + w03*w12*w14*w34 + w03*w12*w23*w24 + w03*w12*w23*w34 + w03*w12*w24*w34 + w03*w13*w14*w23 + w03*w13*w14*w24 + w03*w13*w23*w24 + w03*w13*w23*w34 + w03*w13*w24*w34 + w03*w14*w23*w24 + w03*w14*w23*w34 + w03*w14*w24*w34 + w04*w12*w13*w14 + w04*w12*w13*w24 + w04*w12*w13*w34 + w04*w12*w14*w23 + w04*w12*w14*w34 + w04*w12*w23*w24 + w04*w12*w23*w34 + w04*w12*w24*w34 + w04*w13*w14*w23 + w04*w13*w14*w24 + w04*w13*w23*w24 + w04*w13*w23*w34 + w04*w13*w24*w34 + w04*w14*w23*w24 + w04*w14*w23*w34 + w04*w14*w24*w34
theorem rt5_nn {w01 w02 w03 w04 w12 w13 w14 w23 w24 w34 : Int} (_n01 : 0 ≤ w01) (_n02 : 0 ≤ w02) (_n03 : 0 ≤ w03) (_n04 : 0 ≤ w04) (_n12 : 0 ≤ w12) (_n13 : 0 ≤ w13) (_n14 : 0 ≤ w14) (_n23 : 0 ≤ w23) (_n24 : 0 ≤ w24) (_n34 : 0 ≤ w34) : 0 ≤ rt5 w01 w02 w03 w04 w12 w13 w14 w23 w24 w34 := by
  unfold rt5
  repeat (first | assumption | apply addN | apply mulN)
def tp5 (w01 w02 w03 w04 w12 w13 w14 w23 w24 w34 : Int) : Int := (w01)*(w02 + w12)*(w03 + w13 + w23)*(w04 + w14 + w24 + w34) + rt5 w01 w02 w03 w04 w12 w13 w14 w23 w24 w34
theorem tree5 {M : Int → Int → Int} {w01 w02 w03 w04 w12 w13 w14 w23 w24 w34 : Int} (h : Lap5 M w01 w02 w03 w04 w12 w13 w14 w23 w24 w34) : detF M [1, 2, 3, 4] [1, 2, 3, 4] = tp5 w01 w02 w03 w04 w12 w13 w14 w23 w24 w34 := by
  obtain ⟨m00, m01, m02, m03, m04, m10, m11, m12, m13, m14, m20, m21, m22, m23, m24, m30, m31, m32, m33, m34, m40, m41, m42, m43, m44⟩ := h
  simp only [detF, sumTo, sgn, nth, List.length, List.getD_cons_zero, List.getD_cons_succ, List.eraseIdx, m11, m12, m13, m14, m21, m22, m23, m24, m31, m32, m33, m34, m41, m42, m43, m44]
  unfold tp5 rt5
  grind

theorem tp5_pos {w01 w02 w03 w04 w12 w13 w14 w23 w24 w34 : Int} (_n01 : 0 ≤ w01) (_n02 : 0 ≤ w02) (_n03 : 0 ≤ w03) (_n04 : 0 ≤ w04) (_n12 : 0 ≤ w12) (_n13 : 0 ≤ w13) (_n14 : 0 ≤ w14) (_n23 : 0 ≤ w23) (_n24 : 0 ≤ w24) (_n34 : 0 ≤ w34) (_t1 : 1 ≤ w01) (_t2 : 1 ≤ w02 + w12) (_t3 : 1 ≤ w03 + w13 + w23) (_t4 : 1 ≤ w04 + w14 + w24 + w34) : 1 ≤ tp5 w01 w02 w03 w04 w12 w13 w14 w23 w24 w34 := by
  have h1 := rt5_nn _n01 _n02 _n03 _n04 _n12 _n13 _n14 _n23 _n24 _n34
  have h2 := mulP (mulP (mulP (_t1) _t2) _t3) _t4
  unfold tp5
  omega
def rf5_01 (_w01 w02 w03 w04 w12 w13 w14 w23 w24 w34 : Int) : Int := w02*w04*w34 + w02*w14*w34 + w02*w24*w34 + w03*w04*w23 + w03*w04*w24 + w03*w14*w23 + w03*w14*w24 + w03*w23*w24 + w03*w23*w34 + w03*w24*w34 + w04*w12*w34 + w04*w13*w23 + w04*w13*w24 + w04*w23*w24 + w04*w23*w34 + w04*w24*w34 + w12*w14*w34 + w12*w24*w34 + w13*w14*w23 + w13*w14*w24 + w13*w23*w24 + w13*w23*w34 + w13*w24*w34 + w14*w23*w24 + w14*w23*w34 + w14*w24*w34
theorem rf5_01_nn {w01 w02 w03 w04 w12 w13 w14 w23 w24 w34 : Int} (_n01 : 0 ≤ w01) (_n02 : 0 ≤ w02) (_n03 : 0 ≤ w03) (_n04 : 0 ≤ w04) (_n12 : 0 ≤ w12) (_n13 : 0 ≤ w13) (_n14 : 0 ≤ w14) (_n23 : 0 ≤ w23) (_n24 : 0 ≤ w24) (_n34 : 0 ≤ w34) : 0 ≤ rf5_01 w01 w02 w03 w04 w12 w13 w14 w23 w24 w34 := by
  unfold rf5_01
  repeat (first | assumption | apply addN | apply mulN)
def fp5_01 (w01 w02 w03 w04 w12 w13 w14 w23 w24 w34 : Int) : Int := (w02 + w12)*(w03 + w13 + w23)*(w04 + w14 + w24 + w34) + rf5_01 w01 w02 w03 w04 w12 w13 w14 w23 w24 w34
theorem for5_01 {M : Int → Int → Int} {w01 w02 w03 w04 w12 w13 w14 w23 w24 w34 : Int} (h : Lap5 M w01 w02 w03 w04 w12 w13 w14 w23 w24 w34) : detF M [2, 3, 4] [2, 3, 4] = fp5_01 w01 w02 w03 w04 w12 w13 w14 w23 w24 w34 := by
  obtain ⟨m00, m01, m02, m03, m04, m10, m11, m12, m13, m14, m20, m21, m22, m23, m24, m30, m31, m32, m33, m34, m40, m41, m42, m43, m44⟩ := h
  simp only [detF, sumTo, sgn, nth, List.length, List.getD_cons_zero, List.getD_cons_succ, List.eraseIdx, m22, m23, m24, m32, m33, m34, m42, m43, m44]
  unfold fp5_01 rf5_01
  grind

theorem fp5_01_pos {w01 w02 w03 w04 w12 w13 w14 w23 w24 w34 : Int} (_n01 : 0 ≤ w01) (_n02 : 0 ≤ w02) (_n03 : 0 ≤ w03) (_n04 : 0 ≤ w04) (_n12 : 0 ≤ w12) (_n13 : 0 ≤ w13) (_n14 : 0 ≤ w14) (_n23 : 0 ≤ w23) (_n24 : 0 ≤ w24) (_n34 : 0 ≤ w34) (_t1 : 1 ≤ w01) (_t2 : 1 ≤ w02 + w12) (_t3 : 1 ≤ w03 + w13 + w23) (_t4 : 1 ≤ w04 + w14 + w24 + w34) : 1 ≤ fp5_01 w01 w02 w03 w04 w12 w13 w14 w23 w24 w34 := by
  have h1 := rf5_01_nn _n01 _n02 _n03 _n04 _n12 _n13 _n14 _n23 _n24 _n34
  have h2 := mulP (mulP (_t2) _t3) _t4
  unfold fp5_01
  omega
def rf5_02 (w01 _w02 w03 w04 w12 w13 w14 w23 w24 w34 : Int) : Int := w01*w04*w34 + w01*w14*w34 + w01*w24*w34 + w03*w04*w12 + w03*w04*w13 + w03*w04*w14 + w03*w12*w14 + w03*w12*w24 + w03*w12*w34 + w03*w13*w14 + w03*w13*w24 + w03*w13*w34 + w03*w14*w24 + w03*w14*w34 + w04*w12*w13 + w04*w12*w23 + w04*w12*w34 + w04*w13*w14 + w04*w13*w23 + w04*w13*w34 + w04*w14*w23 + w04*w14*w34 + w12*w13*w14 + w12*w13*w24 + w12*w13*w34 + w12*w14*w23 + w12*w14*w34 + w12*w23*w24 + w12*w23*w34 + w12*w24*w34 + w13*w14*w23 + w13*w14*w24 + w13*w23*w24 + w13*w23*w34 + w13*w24*w34 + w14*w23*w24 + w14*w23*w34 + w14*w24*w34
theorem rf5_02_nn {w01 w02 w03 w04 w12 w13 w14 w23 w24 w34 : Int} (_n01 : 0 ≤ w01) (_n02 : 0 ≤ w02) (_n03 : 0 ≤ w03) (_n04 : 0 ≤ w04) (_n12 : 0 ≤ w12) (_n13 : 0 ≤ w13) (_n14 : 0 ≤ w14) (_n23 : 0 ≤ w23) (_n24 : 0 ≤ w24) (_n34 : 0 ≤ w34) : 0 ≤ rf5_02 w01 w02 w03 w04 w12 w13 w14 w23 w24 w34 := by
  unfold rf5_02
  repeat (first | assumption | apply addN | apply mulN)
def fp5_02 (w01 w02 w03 w04 w12 w13 w14 w23 w24 w34 : Int) : Int := (w01)*(w03 + w13 + w23)*(w04 + w14 + w24 + w34) + rf5_02 w01 w02 w03 w04 w12 w13 w14 w23 w24 w34
theorem for5_02 {M : Int → Int → Int} {w01 w02 w03 w04 w12 w13 w14 w23 w24 w34 : Int} (h : Lap5 M w01 w02 w03 w04 w12 w13 w14 w23 w24 w34) : detF M [1, 3, 4] [1, 3, 4] = fp5_02 w01 w02 w03 w04 w12 w13 w14 w23 w24 w34 := by
  obtain ⟨m00, m01, m02, m03, m04, m10, m11, m12, m13, m14, m20, m21, m22, m23, m24, m30, m31, m32, m33, m34, m40, m41, m42, m43, m44⟩ := h
  simp only [detF, sumTo, sgn, nth, List.length, List.getD_cons_zero, List.getD_cons_succ, List.eraseIdx, m11, m13, m14, m31, m33, m34, m41, m43, m44]
  unfold fp5_02 rf5_02
  grind

theorem fp5_02_pos {w01 w02 w03 w04 w12 w13 w14 w23 w24 w34 : Int} (_n01 : 0 ≤ w01) (_n02 : 0 ≤ w02) (_n03 : 0 ≤ w03) (_n04 : 0 ≤ w04) (_n12 : 0 ≤ w12) (_n13 : 0 ≤ w13) (_n14 : 0 ≤ w14) (_n23 : 0 ≤ w23) (_n24 : 0 ≤ w24) (_n34 : 0 ≤ w34) (_t1 : 1 ≤ w01) (_t2 : 1 ≤ w02 + w12) (_t3 : 1 ≤ w03 + w13 + w23) (_t4 : 1 ≤ w04 + w14 + w24 + w34) : 1 ≤ fp5_02 w01 w02 w03 w04 w12 w13 w14 w23 w24 w34 := by
  have h1 := rf5_02_nn _n01 _n02 _n03 _n04 _n12 _n13 _n14 _n23 _n24 _n34
  have h2 := mulP (mulP (_t1) _t3) _t4
  unfold fp5_02
  omega
def rf5_03 (w01 w02 _w03 w04 w12 w13 w14 w23 w24 w34 : Int) : Int := w01*w04*w23 + w01*w04*w24 + w01*w14*w23 + w01*w14*w24 + w01*w23*w24 + w01*w23*w34 + w01*w24*w34 + w02*w04*w12 + w02*w04*w13 + w02*w04*w14 + w02*w12*w14 + w02*w12*w24 + w02*w12*w34 + w02*w13*w14 + w02*w13*w24 + w02*w13*w34 + w02*w14*w24 + w02*w14*w34 + w04*w12*w13 + w04*w12*w14 + w04*w12*w23 + w04*w12*w24 + w04*w13*w23 + w04*w13*w24 + w04*w14*w23 + w04*w14*w24 + w12*w13*w14 + w12*w13*w24 + w12*w13*w34 + w12*w14*w23 + w12*w14*w34 + w12*w23*w24 + w12*w23*w34 + w12*w24*w34 + w13*w14*w23 + w13*w14*w24 + w13*w23*w24 + w13*w23*w34 + w13*w24*w34 + w14*w23*w24 + w14*w23*w34 + w14*w24*w34
theorem rf5_03_nn {w01 w02 w03 w04 w12 w13 w14 w23 w24 w34 : Int} (_n01 : 0 ≤ w01) (_n02 : 0 ≤ w02) (_n03 : 0 ≤ w03) (_n04 : 0 ≤ w04) (_n12 : 0 ≤ w12) (_n13 : 0 ≤ w13) (_n14 : 0 ≤ w14) (_n23 : 0 ≤ w23) (_n24 : 0 ≤ w24) (_n34 : 0 ≤ w34) : 0 ≤ rf5_03 w01 w02 w03 w04 w12 w13 w14 w23 w24 w34 := by
  unfold rf5_03
  repeat (first | assumption | apply addN | apply mulN)
def fp5_03 (w01 w02 w03 w04 w12 w13 w14 w23 w24 w34 : Int) : Int := (w01)*(w02 + w12)*(w04 + w14 + w24 + w34) + rf5_03 w01 w02 w03 w04 w12 w13 w14 w23 w24 w34
theorem for5_03 {M : Int → Int → Int} {w01 w02 w03 w04 w12 w13 w14 w23 w24 w34 : Int} (h : Lap5 M w01 w02 w03 w04 w12 w13 w14 w23 w24 w34) : detF M [1, 2, 4] [1, 2, 4] = fp5_03 w01 w02 w03 w04 w12 w13 w14 w23 w24 w34 := by
  obtain ⟨m00, m01, m02, m03, m04, m10, m11, m12, m13, m14, m20, m21, m22, m23, m24, m30, m31, m32, m33, m34, m40, m41, m42, m43, m44⟩ := h
  simp only [detF, sumTo, sgn, nth, List.length, List.getD_cons_zero, List.getD_cons_succ, List.eraseIdx, m11, m12, m14, m21, m22, m24, m41, m42, m44]
  unfold fp5_03 rf5_03
  grind

theorem fp5_03_pos {w01 w02 w03 w04 w12 w13 w14 w23 w24 w34 : Int} (_n01 : 0 ≤ w01) (_n02 : 0 ≤ w02) (_n03 : 0 ≤ w03) (_n04 : 0 ≤ w04) (_n12 : 0 ≤ w12) (_n13 : 0 ≤ w13) (_n14 : 0 ≤ w14) (_n23 : 0 ≤ w23) (_n24 : 0 ≤ w24) (_n34 : 0 ≤ w34) (_t1 : 1 ≤ w01) (_t2 : 1 ≤ w02 + w12) (_t3 : 1 ≤ w03 + w13 + w23) (_t4 : 1 ≤ w04 + w14 + w24 + w34) : 1 ≤ fp5_03 w01 w02 w03 w04 w12 w13 w14 w23 w24 w34 := by
  have h1 := rf5_03_nn _n01 _n02 _n03 _n04 _n12 _n13 _n14 _n23 _n24 _n34
  have h2 := mulP (mulP (_t1) _t2) _t4
  unfold fp5_03
  omega
def rf5_04 (w01 w02 w03 _w04 w12 w13 w14 w23 w24 w34 : Int) : Int := w01*w02*w34 + w01*w03*w23 + w01*w03*w24 + w01*w12*w34 + w01*w13*w23 + w01*w13*w24 + w01*w23*w24 + w01*w23*w34 + w01*w24*w34 + w02*w03*w12 + w02*w03*w13 + w02*w03*w14 + w02*w12*w13 + w02*w12*w23 + w02*w12*w34 + w02*w13*w14 + w02*w13*w23 + w02*w13*w34 + w02*w14*w23 + w02*w14*w34 + w03*w12*w13 + w03*w12*w14 + w03*w12*w23 + w03*w12*w24 + w03*w13*w23 + w03*w13*w24 + w03*w14*w23 + w03*w14*w24 + w12*w13*w14 + w12*w13*w24 + w12*w13*w34 + w12*w14*w23 + w12*w14*w34 + w12*w23*w24 + w12*w23*w34 + w12*w24*w34 + w13*w14*w23 + w13*w14*w24 + w13*w23*w24 + w13*w23*w34 + w13*w24*w34 + w14*w23*w24 + w14*w23*w34 + w14*w24*w34
theorem rf5_04_nn {w01 w02 w03 w04 w12 w13 w14 w23 w24 w34 : Int} (_n01 : 0 ≤ w01) (_n02 : 0 ≤ w02) (_n03 : 0 ≤ w03) (_n04 : 0 ≤ w04) (_n12 : 0 ≤ w12) (_n13 : 0 ≤ w13) (_n14 : 0 ≤ w14) (_n23 : 0 ≤ w23) (_n24 : 0 ≤ w24) (_n34 : 0 ≤ w34) : 0 ≤ rf5_04 w01 w02 w03 w04 w12 w13 w14 w23 w24 w34 := by
  unfold rf5_04
  repeat (first | assumption | apply addN | apply mulN)
def fp5_04 (w01 w02 w03 w04 w12 w13 w14 w23 w24 w34 : Int) : Int := (w01)*(w02 + w12)*(w03 + w13 + w23) + rf5_04 w01 w02 w03 w04 w12 w13 w14 w23 w24 w34
theorem for5_04 {M : Int → Int → Int} {w01 w02 w03 w04 w12 w13 w14 w23 w24 w34 : Int} (h : Lap5 M w01 w02 w03 w04 w12 w13 w14 w23 w24 w34) : detF M [1, 2, 3] [1, 2, 3] = fp5_04 w01 w02 w03 w04 w12 w13 w14 w23 w24 w34 := by
  obtain ⟨m00, m01, m02, m03, m04, m10, m11, m12, m13, m14, m20, m21, m22, m23, m24, m30, m31, m32, m33, m34, m40, m41, m42, m43, m44⟩ := h
  simp only [detF, sumTo, sgn, nth, List.length, List.getD_cons_zero, List.getD_cons_succ, List.eraseIdx, m11, m12, m13, m21, m22, m23, m31, m32, m33]
  unfold fp5_04 rf5_04
  grind

theorem fp5_04_pos {w01 w02 w03 w04 w12 w13 w14 w23 w24 w34 : Int} (_n01 : 0 ≤ w01) (_n02 : 0 ≤ w02) (_n03 : 0 ≤ w03) (_n04 : 0 ≤ w04) (_n12 : 0 ≤ w12) (_n13 : 0 ≤ w13) (_n14 : 0 ≤ w14) (_n23 : 0 ≤ w23) (_n24 : 0 ≤ w24) (_n34 : 0 ≤ w34) (_t1 : 1 ≤ w01) (_t2 : 1 ≤ w02 + w12) (_t3 : 1 ≤ w03 + w13 + w23) (_t4 : 1 ≤ w04 + w14 + w24 + w34) : 1 ≤ fp5_04 w01 w02 w03 w04 w12 w13 w14 w23 w24 w34 := by
  have h1 := rf5_04_nn _n01 _n02 _n03 _n04 _n12 _n13 _n14 _n23 _n24 _n34
  have h2 := mulP (mulP (_t1) _t2) _t3
  unfold fp5_04
  omega
def rf5_12 (w01 w02 w03 w04 _w12 w13 w14 w23 w24 w34 : Int) : Int := w01*w04*w34 + w01*w14*w34 + w01*w24*w34 + w02*w03*w04 + w02*w03*w14 + w02*w03*w24 + w02*w03*w34 + w02*w04*w13 + w02*w04*w23 + w02*w04*w34 + w02*w13*w14 + w02*w13*w24 + w02*w13*w34 + w02*w14*w23 + w02*w14*w34 + w02*w23*w24 + w02*w23*w34 + w02*w24*w34 + w03*w04*w13 + w03*w04*w14 + w03*w04*w23 + w03*w04*w24 + w03*w13*w14 + w03*w13*w24 + w03*w13*w34 + w03*w14*w23 + w03*w14*w34 + w03*w23*w24 + w03*w23*w34 + w03*w24*w34 + w04*w13*w14 + w04*w13*w24 + w04*w13*w34 + w04*w14*w23 + w04*w14*w34 + w04*w23*w24 + w04*w23*w34 + w04*w24*w34
theorem rf5_12_nn {w01 w02 w03 w04 w12 w13 w14 w23 w24 w34 : Int} (_n01 : 0 ≤ w01) (_n02 : 0 ≤ w02) (_n03 : 0 ≤ w03) (_n04 : 0 ≤ w04) (_n12 : 0 ≤ w12) (_n13 : 0 ≤ w13) (_n14 : 0 ≤ w14) (_n23 : 0 ≤ w23) (_n24 : 0 ≤ w24) (_n34 : 0 ≤ w34) : 0 ≤ rf5_12 w01 w02 w03 w04 w12 w13 w14 w23 w24 w34 := by
  unfold rf5_12
  repeat (first | assumption | apply addN | apply mulN)
def fp5_12 (w01 w02 w03 w04 w12 w13 w14 w23 w24 w34 : Int) : Int := (w01)*(w03 + w13 + w23)*(w04 + w14 + w24 + w34) + rf5_12 w01 w02 w03 w04 w12 w13 w14 w23 w24 w34
theorem for5_12 {M : Int → Int → Int} {w01 w02 w03 w04 w12 w13 w14 w23 w24 w34 : Int} (h : Lap5 M w01 w02 w03 w04 w12 w13 w14 w23 w24 w34) : detF M [0, 3, 4] [0, 3, 4] = fp5_12 w01 w02 w03 w04 w12 w13 w14 w23 w24 w34 := by
  obtain ⟨m00, m01, m02, m03, m04, m10, m11, m12, m13, m14, m20, m21, m22, m23, m24, m30, m31, m32, m33, m34, m40, m41, m42, m43, m44⟩ := h
  simp only [detF, sumTo, sgn, nth, List.length, List.getD_cons_zero, List.getD_cons_succ, List.eraseIdx, m00, m03, m04, m30, m33, m34, m40, m43, m44]
  unfold fp5_12 rf5_12
  grind

theorem fp5_12_pos {w01 w02 w03 w04 w12 w13 w14 w23 w24 w34 : Int} (_n01 : 0 ≤ w01) (_n02 : 0 ≤ w02) (_n03 : 0 ≤ w03) (_n04 : 0 ≤ w04) (_n12 : 0 ≤ w12) (_n13 : 0 ≤ w13) (_n14 : 0 ≤ w14) (_n23 : 0 ≤ w23) (_n24 : 0 ≤ w24) (_n34 : 0 ≤ w34) (_t1 : 1 ≤ w01) (_t2 : 1 ≤ w02 + w12) (_t3 : 1 ≤ w03 + w13 + w23) (_t4 : 1 ≤ w04 + w14 + w24 + w34) : 1 ≤ fp5_12 w01 w02 w03 w04 w12 w13 w14 w23 w24 w34 := by
  have h1 := rf5_12_nn _n01 _n02 _n03 _n04 _n12 _n13 _n14 _n23 _n24 _n34
  have h2 := mulP (mulP (_t1) _t3) _t4
  unfold fp5_12
  omega
def rf5_13 (w01 w02 w03 w04 w12 _w13 w14 w23 w24 w34 : Int) : Int := w01*w04*w23 + w01*w04*w24 + w01*w14*w23 + w01*w14*w24 + w01*w23*w24 + w01*w23*w34 + w01*w24*w34 + w02*w03*w04 + w02*w03*w14 + w02*w03*w24 + w02*w03*w34 + w02*w04*w12 + w02*w04*w14 + w02*w04*w23 + w02*w04*w34 + w02*w12*w14 + w02*w12*w24 + w02*w12*w34 + w02*w14*w23 + w02*w14*w24 + w02*w23*w24 + w02*w23*w34 + w02*w24*w34 + w03*w04*w12 + w03*w04*w23 + w03*w04*w24 + w03*w12*w14 + w03*w12*w24 + w03*w12*w34 + w03*w14*w23 + w03*w14*w24 + w03*w23*w24 + w03*w23*w34 + w03*w24*w34 + w04*w12*w14 + w04*w12*w24 + w04*w12*w34 + w04*w14*w23 + w04*w14*w24 + w04*w23*w24 + w04*w23*w34 + w04*w24*w34
theorem rf5_13_nn {w01 w02 w03 w04 w12 w13 w14 w23 w24 w34 : Int} (_n01 : 0 ≤ w01) (_n02 : 0 ≤ w02) (_n03 : 0 ≤ w03) (_n04 : 0 ≤ w04) (_n12 : 0 ≤ w12) (_n13 : 0 ≤ w13) (_n14 : 0 ≤ w14) (_n23 : 0 ≤ w23) (_n24 : 0 ≤ w24) (_n34 : 0 ≤ w34) : 0 ≤ rf5_13 w01 w02 w03 w04 w12 w13 w14 w23 w24 w34 := by
  unfold rf5_13
  repeat (first | assumption | apply addN | apply mulN)
def fp5_13 (w01 w02 w03 w04 w12 w13 w14 w23 w24 w34 : Int) : Int := (w01)*(w02 + w12)*(w04 + w14 + w24 + w34) + rf5_13 w01 w02 w03 w04 w12 w13 w14 w23 w24 w34
theorem for5_13 {M : Int → Int → Int} {w01 w02 w03 w04 w12 w13 w14 w23 w24 w34 : Int} (h : Lap5 M w01 w02 w03 w04 w12 w13 w14 w23 w24 w34) : detF M [0, 2, 4] [0, 2, 4] = fp5_13 w01 w02 w03 w04 w12 w13 w14 w23 w24 w34 := by
  obtain ⟨m00, m01, m02, m03, m04, m10, m11, m12, m13, m14, m20, m21, m22, m23, m24, m30, m31, m32, m33, m34, m40, m41, m42, m43, m44⟩ := h
  simp only [detF, sumTo, sgn, nth, List.length, List.getD_cons_zero, List.getD_cons_succ, List.eraseIdx, m00, m02, m04, m20, m22, m24, m40, m42, m44]
  unfold fp5_13 rf5_13
  grind

theorem fp5_13_pos {w01 w02 w03 w04 w12 w13 w14 w23 w24 w34 : Int} (_n01 : 0 ≤ w01) (_n02 : 0 ≤ w02) (_n03 : 0 ≤ w03) (_n04 : 0 ≤ w04) (_n12 : 0 ≤ w12) (_n13 : 0 ≤ w13) (_n14 : 0 ≤ w14) (_n23 : 0 ≤ w23) (_n24 : 0 ≤ w24) (_n34 : 0 ≤ w34) (_t1 : 1 ≤ w01) (_t2 : 1 ≤ w02 + w12) (_t3 : 1 ≤ w03 + w13 + w23) (_t4 : 1 ≤ w04 + w14 + w24 + w34) : 1 ≤ fp5_13 w01 w02 w03 w04 w12 w13 w14 w23 w24 w34 := by
  have h1 := rf5_13_nn _n01 _n02 _n03 _n04 _n12 _n13 _n14 _n23 _n24 _n34
  have h2 := mulP (mulP (_t1) _t2) _t4
  unfold fp5_13
  omega
def rf5_14 (w01 w02 w03 w04 w12 w13 _w14 w23 w24 w34 : Int) : Int := w01*w02*w34 + w01*w03*w23 + w01*w03*w24 + w01*w12*w34 + w01*w13*w23 + w01*w13*w24 + w01*w23*w24 + w01*w23*w34 + w01*w24*w34 + w02*w03*w04 + w02*w03*w12 + w02*w03*w13 + w02*w03*w24 + w02*w03*w34 + w02*w04*w13 + w02*w04*w23 + w02*w04*w34 + w02*w12*w13 + w02*w12*w23 + w02*w12*w34 + w02*w13*w23 + w02*w13*w24 + w02*w23*w24 + w02*w23*w34 + w02*w24*w34 + w03*w04*w12 + w03*w04*w23 + w03*w04*w24 + w03*w12*w13 + w03*w12*w23 + w03*w12*w34 + w03*w13*w23 + w03*w13*w24 + w03*w23*w24 + w03*w23*w34 + w03*w24*w34 + w04*w12*w13 + w04*w12*w23 + w04*w12*w34 + w04*w13*w23 + w04*w13*w24 + w04*w23*w24 + w04*w23*w34 + w04*w24*w34
theorem rf5_14_nn {w01 w02 w03 w04 w12 w13 w14 w23 w24 w34 : Int} (_n01 : 0 ≤ w01) (_n02 : 0 ≤ w02) (_n03 : 0 ≤ w03) (_n04 : 0 ≤ w04) (_n12 : 0 ≤ w12) (_n13 : 0 ≤ w13) (_n14 : 0 ≤ w14) (_n23 : 0 ≤ w23) (_n24 : 0 ≤ w24) (_n34 : 0 ≤ w34) : 0 ≤ rf5_14 w01 w02 w03 w04 w12 w13 w14 w23 w24 w34 := by
  unfold rf5_14
  repeat (first | assumption | apply addN | apply mulN)
def fp5_14 (w01 w02 w03 w04 w12 w13 w14 w23 w24 w34 : Int) : Int := (w01)*(w02 + w12)*(w03 + w13 + w23) + rf5_14 w01 w02 w03 w04 w12 w13 w14 w23 w24 w34
theorem for5_14 {M : Int → Int → Int} {w01 w02 w03 w04 w12 w13 w14 w23 w24 w34 : Int} (h : Lap5 M w01 w02 w03 w04 w12 w13 w14 w23 w24 w34) : detF M [0, 2, 3] [0, 2, 3] = fp5_14 w01 w02 w03 w04 w12 w13 w14 w23 w24 w34 := by
  obtain ⟨m00, m01, m02, m03, m04, m10, m11, m12, m13, m14, m20, m21, m22, m23, m24, m30, m31, m32, m33, m34, m40, m41, m42, m43, m44⟩ := h
  simp only [detF, sumTo, sgn, nth, List.length, List.getD_cons_zero, List.getD_cons_succ, List.eraseIdx, m00, m02, m03, m20, m22, m23, m30, m32, m33]
  unfold fp5_14 rf5_14
  grind

theorem fp5_14_pos {w01 w02 w03 w04 w12 w13 w14 w23 w24 w34 : Int} (_n01 : 0 ≤ w01) (_n02 : 0 ≤ w02) (_n03 : 0 ≤ w03) (_n04 : 0 ≤ w04) (_n12 : 0 ≤ w12) (_n13 : 0 ≤ w13) (_n14 : 0 ≤ w14) (_n23 : 0 ≤ w23) (_n24 : 0 ≤ w24) (_n34 : 0 ≤ w34) (_t1 : 1 ≤ w01) (_t2 : 1 ≤ w02 + w12) (_t3 : 1 ≤ w03 + w13 + w23) (_t4 : 1 ≤ w04 + w14 + w24 + w34) : 1 ≤ fp5_14 w01 w02 w03 w04 w12 w13 w14 w23 w24 w34 := by
  have h1 := rf5_14_nn _n01 _n02 _n03 _n04 _n12 _n13 _n14 _n23 _n24 _n34
  have h2 := mulP (mulP (_t1) _t2) _t3
  unfold fp5_14
  omega
def rf5_23 (w01 w02 w03 w04 w12 w13 w14 _w23 w24 w34 : Int) : Int := w01*w03*w04 + w01*w03*w14 + w01*w03*w24 + w01*w03*w34 + w01*w04*w13 + w01*w04*w24 + w01*w04*w34 + w01*w13*w14 + w01*w13*w24 + w01*w13*w34 + w01*w14*w24 + w01*w14*w34 + w02*w04*w12 + w02*w04*w13 + w02*w04*w14 + w02*w12*w14 + w02*w12*w24 + w02*w12*w34 + w02*w13*w14 + w02*w13*w24 + w02*w13*w34 + w02*w14*w24 + w02*w14*w34 + w03*w04*w12 + w03*w04*w13 + w03*w04*w14 + w03*w12*w14 + w03*w12*w24 + w03*w12*w34 + w03*w13*w14 + w03*w13*w24 + w03*w13*w34 + w03*w14*w24 + w03*w14*w34 + w04*w12*w14 + w04*w12*w24 + w04*w12*w34 + w04*w13*w14 + w04*w13*w24 + w04*w13*w34 + w04*w14*w24 + w04*w14*w34
theorem rf5_23_nn {w01 w02 w03 w04 w12 w13 w14 w23 w24 w34 : Int} (_n01 : 0 ≤ w01) (_n02 : 0 ≤ w02) (_n03 : 0 ≤ w03) (_n04 : 0 ≤ w04) (_n12 : 0 ≤ w12) (_n13 : 0 ≤ w13) (_n14 : 0 ≤ w14) (_n23 : 0 ≤ w23) (_n24 : 0 ≤ w24) (_n34 : 0 ≤ w34) : 0 ≤ rf5_23 w01 w02 w03 w04 w12 w13 w14 w23 w24 w34 := by
  unfold rf5_23
  repeat (first | assumption | apply addN | apply mulN)
def fp5_23 (w01 w02 w03 w04 w12 w13 w14 w23 w24 w34 : Int) : Int := (w01)*(w02 + w12)*(w04 + w14 + w24 + w34) + rf5_23 w01 w02 w03 w04 w12 w13 w14 w23 w24 w34
theorem for5_23 {M : Int → Int → Int} {w01 w02 w03 w04 w12 w13 w14 w23 w24 w34 : Int} (h : Lap5 M w01 w02 w03 w04 w12 w13 w14 w23 w24 w34) : detF M [0, 1, 4] [0, 1, 4] = fp5_23 w01 w02 w03 w04 w12 w13 w14 w23 w24 w34 := by
  obtain ⟨m00, m01, m02, m03, m04, m10, m11, m12, m13, m14, m20, m21, m22, m23, m24, m30, m31, m32, m33, m34, m40, m41, m42, m43, m44⟩ := h
  simp only [detF, sumTo, sgn, nth, List.length, List.getD_cons_zero, List.getD_cons_succ, List.eraseIdx, m00, m01, m04, m10, m11, m14, m40, m41, m44]
  unfold fp5_23 rf5_23
  grind

theorem fp5_23_pos {w01 w02 w03 w04 w12 w13 w14 w23 w24 w34 : Int} (_n01 : 0 ≤ w01) (_n02 : 0 ≤ w02) (_n03 : 0 ≤ w03) (_n04 : 0 ≤ w04) (_n12 : 0 ≤ w12) (_n13 : 0 ≤ w13) (_n14 : 0 ≤ w14) (_n23 : 0 ≤ w23) (_n24 : 0 ≤ w24) (_n34 : 0 ≤ w34) (_t1 : 1 ≤ w01) (_t2 : 1 ≤ w02 + w12) (_t3 : 1 ≤ w03 + w13 + w23) (_t4 : 1 ≤ w04 + w14 + w24 + w34) : 1 ≤ fp5_23 w01 w02 w03 w04 w12 w13 w14 w23 w24 w34 := by
  have h1 := rf5_23_nn _n01 _n02 _n03 _n04 _n12 _n13 _n14 _n23 _n24 _n34
  have h2 := mulP (mulP (_t1) _t2) _t4
  unfold fp5_23
  omega
def rf5_24 (w01 w02 w03 w04 w12 w13 w14 w23 _w24 w34 : Int) : Int := w01*w02*w34 + w01*w03*w04 + w01*w03*w14 + w01*w03*w23 + w01*w03*w34 + w01*w04*w13 + w01*w04*w23 + w01*w04*w34 + w01*w12*w34 + w01*w13*w14 + w01*w13*w23 + w01*w13*w34 + w01*w14*w23 + w01*w14*w34 + w02*w03*w12 + w02*w03*w13 + w02*w03*w14 + w02*w12*w13 + w02*w12*w23 + w02*w12*w34 + w02*w13*w14 + w02*w13*w23 + w02*w13*w34 + w02*w14*w23 + w02*w14*w34 + w03*w04*w12 + w03*w04*w13 + w03*w04*w14 + w03*w12*w13 + w03*w12*w23 + w03*w12*w34 + w03*w13*w14 + w03*w13*w23 + w03*w13*w34 + w03*w14*w23 + w03*w14*w34 + w04*w12*w13 + w04*w12*w23 + w04*w12*w34 + w04*w13*w14 + w04*w13*w23 + w04*w13*w34 + w04*w14*w23 + w04*w14*w34
theorem rf5_24_nn {w01 w02 w03 w04 w12 w13 w14 w23 w24 w34 : Int} (_n01 : 0 ≤ w01) (_n02 : 0 ≤ w02) (_n03 : 0 ≤ w03) (_n04 : 0 ≤ w04) (_n12 : 0 ≤ w12) (_n13 : 0 ≤ w13) (_n14 : 0 ≤ w14) (_n23 : 0 ≤ w23) (_n24 : 0 ≤ w24) (_n34 : 0 ≤ w34) : 0 ≤ rf5_24 w01 w02 w03 w04 w12 w13 w14 w23 w24 w34 := by
  unfold rf5_24
  repeat (first | assumption | apply addN | apply mulN)
def fp5_24 (w01 w02 w03 w04 w12 w13 w14 w23 w24 w34 : Int) : Int := (w01)*(w02 + w12)*(w03 + w13 + w23) + rf5_24 w01 w02 w03 w04 w12 w13 w14 w23 w24 w34
theorem for5_24 {M : Int → Int → Int} {w01 w02 w03 w04 w12 w13 w14 w23 w24 w34 : Int} (h : Lap5 M w01 w02 w03 w04 w12 w13 w14 w23 w24 w34) : detF M [0, 1, 3] [0, 1, 3] = fp5_24 w01 w02 w03 w04 w12 w13 w14 w23 w24 w34 := by
  obtain ⟨m00, m01, m02, m03, m04, m10, m11, m12, m13, m14, m20, m21, m22, m23, m24, m30, m31, m32, m33, m34, m40, m41, m42, m43, m44⟩ := h
  simp only [detF, sumTo, sgn, nth, List.length, List.getD_cons_zero, List.getD_cons_succ, List.eraseIdx, m00, m01, m03, m10, m11, m13, m30, m31, m33]
  unfold fp5_24 rf5_24
  grind

theorem fp5_24_pos {w01 w02 w03 w04 w12 w13 w14 w23 w24 w34 : Int} (_n01 : 0 ≤ w01) (_n02 : 0 ≤ w02) (_n03 : 0 ≤ w03) (_n04 : 0 ≤ w04) (_n12 : 0 ≤ w12) (_n13 : 0 ≤ w13) (_n14 : 0 ≤ w14) (_n23 : 0 ≤ w23) (_n24 : 0 ≤ w24) (_n34 : 0 ≤ w34) (_t1 : 1 ≤ w01) (_t2 : 1 ≤ w02 + w12) (_t3 : 1 ≤ w03 + w13 + w23) (_t4 : 1 ≤ w04 + w14 + w24 + w34) : 1 ≤ fp5_24 w01 w02 w03 w04 w12 w13 w14 w23 w24 w34 := by
  have h1 := rf5_24_nn _n01 _n02 _n03 _n04 _n12 _n13 _n14 _n23 _n24 _n34
  have h2 := mulP (mulP (_t1) _t2) _t3
  unfold fp5_24
  omega
def rf5_34 (w01 w02 w03 w04 w12 w13 w14 w23 w24 _w34 : Int) : Int := w01*w02*w04 + w01*w02*w14 + w01*w02*w24 + w01*w03*w23 + w01*w03*w24 + w01*w04*w12 + w01*w04*w23 + w01*w04*w24 + w01*w12*w14 + w01*w12*w24 + w01*w13*w23 + w01*w13*w24 + w01*w14*w23 + w01*w14*w24 + w02*w03*w12 + w02*w03*w13 + w02*w03*w14 + w02*w04*w12 + w02*w04*w13 + w02*w04*w14 + w02*w12*w13 + w02*w12*w14 + w02*w12*w23 + w02*w12*w24 + w02*w13*w23 + w02*w13*w24 + w02*w14*w23 + w02*w14*w24 + w03*w12*w13 + w03*w12*w14 + w03*w12*w23 + w03*w12*w24 + w03*w13*w23 + w03*w13*w24 + w03*w14*w23 + w03*w14*w24 + w04*w12*w13 + w04*w12*w14 + w04*w12*w23 + w04*w12*w24 + w04*w13*w23 + w04*w13*w24 + w04*w14*w23 + w04*w14*w24
theorem rf5_34_nn {w01 w02 w03 w04 w12 w13 w14 w23 w24 w34 : Int} (_n01 : 0 ≤ w01) (_n02 : 0 ≤ w02) (_n03 : 0 ≤ w03) (_n04 : 0 ≤ w04) (_n12 : 0 ≤ w12) (_n13 : 0 ≤ w13) (_n14 : 0 ≤ w14) (_n23 : 0 ≤ w23) (_n24 : 0 ≤ w24) (_n34 : 0 ≤ w34) : 0 ≤ rf5_34 w01 w02 w03 w04 w12 w13 w14 w23 w24 w34 := by
  unfold rf5_34
  repeat (first | assumption | apply addN | apply mulN)
def fp5_34 (w01 w02 w03 w04 w12 w13 w14 w23 w24 w34 : Int) : Int := (w01)*(w02 + w12)*(w03 + w13 + w23) + rf5_34 w01 w02 w03 w04 w12 w13 w14 w23 w24 w34
theorem for5_34 {M : Int → Int → Int} {w01 w02 w03 w04 w12 w13 w14 w23 w24 w34 : Int} (h : Lap5 M w01 w02 w03 w04 w12 w13 w14 w23 w24 w34) : detF M [0, 1, 2] [0, 1, 2] = fp5_34 w01 w02 w03 w04 w12 w13 w14 w23 w24 w34 := by
  obtain ⟨m00, m01, m02, m03, m04, m10, m11, m12, m13, m14, m20, m21, m22, m23, m24, m30, m31, m32, m33, m34, m40, m41, m42, m43, m44⟩ := h
  simp only [detF, sumTo, sgn, nth, List.length, List.getD_cons_zero, List.getD_cons_succ, List.eraseIdx, m00, m01, m02, m10, m11, m12, m20, m21, m22]
  unfold fp5_34 rf5_34
  grind

theorem fp5_34_pos {w01 w02 w03 w04 w12 w13 w14 w23 w24 w34 : Int} (_n01 : 0 ≤ w01) (_n02 : 0 ≤ w02) (_n03 : 0 ≤ w03) (_n04 : 0 ≤ w04) (_n12 : 0 ≤ w12) (_n13 : 0 ≤ w13) (_n14 : 0 ≤ w14) (_n23 : 0 ≤ w23) (_n24 : 0 ≤ w24) (_n34 : 0 ≤ w34) (_t1 : 1 ≤ w01) (_t2 : 1 ≤ w02 + w12) (_t3 : 1 ≤ w03 + w13 + w23) (_t4 : 1 ≤ w04 + w14 + w24 + w34) : 1 ≤ fp5_34 w01 w02 w03 w04 w12 w13 w14 w23 w24 w34 := by
  have h1 := rf5_34_nn _n01 _n02 _n03 _n04 _n12 _n13 _n14 _n23 _n24 _n34
  have h2 := mulP (mulP (_t1) _t2) _t3
  unfold fp5_34
  omega
def pp5_012 (w01 _w02 w03 w04 _w12 w13 w14 w23 w24 w34 : Int) : Int := w01*w03*w04 + w01*w03*w14 + w01*w03*w24 + w01*w03*w34 + w01*w04*w13 + w01*w04*w23 + w01*w04*w34 + w01*w13*w14 + w01*w13*w24 + w01*w13*w34 + w01*w14*w23 + w01*w14*w34 + w01*w23*w24 + w01*w23*w34 + w01*w24*w34 + w03*w04*w13 + w03*w04*w14 + w03*w13*w14 + w03*w13*w24 + w03*w13*w34 + w03*w14*w34 + w04*w13*w14 + w04*w13*w34 + w04*w14*w23 + w04*w14*w34
theorem pp5_012_nn {w01 w02 w03 w04 w12 w13 w14 w23 w24 w34 : Int} (_n01 : 0 ≤ w01) (_n02 : 0 ≤ w02) (_n03 : 0 ≤ w03) (_n04 : 0 ≤ w04) (_n12 : 0 ≤ w12) (_n13 : 0 ≤ w13) (_n14 : 0 ≤ w14) (_n23 : 0 ≤ w23) (_n24 : 0 ≤ w24) (_n34 : 0 ≤ w34) : 0 ≤ pp5_012 w01 w02 w03 w04 w12 w13 w14 w23 w24 w34 := by
  unfold pp5_012
  repeat (first | assumption | apply addN | apply mulN)
theorem pp5_012_id (w01 w02 w03 w04 w12 w13 w14 w23 w24 w34 : Int) : fp5_02 w01 w02 w03 w04 w12 w13 w14 w23 w24 w34 + fp5_12 w01 w02 w03 w04 w12 w13 w14 w23 w24 w34 - fp5_01 w01 w02 w03 w04 w12 w13 w14 w23 w24 w34 = 2 * pp5_012 w01 w02 w03 w04 w12 w13 w14 w23 w24 w34 := by
  unfold pp5_012 fp5_01 fp5_02 fp5_12 rf5_01 rf5_02 rf5_12
  grind

def pp5_013 (w01 w02 _w03 w04 w12 _w13 w14 w23 w24 w34 : Int) : Int := w01*w02*w04 + w01*w02*w14 + w01*w02*w24 + w01*w02*w34 + w01*w04*w12 + w01*w04*w23 + w01*w04*w24 + w01*w12*w14 + w01*w12*w24 + w01*w12*w34 + w01*w14*w23 + w01*w14*w24 + w01*w23*w24 + w01*w23*w34 + w01*w24*w34 + w02*w04*w12 + w02*w04*w14 + w02*w12*w14 + w02*w12*w24 + w02*w12*w34 + w02*w14*w24 + w04*w12*w14 + w04*w12*w24 + w04*w14*w23 + w04*w14*w24
theorem pp5_013_nn {w01 w02 w03 w04 w12 w13 w14 w23 w24 w34 : Int} (_n01 : 0 ≤ w01) (_n02 : 0 ≤ w02) (_n03 : 0 ≤ w03) (_n04 : 0 ≤ w04) (_n12 : 0 ≤ w12) (_n13 : 0 ≤ w13) (_n14 : 0 ≤ w14) (_n23 : 0 ≤ w23) (_n24 : 0 ≤ w24) (_n34 : 0 ≤ w34) : 0 ≤ pp5_013 w01 w02 w03 w04 w12 w13 w14 w23 w24 w34 := by
  unfold pp5_013
  repeat (first | assumption | apply addN | apply mulN)
theorem pp5_013_id (w01 w02 w03 w04 w12 w13 w14 w23 w24 w34 : Int) : fp5_03 w01 w02 w03 w04 w12 w13 w14 w23 w24 w34 + fp5_13 w01 w02 w03 w04 w12 w13 w14 w23 w24 w34 - fp5_01 w01 w02 w03 w04 w12 w13 w14 w23 w24 w34 = 2 * pp5_013 w01 w02 w03 w04 w12 w13 w14 w23 w24 w34 := by
  unfold pp5_013 fp5_01 fp5_03 fp5_13 rf5_01 rf5_03 rf5_13
  grind

def pp5_014 (w01 w02 w03 _w04 w12 w13 _w14 w23 w24 w34 : Int) : Int := w01*w02*w03 + w01*w02*w13 + w01*w02*w23 + w01*w02*w34 + w01*w03*w12 + w01*w03*w23 + w01*w03*w24 + w01*w12*w13 + w01*w12*w23 + w01*w12*w34 + w01*w13*w23 + w01*w13*w24 + w01*w23*w24 + w01*w23*w34 + w01*w24*w34 + w02*w03*w12 + w02*w03*w13 + w02*w12*w13 + w02*w12*w23 + w02*w12*w34 + w02*w13*w23 + w03*w12*w13 + w03*w12*w23 + w03*w13*w23 + w03*w13*w24
theorem pp5_014_nn {w01 w02 w03 w04 w12 w13 w14 w23 w24 w34 : Int} (_n01 : 0 ≤ w01) (_n02 : 0 ≤ w02) (_n03 : 0 ≤ w03) (_n04 : 0 ≤ w04) (_n12 : 0 ≤ w12) (_n13 : 0 ≤ w13) (_n14 : 0 ≤ w14) (_n23 : 0 ≤ w23) (_n24 : 0 ≤ w24) (_n34 : 0 ≤ w34) : 0 ≤ pp5_014 w01 w02 w03 w04 w12 w13 w14 w23 w24 w34 := by
  unfold pp5_014
  repeat (first | assumption | apply addN | apply mulN)
theorem pp5_014_id (w01 w02 w03 w04 w12 w13 w14 w23 w24 w34 : Int) : fp5_04 w01 w02 w03 w04 w12 w13 w14 w23 w24 w34 + fp5_14 w01 w02 w03 w04 w12 w13 w14 w23 w24 w34 - fp5_01 w01 w02 w03 w04 w12 w13 w14 w23 w24 w34 = 2 * pp5_014 w01 w02 w03 w04 w12 w13 w14 w23 w24 w34 := by
  unfold pp5_014 fp5_01 fp5_04 fp5_14 rf5_01 rf5_04 rf5_14
  grind

def pp5_021 (_w01 w02 w03 w04 _w12 w13 w14 w23 w24 w34 : Int) : Int := w02*w03*w04 + w02*w03*w14 + w02*w03*w24 + w02*w03*w34 + w02*w04*w13 + w02*w04*w23 + w02*w04*w34 + w02*w13*w14 + w02*w13*w24 + w02*w13*w34 + w02*w14*w23 + w02*w14*w34 + w02*w23*w24 + w02*w23*w34 + w02*w24*w34 + w03*w04*w23 + w03*w04*w24 + w03*w14*w23 + w03*w23*w24 + w03*w23*w34 + w03*w24*w34 + w04*w13*w24 + w04*w23*w24 + w04*w23*w34 + w04*w24*w34
theorem pp5_021_nn {w01 w02 w03 w04 w12 w13 w14 w23 w24 w34 : Int} (_n01 : 0 ≤ w01) (_n02 : 0 ≤ w02) (_n03 : 0 ≤ w03) (_n04 : 0 ≤ w04) (_n12 : 0 ≤ w12) (_n13 : 0 ≤ w13) (_n14 : 0 ≤ w14) (_n23 : 0 ≤ w23) (_n24 : 0 ≤ w24) (_n34 : 0 ≤ w34) : 0 ≤ pp5_021 w01 w02 w03 w04 w12 w13 w14 w23 w24 w34 := by
  unfold pp5_021
  repeat (first | assumption | apply addN | apply mulN)
theorem pp5_021_id (w01 w02 w03 w04 w12 w13 w14 w23 w24 w34 : Int) : fp5_01 w01 w02 w03 w04 w12 w13 w14 w23 w24 w34 + fp5_12 w01 w02 w03 w04 w12 w13 w14 w23 w24 w34 - fp5_02 w01 w02 w03 w04 w12 w13 w14 w23 w24 w34 = 2 * pp5_021 w01 w02 w03 w04 w12 w13 w14 w23 w24 w34 := by
  unfold pp5_021 fp5_01 fp5_02 fp5_12 rf5_01 rf5_02 rf5_12
  grind

def pp5_023 (w01 w02 _w03 w04 w12 w13 w14 _w23 w24 w34 : Int) : Int := w01*w02*w04 + w01*w02*w14 + w01*w02*w24 + w01*w02*w34 + w01*w04*w12 + w01*w04*w24 + w01*w12*w14 + w01*w12*w24 + w01*w12*w34 + w01*w14*w24 + w02*w04*w12 + w02*w04*w13 + w02*w04*w14 + w02*w12*w14 + w02*w12*w24 + w02*w12*w34 + w02*w13*w14 + w02*w13*w24 + w02*w13*w34 + w02*w14*w24 + w02*w14*w34 + w04*w12*w14 + w04*w12*w24 + w04*w13*w24 + w04*w14*w24
theorem pp5_023_nn {w01 w02 w03 w04 w12 w13 w14 w23 w24 w34 : Int} (_n01 : 0 ≤ w01) (_n02 : 0 ≤ w02) (_n03 : 0 ≤ w03) (_n04 : 0 ≤ w04) (_n12 : 0 ≤ w12) (_n13 : 0 ≤ w13) (_n14 : 0 ≤ w14) (_n23 : 0 ≤ w23) (_n24 : 0 ≤ w24) (_n34 : 0 ≤ w34) : 0 ≤ pp5_023 w01 w02 w03 w04 w12 w13 w14 w23 w24 w34 := by
  unfold pp5_023
  repeat (first | assumption | apply addN | apply mulN)
theorem pp5_023_id (w01 w02 w03 w04 w12 w13 w14 w23 w24 w34 : Int) : fp5_03 w01 w02 w03 w04 w12 w13 w14 w23 w24 w34 + fp5_23 w01 w02 w03 w04 w12 w13 w14 w23 w24 w34 - fp5_02 w01 w02 w03 w04 w12 w13 w14 w23 w24 w34 = 2 * pp5_023 w01 w02 w03 w04 w12 w13 w14 w23 w24 w34 := by
  unfold pp5_023 fp5_02 fp5_03 fp5_23 rf5_02 rf5_03 rf5_23
  grind

def pp5_024 (w01 w02 w03 _w04 w12 w13 w14 w23 _w24 w34 : Int) : Int := w01*w02*w03 + w01*w02*w13 + w01*w02*w23 + w01*w02*w34 + w01*w03*w12 + w01*w03*w23 + w01*w12*w13 + w01*w12*w23 + w01*w12*w34 + w01*w13*w23 + w02*w03*w12 + w02*w03*w13 + w02*w03*w14 + w02*w12*w13 + w02*w12*w23 + w02*w12*w34 + w02*w13*w14 + w02*w13*w23 + w02*w13*w34 + w02*w14*w23 + w02*w14*w34 + w03*w12*w13 + w03*w12*w23 + w03*w13*w23 + w03*w14*w23
theorem pp5_024_nn {w01 w02 w03 w04 w12 w13 w14 w23 w24 w34 : Int} (_n01 : 0 ≤ w01) (_n02 : 0 ≤ w02) (_n03 : 0 ≤ w03) (_n04 : 0 ≤ w04) (_n12 : 0 ≤ w12) (_n13 : 0 ≤ w13) (_n14 : 0 ≤ w14) (_n23 : 0 ≤ w23) (_n24 : 0 ≤ w24) (_n34 : 0 ≤ w34) : 0 ≤ pp5_024 w01 w02 w03 w04 w12 w13 w14 w23 w24 w34 := by
  unfold pp5_024
  repeat (first | assumption | apply addN | apply mulN)
theorem pp5_024_id (w01 w02 w03 w04 w12 w13 w14 w23 w24 w34 : Int) : fp5_04 w01 w02 w03 w04 w12 w13 w14 w23 w24 w34 + fp5_24 w01 w02 w03 w04 w12 w13 w14 w23 w24 w34 - fp5_02 w01 w02 w03 w04 w12 w13 w14 w23 w24 w34 = 2 * pp5_024 w01 w02 w03 w04 w12 w13 w14 w23 w24 w34 := by
  unfold pp5_024 fp5_02 fp5_04 fp5_24 rf5_02 rf5_04 rf5_24
  grind

def pp5_031 (_w01 w02 w03 w04 w12 _w13 w14 w23 w24 w34 : Int) : Int := w02*w03*w04 + w02*w03*w14 + w02*w03*w24 + w02*w03*w34 + w02*w04*w23 + w02*w04*w34 + w02*w14*w23 + w02*w23*w24 + w02*w23*w34 + w02*w24*w34 + w03*w04*w12 + w03*w04*w23 + w03*w04*w24 + w03*w12*w14 + w03*w12*w24 + w03*w12*w34 + w03*w14*w23 + w03*w14*w24 + w03*w23*w24 + w03*w23*w34 + w03*w24*w34 + w04*w12*w34 + w04*w23*w24 + w04*w23*w34 + w04*w24*w34
theorem pp5_031_nn {w01 w02 w03 w04 w12 w13 w14 w23 w24 w34 : Int} (_n01 : 0 ≤ w01) (_n02 : 0 ≤ w02) (_n03 : 0 ≤ w03) (_n04 : 0 ≤ w04) (_n12 : 0 ≤ w12) (_n13 : 0 ≤ w13) (_n14 : 0 ≤ w14) (_n23 : 0 ≤ w23) (_n24 : 0 ≤ w24) (_n34 : 0 ≤ w34) : 0 ≤ pp5_031 w01 w02 w03 w04 w12 w13 w14 w23 w24 w34 := by
  unfold pp5_031
  repeat (first | assumption | apply addN | apply mulN)
theorem pp5_031_id (w01 w02 w03 w04 w12 w13 w14 w23 w24 w34 : Int) : fp5_01 w01 w02 w03 w04 w12 w13 w14 w23 w24 w34 + fp5_13 w01 w02 w03 w04 w12 w13 w14 w23 w24 w34 - fp5_03 w01 w02 w03 w04 w12 w13 w14 w23 w24 w34 = 2 * pp5_031 w01 w02 w03 w04 w12 w13 w14 w23 w24 w34 := by
  unfold pp5_031 fp5_01 fp5_03 fp5_13 rf5_01 rf5_03 rf5_13
  grind

def pp5_032 (w01 _w02 w03 w04 w12 w13 w14 _w23 w24 w34 : Int) : Int := w01*w03*w04 + w01*w03*w14 + w01*w03*w24 + w01*w03*w34 + w01*w04*w13 + w01*w04*w34 + w01*w13*w14 + w01*w13*w24 + w01*w13*w34 + w01*w14*w34 + w03*w04*w12 + w03*w04*w13 + w03*w04*w14 + w03*w12*w14 + w03*w12*w24 + w03*w12*w34 + w03*w13*w14 + w03*w13*w24 + w03*w13*w34 + w03*w14*w24 + w03*w14*w34 + w04*w12*w34 + w04*w13*w14 + w04*w13*w34 + w04*w14*w34
theorem pp5_032_nn {w01 w02 w03 w04 w12 w13 w14 w23 w24 w34 : Int} (_n01 : 0 ≤ w01) (_n02 : 0 ≤ w02) (_n03 : 0 ≤ w03) (_n04 : 0 ≤ w04) (_n12 : 0 ≤ w12) (_n13 : 0 ≤ w13) (_n14 : 0 ≤ w14) (_n23 : 0 ≤ w23) (_n24 : 0 ≤ w24) (_n34 : 0 ≤ w34) : 0 ≤ pp5_032 w01 w02 w03 w04 w12 w13 w14 w23 w24 w34 := by
  unfold pp5_032
  repeat (first | assumption | apply addN | apply mulN)
theorem pp5_032_id (w01 w02 w03 w04 w12 w13 w14 w23 w24 w34 : Int) : fp5_02 w01 w02 w03 w04 w12 w13 w14 w23 w24 w34 + fp5_23 w01 w02 w03 w04 w12 w13 w14 w23 w24 w34 - fp5_03 w01 w02 w03 w04 w12 w13 w14 w23 w24 w34 = 2 * pp5_032 w01 w02 w03 w04 w12 w13 w14 w23 w24 w34 := by
  unfold pp5_032 fp5_02 fp5_03 fp5_23 rf5_02 rf5_03 rf5_23
  grind

def pp5_034 (w01 w02 w03 _w04 w12 w13 w14 w23 w24 _w34 : Int) : Int := w01*w02*w03 + w01*w02*w13 + w01*w02*w23 + w01*w03*w12 + w01*w03*w23 + w01*w03*w24 + w01*w12*w13 + w01*w12*w23 + w01*w13*w23 + w01*w13*w24 + w02*w03*w12 + w02*w03*w13 + w02*w03*w14 + w02*w12*w13 + w02*w12*w23 + w02*w13*w23 + w02*w14*w23 + w03*w12*w13 + w03*w12*w14 + w03*w12*w23 + w03*w12*w24 + w03*w13*w23 + w03*w13*w24 + w03*w14*w23 + w03*w14*w24
theorem pp5_034_nn {w01 w02 w03 w04 w12 w13 w14 w23 w24 w34 : Int} (_n01 : 0 ≤ w01) (_n02 : 0 ≤ w02) (_n03 : 0 ≤ w03) (_n04 : 0 ≤ w04) (_n12 : 0 ≤ w12) (_n13 : 0 ≤ w13) (_n14 : 0 ≤ w14) (_n23 : 0 ≤ w23) (_n24 : 0 ≤ w24) (_n34 : 0 ≤ w34) : 0 ≤ pp5_034 w01 w02 w03 w04 w12 w13 w14 w23 w24 w34 := by
  unfold pp5_034
  repeat (first | assumption | apply addN | apply mulN)
theorem pp5_034_id (w01 w02 w03 w04 w12 w13 w14 w23 w24 w34 : Int) : fp5_04 w01 w02 w03 w04 w12 w13 w14 w23 w24 w34 + fp5_34 w01 w02 w03 w04 w12 w13 w14 w23 w24 w34 - fp5_03 w01 w02 w03 w04 w12 w13 w14 w23 w24 w34 = 2 * pp5_034 w01 w02 w03 w04 w12 w13 w14 w23 w24 w34 := by
  unfold pp5_034 fp5_03 fp5_04 fp5_34 rf5_03 rf5_04 rf5_34
  grind

def pp5_041 (_w01 w02 w03 w04 w12 w13 _w14 w23 w24 w34 : Int) : Int := w02*w03*w04 + w02*w03*w24 + w02*w03*w34 + w02*w04*w13 + w02*w04*w23 + w02*w04*w34 + w02*w13*w24 + w02*w23*w24 + w02*w23*w34 + w02*w24*w34 + w03*w04*w12 + w03*w04*w23 + w03*w04*w24 + w03*w12*w34 + w03*w23*w24 + w03*w23*w34 + w03*w24*w34 + w04*w12*w13 + w04*w12*w23 + w04*w12*w34 + w04*w13*w23 + w04*w13*w24 + w04*w23*w24 + w04*w23*w34 + w04*w24*w34
theorem pp5_041_nn {w01 w02 w03 w04 w12 w13 w14 w23 w24 w34 : Int} (_n01 : 0 ≤ w01) (_n02 : 0 ≤ w02) (_n03 : 0 ≤ w03) (_n04 : 0 ≤ w04) (_n12 : 0 ≤ w12) (_n13 : 0 ≤ w13) (_n14 : 0 ≤ w14) (_n23 : 0 ≤ w23) (_n24 : 0 ≤ w24) (_n34 : 0 ≤ w34) : 0 ≤ pp5_041 w01 w02 w03 w04 w12 w13 w14 w23 w24 w34 := by
  unfold pp5_041
  repeat (first | assumption | apply addN | apply mulN)
theorem pp5_041_id (w01 w02 w03 w04 w12 w13 w14 w23 w24 w34 : Int) : fp5_01 w01 w02 w03 w04 w12 w13 w14 w23 w24 w34 + fp5_14 w01 w02 w03 w04 w12 w13 w14 w23 w24 w34 - fp5_04 w01 w02 w03 w04 w12 w13 w14 w23 w24 w34 = 2 * pp5_041 w01 w02 w03 w04 w12 w13 w14 w23 w24 w34 := by
  unfold pp5_041 fp5_01 fp5_04 fp5_14 rf5_01 rf5_04 rf5_14
  grind

def pp5_042 (w01 _w02 w03 w04 w12 w13 w14 w23 _w24 w34 : Int) : Int := w01*w03*w04 + w01*w03*w14 + w01*w03*w34 + w01*w04*w13 + w01*w04*w23 + w01*w04*w34 + w01*w13*w14 + w01*w13*w34 + w01*w14*w23 + w01*w14*w34 + w03*w04*w12 + w03*w04*w13 + w03*w04*w14 + w03*w12*w34 + w03*w13*w14 + w03*w13*w34 + w03*w14*w34 + w04*w12*w13 + w04*w12*w23 + w04*w12*w34 + w04*w13*w14 + w04*w13*w23 + w04*w13*w34 + w04*w14*w23 + w04*w14*w34
theorem pp5_042_nn {w01 w02 w03 w04 w12 w13 w14 w23 w24 w34 : Int} (_n01 : 0 ≤ w01) (_n02 : 0 ≤ w02) (_n03 : 0 ≤ w03) (_n04 : 0 ≤ w04) (_n12 : 0 ≤ w12) (_n13 : 0 ≤ w13) (_n14 : 0 ≤ w14) (_n23 : 0 ≤ w23) (_n24 : 0 ≤ w24) (_n34 : 0 ≤ w34) : 0 ≤ pp5_042 w01 w02 w03 w04 w12 w13 w14 w23 w24 w34 := by
  unfold pp5_042
  repeat (first | assumption | apply addN | apply mulN)
theorem pp5_042_id (w01 w02 w03 w04 w12 w13 w14 w23 w24 w34 : Int) : fp5_02 w01 w02 w03 w04 w12 w13 w14 w23 w24 w34 + fp5_24 w01 w02 w03 w04 w12 w13 w14 w23 w24 w34 - fp5_04 w01 w02 w03 w04 w12 w13 w14 w23 w24 w34 = 2 * pp5_042 w01 w02 w03 w04 w12 w13 w14 w23 w24 w34 := by
  unfold pp5_042 fp5_02 fp5_04 fp5_24 rf5_02 rf5_04 rf5_24
  grind

def pp5_043 (w01 w02 _w03 w04 w12 w13 w14 w23 w24 _w34 : Int) : Int := w01*w02*w04 + w01*w02*w14 + w01*w02*w24 + w01*w04*w12 + w01*w04*w23 + w01*w04*w24 + w01*w12*w14 + w01*w12*w24 + w01*w14*w23 + w01*w14*w24 + w02*w04*w12 + w02*w04*w13 + w02*w04*w14 + w02*w12*w14 + w02*w12*w24 + w02*w13*w24 + w02*w14*w24 + w04*w12*w13 + w04*w12*w14 + w04*w12*w23 + w04*w12*w24 + w04*w13*w23 + w04*w13*w24 + w04*w14*w23 + w04*w14*w24
theorem pp5_043_nn {w01 w02 w03 w04 w12 w13 w14 w23 w24 w34 : Int} (_n01 : 0 ≤ w01) (_n02 : 0 ≤ w02) (_n03 : 0 ≤ w03) (_n04 : 0 ≤ w04) (_n12 : 0 ≤ w12) (_n13 : 0 ≤ w13) (_n14 : 0 ≤ w14) (_n23 : 0 ≤ w23) (_n24 : 0 ≤ w24) (_n34 : 0 ≤ w34) : 0 ≤ pp5_043 w01 w02 w03 w04 w12 w13 w14 w23 w24 w34 := by
  unfold pp5_043
  repeat (first | assumption | apply addN | apply mulN)
theorem pp5_043_id (w01 w02 w03 w04 w12 w13 w14 w23 w24 w34 : Int) : fp5_03 w01 w02 w03 w04 w12 w13 w14 w23 w24 w34 + fp5_34 w01 w02 w03 w04 w12 w13 w14 w23 w24 w34 - fp5_04 w01 w02 w03 w04 w12 w13 w14 w23 w24 w34 = 2 * pp5_043 w01 w02 w03 w04 w12 w13 w14 w23 w24 w34 := by
  unfold pp5_043 fp5_03 fp5_04 fp5_34 rf5_03 rf5_04 rf5_34
  grind

def pp5_120 (_w01 _w02 w03 w04 w12 w13 w14 w23 w24 w34 : Int) : Int := w03*w04*w12 + w03*w12*w14 + w03*w12*w24 + w03*w12*w34 + w03*w14*w24 + w04*w12*w13 + w04*w12*w23 + w04*w12*w34 + w04*w13*w23 + w12*w13*w14 + w12*w13*w24 + w12*w13*w34 + w12*w14*w23 + w12*w14*w34 + w12*w23*w24 + w12*w23*w34 + w12*w24*w34 + w13*w14*w23 + w13*w14*w24 + w13*w23*w24 + w13*w23*w34 + w13*w24*w34 + w14*w23*w24 + w14*w23*w34 + w14*w24*w34
theorem pp5_120_nn {w01 w02 w03 w04 w12 w13 w14 w23 w24 w34 : Int} (_n01 : 0 ≤ w01) (_n02 : 0 ≤ w02) (_n03 : 0 ≤ w03) (_n04 : 0 ≤ w04) (_n12 : 0 ≤ w12) (_n13 : 0 ≤ w13) (_n14 : 0 ≤ w14) (_n23 : 0 ≤ w23) (_n24 : 0 ≤ w24) (_n34 : 0 ≤ w34) : 0 ≤ pp5_120 w01 w02 w03 w04 w12 w13 w14 w23 w24 w34 := by
  unfold pp5_120
  repeat (first | assumption | apply addN | apply mulN)
theorem pp5_120_id (w01 w02 w03 w04 w12 w13 w14 w23 w24 w34 : Int) : fp5_01 w01 w02 w03 w04 w12 w13 w14 w23 w24 w34 + fp5_02 w01 w02 w03 w04 w12 w13 w14 w23 w24 w34 - fp5_12 w01 w02 w03 w04 w12 w13 w14 w23 w24 w34 = 2 * pp5_120 w01 w02 w03 w04 w12 w13 w14 w23 w24 w34 := by
  unfold pp5_120 fp5_01 fp5_02 fp5_12 rf5_01 rf5_02 rf5_12
  grind

def pp5_123 (w01 w02 w03 w04 w12 _w13 w14 _w23 w24 w34 : Int) : Int := w01*w02*w04 + w01*w02*w14 + w01*w02*w24 + w01*w02*w34 + w01*w04*w12 + w01*w04*w24 + w01*w12*w14 + w01*w12*w24 + w01*w12*w34 + w01*w14*w24 + w02*w04*w12 + w02*w04*w14 + w02*w12*w14 + w02*w12*w24 + w02*w12*w34 + w02*w14*w24 + w03*w04*w12 + w03*w12*w14 + w03*w12*w24 + w03*w12*w34 + w03*w14*w24 + w04*w12*w14 + w04*w12*w24 + w04*w12*w34 + w04*w14*w24
theorem pp5_123_nn {w01 w02 w03 w04 w12 w13 w14 w23 w24 w34 : Int} (_n01 : 0 ≤ w01) (_n02 : 0 ≤ w02) (_n03 : 0 ≤ w03) (_n04 : 0 ≤ w04) (_n12 : 0 ≤ w12) (_n13 : 0 ≤ w13) (_n14 : 0 ≤ w14) (_n23 : 0 ≤ w23) (_n24 : 0 ≤ w24) (_n34 : 0 ≤ w34) : 0 ≤ pp5_123 w01 w02 w03 w04 w12 w13 w14 w23 w24 w34 := by
  unfold pp5_123
  repeat (first | assumption | apply addN | apply mulN)
theorem pp5_123_id (w01 w02 w03 w04 w12 w13 w14 w23 w24 w34 : Int) : fp5_13 w01 w02 w03 w04 w12 w13 w14 w23 w24 w34 + fp5_23 w01 w02 w03 w04 w12 w13 w14 w23 w24 w34 - fp5_12 w01 w02 w03 w04 w12 w13 w14 w23 w24 w34 = 2 * pp5_123 w01 w02 w03 w04 w12 w13 w14 w23 w24 w34 := by
  unfold pp5_123 fp5_12 fp5_13 fp5_23 rf5_12 rf5_13 rf5_23
  grind

def pp5_124 (w01 w02 w03 w04 w12 w13 _w14 w23 _w24 w34 : Int) : Int := w01*w02*w03 + w01*w02*w13 + w01*w02*w23 + w01*w02*w34 + w01*w03*w12 + w01*w03*w23 + w01*w12*w13 + w01*w12*w23 + w01*w12*w34 + w01*w13*w23 + w02*w03*w12 + w02*w03*w13 + w02*w12*w13 + w02*w12*w23 + w02*w12*w34 + w02*w13*w23 + w03*w04*w12 + w03*w12*w13 + w03*w12*w23 + w03*w12*w34 + w03*w13*w23 + w04*w12*w13 + w04*w12*w23 + w04*w12*w34 + w04*w13*w23
theorem pp5_124_nn {w01 w02 w03 w04 w12 w13 w14 w23 w24 w34 : Int} (_n01 : 0 ≤ w01) (_n02 : 0 ≤ w02) (_n03 : 0 ≤ w03) (_n04 : 0 ≤ w04) (_n12 : 0 ≤ w12) (_n13 : 0 ≤ w13) (_n14 : 0 ≤ w14) (_n23 : 0 ≤ w23) (_n24 : 0 ≤ w24) (_n34 : 0 ≤ w34) : 0 ≤ pp5_124 w01 w02 w03 w04 w12 w13 w14 w23 w24 w34 := by
  unfold pp5_124
  repeat (first | assumption | apply addN | apply mulN)
theorem pp5_124_id (w01 w02 w03 w04 w12 w13 w14 w23 w24 w34 : Int) : fp5_14 w01 w02 w03 w04 w12 w13 w14 w23 w24 w34 + fp5_24 w01 w02 w03 w04 w12 w13 w14 w23 w24 w34 - fp5_12 w01 w02 w03 w04 w12 w13 w14 w23 w24 w34 = 2 * pp5_124 w01 w02 w03 w04 w12 w13 w14 w23 w24 w34 := by
  unfold pp5_124 fp5_12 fp5_14 fp5_24 rf5_12 rf5_14 rf5_24
  grind

def pp5_130 (_w01 w02 _w03 w04 w12 w13 w14 w23 w24 w34 : Int) : Int := w02*w04*w13 + w02*w13*w14 + w02*w13*w24 + w02*w13*w34 + w02*w14*w34 + w04*w12*w13 + w04*w12*w23 + w04*w13*w23 + w04*w13*w24 + w12*w13*w14 + w12*w13*w24 + w12*w13*w34 + w12*w14*w23 + w12*w14*w34 + w12*w23*w24 + w12*w23*w34 + w12*w24*w34 + w13*w14*w23 + w13*w14*w24 + w13*w23*w24 + w13*w23*w34 + w13*w24*w34 + w14*w23*w24 + w14*w23*w34 + w14*w24*w34
theorem pp5_130_nn {w01 w02 w03 w04 w12 w13 w14 w23 w24 w34 : Int} (_n01 : 0 ≤ w01) (_n02 : 0 ≤ w02) (_n03 : 0 ≤ w03) (_n04 : 0 ≤ w04) (_n12 : 0 ≤ w12) (_n13 : 0 ≤ w13) (_n14 : 0 ≤ w14) (_n23 : 0 ≤ w23) (_n24 : 0 ≤ w24) (_n34 : 0 ≤ w34) : 0 ≤ pp5_130 w01 w02 w03 w04 w12 w13 w14 w23 w24 w34 := by
  unfold pp5_130
  repeat (first | assumption | apply addN | apply mulN)
theorem pp5_130_id (w01 w02 w03 w04 w12 w13 w14 w23 w24 w34 : Int) : fp5_01 w01 w02 w03 w04 w12 w13 w14 w23 w24 w34 + fp5_03 w01 w02 w03 w04 w12 w13 w14 w23 w24 w34 - fp5_13 w01 w02 w03 w04 w12 w13 w14 w23 w24 w34 = 2 * pp5_130 w01 w02 w03 w04 w12 w13 w14 w23 w24 w34 := by
  unfold pp5_130 fp5_01 fp5_03 fp5_13 rf5_01 rf5_03 rf5_13
  grind

def pp5_132 (w01 w02 w03 w04 _w12 w13 w14 _w23 w24 w34 : Int) : Int := w01*w03*w04 + w01*w03*w14 + w01*w03*w24 + w01*w03*w34 + w01*w04*w13 + w01*w04*w34 + w01*w13*w14 + w01*w13*w24 + w01*w13*w34 + w01*w14*w34 + w02*w04*w13 + w02*w13*w14 + w02*w13*w24 + w02*w13*w34 + w02*w14*w34 + w03*w04*w13 + w03*w04*w14 + w03*w13*w14 + w03*w13*w24 + w03*w13*w34 + w03*w14*w34 + w04*w13*w14 + w04*w13*w24 + w04*w13*w34 + w04*w14*w34
theorem pp5_132_nn {w01 w02 w03 w04 w12 w13 w14 w23 w24 w34 : Int} (_n01 : 0 ≤ w01) (_n02 : 0 ≤ w02) (_n03 : 0 ≤ w03) (_n04 : 0 ≤ w04) (_n12 : 0 ≤ w12) (_n13 : 0 ≤ w13) (_n14 : 0 ≤ w14) (_n23 : 0 ≤ w23) (_n24 : 0 ≤ w24) (_n34 : 0 ≤ w34) : 0 ≤ pp5_132 w01 w02 w03 w04 w12 w13 w14 w23 w24 w34 := by
  unfold pp5_132
  repeat (first | assumption | apply addN | apply mulN)
theorem pp5_132_id (w01 w02 w03 w04 w12 w13 w14 w23 w24 w34 : Int) : fp5_12 w01 w02 w03 w04 w12 w13 w14 w23 w24 w34 + fp5_23 w01 w02 w03 w04 w12 w13 w14 w23 w24 w34 - fp5_13 w01 w02 w03 w04 w12 w13 w14 w23 w24 w34 = 2 * pp5_132 w01 w02 w03 w04 w12 w13 w14 w23 w24 w34 := by
  unfold pp5_132 fp5_12 fp5_13 fp5_23 rf5_12 rf5_13 rf5_23
  grind

def pp5_134 (w01 w02 w03 w04 w12 w13 _w14 w23 w24 _w34 : Int) : Int := w01*w02*w03 + w01*w02*w13 + w01*w02*w23 + w01*w03*w12 + w01*w03*w23 + w01*w03*w24 + w01*w12*w13 + w01*w12*w23 + w01*w13*w23 + w01*w13*w24 + w02*w03*w12 + w02*w03*w13 + w02*w04*w13 + w02*w12*w13 + w02*w12*w23 + w02*w13*w23 + w02*w13*w24 + w03*w12*w13 + w03*w12*w23 + w03*w13*w23 + w03*w13*w24 + w04*w12*w13 + w04*w12*w23 + w04*w13*w23 + w04*w13*w24
theorem pp5_134_nn {w01 w02 w03 w04 w12 w13 w14 w23 w24 w34 : Int} (_n01 : 0 ≤ w01) (_n02 : 0 ≤ w02) (_n03 : 0 ≤ w03) (_n04 : 0 ≤ w04) (_n12 : 0 ≤ w12) (_n13 : 0 ≤ w13) (_n14 : 0 ≤ w14) (_n23 : 0 ≤ w23) (_n24 : 0 ≤ w24) (_n34 : 0 ≤ w34) : 0 ≤ pp5_134 w01 w02 w03 w04 w12 w13 w14 w23 w24 w34 := by
  unfold pp5_134
  repeat (first | assumption | apply addN | apply mulN)
theorem pp5_134_id (w01 w02 w03 w04 w12 w13 w14 w23 w24 w34 : Int) : fp5_14 w01 w02 w03 w04 w12 w13 w14 w23 w24 w34 + fp5_34 w01 w02 w03 w04 w12 w13 w14 w23 w24 w34 - fp5_13 w01 w02 w03 w04 w12 w13 w14 w23 w24 w34 = 2 * pp5_134 w01 w02 w03 w04 w12 w13 w14 w23 w24 w34 := by
  unfold pp5_134 fp5_13 fp5_14 fp5_34 rf5_13 rf5_14 rf5_34
  grind

def pp5_140 (_w01 w02 w03 _w04 w12 w13 w14 w23 w24 w34 : Int) : Int := w02*w03*w14 + w02*w13*w14 + w02*w13*w34 + w02*w14*w23 + w02*w14*w34 + w03*w12*w14 + w03*w12*w24 + w03*w14*w23 + w03*w14*w24 + w12*w13*w14 + w12*w13*w24 + w12*w13*w34 + w12*w14*w23 + w12*w14*w34 + w12*w23*w24 + w12*w23*w34 + w12*w24*w34 + w13*w14*w23 + w13*w14*w24 + w13*w23*w24 + w13*w23*w34 + w13*w24*w34 + w14*w23*w24 + w14*w23*w34 + w14*w24*w34
theorem pp5_140_nn {w01 w02 w03 w04 w12 w13 w14 w23 w24 w34 : Int} (_n01 : 0 ≤ w01) (_n02 : 0 ≤ w02) (_n03 : 0 ≤ w03) (_n04 : 0 ≤ w04) (_n12 : 0 ≤ w12) (_n13 : 0 ≤ w13) (_n14 : 0 ≤ w14) (_n23 : 0 ≤ w23) (_n24 : 0 ≤ w24) (_n34 : 0 ≤ w34) : 0 ≤ pp5_140 w01 w02 w03 w04 w12 w13 w14 w23 w24 w34 := by
  unfold pp5_140
  repeat (first | assumption | apply addN | apply mulN)
theorem pp5_140_id (w01 w02 w03 w04 w12 w13 w14 w23 w24 w34 : Int) : fp5_01 w01 w02 w03 w04 w12 w13 w14 w23 w24 w34 + fp5_04 w01 w02 w03 w04 w12 w13 w14 w23 w24 w34 - fp5_14 w01 w02 w03 w04 w12 w13 w14 w23 w24 w34 = 2 * pp5_140 w01 w02 w03 w04 w12 w13 w14 w23 w24 w34 := by
  unfold pp5_140 fp5_01 fp5_04 fp5_14 rf5_01 rf5_04 rf5_14
  grind

def pp5_142 (w01 w02 w03 w04 _w12 w13 w14 w23 _w24 w34 : Int) : Int := w01*w03*w04 + w01*w03*w14 + w01*w03*w34 + w01*w04*w13 + w01*w04*w23 + w01*w04*w34 + w01*w13*w14 + w01*w13*w34 + w01*w14*w23 + w01*w14*w34 + w02*w03*w14 + w02*w13*w14 + w02*w13*w34 + w02*w14*w23 + w02*w14*w34 + w03*w04*w13 + w03*w04*w14 + w03*w13*w14 + w03*w13*w34 + w03*w14*w23 + w03*w14*w34 + w04*w13*w14 + w04*w13*w34 + w04*w14*w23 + w04*w14*w34
theorem pp5_142_nn {w01 w02 w03 w04 w12 w13 w14 w23 w24 w34 : Int} (_n01 : 0 ≤ w01) (_n02 : 0 ≤ w02) (_n03 : 0 ≤ w03) (_n04 : 0 ≤ w04) (_n12 : 0 ≤ w12) (_n13 : 0 ≤ w13) (_n14 : 0 ≤ w14) (_n23 : 0 ≤ w23) (_n24 : 0 ≤ w24) (_n34 : 0 ≤ w34) : 0 ≤ pp5_142 w01 w02 w03 w04 w12 w13 w14 w23 w24 w34 := by
  unfold pp5_142
  repeat (first | assumption | apply addN | apply mulN)
theorem pp5_142_id (w01 w02 w03 w04 w12 w13 w14 w23 w24 w34 : Int) : fp5_12 w01 w02 w03 w04 w12 w13 w14 w23 w24 w34 + fp5_24 w01 w02 w03 w04 w12 w13 w14 w23 w24 w34 - fp5_14 w01 w02 w03 w04 w12 w13 w14 w23 w24 w34 = 2 * pp5_142 w01 w02 w03 w04 w12 w13 w14 w23 w24 w34 := by
  unfold pp5_142 fp5_12 fp5_14 fp5_24 rf5_12 rf5_14 rf5_24
  grind

def pp5_143 (w01 w02 w03 w04 w12 _w13 w14 w23 w24 _w34 : Int) : Int := w01*w02*w04 + w01*w02*w14 + w01*w02*w24 + w01*w04*w12 + w01*w04*w23 + w01*w04*w24 + w01*w12*w14 + w01*w12*w24 + w01*w14*w23 + w01*w14*w24 + w02*w03*w14 + w02*w04*w12 + w02*w04*w14 + w02*w12*w14 + w02*w12*w24 + w02*w14*w23 + w02*w14*w24 + w03*w12*w14 + w03*w12*w24 + w03*w14*w23 + w03*w14*w24 + w04*w12*w14 + w04*w12*w24 + w04*w14*w23 + w04*w14*w24
theorem pp5_143_nn {w01 w02 w03 w04 w12 w13 w14 w23 w24 w34 : Int} (_n01 : 0 ≤ w01) (_n02 : 0 ≤ w02) (_n03 : 0 ≤ w03) (_n04 : 0 ≤ w04) (_n12 : 0 ≤ w12) (_n13 : 0 ≤ w13) (_n14 : 0 ≤ w14) (_n23 : 0 ≤ w23) (_n24 : 0 ≤ w24) (_n34 : 0 ≤ w34) : 0 ≤ pp5_143 w01 w02 w03 w04 w12 w13 w14 w23 w24 w34 := by
  unfold pp5_143
  repeat (first | assumption | apply addN | apply mulN)
theorem pp5_143_id (w01 w02 w03 w04 w12 w13 w14 w23 w24 w34 : Int) : fp5_13 w01 w02 w03 w04 w12 w13 w14 w23 w24 w34 + fp5_34 w01 w02 w03 w04 w12 w13 w14 w23 w24 w34 - fp5_14 w01 w02 w03 w04 w12 w13 w14 w23 w24 w34 = 2 * pp5_143 w01 w02 w03 w04 w12 w13 w14 w23 w24 w34 := by
  unfold pp5_143 fp5_13 fp5_14 fp5_34 rf5_13 rf5_14 rf5_34
  grind

def pp5_230 (w01 _w02 _w03 w04 w12 w13 w14 w23 w24 w34 : Int) : Int := w01*w04*w23 + w01*w14*w23 + w01*w23*w24 + w01*w23*w34 + w01*w24*w34 + w04*w12*w13 + w04*w12*w23 + w04*w13*w23 + w04*w14*w23 + w12*w13*w14 + w12*w13*w24 + w12*w13*w34 + w12*w14*w23 + w12*w14*w34 + w12*w23*w24 + w12*w23*w34 + w12*w24*w34 + w13*w14*w23 + w13*w14*w24 + w13*w23*w24 + w13*w23*w34 + w13*w24*w34 + w14*w23*w24 + w14*w23*w34 + w14*w24*w34
theorem pp5_230_nn {w01 w02 w03 w04 w12 w13 w14 w23 w24 w34 : Int} (_n01 : 0 ≤ w01) (_n02 : 0 ≤ w02) (_n03 : 0 ≤ w03) (_n04 : 0 ≤ w04) (_n12 : 0 ≤ w12) (_n13 : 0 ≤ w13) (_n14 : 0 ≤ w14) (_n23 : 0 ≤ w23) (_n24 : 0 ≤ w24) (_n34 : 0 ≤ w34) : 0 ≤ pp5_230 w01 w02 w03 w04 w12 w13 w14 w23 w24 w34 := by
  unfold pp5_230
  repeat (first | assumption | apply addN | apply mulN)
theorem pp5_230_id (w01 w02 w03 w04 w12 w13 w14 w23 w24 w34 : Int) : fp5_02 w01 w02 w03 w04 w12 w13 w14 w23 w24 w34 + fp5_03 w01 w02 w03 w04 w12 w13 w14 w23 w24 w34 - fp5_23 w01 w02 w03 w04 w12 w13 w14 w23 w24 w34 = 2 * pp5_230 w01 w02 w03 w04 w12 w13 w14 w23 w24 w34 := by
  unfold pp5_230 fp5_02 fp5_03 fp5_23 rf5_02 rf5_03 rf5_23
  grind

def pp5_231 (w01 w02 w03 w04 _w12 _w13 w14 w23 w24 w34 : Int) : Int := w01*w04*w23 + w01*w14*w23 + w01*w23*w24 + w01*w23*w34 + w01*w24*w34 + w02*w03*w04 + w02*w03*w14 + w02*w03*w24 + w02*w03*w34 + w02*w04*w23 + w02*w04*w34 + w02*w14*w23 + w02*w23*w24 + w02*w23*w34 + w02*w24*w34 + w03*w04*w23 + w03*w04*w24 + w03*w14*w23 + w03*w23*w24 + w03*w23*w34 + w03*w24*w34 + w04*w14*w23 + w04*w23*w24 + w04*w23*w34 + w04*w24*w34
theorem pp5_231_nn {w01 w02 w03 w04 w12 w13 w14 w23 w24 w34 : Int} (_n01 : 0 ≤ w01) (_n02 : 0 ≤ w02) (_n03 : 0 ≤ w03) (_n04 : 0 ≤ w04) (_n12 : 0 ≤ w12) (_n13 : 0 ≤ w13) (_n14 : 0 ≤ w14) (_n23 : 0 ≤ w23) (_n24 : 0 ≤ w24) (_n34 : 0 ≤ w34) : 0 ≤ pp5_231 w01 w02 w03 w04 w12 w13 w14 w23 w24 w34 := by
  unfold pp5_231
  repeat (first | assumption | apply addN | apply mulN)
theorem pp5_231_id (w01 w02 w03 w04 w12 w13 w14 w23 w24 w34 : Int) : fp5_12 w01 w02 w03 w04 w12 w13 w14 w23 w24 w34 + fp5_13 w01 w02 w03 w04 w12 w13 w14 w23 w24 w34 - fp5_23 w01 w02 w03 w04 w12 w13 w14 w23 w24 w34 = 2 * pp5_231 w01 w02 w03 w04 w12 w13 w14 w23 w24 w34 := by
  unfold pp5_231 fp5_12 fp5_13 fp5_23 rf5_12 rf5_13 rf5_23
  grind

def pp5_234 (w01 w02 w03 w04 w12 w13 w14 w23 _w24 _w34 : Int) : Int := w01*w02*w03 + w01*w02*w13 + w01*w02*w23 + w01*w03*w12 + w01*w03*w23 + w01*w04*w23 + w01*w12*w13 + w01*w12*w23 + w01*w13*w23 + w01*w14*w23 + w02*w03*w12 + w02*w03*w13 + w02*w03*w14 + w02*w12*w13 + w02*w12*w23 + w02*w13*w23 + w02*w14*w23 + w03*w12*w13 + w03*w12*w23 + w03*w13*w23 + w03*w14*w23 + w04*w12*w13 + w04*w12*w23 + w04*w13*w23 + w04*w14*w23
theorem pp5_234_nn {w01 w02 w03 w04 w12 w13 w14 w23 w24 w34 : Int} (_n01 : 0 ≤ w01) (_n02 : 0 ≤ w02) (_n03 : 0 ≤ w03) (_n04 : 0 ≤ w04) (_n12 : 0 ≤ w12) (_n13 : 0 ≤ w13) (_n14 : 0 ≤ w14) (_n23 : 0 ≤ w23) (_n24 : 0 ≤ w24) (_n34 : 0 ≤ w34) : 0 ≤ pp5_234 w01 w02 w03 w04 w12 w13 w14 w23 w24 w34 := by
  unfold pp5_234
  repeat (first | assumption | apply addN | apply mulN)
theorem pp5_234_id (w01 w02 w03 w04 w12 w13 w14 w23 w24 w34 : Int) : fp5_24 w01 w02 w03 w04 w12 w13 w14 w23 w24 w34 + fp5_34 w01 w02 w03 w04 w12 w13 w14 w23 w24 w34 - fp5_23 w01 w02 w03 w04 w12 w13 w14 w23 w24 w34 = 2 * pp5_234 w01 w02 w03 w04 w12 w13 w14 w23 w24 w34 := by
  unfold pp5_234 fp5_23 fp5_24 fp5_34 rf5_23 rf5_24 rf5_34
  grind

def pp5_240 (w01 _w02 w03 _w04 w12 w13 w14 w23 w24 w34 : Int) : Int := w01*w03*w24 + w01*w13*w24 + w01*w23*w24 + w01*w23*w34 + w01*w24*w34 + w03*w12*w14 + w03*w12*w24 + w03*w13*w24 + w03*w14*w24 + w12*w13*w14 + w12*w13*w24 + w12*w13*w34 + w12*w14*w23 + w12*w14*w34 + w12*w23*w24 + w12*w23*w34 + w12*w24*w34 + w13*w14*w23 + w13*w14*w24 + w13*w23*w24 + w13*w23*w34 + w13*w24*w34 + w14*w23*w24 + w14*w23*w34 + w14*w24*w34
theorem pp5_240_nn {w01 w02 w03 w04 w12 w13 w14 w23 w24 w34 : Int} (_n01 : 0 ≤ w01) (_n02 : 0 ≤ w02) (_n03 : 0 ≤ w03) (_n04 : 0 ≤ w04) (_n12 : 0 ≤ w12) (_n13 : 0 ≤ w13) (_n14 : 0 ≤ w14) (_n23 : 0 ≤ w23) (_n24 : 0 ≤ w24) (_n34 : 0 ≤ w34) : 0 ≤ pp5_240 w01 w02 w03 w04 w12 w13 w14 w23 w24 w34 := by
  unfold pp5_240
  repeat (first | assumption | apply addN | apply mulN)
theorem pp5_240_id (w01 w02 w03 w04 w12 w13 w14 w23 w24 w34 : Int) : fp5_02 w01 w02 w03 w04 w12 w13 w14 w23 w24 w34 + fp5_04 w01 w02 w03 w04 w12 w13 w14 w23 w24 w34 - fp5_24 w01 w02 w03 w04 w12 w13 w14 w23 w24 w34 = 2 * pp5_240 w01 w02 w03 w04 w12 w13 w14 w23 w24 w34 := by
  unfold pp5_240 fp5_02 fp5_04 fp5_24 rf5_02 rf5_04 rf5_24
  grind

def pp5_241 (w01 w02 w03 w04 _w12 w13 _w14 w23 w24 w34 : Int) : Int := w01*w03*w24 + w01*w13*w24 + w01*w23*w24 + w01*w23*w34 + w01*w24*w34 + w02*w03*w04 + w02*w03*w24 + w02*w03*w34 + w02*w04*w13 + w02*w04*w23 + w02*w04*w34 + w02*w13*w24 + w02*w23*w24 + w02*w23*w34 + w02*w24*w34 + w03*w04*w23 + w03*w04*w24 + w03*w13*w24 + w03*w23*w24 + w03*w23*w34 + w03*w24*w34 + w04*w13*w24 + w04*w23*w24 + w04*w23*w34 + w04*w24*w34
theorem pp5_241_nn {w01 w02 w03 w04 w12 w13 w14 w23 w24 w34 : Int} (_n01 : 0 ≤ w01) (_n02 : 0 ≤ w02) (_n03 : 0 ≤ w03) (_n04 : 0 ≤ w04) (_n12 : 0 ≤ w12) (_n13 : 0 ≤ w13) (_n14 : 0 ≤ w14) (_n23 : 0 ≤ w23) (_n24 : 0 ≤ w24) (_n34 : 0 ≤ w34) : 0 ≤ pp5_241 w01 w02 w03 w04 w12 w13 w14 w23 w24 w34 := by
  unfold pp5_241
  repeat (first | assumption | apply addN | apply mulN)
theorem pp5_241_id (w01 w02 w03 w04 w12 w13 w14 w23 w24 w34 : Int) : fp5_12 w01 w02 w03 w04 w12 w13 w14 w23 w24 w34 + fp5_14 w01 w02 w03 w04 w12 w13 w14 w23 w24 w34 - fp5_24 w01 w02 w03 w04 w12 w13 w14 w23 w24 w34 = 2 * pp5_241 w01 w02 w03 w04 w12 w13 w14 w23 w24 w34 := by
  unfold pp5_241 fp5_12 fp5_14 fp5_24 rf5_12 rf5_14 rf5_24
  grind

def pp5_243 (w01 w02 w03 w04 w12 w13 w14 _w23 w24 _w34 : Int) : Int := w01*w02*w04 + w01*w02*w14 + w01*w02*w24 + w01*w03*w24 + w01*w04*w12 + w01*w04*w24 + w01*w12*w14 + w01*w12*w24 + w01*w13*w24 + w01*w14*w24 + w02*w04*w12 + w02*w04*w13 + w02*w04*w14 + w02*w12*w14 + w02*w12*w24 + w02*w13*w24 + w02*w14*w24 + w03*w12*w14 + w03*w12*w24 + w03*w13*w24 + w03*w14*w24 + w04*w12*w14 + w04*w12*w24 + w04*w13*w24 + w04*w14*w24
theorem pp5_243_nn {w01 w02 w03 w04 w12 w13 w14 w23 w24 w34 : Int} (_n01 : 0 ≤ w01) (_n02 : 0 ≤ w02) (_n03 : 0 ≤ w03) (_n04 : 0 ≤ w04) (_n12 : 0 ≤ w12) (_n13 : 0 ≤ w13) (_n14 : 0 ≤ w14) (_n23 : 0 ≤ w23) (_n24 : 0 ≤ w24) (_n34 : 0 ≤ w34) : 0 ≤ pp5_243 w01 w02 w03 w04 w12 w13 w14 w23 w24 w34 := by
  unfold pp5_243
  repeat (first | assumption | apply addN | apply mulN)
theorem pp5_243_id (w01 w02 w03 w04 w12 w13 w14 w23 w24 w34 : Int) : fp5_23 w01 w02 w03 w04 w12 w13 w14 w23 w24 w34 + fp5_34 w01 w02 w03 w04 w12 w13 w14 w23 w24 w34 - fp5_24 w01 w02 w03 w04 w12 w13 w14 w23 w24 w34 = 2 * pp5_243 w01 w02 w03 w04 w12 w13 w14 w23 w24 w34 := by
  unfold pp5_243 fp5_23 fp5_24 fp5_34 rf5_23 rf5_24 rf5_34
  grind

def pp5_340 (w01 w02 _w03 _w04 w12 w13 w14 w23 w24 w34 : Int) : Int := w01*w02*w34 + w01*w12*w34 + w01*w23*w24 + w01*w23*w34 + w01*w24*w34 + w02*w12*w34 + w02*w13*w14 + w02*w13*w34 + w02*w14*w34 + w12*w13*w14 + w12*w13*w24 + w12*w13*w34 + w12*w14*w23 + w12*w14*w34 + w12*w23*w24 + w12*w23*w34 + w12*w24*w34 + w13*w14*w23 + w13*w14*w24 + w13*w23*w24 + w13*w23*w34 + w13*w24*w34 + w14*w23*w24 + w14*w23*w34 + w14*w24*w34
theorem pp5_340_nn {w01 w02 w03 w04 w12 w13 w14 w23 w24 w34 : Int} (_n01 : 0 ≤ w01) (_n02 : 0 ≤ w02) (_n03 : 0 ≤ w03) (_n04 : 0 ≤ w04) (_n12 : 0 ≤ w12) (_n13 : 0 ≤ w13) (_n14 : 0 ≤ w14) (_n23 : 0 ≤ w23) (_n24 : 0 ≤ w24) (_n34 : 0 ≤ w34) : 0 ≤ pp5_340 w01 w02 w03 w04 w12 w13 w14 w23 w24 w34 := by
  unfold pp5_340
  repeat (first | assumption | apply addN | apply mulN)
theorem pp5_340_id (w01 w02 w03 w04 w12 w13 w14 w23 w24 w34 : Int) : fp5_03 w01 w02 w03 w04 w12 w13 w14 w23 w24 w34 + fp5_04 w01 w02 w03 w04 w12 w13 w14 w23 w24 w34 - fp5_34 w01 w02 w03 w04 w12 w13 w14 w23 w24 w34 = 2 * pp5_340 w01 w02 w03 w04 w12 w13 w14 w23 w24 w34 := by
  unfold pp5_340 fp5_03 fp5_04 fp5_34 rf5_03 rf5_04 rf5_34
  grind

def pp5_341 (w01 w02 w03 w04 w12 _w13 _w14 w23 w24 w34 : Int) : Int := w01*w02*w34 + w01*w12*w34 + w01*w23*w24 + w01*w23*w34 + w01*w24*w34 + w02*w03*w04 + w02*w03*w24 + w02*w03*w34 + w02*w04*w23 + w02*w04*w34 + w02*w12*w34 + w02*w23*w24 + w02*w23*w34 + w02*w24*w34 + w03*w04*w12 + w03*w04*w23 + w03*w04*w24 + w03*w12*w34 + w03*w23*w24 + w03*w23*w34 + w03*w24*w34 + w04*w12*w34 + w04*w23*w24 + w04*w23*w34 + w04*w24*w34
theorem pp5_341_nn {w01 w02 w03 w04 w12 w13 w14 w23 w24 w34 : Int} (_n01 : 0 ≤ w01) (_n02 : 0 ≤ w02) (_n03 : 0 ≤ w03) (_n04 : 0 ≤ w04) (_n12 : 0 ≤ w12) (_n13 : 0 ≤ w13) (_n14 : 0 ≤ w14) (_n23 : 0 ≤ w23) (_n24 : 0 ≤ w24) (_n34 : 0 ≤ w34) : 0 ≤ pp5_341 w01 w02 w03 w04 w12 w13 w14 w23 w24 w34 := by
  unfold pp5_341
  repeat (first | assumption | apply addN | apply mulN)
theorem pp5_341_id (w01 w02 w03 w04 w12 w13 w14 w23 w24 w34 : Int) : fp5_13 w01 w02 w03 w04 w12 w13 w14 w23 w24 w34 + fp5_14 w01 w02 w03 w04 w12 w13 w14 w23 w24 w34 - fp5_34 w01 w02 w03 w04 w12 w13 w14 w23 w24 w34 = 2 * pp5_341 w01 w02 w03 w04 w12 w13 w14 w23 w24 w34 := by
  unfold pp5_341 fp5_13 fp5_14 fp5_34 rf5_13 rf5_14 rf5_34
  grind

def pp5_342 (w01 w02 w03 w04 w12 w13 w14 _w23 _w24 w34 : Int) : Int := w01*w02*w34 + w01*w03*w04 + w01*w03*w14 + w01*w03*w34 + w01*w04*w13 + w01*w04*w34 + w01*w12*w34 + w01*w13*w14 + w01*w13*w34 + w01*w14*w34 + w02*w12*w34 + w02*w13*w14 + w02*w13*w34 + w02*w14*w34 + w03*w04*w12 + w03*w04*w13 + w03*w04*w14 + w03*w12*w34 + w03*w13*w14 + w03*w13*w34 + w03*w14*w34 + w04*w12*w34 + w04*w13*w14 + w04*w13*w34 + w04*w14*w34
theorem pp5_342_nn {w01 w02 w03 w04 w12 w13 w14 w23 w24 w34 : Int} (_n01 : 0 ≤ w01) (_n02 : 0 ≤ w02) (_n03 : 0 ≤ w03) (_n04 : 0 ≤ w04) (_n12 : 0 ≤ w12) (_n13 : 0 ≤ w13) (_n14 : 0 ≤ w14) (_n23 : 0 ≤ w23) (_n24 : 0 ≤ w24) (_n34 : 0 ≤ w34) : 0 ≤ pp5_342 w01 w02 w03 w04 w12 w13 w14 w23 w24 w34 := by
  unfold pp5_342
  repeat (first | assumption | apply addN | apply mulN)
theorem pp5_342_id (w01 w02 w03 w04 w12 w13 w14 w23 w24 w34 : Int) : fp5_23 w01 w02 w03 w04 w12 w13 w14 w23 w24 w34 + fp5_24 w01 w02 w03 w04 w12 w13 w14 w23 w24 w34 - fp5_34 w01 w02 w03 w04 w12 w13 w14 w23 w24 w34 = 2 * pp5_342 w01 w02 w03 w04 w12 w13 w14 w23 w24 w34 := by
  unfold pp5_342 fp5_23 fp5_24 fp5_34 rf5_23 rf5_24 rf5_34
  grind

theorem kir5_01 (w01 w02 w03 w04 w12 w13 w14 w23 w24 w34 : Int) : w01*(fp5_01 w01 w02 w03 w04 w12 w13 w14 w23 w24 w34 + fp5_01 w01 w02 w03 w04 w12 w13 w14 w23 w24 w34) + w02*(fp5_01 w01 w02 w03 w04 w12 w13 w14 w23 w24 w34 - fp5_12 w01 w02 w03 w04 w12 w13 w14 w23 w24 w34 + fp5_02 w01 w02 w03 w04 w12 w13 w14 w23 w24 w34) + w03*(fp5_01 w01 w02 w03 w04 w12 w13 w14 w23 w24 w34 - fp5_13 w01 w02 w03 w04 w12 w13 w14 w23 w24 w34 + fp5_03 w01 w02 w03 w04 w12 w13 w14 w23 w24 w34) + w04*(fp5_01 w01 w02 w03 w04 w12 w13 w14 w23 w24 w34 - fp5_14 w01 w02 w03 w04 w12 w13 w14 w23 w24 w34 + fp5_04 w01 w02 w03 w04 w12 w13 w14 w23 w24 w34) = 2 * tp5 w01 w02 w03 w04 w12 w13 w14 w23 w24 w34 := by
  unfold tp5 rt5 fp5_01 fp5_02 fp5_03 fp5_04 fp5_12 fp5_13 fp5_14 rf5_01 rf5_02 rf5_03 rf5_04 rf5_12 rf5_13 rf5_14
  grind

theorem kir5_02 (w01 w02 w03 w04 w12 w13 w14 w23 w24 w34 : Int) : w01*(fp5_02 w01 w02 w03 w04 w12 w13 w14 w23 w24 w34 - fp5_12 w01 w02 w03 w04 w12 w13 w14 w23 w24 w34 + fp5_01 w01 w02 w03 w04 w12 w13 w14 w23 w24 w34) + w02*(fp5_02 w01 w02 w03 w04 w12 w13 w14 w23 w24 w34 + fp5_02 w01 w02 w03 w04 w12 w13 w14 w23 w24 w34) + w03*(fp5_02 w01 w02 w03 w04 w12 w13 w14 w23 w24 w34 - fp5_23 w01 w02 w03 w04 w12 w13 w14 w23 w24 w34 + fp5_03 w01 w02 w03 w04 w12 w13 w14 w23 w24 w34) + w04*(fp5_02 w01 w02 w03 w04 w12 w13 w14 w23 w24 w34 - fp5_24 w01 w02 w03 w04 w12 w13 w14 w23 w24 w34 + fp5_04 w01 w02 w03 w04 w12 w13 w14 w23 w24 w34) = 2 * tp5 w01 w02 w03 w04 w12 w13 w14 w23 w24 w34 := by
  unfold tp5 rt5 fp5_01 fp5_02 fp5_03 fp5_04 fp5_12 fp5_23 fp5_24 rf5_01 rf5_02 rf5_03 rf5_04 rf5_12 rf5_23 rf5_24
  grind

theorem kir5_03 (w01 w02 w03 w04 w12 w13 w14 w23 w24 w34 : Int) : w01*(fp5_03 w01 w02 w03 w04 w12 w13 w14 w23 w24 w34 - fp5_13 w01 w02 w03 w04 w12 w13 w14 w23 w24 w34 + fp5_01 w01 w02 w03 w04 w12 w13 w14 w23 w24 w34) + w02*(fp5_03 w01 w02 w03 w04 w12 w13 w14 w23 w24 w34 - fp5_23 w01 w02 w03 w04 w12 w13 w14 w23 w24 w34 + fp5_02 w01 w02 w03 w04 w12 w13 w14 w23 w24 w34) + w03*(fp5_03 w01 w02 w03 w04 w12 w13 w14 w23 w24 w34 + fp5_03 w01 w02 w03 w04 w12 w13 w14 w23 w24 w34) + w04*(fp5_03 w01 w02 w03 w04 w12 w13 w14 w23 w24 w34 - fp5_34 w01 w02 w03 w04 w12 w13 w14 w23 w24 w34 + fp5_04 w01 w02 w03 w04 w12 w13 w14 w23 w24 w34) = 2 * tp5 w01 w02 w03 w04 w12 w13 w14 w23 w24 w34 := by
  unfold tp5 rt5 fp5_01 fp5_02 fp5_03 fp5_04 fp5_13 fp5_23 fp5_34 rf5_01 rf5_02 rf5_03 rf5_04 rf5_13 rf5_23 rf5_34
  grind

theorem kir5_04 (w01 w02 w03 w04 w12 w13 w14 w23 w24 w34 : Int) : w01*(fp5_04 w01 w02 w03 w04 w12 w13 w14 w23 w24 w34 - fp5_14 w01 w02 w03 w04 w12 w13 w14 w23 w24 w34 + fp5_01 w01 w02 w03 w04 w12 w13 w14 w23 w24 w34) + w02*(fp5_04 w01 w02 w03 w04 w12 w13 w14 w23 w24 w34 - fp5_24 w01 w02 w03 w04 w12 w13 w14 w23 w24 w34 + fp5_02 w01 w02 w03 w04 w12 w13 w14 w23 w24 w34) + w03*(fp5_04 w01 w02 w03 w04 w12 w13 w14 w23 w24 w34 - fp5_34 w01 w02 w03 w04 w12 w13 w14 w23 w24 w34 + fp5_03 w01 w02 w03 w04 w12 w13 w14 w23 w24 w34) + w04*(fp5_04 w01 w02 w03 w04 w12 w13 w14 w23 w24 w34 + fp5_04 w01 w02 w03 w04 w12 w13 w14 w23 w24 w34) = 2 * tp5 w01 w02 w03 w04 w12 w13 w14 w23 w24 w34 := by
  unfold tp5 rt5 fp5_01 fp5_02 fp5_03 fp5_04 fp5_14 fp5_24 fp5_34 rf5_01 rf5_02 rf5_03 rf5_04 rf5_14 rf5_24 rf5_34
  grind

theorem kir5_10 (w01 w02 w03 w04 w12 w13 w14 w23 w24 w34 : Int) : w01*(fp5_01 w01 w02 w03 w04 w12 w13 w14 w23 w24 w34 + fp5_01 w01 w02 w03 w04 w12 w13 w14 w23 w24 w34) + w12*(fp5_01 w01 w02 w03 w04 w12 w13 w14 w23 w24 w34 - fp5_02 w01 w02 w03 w04 w12 w13 w14 w23 w24 w34 + fp5_12 w01 w02 w03 w04 w12 w13 w14 w23 w24 w34) + w13*(fp5_01 w01 w02 w03 w04 w12 w13 w14 w23 w24 w34 - fp5_03 w01 w02 w03 w04 w12 w13 w14 w23 w24 w34 + fp5_13 w01 w02 w03 w04 w12 w13 w14 w23 w24 w34) + w14*(fp5_01 w01 w02 w03 w04 w12 w13 w14 w23 w24 w34 - fp5_04 w01 w02 w03 w04 w12 w13 w14 w23 w24 w34 + fp5_14 w01 w02 w03 w04 w12 w13 w14 w23 w24 w34) = 2 * tp5 w01 w02 w03 w04 w12 w13 w14 w23 w24 w34 := by
  unfold tp5 rt5 fp5_01 fp5_02 fp5_03 fp5_04 fp5_12 fp5_13 fp5_14 rf5_01 rf5_02 rf5_03 rf5_04 rf5_12 rf5_13 rf5_14
  grind

theorem kir5_12 (w01 w02 w03 w04 w12 w13 w14 w23 w24 w34 : Int) : w01*(fp5_12 w01 w02 w03 w04 w12 w13 w14 w23 w24 w34 - fp5_02 w01 w02 w03 w04 w12 w13 w14 w23 w24 w34 + fp5_01 w01 w02 w03 w04 w12 w13 w14 w23 w24 w34) + w12*(fp5_12 w01 w02 w03 w04 w12 w13 w14 w23 w24 w34 + fp5_12 w01 w02 w03 w04 w12 w13 w14 w23 w24 w34) + w13*(fp5_12 w01 w02 w03 w04 w12 w13 w14 w23 w24 w34 - fp5_23 w01 w02 w03 w04 w12 w13 w14 w23 w24 w34 + fp5_13 w01 w02 w03 w04 w12 w13 w14 w23 w24 w34) + w14*(fp5_12 w01 w02 w03 w04 w12 w13 w14 w23 w24 w34 - fp5_24 w01 w02 w03 w04 w12 w13 w14 w23 w24 w34 + fp5_14 w01 w02 w03 w04 w12 w13 w14 w23 w24 w34) = 2 * tp5 w01 w02 w03 w04 w12 w13 w14 w23 w24 w34 := by
  unfold tp5 rt5 fp5_01 fp5_02 fp5_12 fp5_13 fp5_14 fp5_23 fp5_24 rf5_01 rf5_02 rf5_12 rf5_13 rf5_14 rf5_23 rf5_24
  grind

theorem kir5_13 (w01 w02 w03 w04 w12 w13 w14 w23 w24 w34 : Int) : w01*(fp5_13 w01 w02 w03 w04 w12 w13 w14 w23 w24 w34 - fp5_03 w01 w02 w03 w04 w12 w13 w14 w23 w24 w34 + fp5_01 w01 w02 w03 w04 w12 w13 w14 w23 w24 w34) + w12*(fp5_13 w01 w02 w03 w04 w12 w13 w14 w23 w24 w34 - fp5_23 w01 w02 w03 w04 w12 w13 w14 w23 w24 w34 + fp5_12 w01 w02 w03 w04 w12 w13 w14 w23 w24 w34) + w13*(fp5_13 w01 w02 w03 w04 w12 w13 w14 w23 w24 w34 + fp5_13 w01 w02 w03 w04 w12 w13 w14 w23 w24 w34) + w14*(fp5_13 w01 w02 w03 w04 w12 w13 w14 w23 w24 w34 - fp5_34 w01 w02 w03 w04 w12 w13 w14 w23 w24 w34 + fp5_14 w01 w02 w03 w04 w12 w13 w14 w23 w24 w34) = 2 * tp5 w01 w02 w03 w04 w12 w13 w14 w23 w24 w34 := by
  unfold tp5 rt5 fp5_01 fp5_03 fp5_12 fp5_13 fp5_14 fp5_23 fp5_34 rf5_01 rf5_03 rf5_12 rf5_13 rf5_14 rf5_23 rf5_34
  grind

theorem kir5_14 (w01 w02 w03 w04 w12 w13 w14 w23 w24 w34 : Int) : w01*(fp5_14 w01 w02 w03 w04 w12 w13 w14 w23 w24 w34 - fp5_04 w01 w02 w03 w04 w12 w13 w14 w23 w24 w34 + fp5_01 w01 w02 w03 w04 w12 w13 w14 w23 w24 w34) + w12*(fp5_14 w01 w02 w03 w04 w12 w13 w14 w23 w24 w34 - fp5_24 w01 w02 w03 w04 w12 w13 w14 w23 w24 w34 + fp5_12 w01 w02 w03 w04 w12 w13 w14 w23 w24 w34) + w13*(fp5_14 w01 w02 w03 w04 w12 w13 w14 w23 w24 w34 - fp5_34 w01 w02 w03 w04 w12 w13 w14 w23 w24 w34 + fp5_13 w01 w02 w03 w04 w12 w13 w14 w23 w24 w34) + w14*(fp5_14 w01 w02 w03 w04 w12 w13 w14 w23 w24 w34 + fp5_14 w01 w02 w03 w04 w12 w13 w14 w23 w24 w34) = 2 * tp5 w01 w02 w03 w04 w12 w13 w14 w23 w24 w34 := by
  unfold tp5 rt5 fp5_01 fp5_04 fp5_12 fp5_13 fp5_14 fp5_24 fp5_34 rf5_01 rf5_04 rf5_12 rf5_13 rf5_14 rf5_24 rf5_34
  grind

theorem kir5_20 (w01 w02 w03 w04 w12 w13 w14 w23 w24 w34 : Int) : w02*(fp5_02 w01 w02 w03 w04 w12 w13 w14 w23 w24 w34 + fp5_02 w01 w02 w03 w04 w12 w13 w14 w23 w24 w34) + w12*(fp5_02 w01 w02 w03 w04 w12 w13 w14 w23 w24 w34 - fp5_01 w01 w02 w03 w04 w12 w13 w14 w23 w24 w34 + fp5_12 w01 w02 w03 w04 w12 w13 w14 w23 w24 w34) + w23*(fp5_02 w01 w02 w03 w04 w12 w13 w14 w23 w24 w34 - fp5_03 w01 w02 w03 w04 w12 w13 w14 w23 w24 w34 + fp5_23 w01 w02 w03 w04 w12 w13 w14 w23 w24 w34) + w24*(fp5_02 w01 w02 w03 w04 w12 w13 w14 w23 w24 w34 - fp5_04 w01 w02 w03 w04 w12 w13 w14 w23 w24 w34 + fp5_24 w01 w02 w03 w04 w12 w13 w14 w23 w24 w34) = 2 * tp5 w01 w02 w03 w04 w12 w13 w14 w23 w24 w34 := by
  unfold tp5 rt5 fp5_01 fp5_02 fp5_03 fp5_04 fp5_12 fp5_23 fp5_24 rf5_01 rf5_02 rf5_03 rf5_04 rf5_12 rf5_23 rf5_24
  grind

theorem kir5_21 (w01 w02 w03 w04 w12 w13 w14 w23 w24 w34 : Int) : w02*(fp5_12 w01 w02 w03 w04 w12 w13 w14 w23 w24 w34 - fp5_01 w01 w02 w03 w04 w12 w13 w14 w23 w24 w34 + fp5_02 w01 w02 w03 w04 w12 w13 w14 w23 w24 w34) + w12*(fp5_12 w01 w02 w03 w04 w12 w13 w14 w23 w24 w34 + fp5_12 w01 w02 w03 w04 w12 w13 w14 w23 w24 w34) + w23*(fp5_12 w01 w02 w03 w04 w12 w13 w14 w23 w24 w34 - fp5_13 w01 w02 w03 w04 w12 w13 w14 w23 w24 w34 + fp5_23 w01 w02 w03 w04 w12 w13 w14 w23 w24 w34) + w24*(fp5_12 w01 w02 w03 w04 w12 w13 w14 w23 w24 w34 - fp5_14 w01 w02 w03 w04 w12 w13 w14 w23 w24 w34 + fp5_24 w01 w02 w03 w04 w12 w13 w14 w23 w24 w34) = 2 * tp5 w01 w02 w03 w04 w12 w13 w14 w23 w24 w34 := by
  unfold tp5 rt5 fp5_01 fp5_02 fp5_12 fp5_13 fp5_14 fp5_23 fp5_24 rf5_01 rf5_02 rf5_12 rf5_13 rf5_14 rf5_23 rf5_24
  grind

theorem kir5_23 (w01 w02 w03 w04 w12 w13 w14 w23 w24 w34 : Int) : w02*(fp5_23 w01 w02 w03 w04 w12 w13 w14 w23 w24 w34 - fp5_03 w01 w02 w03 w04 w12 w13 w14 w23 w24 w34 + fp5_02 w01 w02 w03 w04 w12 w13 w14 w23 w24 w34) + w12*(fp5_23 w01 w02 w03 w04 w12 w13 w14 w23 w24 w34 - fp5_13 w01 w02 w03 w04 w12 w13 w14 w23 w24 w34 + fp5_12 w01 w02 w03 w04 w12 w13 w14 w23 w24 w34) + w23*(fp5_23 w01 w02 w03 w04 w12 w13 w14 w23 w24 w34 + fp5_23 w01 w02 w03 w04 w12 w13 w14 w23 w24 w34) + w24*(fp5_23 w01 w02 w03 w04 w12 w13 w14 w23 w24 w34 - fp5_34 w01 w02 w03 w04 w12 w13 w14 w23 w24 w34 + fp5_24 w01 w02 w03 w04 w12 w13 w14 w23 w24 w34) = 2 * tp5 w01 w02 w03 w04 w12 w13 w14 w23 w24 w34 := by
  unfold tp5 rt5 fp5_02 fp5_03 fp5_12 fp5_13 fp5_23 fp5_24 fp5_34 rf5_02 rf5_03 rf5_12 rf5_13 rf5_23 rf5_24 rf5_34
  grind

theorem kir5_24 (w01 w02 w03 w04 w12 w13 w14 w23 w24 w34 : Int) : w02*(fp5_24 w01 w02 w03 w04 w12 w13 w14 w23 w24 w34 - fp5_04 w01 w02 w03 w04 w12 w13 w14 w23 w24 w34 + fp5_02 w01 w02 w03 w04 w12 w13 w14 w23 w24 w34) + w12*(fp5_24 w01 w02 w03 w04 w12 w13 w14 w23 w24 w34 - fp5_14 w01 w02 w03 w04 w12 w13 w14 w23 w24 w34 + fp5_12 w01 w02 w03 w04 w12 w13 w14 w23 w24 w34) + w23*(fp5_24 w01 w02 w03 w04 w12 w13 w14 w23 w24 w34 - fp5_34 w01 w02 w03 w04 w12 w13 w14 w23 w24 w34 + fp5_23 w01 w02 w03 w04 w12 w13 w14 w23 w24 w34) + w24*(fp5_24 w01 w02 w03 w04 w12 w13 w14 w23 w24 w34 + fp5_24 w01 w02 w03 w04 w12 w13 w14 w23 w24 w34) = 2 * tp5 w01 w02 w03 w04 w12 w13 w14 w23 w24 w34 := by
  unfold tp5 rt5 fp5_02 fp5_04 fp5_12 fp5_14 fp5_23 fp5_24 fp5_34 rf5_02 rf5_04 rf5_12 rf5_14 rf5_23 rf5_24 rf5_34
  grind

theorem kir5_30 (w01 w02 w03 w04 w12 w13 w14 w23 w24 w34 : Int) : w03*(fp5_03 w01 w02 w03 w04 w12 w13 w14 w23 w24 w34 + fp5_03 w01 w02 w03 w04 w12 w13 w14 w23 w24 w34) + w13*(fp5_03 w01 w02 w03 w04 w12 w13 w14 w23 w24 w34 - fp5_01 w01 w02 w03 w04 w12 w13 w14 w23 w24 w34 + fp5_13 w01 w02 w03 w04 w12 w13 w14 w23 w24 w34) + w23*(fp5_03 w01 w02 w03 w04 w12 w13 w14 w23 w24 w34 - fp5_02 w01 w02 w03 w04 w12 w13 w14 w23 w24 w34 + fp5_23 w01 w02 w03 w04 w12 w13 w14 w23 w24 w34) + w34*(fp5_03 w01 w02 w03 w04 w12 w13 w14 w23 w24 w34 - fp5_04 w01 w02 w03 w04 w12 w13 w14 w23 w24 w34 + fp5_34 w01 w02 w03 w04 w12 w13 w14 w23 w24 w34) = 2 * tp5 w01 w02 w03 w04 w12 w13 w14 w23 w24 w34 := by
  unfold tp5 rt5 fp5_01 fp5_02 fp5_03 fp5_04 fp5_13 fp5_23 fp5_34 rf5_01 rf5_02 rf5_03 rf5_04 rf5_13 rf5_23 rf5_34
  grind

theorem kir5_31 (w01 w02 w03 w04 w12 w13 w14 w23 w24 w34 : Int) : w03*(fp5_13 w01 w02 w03 w04 w12 w13 w14 w23 w24 w34 - fp5_01 w01 w02 w03 w04 w12 w13 w14 w23 w24 w34 + fp5_03 w01 w02 w03 w04 w12 w13 w14 w23 w24 w34) + w13*(fp5_13 w01 w02 w03 w04 w12 w13 w14 w23 w24 w34 + fp5_13 w01 w02 w03 w04 w12 w13 w14 w23 w24 w34) + w23*(fp5_13 w01 w02 w03 w04 w12 w13 w14 w23 w24 w34 - fp5_12 w01 w02 w03 w04 w12 w13 w14 w23 w24 w34 + fp5_23 w01 w02 w03 w04 w12 w13 w14 w23 w24 w34) + w34*(fp5_13 w01 w02 w03 w04 w12 w13 w14 w23 w24 w34 - fp5_14 w01 w02 w03 w04 w12 w13 w14 w23 w24 w34 + fp5_34 w01 w02 w03 w04 w12 w13 w14 w23 w24 w34) = 2 * tp5 w01 w02 w03 w04 w12 w13 w14 w23 w24 w34 := by
  unfold tp5 rt5 fp5_01 fp5_03 fp5_12 fp5_13 fp5_14 fp5_23 fp5_34 rf5_01 rf5_03 rf5_12 rf5_13 rf5_14 rf5_23 rf5_34
  grind

theorem kir5_32 (w01 w02 w03 w04 w12 w13 w14 w23 w24 w34 : Int) : w03*(fp5_23 w01 w02 w03 w04 w12 w13 w14 w23 w24 w34 - fp5_02 w01 w02 w03 w04 w12 w13 w14 w23 w24 w34 + fp5_03 w01 w02 w03 w04 w12 w13 w14 w23 w24 w34) + w13*(fp5_23 w01 w02 w03 w04 w12 w13 w14 w23 w24 w34 - fp5_12 w01 w02 w03 w04 w12 w13 w14 w23 w24 w34 + fp5_13 w01 w02 w03 w04 w12 w13 w14 w23 w24 w34) + w23*(fp5_23 w01 w02 w03 w04 w12 w13 w14 w23 w24 w34 + fp5_23 w01 w02 w03 w04 w12 w13 w14 w23 w24 w34) + w34*(fp5_23 w01 w02 w03 w04 w12 w13 w14 w23 w24 w34 - fp5_24 w01 w02 w03 w04 w12 w13 w14 w23 w24 w34 + fp5_34 w01 w02 w03 w04 w12 w13 w14 w23 w24 w34) = 2 * tp5 w01 w02 w03 w04 w12 w13 w14 w23 w24 w34 := by
  unfold tp5 rt5 fp5_02 fp5_03 fp5_12 fp5_13 fp5_23 fp5_24 fp5_34 rf5_02 rf5_03 rf5_12 rf5_13 rf5_23 rf5_24 rf5_34
  grind

theorem kir5_34 (w01 w02 w03 w04 w12 w13 w14 w23 w24 w34 : Int) : w03*(fp5_34 w01 w02 w03 w04 w12 w13 w14 w23 w24 w34 - fp5_04 w01 w02 w03 w04 w12 w13 w14 w23 w24 w34 + fp5_03 w01 w02 w03 w04 w12 w13 w14 w23 w24 w34) + w13*(fp5_34 w01 w02 w03 w04 w12 w13 w14 w23 w24 w34 - fp5_14 w01 w02 w03 w04 w12 w13 w14 w23 w24 w34 + fp5_13 w01 w02 w03 w04 w12 w13 w14 w23 w24 w34) + w23*(fp5_34 w01 w02 w03 w04 w12 w13 w14 w23 w24 w34 - fp5_24 w01 w02 w03 w04 w12 w13 w14 w23 w24 w34 + fp5_23 w01 w02 w03 w04 w12 w13 w14 w23 w24 w34) + w34*(fp5_34 w01 w02 w03 w04 w12 w13 w14 w23 w24 w34 + fp5_34 w01 w02 w03 w04 w12 w13 w14 w23 w24 w34) = 2 * tp5 w01 w02 w03 w04 w12 w13 w14 w23 w24 w34 := by
  unfold tp5 rt5 fp5_03 fp5_04 fp5_13 fp5_14 fp5_23 fp5_24 fp5_34 rf5_03 rf5_04 rf5_13 rf5_14 rf5_23 rf5_24 rf5_34
  grind

theorem kir5_40 (w01 w02 w03 w04 w12 w13 w14 w23 w24 w34 : Int) : w04*(fp5_04 w01 w02 w03 w04 w12 w13 w14 w23 w24 w34 + fp5_04 w01 w02 w03 w04 w12 w13 w14 w23 w24 w34) + w14*(fp5_04 w01 w02 w03 w04 w12 w13 w14 w23 w24 w34 - fp5_01 w01 w02 w03 w04 w12 w13 w14 w23 w24 w34 + fp5_14 w01 w02 w03 w04 w12 w13 w14 w23 w24 w34) + w24*(fp5_04 w01 w02 w03 w04 w12 w13 w14 w23 w24 w34 - fp5_02 w01 w02 w03 w04 w12 w13 w14 w23 w24 w34 + fp5_24 w01 w02 w03 w04 w12 w13 w14 w23 w24 w34) + w34*(fp5_04 w01 w02 w03 w04 w12 w13 w14 w23 w24 w34 - fp5_03 w01 w02 w03 w04 w12 w13 w14 w23 w24 w34 + fp5_34 w01 w02 w03 w04 w12 w13 w14 w23 w24 w34) = 2 * tp5 w01 w02 w03 w04 w12 w13 w14 w23 w24 w34 := by
  unfold tp5 rt5 fp5_01 fp5_02 fp5_03 fp5_04 fp5_14 fp5_24 fp5_34 rf5_01 rf5_02 rf5_03 rf5_04 rf5_14 rf5_24 rf5_34
  grind

theorem kir5_41 (w01 w02 w03 w04 w12 w13 w14 w23 w24 w34 : Int) : w04*(fp5_14 w01 w02 w03 w04 w12 w13 w14 w23 w24 w34 - fp5_01 w01 w02 w03 w04 w12 w13 w14 w23 w24 w34 + fp5_04 w01 w02 w03 w04 w12 w13 w14 w23 w24 w34) + w14*(fp5_14 w01 w02 w03 w04 w12 w13 w14 w23 w24 w34 + fp5_14 w01 w02 w03 w04 w12 w13 w14 w23 w24 w34) + w24*(fp5_14 w01 w02 w03 w04 w12 w13 w14 w23 w24 w34 - fp5_12 w01 w02 w03 w04 w12 w13 w14 w23 w24 w34 + fp5_24 w01 w02 w03 w04 w12 w13 w14 w23 w24 w34) + w34*(fp5_14 w01 w02 w03 w04 w12 w13 w14 w23 w24 w34 - fp5_13 w01 w02 w03 w04 w12 w13 w14 w23 w24 w34 + fp5_34 w01 w02 w03 w04 w12 w13 w14 w23 w24 w34) = 2 * tp5 w01 w02 w03 w04 w12 w13 w14 w23 w24 w34 := by
  unfold tp5 rt5 fp5_01 fp5_04 fp5_12 fp5_13 fp5_14 fp5_24 fp5_34 rf5_01 rf5_04 rf5_12 rf5_13 rf5_14 rf5_24 rf5_34
  grind

theorem kir5_42 (w01 w02 w03 w04 w12 w13 w14 w23 w24 w34 : Int) : w04*(fp5_24 w01 w02 w03 w04 w12 w13 w14 w23 w24 w34 - fp5_02 w01 w02 w03 w04 w12 w13 w14 w23 w24 w34 + fp5_04 w01 w02 w03 w04 w12 w13 w14 w23 w24 w34) + w14*(fp5_24 w01 w02 w03 w04 w12 w13 w14 w23 w24 w34 - fp5_12 w01 w02 w03 w04 w12 w13 w14 w23 w24 w34 + fp5_14 w01 w02 w03 w04 w12 w13 w14 w23 w24 w34) + w24*(fp5_24 w01 w02 w03 w04 w12 w13 w14 w23 w24 w34 + fp5_24 w01 w02 w03 w04 w12 w13 w14 w23 w24 w34) + w34*(fp5_24 w01 w02 w03 w04 w12 w13 w14 w23 w24 w34 - fp5_23 w01 w02 w03 w04 w12 w13 w14 w23 w24 w34 + fp5_34 w01 w02 w03 w04 w12 w13 w14 w23 w24 w34) = 2 * tp5 w01 w02 w03 w04 w12 w13 w14 w23 w24 w34 := by
  unfold tp5 rt5 fp5_02 fp5_04 fp5_12 fp5_14 fp5_23 fp5_24 fp5_34 rf5_02 rf5_04 rf5_12 rf5_14 rf5_23 rf5_24 rf5_34
  grind

theorem kir5_43 (w01 w02 w03 w04 w12 w13 w14 w23 w24 w34 : Int) : w04*(fp5_34 w01 w02 w03 w04 w12 w13 w14 w23 w24 w34 - fp5_03 w01 w02 w03 w04 w12 w13 w14 w23 w24 w34 + fp5_04 w01 w02 w03 w04 w12 w13 w14 w23 w24 w34) + w14*(fp5_34 w01 w02 w03 w04 w12 w13 w14 w23 w24 w34 - fp5_13 w01 w02 w03 w04 w12 w13 w14 w23 w24 w34 + fp5_14 w01 w02 w03 w04 w12 w13 w14 w23 w24 w34) + w24*(fp5_34 w01 w02 w03 w04 w12 w13 w14 w23 w24 w34 - fp5_23 w01 w02 w03 w04 w12 w13 w14 w23 w24 w34 + fp5_24 w01 w02 w03 w04 w12 w13 w14 w23 w24 w34) + w34*(fp5_34 w01 w02 w03 w04 w12 w13 w14 w23 w24 w34 + fp5_34 w01 w02 w03 w04 w12 w13 w14 w23 w24 w34) = 2 * tp5 w01 w02 w03 w04 w12 w13 w14 w23 w24 w34 := by
  unfold tp5 rt5 fp5_03 fp5_04 fp5_13 fp5_14 fp5_23 fp5_24 fp5_34 rf5_03 rf5_04 rf5_13 rf5_14 rf5_23 rf5_24 rf5_34
  grind

theorem fos5 (w01 w02 w03 w04 w12 w13 w14 w23 w24 w34 : Int) : w01*(fp5_01 w01 w02 w03 w04 w12 w13 w14 w23 w24 w34) + w02*(fp5_02 w01 w02 w03 w04 w12 w13 w14 w23 w24 w34) + w03*(fp5_03 w01 w02 w03 w04 w12 w13 w14 w23 w24 w34) + w04*(fp5_04 w01 w02 w03 w04 w12 w13 w14 w23 w24 w34) + w12*(fp5_12 w01 w02 w03 w04 w12 w13 w14 w23 w24 w34) + w13*(fp5_13 w01 w02 w03 w04 w12 w13 w14 w23 w24 w34) + w14*(fp5_14 w01 w02 w03 w04 w12 w13 w14 w23 w24 w34) + w23*(fp5_23 w01 w02 w03 w04 w12 w13 w14 w23 w24 w34) + w24*(fp5_24 w01 w02 w03 w04 w12 w13 w14 w23 w24 w34) + w34*(fp5_34 w01 w02 w03 w04 w12 w13 w14 w23 w24 w34) = 4 * tp5 w01 w02 w03 w04 w12 w13 w14 w23 w24 w34 := by
  unfold tp5 rt5 fp5_01 fp5_02 fp5_03 fp5_04 fp5_12 fp5_13 fp5_14 fp5_23 fp5_24 fp5_34 rf5_01 rf5_02 rf5_03 rf5_04 rf5_12 rf5_13 rf5_14 rf5_23 rf5_24 rf5_34
  grind

end Go.Proofs.Ytipiiimemmkdgaa
