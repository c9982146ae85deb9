/- A matrix of four terminals: which minors are negative. No condition. -/
import Derived.Test.YtjdhjoifiebpeaaWMinor
namespace Go.Proofs.Ytjdhjoifiebpeaa

/-- The matrix of six weights. -/
def mat4 (a b c d e f : Int) : List (List Int) := [[a + b + c, -a, -b, -c], [-a, a + d + e, -d, -e], [-b, -d, b + d + f, -f], [-c, -e, -f, c + e + f]]
theorem pairs4 : pairsM 4 2 = [([0], [1]), ([0], [2]), ([0], [3]), ([1], [0]), ([1], [2]), ([1], [3]), ([2], [0]), ([2], [1]), ([2], [3]), ([3], [0]), ([3], [1]), ([3], [2]), ([0, 1], [3, 2]), ([1, 2], [0, 3]), ([2, 3], [1, 0]), ([3, 0], [2, 1])] := by decide +kernel
theorem reasonL_skip {M : Int → Int → Int} {x : List Int × List Int} {r : List (List Int × List Int)} (h : 0 ≤ circD M x.1 x.2) : reasonL M (x :: r) = reasonL M r := by
  unfold reasonL
  rw [if_neg (by omega)]
  cases r <;> rfl
theorem reasonL_hit {M : Int → Int → Int} {x : List Int × List Int} {r : List (List Int × List Int)} (h : circD M x.1 x.2 < 0) : reasonL M (x :: r) = some x := by
  unfold reasonL
  rw [if_pos h]
theorem circ1 (M : Int → Int → Int) (a b : Int) : circD M [a] [b] = -M a b := by simp [circD, detF, sumTo, nth, sgn]
theorem circ2 (M : Int → Int → Int) (a b c d : Int) : circD M [a, b] [c, d] = M a c * M b d - M a d * M b c := by
  simp [circD, detF, sumTo, nth, sgn]
  rw [Int.neg_mul]
  rfl
theorem mat4_wm {a b c d e f : Int} (ha : 0 ≤ a ∧ a ≤ 4) (hb : 0 ≤ b ∧ b ≤ 4) (hc : 0 ≤ c ∧ c ≤ 4) (hd : 0 ≤ d ∧ d ≤ 4) (he : 0 ≤ e ∧ e ≤ 4) (hf : 0 ≤ f ∧ f ≤ 4) : wmP (mat4 a b c d e f) := by
  have four : ∀ {P : Nat → Prop}, P 0 → P 1 → P 2 → P 3 → ∀ i, i < 4 → P i := fun h0 h1 h2 h3 i hi => by
    have : i = 0 ∨ i = 1 ∨ i = 2 ∨ i = 3 := by omega
    rcases this with rfl | rfl | rfl | rfl <;> assumption
  refine ⟨by show 1 ≤ 4; omega, ⟨by show 4 ≤ 5; omega, ?_⟩, ?_⟩
  · show ∀ i, i < 4 → _
    refine four ?_ ?_ ?_ ?_ <;> refine ⟨rfl, ?_⟩ <;> show ∀ j, j < 4 → _ <;> refine four ?_ ?_ ?_ ?_ <;> simp only [mat4, nth, List.getD_cons_zero, List.getD_cons_succ] <;> omega
  · show ∀ i, i < 4 → _
    refine four ?_ ?_ ?_ ?_ <;> refine ⟨?_, ?_⟩ <;> first
      | (show ∀ j, j < 4 → _; refine four ?_ ?_ ?_ ?_ <;> refine ⟨rfl, fun _ => ?_⟩ <;> first | omega | (exfalso; omega) | (show (_ : Int) ≤ 0; simp only [entM, mat4, nth]; simp; omega))
      | (show sumRow _ _ 4 = 0; simp only [sumRow, entM, mat4, nth]; simp; omega)
/-- Whether the two inequalities hold. -/
def good4 (a b c d e f : Int) : Prop := c * d ≥ b * e ∧ a * f ≥ b * e
theorem mat4_good {a b c d e f : Int} (ha : 0 ≤ a) (hb : 0 ≤ b) (hc : 0 ≤ c) (hd : 0 ≤ d) (he : 0 ≤ e) (hf : 0 ≤ f) (h : good4 a b c d e f) : reasonL (entM (mat4 a b c d e f)) (pairsM 4 2) = none := by
  have e01 : entM (mat4 a b c d e f) 0 1 = -a := rfl
  have e02 : entM (mat4 a b c d e f) 0 2 = -b := rfl
  have e03 : entM (mat4 a b c d e f) 0 3 = -c := rfl
  have e10 : entM (mat4 a b c d e f) 1 0 = -a := rfl
  have e12 : entM (mat4 a b c d e f) 1 2 = -d := rfl
  have e13 : entM (mat4 a b c d e f) 1 3 = -e := rfl
  have e20 : entM (mat4 a b c d e f) 2 0 = -b := rfl
  have e21 : entM (mat4 a b c d e f) 2 1 = -d := rfl
  have e23 : entM (mat4 a b c d e f) 2 3 = -f := rfl
  have e30 : entM (mat4 a b c d e f) 3 0 = -c := rfl
  have e31 : entM (mat4 a b c d e f) 3 1 = -e := rfl
  have e32 : entM (mat4 a b c d e f) 3 2 = -f := rfl
  obtain ⟨h1, h2⟩ := h
  rw [pairs4]
  generalize entM (mat4 a b c d e f) = M at *
  iterate 12 rw [reasonL_skip (by simp only [circ1, e01, e02, e03, e10, e12, e13, e20, e21, e23, e30, e31, e32]; omega)]
  have c1 := Int.mul_comm c d
  have c2 := Int.mul_comm b e
  have c3 := Int.mul_comm a f
  iterate 4 rw [reasonL_skip (by simp only [circ2, e01, e02, e03, e10, e12, e13, e20, e21, e23, e30, e31, e32, Int.neg_mul_neg]; omega)]
  rfl
theorem mat4_bad {a b c d e f : Int} (ha : 0 ≤ a) (hb : 0 ≤ b) (hc : 0 ≤ c) (hd : 0 ≤ d) (he : 0 ≤ e) (hf : 0 ≤ f) (h : ¬ good4 a b c d e f) : ∃ x, reasonL (entM (mat4 a b c d e f)) (pairsM 4 2) = some x := by
  have e01 : entM (mat4 a b c d e f) 0 1 = -a := rfl
  have e02 : entM (mat4 a b c d e f) 0 2 = -b := rfl
  have e03 : entM (mat4 a b c d e f) 0 3 = -c := rfl
  have e10 : entM (mat4 a b c d e f) 1 0 = -a := rfl
  have e12 : entM (mat4 a b c d e f) 1 2 = -d := rfl
  have e13 : entM (mat4 a b c d e f) 1 3 = -e := rfl
  have e20 : entM (mat4 a b c d e f) 2 0 = -b := rfl
  have e21 : entM (mat4 a b c d e f) 2 1 = -d := rfl
  have e23 : entM (mat4 a b c d e f) 2 3 = -f := rfl
  have e30 : entM (mat4 a b c d e f) 3 0 = -c := rfl
  have e31 : entM (mat4 a b c d e f) 3 1 = -e := rfl
  have e32 : entM (mat4 a b c d e f) 3 2 = -f := rfl
  unfold good4 at h
  rw [pairs4]
  generalize entM (mat4 a b c d e f) = M at *
  iterate 12 rw [reasonL_skip (by simp only [circ1, e01, e02, e03, e10, e12, e13, e20, e21, e23, e30, e31, e32]; omega)]
  have c1 := Int.mul_comm c d
  have c2 := Int.mul_comm b e
  have c3 := Int.mul_comm a f
  by_cases g : c * d ≥ b * e
  · rw [reasonL_skip (by simp only [circ2, e01, e02, e03, e10, e12, e13, e20, e21, e23, e30, e31, e32, Int.neg_mul_neg]; omega)]
    exact ⟨_, reasonL_hit (by simp only [circ2, e01, e02, e03, e10, e12, e13, e20, e21, e23, e30, e31, e32, Int.neg_mul_neg]; omega)⟩
  · exact ⟨_, reasonL_hit (by simp only [circ2, e01, e02, e03, e10, e12, e13, e20, e21, e23, e30, e31, e32, Int.neg_mul_neg]; omega)⟩
end Go.Proofs.Ytjdhjoifiebpeaa
