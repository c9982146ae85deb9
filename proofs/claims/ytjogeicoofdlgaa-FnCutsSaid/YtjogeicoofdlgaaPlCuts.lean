/- FnCuts, the plain law: all rectangles up to 40 by 40, one by one. No condition. -/
import Derived.Test.YtjogeicoofdlgaaPlCut
import Derived.Test.YtjogeicoofdlgaaPlTerms
namespace Go.Proofs.Ytjogeicoofdlgaa

def sqCB (xs : List Int) (k : Nat) : Bool := decide (0 ≤ sx xs k) && decide (sx xs k ≤ 200) && decide (0 ≤ sy xs k) && decide (sy xs k ≤ 200) && decide (1 ≤ ss xs k) && decide (ss xs k ≤ 200)
def ordCB (xs : List Int) (j k : Nat) : Bool := decide (sy xs j < sy xs k) || (decide (sy xs j = sy xs k) && decide (sx xs j < sx xs k))
def overCB (xs : List Int) (a b : Nat) : Bool := decide (sx xs a < sx xs b + ss xs b) && decide (sx xs b < sx xs a + ss xs a) && decide (sy xs a < sy xs b + ss xs b) && decide (sy xs b < sy xs a + ss xs a)
def tileCB (n : Nat) (xs : List Int) : Bool :=
  decide (1 ≤ n) && decide (n ≤ 12) && (List.range n).all (fun k => sqCB xs k && (decide (k = 0) || ordCB xs (k - 1) k) && (List.range k).all (fun j => !overCB xs k j)) &&
    decide (minX xs n = 0) && decide (minY xs n = 0) && decide (areaSq xs n = rightSq xs n * lowSq xs n)
theorem tileC_p {n : Nat} {xs : List Int} (h : tileCB n xs = true) : tileP n xs := by
  simp only [tileCB, Bool.and_eq_true, decide_eq_true_eq, List.all_eq_true, List.mem_range, Bool.or_eq_true, Bool.not_eq_true'] at h
  obtain ⟨⟨⟨⟨⟨h1, h2⟩, h3⟩, h4⟩, h5⟩, h6⟩ := h
  refine ⟨h1, h2, fun k hk => ?_, h4, h5, h6⟩
  obtain ⟨⟨g1, g2⟩, g3⟩ := h3 k hk
  simp only [sqCB, Bool.and_eq_true, decide_eq_true_eq] at g1
  obtain ⟨⟨⟨⟨⟨a1, a2⟩, a3⟩, a4⟩, a5⟩, a6⟩ := g1
  refine ⟨⟨a1, a2, a3, a4, a5, a6⟩, fun hk0 => ?_, fun j hj ho => ?_⟩
  · rcases g2 with g2 | g2
    · omega
    · simp only [ordCB, Bool.or_eq_true, Bool.and_eq_true, decide_eq_true_eq] at g2
      exact g2
  · have := g3 j hj
    obtain ⟨o1, o2, o3, o4⟩ := ho
    have e : overCB xs k j = true := by simp only [overCB, Bool.and_eq_true, decide_eq_true_eq]; exact ⟨⟨⟨o1, o2⟩, o3⟩, o4⟩
    rw [e] at this
    cases this
def cutC (w h : Nat) : Bool := match cutR w h with
  | none => decide (13 ≤ countUnits w h)
  | some n => decide ((n : Int) = countUnits w h) && tileCB n (cutX w h n) && decide (rightSq (cutX w h n) n = (w : Int)) && decide (lowSq (cutX w h n) n = (h : Int))
def rowCB (i : Nat) : Bool := (List.range 40).all fun j => cutC (i + 1) (j + 1)
theorem cut_r0 : rowCB 0 = true := by decide +kernel
theorem cut_r1 : rowCB 1 = true := by decide +kernel
theorem cut_r2 : rowCB 2 = true := by decide +kernel
theorem cut_r3 : rowCB 3 = true := by decide +kernel
theorem cut_r4 : rowCB 4 = true := by decide +kernel
theorem cut_r5 : rowCB 5 = true := by decide +kernel
theorem cut_r6 : rowCB 6 = true := by decide +kernel
theorem cut_r7 : rowCB 7 = true := by decide +kernel
theorem cut_r8 : rowCB 8 = true := by decide +kernel
theorem cut_r9 : rowCB 9 = true := by decide +kernel
theorem cut_r10 : rowCB 10 = true := by decide +kernel
theorem cut_r11 : rowCB 11 = true := by decide +kernel
theorem cut_r12 : rowCB 12 = true := by decide +kernel
theorem cut_r13 : rowCB 13 = true := by decide +kernel
theorem cut_r14 : rowCB 14 = true := by decide +kernel
theorem cut_r15 : rowCB 15 = true := by decide +kernel
theorem cut_r16 : rowCB 16 = true := by decide +kernel
theorem cut_r17 : rowCB 17 = true := by decide +kernel
theorem cut_r18 : rowCB 18 = true := by decide +kernel
theorem cut_r19 : rowCB 19 = true := by decide +kernel
theorem cut_r20 : rowCB 20 = true := by decide +kernel
theorem cut_r21 : rowCB 21 = true := by decide +kernel
theorem cut_r22 : rowCB 22 = true := by decide +kernel
theorem cut_r23 : rowCB 23 = true := by decide +kernel
theorem cut_r24 : rowCB 24 = true := by decide +kernel
theorem cut_r25 : rowCB 25 = true := by decide +kernel
theorem cut_r26 : rowCB 26 = true := by decide +kernel
theorem cut_r27 : rowCB 27 = true := by decide +kernel
theorem cut_r28 : rowCB 28 = true := by decide +kernel
theorem cut_r29 : rowCB 29 = true := by decide +kernel
theorem cut_r30 : rowCB 30 = true := by decide +kernel
theorem cut_r31 : rowCB 31 = true := by decide +kernel
theorem cut_r32 : rowCB 32 = true := by decide +kernel
theorem cut_r33 : rowCB 33 = true := by decide +kernel
theorem cut_r34 : rowCB 34 = true := by decide +kernel
theorem cut_r35 : rowCB 35 = true := by decide +kernel
theorem cut_r36 : rowCB 36 = true := by decide +kernel
theorem cut_r37 : rowCB 37 = true := by decide +kernel
theorem cut_r38 : rowCB 38 = true := by decide +kernel
theorem cut_r39 : rowCB 39 = true := by decide +kernel
theorem cut_rows : ∀ i, i < 40 → rowCB i = true
  | 0, _ => cut_r0
  | 1, _ => cut_r1
  | 2, _ => cut_r2
  | 3, _ => cut_r3
  | 4, _ => cut_r4
  | 5, _ => cut_r5
  | 6, _ => cut_r6
  | 7, _ => cut_r7
  | 8, _ => cut_r8
  | 9, _ => cut_r9
  | 10, _ => cut_r10
  | 11, _ => cut_r11
  | 12, _ => cut_r12
  | 13, _ => cut_r13
  | 14, _ => cut_r14
  | 15, _ => cut_r15
  | 16, _ => cut_r16
  | 17, _ => cut_r17
  | 18, _ => cut_r18
  | 19, _ => cut_r19
  | 20, _ => cut_r20
  | 21, _ => cut_r21
  | 22, _ => cut_r22
  | 23, _ => cut_r23
  | 24, _ => cut_r24
  | 25, _ => cut_r25
  | 26, _ => cut_r26
  | 27, _ => cut_r27
  | 28, _ => cut_r28
  | 29, _ => cut_r29
  | 30, _ => cut_r30
  | 31, _ => cut_r31
  | 32, _ => cut_r32
  | 33, _ => cut_r33
  | 34, _ => cut_r34
  | 35, _ => cut_r35
  | 36, _ => cut_r36
  | 37, _ => cut_r37
  | 38, _ => cut_r38
  | 39, _ => cut_r39
  | n + 40, h => absurd h (by omega)
theorem cut_one {w h : Nat} (hw : 1 ≤ w ∧ w ≤ 40) (hh : 1 ≤ h ∧ h ≤ 40) : cutC w h = true := by
  have h1 := cut_rows (w - 1) (by omega)
  unfold rowCB at h1
  rw [List.all_eq_true] at h1
  have := h1 (h - 1) (by rw [List.mem_range]; omega)
  rwa [show w - 1 + 1 = w by omega, show h - 1 + 1 = h by omega] at this
theorem cut_none {w h : Nat} (hc : cutC w h = true) (h1 : cutR w h = none) : 13 ≤ countUnits w h := by
  unfold cutC at hc
  rw [h1] at hc
  simpa using hc
theorem cut_some {w h n : Nat} (hc : cutC w h = true) (h1 : cutR w h = some n) : (n : Int) = countUnits w h ∧ tileP n (cutX w h n) ∧ rightSq (cutX w h n) n = (w : Int) ∧ lowSq (cutX w h n) n = (h : Int) := by
  unfold cutC at hc
  rw [h1] at hc
  simp only [Bool.and_eq_true, decide_eq_true_eq] at hc
  exact ⟨hc.1.1.1, tileC_p hc.1.1.2, hc.1.2, hc.2⟩
end Go.Proofs.Ytjogeicoofdlgaa
