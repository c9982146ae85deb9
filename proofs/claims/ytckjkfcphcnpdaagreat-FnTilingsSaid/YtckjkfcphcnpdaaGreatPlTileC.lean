/- A valid tiling, by a test that can be run. No condition. -/
import Derived.Test.YtckjkfcphcnpdaaGreatPlTile
namespace Go.Proofs.YtckjkfcphcnpdaaGreat

open Go.RowKit

def sqCB (xs : List Int) (k : Nat) : Bool := decide (0 ≤ sx xs k) && decide (sx xs k ≤ 200) && decide (0 ≤ sy xs k) && decide (sy xs k ≤ 200) && decide (1 ≤ ss xs k) && decide (ss xs k ≤ 200)
def ordCB (xs : List Int) (j k : Nat) : Bool := decide (sy xs j < sy xs k) || (decide (sy xs j = sy xs k) && decide (sx xs j < sx xs k))
def overCB (xs : List Int) (a b : Nat) : Bool := decide (sx xs a < sx xs b + ss xs b) && decide (sx xs b < sx xs a + ss xs a) && decide (sy xs a < sy xs b + ss xs b) && decide (sy xs b < sy xs a + ss xs a)
def tileCB (n : Nat) (xs : List Int) : Bool :=
  decide (1 ≤ n) && decide (n ≤ 12) && (List.range n).all (fun k => sqCB xs k && (decide (k = 0) || ordCB xs (k - 1) k) && (List.range k).all (fun j => !overCB xs k j)) &&
    decide (minX xs n = 0) && decide (minY xs n = 0) && decide (areaSq xs n = rightSq xs n * lowSq xs n)
theorem tileC_p {n : Nat} {xs : List Int} (h : tileCB n xs = true) : tileP n xs := by
  simp only [tileCB, Bool.and_eq_true, decide_eq_true_eq, List.all_eq_true, List.mem_range, Bool.or_eq_true, Bool.not_eq_true'] at h
  obtain ⟨⟨⟨⟨⟨h1, h2⟩, h3⟩, h4⟩, h5⟩, h6⟩ := h
  refine ⟨h1, h2, fun k hk => ?_, h4, h5, h6⟩
  obtain ⟨⟨g1, g2⟩, g3⟩ := h3 k hk
  simp only [sqCB, Bool.and_eq_true, decide_eq_true_eq] at g1
  obtain ⟨⟨⟨⟨⟨a1, a2⟩, a3⟩, a4⟩, a5⟩, a6⟩ := g1
  refine ⟨⟨a1, a2, a3, a4, a5, a6⟩, fun hk0 => ?_, fun j hj ho => ?_⟩
  · rcases g2 with g2 | g2
    · omega
    · simp only [ordCB, Bool.or_eq_true, Bool.and_eq_true, decide_eq_true_eq] at g2
      exact g2
  · have := g3 j hj
    obtain ⟨o1, o2, o3, o4⟩ := ho
    have e : overCB xs k j = true := by simp only [overCB, Bool.and_eq_true, decide_eq_true_eq]; exact ⟨⟨⟨o1, o2⟩, o3⟩, o4⟩
    rw [e] at this
    cases this
end Go.Proofs.YtckjkfcphcnpdaaGreat
