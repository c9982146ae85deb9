/- Values of equal resistors: closed under inverses, one more in series or parallel is one more: plain law. No program in sight. -/
import Derived.Test.YtmcnfhpjjmbdmaaPlUnits3
import Derived.Test.YtmcnfhpjjmbdmaaWLeast
namespace Go.Proofs.Ytmcnfhpjjmbdmaa
set_option maxRecDepth 100000

def oneR : Rt := ⟨1, 1⟩
def memR (l : List Rt) (r : Rt) : Bool := (List.range l.length).any fun i => decide (l[i]! = r)
def unitOk (k : Nat) : Bool :=
  decide ((valV k)[0]! = ratioOf 1 k) && decide ((valV k)[(valV k).length - 1]! = ratioOf k 1) &&
  (List.range (valV k).length).all (fun i => decide (i = 0) || ltR (valV k)[i - 1]! (valV k)[i]!) &&
  (List.range (valV k).length).all (fun j => memR (valV k) (ratioInv (valV k)[j]!) && memR (valV (k + 1)) (seriesR (valV k)[j]! oneR) && memR (valV (k + 1)) (parallelR (valV k)[j]! oneR) && decide (1 ≤ leastU (valV k)[j]!) && decide (leastU (valV k)[j]! ≤ k) && decide (goodF (valV k)[j]!))
theorem unit_ok1 : unitOk 1 = true := by decide +kernel
theorem unit_ok2 : unitOk 2 = true := by decide +kernel
theorem unit_ok3 : unitOk 3 = true := by decide +kernel
theorem unit_ok4 : unitOk 4 = true := by decide +kernel
theorem unit_ok {k : Nat} (h1 : 1 ≤ k) (h4 : k ≤ 4) : unitOk k = true := by
  have : k = 1 ∨ k = 2 ∨ k = 3 ∨ k = 4 := by omega
  rcases this with rfl | rfl | rfl | rfl
  · exact unit_ok1
  · exact unit_ok2
  · exact unit_ok3
  · exact unit_ok4
theorem unit_parts {k : Nat} (h1 : 1 ≤ k) (h4 : k ≤ 4) :
    (valV k)[0]! = ratioOf 1 k ∧ (valV k)[(valV k).length - 1]! = ratioOf k 1 ∧ (∀ i, i < (valV k).length → 0 < i → ltR (valV k)[i - 1]! (valV k)[i]! = true) ∧
    ∀ j, j < (valV k).length → memR (valV k) (ratioInv (valV k)[j]!) = true ∧ memR (valV (k + 1)) (seriesR (valV k)[j]! oneR) = true ∧ memR (valV (k + 1)) (parallelR (valV k)[j]! oneR) = true ∧ 1 ≤ leastU (valV k)[j]! ∧ leastU (valV k)[j]! ≤ k ∧ goodF (valV k)[j]! := by
  have h := unit_ok h1 h4
  simp only [unitOk, Bool.and_eq_true, decide_eq_true_eq, List.all_eq_true, List.mem_range, Bool.or_eq_true] at h
  obtain ⟨⟨⟨a, b⟩, c⟩, d⟩ := h
  refine ⟨a, b, fun i hi h0 => ?_, fun j hj => ?_⟩
  · rcases c i hi with h | h
    · omega
    · exact h
  · obtain ⟨⟨⟨⟨⟨d1, d2⟩, d3⟩, d4⟩, d5⟩, d6⟩ := d j hj
    exact ⟨d1, d2, d3, d4, d5, d6⟩
/-- Whether r is one of the first i. -/
def memN (l : List Rt) (r : Rt) (i : Nat) : Bool := (List.range i).any fun j => decide (l[j]! = r)
theorem memN_0 (l : List Rt) (r : Rt) : memN l r 0 = false := rfl
theorem memN_succ (l : List Rt) (r : Rt) (i : Nat) : memN l r (i + 1) = (memN l r i || decide (l[i]! = r)) := by
  simp [memN, List.range_succ, List.any_append]
theorem memN_end (l : List Rt) (r : Rt) : memN l r l.length = memR l r := rfl
end Go.Proofs.Ytmcnfhpjjmbdmaa
