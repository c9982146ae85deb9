/- Regions that draw their order: several operations ready at once. No program in sight. -/
import Derived.Test.YtjogeicoofdlgaaWTail
namespace Go.Proofs.Ytjogeicoofdlgaa

open Go

section
variable {P : Program} {l : List Oper} {Q : Exit → Act → World → Prop} {S : World → Prop}
/-- Some may come up. -/
theorem head_many {n f : Nat} {listed : Array Bool} {a : Act} {w : World} (L : List Nat)
    (hr : (decide (Region.ready .any l.toArray listed = L) && (L.all (fun i => decide (i < n)) && !L.isEmpty)) = true)
    (h : ∀ i, i ∈ L → ∃ o, l[i]? = some o ∧ ∀ K : Act → World → Prop, Shut (∀ a w, S w → (S w → Head P l Q S n f (listed.setIfInBounds i true) a w) → K a w) → if Region.wanted o (yielded l.toArray a.tmps) = true then Oper.wp P o a w K Q else K (a.put o.dst undef) w) :
    Head P l Q S n (f + 1) listed a w := fun inv => by
  simp only [Bool.and_eq_true, decide_eq_true_eq, List.all_eq_true] at hr
  obtain ⟨h1, h2, h3⟩ := hr
  refine ⟨fun h0 => (by rw [h1] at h0; subst h0; simp at h3), fun k hk => ?_⟩
  have hkL : k ∈ L := by rw [h1] at hk; exact hk
  have hkn := h2 k hkL
  have inv' := inv.set hk (by omega)
  obtain ⟨o, hi, hs⟩ := h k hkL
  exact ⟨by omega, wpOp_step (by simpa using hi) (fun K hK => hs K (fun a' w' hS hW => hK a' w' ⟨hS, hW hS inv'⟩))⟩
end
end Go.Proofs.Ytjogeicoofdlgaa
