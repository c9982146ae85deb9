/- The law FnExactLeastUnits returns true for all arguments. No condition. -/
import Derived.Test.YtmcnfhpjjmbdmaaWLeast
import Derived.Test.YtmcnfhpjjmbdmaaRBase

namespace Go.Proofs.Ytmcnfhpjjmbdmaa

open Go.ChangeShapes Go.WideShapes Go.ChangeAt Go.RowKit Go.Joins

theorem fnExactLeastUnits_cells_laws_Ratio : Try.prog.cellsOf 28 = 2 := by kernel_rfl

set_option maxRecDepth 100000 in
theorem fnExactLeastUnits_lifted (os : Os) (started : os.Started) (H : Type) (enc : TypeId × Value → H) :
    ReturnsInHanded {} Try.checked os 4 .any (Rows.fnExactLeastUnitsSpec.pre6 enc Try.prog Try.f4 Rows.fnExactLeastUnitsRow.domain false) (Rows.fnExactLeastUnitsSpec.post enc Try.prog Try.f4 false true false false) := by
  refine returnsInHanded_of_change (C := Try.checked) own_knob started (by kernel_rfl) Try.func4
    (ChangeSpec.witness6 (enc := enc) (C := Try.checked) false ⟨#[], #[.agg #[.int .i64 0, .int .i64 0]], []⟩ 8 (by kernel_rfl) (by kernel_rfl) (by kernel_rfl) (by kernel_rfl)) ?_
  intro W base args ds gs before hval0 hW hcnd _
  have hval : ∀ (j : Nat) t v, Try.f4.params[j]? = some t → args[j]? = some v → Value.okWide Try.prog W .any base t v := hval0
  have hW' := hW
  obtain ⟨p, q, hA0, hV, rfl, hfz, hnd⟩ := hW
  have hA : DataW.TrodAll enc Try.prog W 0 (fun _ => true) true Try.f4.params.toList args.toList ds p := hA0
  rw [Try.params4] at hA hval
  obtain ⟨v0, d0, rfl, rfl, h0⟩ := trodAll_one hA
  obtain ⟨rfl, rfl⟩ := trodVars_none hV
  obtain ⟨cr0, cr1, yr0, yr1, mr, rfl, rfl, rfl, hyr0, hyr1⟩ := open_agg2 Try.underlying28 (by kernel_rfl) fnExactLeastUnits_cells_laws_Ratio (hval 0 28 v0 rfl rfl) h0
  obtain ⟨r0, er0, rfl, wr0⟩ := DataW.trod_int Try.underlying3 hyr0
  obtain ⟨r1, er1, rfl, wr1⟩ := DataW.trod_int Try.underlying3 hyr1
  simp at er0 er1
  subst er0 er1
  clear hA0 hval0
  exact (lFnExactLeastUnits r0 r1 W).mono fun e W' ⟨he, hg⟩ =>
    law_done (B := 4) he laid_out (by kernel_rfl) Try.underlying4 (by kernel_rfl) hW' rfl rfl hg

theorem fnExactLeastUnits_holds : Rows.FnExactLeastUnitsSaid :=
  OpenClaim.holds_of_wide 4 Try.f4 rfl rfl rfl rfl rfl rfl rfl ⟨rfl, rfl, rfl, rfl, rfl⟩ rfl rfl rfl rfl rfl (by kernel_rfl) Try.func4 (by kernel_rfl)
    (of_decide_eq_true (by kernel_rfl)) (by unfold Func.isWrapper; first | (rw [if_pos (by decide +kernel)]; kernel_rfl) | (rw [if_neg (by decide +kernel)]; exact ⟨rfl, rfl⟩))
    (fun os started H enc _ => fnExactLeastUnits_lifted os started H enc)
#print axioms fnExactLeastUnits_holds

end Go.Proofs.Ytmcnfhpjjmbdmaa
