/- The law FnExactLevelsOf returns true for all arguments. No condition. -/
import Derived.Test.YtenfkpdbfmeebaaWLevLaw
import Derived.Test.YtenfkpdbfmeebaaRBase
import Derived.Test.YtenfkpdbfmeebaaRFlat
namespace Go.Proofs.Ytenfkpdbfmeebaa

open Go.ChangeShapes Go.WideShapes Go.ChangeAt Go.RowKit Go.Joins

theorem fnExactLevelsOf_cells_laws_Square : Try.prog.cellsOf 47 = 3 := by kernel_rfl

set_option maxRecDepth 100000 in
theorem fnExactLevelsOf_lifted (os : Os) (started : os.Started) (H : Type) (enc : TypeId × Value → H) :
    ReturnsInHanded {} Try.checked os 3 .any (Rows.fnExactLevelsOfSpec.pre6 enc Try.prog Try.f3 Rows.fnExactLevelsOfRow.domain false) (Rows.fnExactLevelsOfSpec.post enc Try.prog Try.f3 false true false false) := by
  refine returnsInHanded_of_change (C := Try.checked) own_knob started (by kernel_rfl) Try.func3
    (ChangeSpec.witness6 (enc := enc) (C := Try.checked) false ⟨#[], #[.slice none 0 0], []⟩ 8 (by kernel_rfl) (by kernel_rfl) (by kernel_rfl) (by kernel_rfl)) ?_
  intro W base args ds gs before hval0 hW hcnd _
  have hval : ∀ (j : Nat) t v, Try.f3.params[j]? = some t → args[j]? = some v → Value.okWide Try.prog W .any base t v := hval0
  have hW' := hW
  obtain ⟨p, q, hA0, hV, rfl, hfz, hnd⟩ := hW
  have hA : DataW.TrodAll enc Try.prog W 0 (fun _ => true) true Try.f3.params.toList args.toList ds p := hA0
  rw [Try.params3] at hA hval
  obtain ⟨v0, d0, rfl, rfl, h0⟩ := trodAll_one hA
  obtain ⟨rfl, rfl⟩ := trodVars_none hV
  obtain ⟨nl, ll, sl, ml, bl, _⟩ := arg_flat3 Try.underlying22 Try.underlying47 (by kernel_rfl) fnExactLevelsOf_cells_laws_Square Try.underlying3 Try.underlying3 Try.underlying3 (hval 0 22 v0 rfl rfl) h0
  clear hA0 hval0
  exact (lFnExactLevelsOf v0 nl ll W sl ml bl).mono fun e W' ⟨he, hg⟩ =>
    law_done (B := 4) he laid_out (by kernel_rfl) Try.underlying4 (by kernel_rfl) hW' rfl rfl hg

theorem fnExactLevelsOf_holds : Rows.FnExactLevelsOfSaid :=
  OpenClaim.holds_of_wide 3 Try.f3 rfl rfl rfl rfl rfl rfl rfl ⟨rfl, rfl, rfl, rfl, rfl⟩ rfl rfl rfl rfl rfl (by kernel_rfl) Try.func3 (by kernel_rfl)
    (of_decide_eq_true (by kernel_rfl)) (by unfold Func.isWrapper; first | (rw [if_pos (by decide +kernel)]; kernel_rfl) | (rw [if_neg (by decide +kernel)]; exact ⟨rfl, rfl⟩))
    (fun os started H enc _ => fnExactLevelsOf_lifted os started H enc)
#print axioms fnExactLevelsOf_holds

end Go.Proofs.Ytenfkpdbfmeebaa
