/- The law FnExactFormatMatrix returns true for all arguments. No condition. -/
import Derived.Test.YtmkmdcifakaflaaWFormatMatrixLaw
import Derived.Test.YtmkmdcifakaflaaRBase
import Derived.Test.YtmkmdcifakaflaaRMat
namespace Go.Proofs.Ytmkmdcifakaflaa

open Go.ChangeShapes Go.WideShapes Go.ChangeAt Go.RowKit Go.Joins

theorem fnExactFormatMatrix_cells_row : Try.prog.cellsOf 68 = 1 := by kernel_rfl
theorem fnExactFormatMatrix_cells_ratio : Try.prog.cellsOf 48 = 2 := by kernel_rfl

set_option maxRecDepth 100000 in
theorem fnExactFormatMatrix_lifted (os : Os) (started : os.Started) (H : Type) (enc : TypeId × Value → H) :
    ReturnsInHanded {} Try.checked os 14 .any (Rows.fnExactFormatMatrixSpec.pre6 enc Try.prog Try.f14 Rows.fnExactFormatMatrixRow.domain false) (Rows.fnExactFormatMatrixSpec.post enc Try.prog Try.f14 false true false false) := by
  refine returnsInHanded_of_change (C := Try.checked) own_knob started (by kernel_rfl) Try.func14
    (ChangeSpec.witness6 (enc := enc) (C := Try.checked) false ⟨#[], #[.slice none 0 0], []⟩ 8 (by kernel_rfl) (by kernel_rfl) (by kernel_rfl) (by kernel_rfl)) ?_
  intro W base args ds gs before hval0 hW hcnd _
  have hval : ∀ (j : Nat) t v, Try.f14.params[j]? = some t → args[j]? = some v → Value.okWide Try.prog W .any base t v := hval0
  have hW' := hW
  obtain ⟨p, q, hA0, hV, rfl, hfz, hnd⟩ := hW
  have hA : DataW.TrodAll enc Try.prog W 0 (fun _ => true) true Try.f14.params.toList args.toList ds p := hA0
  rw [Try.params14] at hA hval
  obtain ⟨v0, d0, rfl, rfl, h0⟩ := trodAll_one hA
  obtain ⟨rfl, rfl⟩ := trodVars_none hV
  obtain ⟨nm, Rm, sm, lnm, mm, rm, bm⟩ := arg_mat Try.underlying75 fnExactFormatMatrix_cells_row Try.underlying68 Try.underlying48 (by kernel_rfl) fnExactFormatMatrix_cells_ratio Try.underlying3 Try.underlying3 (hval 0 75 v0 rfl rfl) h0
  clear hA0 hval0
  exact (lFnExactFormatMatrix v0 nm Rm W sm lnm mm rm bm).mono fun e W' ⟨he, hg⟩ =>
    law_done (B := 4) he laid_out (by kernel_rfl) Try.underlying4 (by kernel_rfl) hW' rfl rfl hg

theorem fnExactFormatMatrix_holds : Rows.FnExactFormatMatrixSaid :=
  OpenClaim.holds_of_wide 14 Try.f14 rfl rfl rfl rfl rfl rfl rfl ⟨rfl, rfl, rfl, rfl, rfl⟩ rfl rfl rfl rfl rfl (by kernel_rfl) Try.func14 (by kernel_rfl)
    (of_decide_eq_true (by kernel_rfl)) (by unfold Func.isWrapper; first | (rw [if_pos (by decide +kernel)]; kernel_rfl) | (rw [if_neg (by decide +kernel)]; exact ⟨rfl, rfl⟩))
    (fun os started H enc _ => fnExactFormatMatrix_lifted os started H enc)
#print axioms fnExactFormatMatrix_holds

end Go.Proofs.Ytmkmdcifakaflaa
