/- The law FnExactRatioOfTerms returns true for all arguments. No condition. -/
import Derived.Test.YtmkmdcifakaflaaWRatioOfTermsLaw
import Derived.Test.YtmkmdcifakaflaaRBase
import Derived.Test.YtmkmdcifakaflaaRInts
namespace Go.Proofs.Ytmkmdcifakaflaa

open Go.ChangeShapes Go.WideShapes Go.ChangeAt Go.RowKit Go.Joins

theorem fnExactRatioOfTerms_cells_int : Try.prog.cellsOf 3 = 1 := by kernel_rfl

set_option maxRecDepth 100000 in
theorem fnExactRatioOfTerms_lifted (os : Os) (started : os.Started) (H : Type) (enc : TypeId × Value → H) :
    ReturnsInHanded {} Try.checked os 9 .any (Rows.fnExactRatioOfTermsSpec.pre6 enc Try.prog Try.f9 Rows.fnExactRatioOfTermsRow.domain false) (Rows.fnExactRatioOfTermsSpec.post enc Try.prog Try.f9 false true false false) := by
  refine returnsInHanded_of_change (C := Try.checked) own_knob started (by kernel_rfl) Try.func9
    (ChangeSpec.witness6 (enc := enc) (C := Try.checked) false ⟨#[], #[.slice none 0 0], []⟩ 8 (by kernel_rfl) (by kernel_rfl) (by kernel_rfl) (by kernel_rfl)) ?_
  intro W base args ds gs before hval0 hW hcnd _
  have hval : ∀ (j : Nat) t v, Try.f9.params[j]? = some t → args[j]? = some v → Value.okWide Try.prog W .any base t v := hval0
  have hW' := hW
  obtain ⟨p, q, hA0, hV, rfl, hfz, hnd⟩ := hW
  have hA : DataW.TrodAll enc Try.prog W 0 (fun _ => true) true Try.f9.params.toList args.toList ds p := hA0
  rw [Try.params9] at hA hval
  obtain ⟨v0, d0, rfl, rfl, h0⟩ := trodAll_one hA
  obtain ⟨rfl, rfl⟩ := trodVars_none hV
  obtain ⟨la, sa, ma, _⟩ := arg_ints Try.underlying36 Try.underlying3 fnExactRatioOfTerms_cells_int (hval 0 36 v0 rfl rfl) h0
  clear hA0 hval0
  exact (lFnExactRatioOfTerms v0 la W sa ma).mono fun e W' ⟨he, hg⟩ =>
    law_done (B := 4) he laid_out (by kernel_rfl) Try.underlying4 (by kernel_rfl) hW' rfl rfl hg

theorem fnExactRatioOfTerms_holds : Rows.FnExactRatioOfTermsSaid :=
  OpenClaim.holds_of_wide 9 Try.f9 rfl rfl rfl rfl rfl rfl rfl ⟨rfl, rfl, rfl, rfl, rfl⟩ rfl rfl rfl rfl rfl (by kernel_rfl) Try.func9 (by kernel_rfl)
    (of_decide_eq_true (by kernel_rfl)) (by unfold Func.isWrapper; first | (rw [if_pos (by decide +kernel)]; kernel_rfl) | (rw [if_neg (by decide +kernel)]; exact ⟨rfl, rfl⟩))
    (fun os started H enc _ => fnExactRatioOfTerms_lifted os started H enc)
#print axioms fnExactRatioOfTerms_holds

end Go.Proofs.Ytmkmdcifakaflaa
