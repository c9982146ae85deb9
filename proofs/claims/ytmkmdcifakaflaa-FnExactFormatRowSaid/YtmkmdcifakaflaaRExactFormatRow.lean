/- The law FnExactFormatRow returns true for all arguments. No condition. -/
import Derived.Test.YtmkmdcifakaflaaWFormatRowLaw
import Derived.Test.YtmkmdcifakaflaaRBase
import Derived.Test.YtmkmdcifakaflaaRFlat
namespace Go.Proofs.Ytmkmdcifakaflaa

open Go.ChangeShapes Go.WideShapes Go.ChangeAt Go.RowKit Go.Joins

theorem fnExactFormatRow_cells_laws_Ratio : Try.prog.cellsOf 48 = 2 := by kernel_rfl

set_option maxRecDepth 100000 in
theorem fnExactFormatRow_lifted (os : Os) (started : os.Started) (H : Type) (enc : TypeId × Value → H) :
    ReturnsInHanded {} Try.checked os 13 .any (Rows.fnExactFormatRowSpec.pre6 enc Try.prog Try.f13 Rows.fnExactFormatRowRow.domain false) (Rows.fnExactFormatRowSpec.post enc Try.prog Try.f13 false true false false) := by
  refine returnsInHanded_of_change (C := Try.checked) own_knob started (by kernel_rfl) Try.func13
    (ChangeSpec.witness6 (enc := enc) (C := Try.checked) false ⟨#[], #[.slice none 0 0], []⟩ 8 (by kernel_rfl) (by kernel_rfl) (by kernel_rfl) (by kernel_rfl)) ?_
  intro W base args ds gs before hval0 hW hcnd _
  have hval : ∀ (j : Nat) t v, Try.f13.params[j]? = some t → args[j]? = some v → Value.okWide Try.prog W .any base t v := hval0
  have hW' := hW
  obtain ⟨p, q, hA0, hV, rfl, hfz, hnd⟩ := hW
  have hA : DataW.TrodAll enc Try.prog W 0 (fun _ => true) true Try.f13.params.toList args.toList ds p := hA0
  rw [Try.params13] at hA hval
  obtain ⟨v0, d0, rfl, rfl, h0⟩ := trodAll_one hA
  obtain ⟨rfl, rfl⟩ := trodVars_none hV
  obtain ⟨ns, ls, ss, ms, bs, _⟩ := arg_flat2 Try.underlying68 Try.underlying48 (by kernel_rfl) fnExactFormatRow_cells_laws_Ratio Try.underlying3 Try.underlying3 (hval 0 68 v0 rfl rfl) h0
  clear hA0 hval0
  exact (lFnExactFormatRow v0 ns ls W ss ms bs).mono fun e W' ⟨he, hg⟩ =>
    law_done (B := 4) he laid_out (by kernel_rfl) Try.underlying4 (by kernel_rfl) hW' rfl rfl hg

theorem fnExactFormatRow_holds : Rows.FnExactFormatRowSaid :=
  OpenClaim.holds_of_wide 13 Try.f13 rfl rfl rfl rfl rfl rfl rfl ⟨rfl, rfl, rfl, rfl, rfl⟩ rfl rfl rfl rfl rfl (by kernel_rfl) Try.func13 (by kernel_rfl)
    (of_decide_eq_true (by kernel_rfl)) (by unfold Func.isWrapper; first | (rw [if_pos (by decide +kernel)]; kernel_rfl) | (rw [if_neg (by decide +kernel)]; exact ⟨rfl, rfl⟩))
    (fun os started H enc _ => fnExactFormatRow_lifted os started H enc)
#print axioms fnExactFormatRow_holds

end Go.Proofs.Ytmkmdcifakaflaa
