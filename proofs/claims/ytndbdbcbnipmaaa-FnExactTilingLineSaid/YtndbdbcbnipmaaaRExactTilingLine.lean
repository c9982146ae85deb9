/- The law FnExactTilingLine returns true for all arguments. No condition. -/
import Derived.Test.YtndbdbcbnipmaaaWTilingLineLaw
import Derived.Test.YtndbdbcbnipmaaaRBase
import Derived.Test.YtndbdbcbnipmaaaRFlat
namespace Go.Proofs.Ytndbdbcbnipmaaa

open Go.ChangeShapes Go.WideShapes Go.ChangeAt Go.RowKit Go.Joins

theorem fnExactTilingLine_cells_laws_Square : Try.prog.cellsOf 75 = 3 := by kernel_rfl

set_option maxRecDepth 100000 in
theorem fnExactTilingLine_lifted (os : Os) (started : os.Started) (H : Type) (enc : TypeId × Value → H) :
    ReturnsInHanded {} Try.checked os 7 .any (Rows.fnExactTilingLineSpec.pre6 enc Try.prog Try.f7 Rows.fnExactTilingLineRow.domain false) (Rows.fnExactTilingLineSpec.post enc Try.prog Try.f7 false true false false) := by
  refine returnsInHanded_of_change (C := Try.checked) own_knob started (by kernel_rfl) Try.func7
    (ChangeSpec.witness6 (enc := enc) (C := Try.checked) false ⟨#[], #[.slice none 0 0], []⟩ 8 (by kernel_rfl) (by kernel_rfl) (by kernel_rfl) (by kernel_rfl)) ?_
  intro W base args ds gs before hval0 hW hcnd _
  have hval : ∀ (j : Nat) t v, Try.f7.params[j]? = some t → args[j]? = some v → Value.okWide Try.prog W .any base t v := hval0
  have hW' := hW
  obtain ⟨p, q, hA0, hV, rfl, hfz, hnd⟩ := hW
  have hA : DataW.TrodAll enc Try.prog W 0 (fun _ => true) true Try.f7.params.toList args.toList ds p := hA0
  rw [Try.params7] at hA hval
  obtain ⟨v0, d0, rfl, rfl, h0⟩ := trodAll_one hA
  obtain ⟨rfl, rfl⟩ := trodVars_none hV
  obtain ⟨ns, ls, ss, ms, bs, _⟩ := arg_flat3 Try.underlying28 Try.underlying75 (by kernel_rfl) fnExactTilingLine_cells_laws_Square Try.underlying3 Try.underlying3 Try.underlying3 (hval 0 28 v0 rfl rfl) h0
  clear hA0 hval0
  exact (lFnExactTilingLine v0 ns ls W ss ms bs).mono fun e W' ⟨he, hg⟩ =>
    law_done (B := 4) he laid_out (by kernel_rfl) Try.underlying4 (by kernel_rfl) hW' rfl rfl hg

theorem fnExactTilingLine_holds : Rows.FnExactTilingLineSaid :=
  OpenClaim.holds_of_wide 7 Try.f7 rfl rfl rfl rfl rfl rfl rfl ⟨rfl, rfl, rfl, rfl, rfl⟩ rfl rfl rfl rfl rfl (by kernel_rfl) Try.func7 (by kernel_rfl)
    (of_decide_eq_true (by kernel_rfl)) (by unfold Func.isWrapper; first | (rw [if_pos (by decide +kernel)]; kernel_rfl) | (rw [if_neg (by decide +kernel)]; exact ⟨rfl, rfl⟩))
    (fun os started H enc _ => fnExactTilingLine_lifted os started H enc)
#print axioms fnExactTilingLine_holds

end Go.Proofs.Ytndbdbcbnipmaaa
