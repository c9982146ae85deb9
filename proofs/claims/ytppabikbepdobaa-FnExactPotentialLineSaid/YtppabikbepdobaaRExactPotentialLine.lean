/- The law FnExactPotentialLine returns true for all arguments. No condition. -/
import Derived.Test.YtppabikbepdobaaWPotentialLineLaw
import Derived.Test.YtppabikbepdobaaRBase
import Derived.Test.YtppabikbepdobaaRNet
namespace Go.Proofs.Ytppabikbepdobaa

open Go.ChangeShapes Go.WideShapes Go.ChangeAt Go.RowKit Go.Joins

theorem fnExactPotentialLine_cells_net : Try.prog.cellsOf 24 = 4 := by kernel_rfl
theorem fnExactPotentialLine_cells_wire : Try.prog.cellsOf 85 = 3 := by kernel_rfl

set_option maxRecDepth 100000 in
theorem fnExactPotentialLine_lifted (os : Os) (started : os.Started) (H : Type) (enc : TypeId × Value → H) :
    ReturnsInHanded {} Try.checked os 12 .any (Rows.fnExactPotentialLineSpec.pre6 enc Try.prog Try.f12 Rows.fnExactPotentialLineRow.domain false) (Rows.fnExactPotentialLineSpec.post enc Try.prog Try.f12 false true false false) := by
  refine returnsInHanded_of_change (C := Try.checked) own_knob started (by kernel_rfl) Try.func12
    (ChangeSpec.witness6 (enc := enc) (C := Try.checked) false ⟨#[], #[.agg #[.int .i64 0, .int .i64 0, .int .i64 0, .slice none 0 0], .int .i64 0, .int .i64 0], []⟩ 8 (by kernel_rfl) (by kernel_rfl) (by kernel_rfl) (by kernel_rfl)) ?_
  intro W base args ds gs before hval0 hW hcnd _
  have hval : ∀ (j : Nat) t v, Try.f12.params[j]? = some t → args[j]? = some v → Value.okWide Try.prog W .any base t v := hval0
  have hW' := hW
  obtain ⟨p, q, hA0, hV, rfl, hfz, hnd⟩ := hW
  have hA : DataW.TrodAll enc Try.prog W 0 (fun _ => true) true Try.f12.params.toList args.toList ds p := hA0
  rw [Try.params12] at hA hval
  obtain ⟨v0, v1, v2, d0, d1, d2, p0, p1, p2, rfl, rfl, rfl, h0, h1, h2⟩ := trodAll_three hA
  obtain ⟨rfl, rfl⟩ := trodVars_none hV
  obtain ⟨NNn, ENn, SNn, pNn, nNn, cNn, lNn, rfl, sNn, mNn, bNn, hcNn, iNNn, iENn, iSNn⟩ := arg_net Try.underlying24 (by kernel_rfl) fnExactPotentialLine_cells_net Try.underlying3 Try.underlying3 Try.underlying3 rfl Try.underlying22 Try.underlying85 (by kernel_rfl) fnExactPotentialLine_cells_wire Try.underlying3 Try.underlying3 Try.underlying3 (hval 0 24 v0 rfl rfl) h0
  obtain ⟨a, rfl, rfl, rfl, wa⟩ := open_int Try.underlying3 (hval 1 3 v1 rfl rfl) h1
  obtain ⟨b, rfl, rfl, rfl, wb⟩ := open_int Try.underlying3 (hval 2 3 v2 rfl rfl) h2
  clear hA0 hval0
  exact (lFnExactPotentialLine NNn ENn SNn pNn nNn cNn lNn a b W sNn mNn (i64_of_wf wa) (i64_of_wf wb)).mono fun e W' ⟨he, hg⟩ =>
    law_done (B := 4) he laid_out (by kernel_rfl) Try.underlying4 (by kernel_rfl) hW' rfl rfl hg

theorem fnExactPotentialLine_holds : Rows.FnExactPotentialLineSaid :=
  OpenClaim.holds_of_wide 12 Try.f12 rfl rfl rfl rfl rfl rfl rfl ⟨rfl, rfl, rfl, rfl, rfl⟩ rfl rfl rfl rfl rfl (by kernel_rfl) Try.func12 (by kernel_rfl)
    (of_decide_eq_true (by kernel_rfl)) (by unfold Func.isWrapper; first | (rw [if_pos (by decide +kernel)]; kernel_rfl) | (rw [if_neg (by decide +kernel)]; exact ⟨rfl, rfl⟩))
    (fun os started H enc _ => fnExactPotentialLine_lifted os started H enc)
#print axioms fnExactPotentialLine_holds

end Go.Proofs.Ytppabikbepdobaa
