/- The law FnCuts returns true for all arguments. No condition. -/
import Derived.Test.YtjogeicoofdlgaaWCuts
import Derived.Test.YtjogeicoofdlgaaRBase
import Derived.Test.YtjogeicoofdlgaaRBytes
namespace Go.Proofs.Ytjogeicoofdlgaa

open Go.ChangeShapes Go.WideShapes Go.ChangeAt Go.RowKit Go.Joins

theorem fnCuts_cells_byte : Try.prog.cellsOf 5 = 1 := by kernel_rfl

set_option maxRecDepth 100000 in
theorem fnCuts_lifted (os : Os) (started : os.Started) (H : Type) (enc : TypeId × Value → H) :
    ReturnsInHanded {} Try.checked os 4 .any (Rows.fnCutsSpec.pre6 enc Try.prog Try.f4 Rows.fnCutsRow.domain false) (Rows.fnCutsSpec.post enc Try.prog Try.f4 false true false false) := by
  refine returnsInHanded_of_change (C := Try.checked) own_knob started (by kernel_rfl) Try.func4
    (ChangeSpec.witness6 (enc := enc) (C := Try.checked) false ⟨#[], #[.slice none 0 0], []⟩ 8 (by kernel_rfl) (by kernel_rfl) (by kernel_rfl) (by kernel_rfl)) ?_
  intro W base args ds gs before hval0 hW hcnd _
  have hval : ∀ (j : Nat) t v, Try.f4.params[j]? = some t → args[j]? = some v → Value.okWide Try.prog W .any base t v := hval0
  have hW' := hW
  obtain ⟨p, q, hA0, hV, rfl, hfz, hnd⟩ := hW
  have hA : DataW.TrodAll enc Try.prog W 0 (fun _ => true) true Try.f4.params.toList args.toList ds p := hA0
  rw [Try.params4] at hA hval
  obtain ⟨v0, d0, rfl, rfl, h0⟩ := trodAll_one hA
  obtain ⟨rfl, rfl⟩ := trodVars_none hV
  obtain ⟨pa, na, ca, rfl, sa, ma⟩ := arg_bytes Try.underlying28 Try.underlying5 fnCuts_cells_byte (hval 0 28 v0 rfl rfl) h0
  clear hA0 hval0
  exact (lFnCuts pa na ca W sa ma).mono fun e W' ⟨he, hg⟩ =>
    law_done (B := 4) he laid_out (by kernel_rfl) Try.underlying4 (by kernel_rfl) hW' rfl rfl hg

theorem fnCuts_holds : Rows.FnCutsSaid :=
  OpenClaim.holds_of_wide 4 Try.f4 rfl rfl rfl rfl rfl rfl rfl ⟨rfl, rfl, rfl, rfl, rfl⟩ rfl rfl rfl rfl rfl (by kernel_rfl) Try.func4 (by kernel_rfl)
    (of_decide_eq_true (by kernel_rfl)) (by unfold Func.isWrapper; first | (rw [if_pos (by decide +kernel)]; kernel_rfl) | (rw [if_neg (by decide +kernel)]; exact ⟨rfl, rfl⟩))
    (fun os started H enc _ => fnCuts_lifted os started H enc)
#print axioms fnCuts_holds

end Go.Proofs.Ytjogeicoofdlgaa
