/- The law FnExactFormatSquare returns true for all arguments. No condition. -/
import Derived.Test.YtdepjlplhffahaaWSquare
import Derived.Test.YtdepjlplhffahaaRBase
namespace Go.Proofs.Ytdepjlplhffahaa
open Go.ChangeShapes Go.WideShapes Go.ChangeAt Go.RowKit Go.Joins

theorem fnExactFormatSquare_cells_laws_Square : Try.prog.cellsOf 29 = 3 := by kernel_rfl

set_option maxRecDepth 100000 in
theorem fnExactFormatSquare_lifted (os : Os) (started : os.Started) (H : Type) (enc : TypeId × Value → H) :
    ReturnsInHanded {} Try.checked os 4 .any (Rows.fnExactFormatSquareSpec.pre6 enc Try.prog Try.f4 Rows.fnExactFormatSquareRow.domain false) (Rows.fnExactFormatSquareSpec.post enc Try.prog Try.f4 false true false false) := by
  refine returnsInHanded_of_change (C := Try.checked) own_knob started (by kernel_rfl) Try.func4
    (ChangeSpec.witness6 (enc := enc) (C := Try.checked) false ⟨#[], #[.agg #[.int .i64 0, .int .i64 0, .int .i64 0]], []⟩ 8 (by kernel_rfl) (by kernel_rfl) (by kernel_rfl) (by kernel_rfl)) ?_
  intro W base args ds gs before hval0 hW hcnd _
  have hval : ∀ (j : Nat) t v, Try.f4.params[j]? = some t → args[j]? = some v → Value.okWide Try.prog W .any base t v := hval0
  have hW' := hW
  obtain ⟨p, q, hA0, hV, rfl, hfz, hnd⟩ := hW
  have hA : DataW.TrodAll enc Try.prog W 0 (fun _ => true) true Try.f4.params.toList args.toList ds p := hA0
  rw [Try.params4] at hA hval
  obtain ⟨v0, d0, rfl, rfl, h0⟩ := trodAll_one hA
  obtain ⟨rfl, rfl⟩ := trodVars_none hV
  obtain ⟨ca0, ca1, ca2, ya0, ya1, ya2, ma, rfl, rfl, rfl, hya0, hya1, hya2⟩ := open_agg3 Try.underlying29 (by kernel_rfl) fnExactFormatSquare_cells_laws_Square (hval 0 29 v0 rfl rfl) h0
  obtain ⟨a0, ea0, rfl, wa0⟩ := DataW.trod_int Try.underlying3 hya0
  obtain ⟨a1, ea1, rfl, wa1⟩ := DataW.trod_int Try.underlying3 hya1
  obtain ⟨a2, ea2, rfl, wa2⟩ := DataW.trod_int Try.underlying3 hya2
  simp at ea0 ea1 ea2
  subst ea0 ea1 ea2
  clear hA0 hval0
  exact (lFnExactFormatSquare a0 a1 a2 W (i64_of_wf wa0) (i64_of_wf wa1) (i64_of_wf wa2)).mono fun e W' ⟨he, hg⟩ =>
    law_done (B := 4) he laid_out (by kernel_rfl) Try.underlying4 (by kernel_rfl) hW' rfl rfl hg

theorem fnExactFormatSquare_holds : Rows.FnExactFormatSquareSaid :=
  OpenClaim.holds_of_wide 4 Try.f4 rfl rfl rfl rfl rfl rfl rfl ⟨rfl, rfl, rfl, rfl, rfl⟩ rfl rfl rfl rfl rfl (by kernel_rfl) Try.func4 (by kernel_rfl)
    (of_decide_eq_true (by kernel_rfl)) (by unfold Func.isWrapper; first | (rw [if_pos (by decide +kernel)]; kernel_rfl) | (rw [if_neg (by decide +kernel)]; exact ⟨rfl, rfl⟩))
    (fun os started H enc _ => fnExactFormatSquare_lifted os started H enc)
#print axioms fnExactFormatSquare_holds
end Go.Proofs.Ytdepjlplhffahaa
