/- The law FnExactFormatNet returns true for all arguments. No condition. -/
import Derived.Test.YtppabikbepdobaaWFormatNetLaw
import Derived.Test.YtppabikbepdobaaRBase
import Derived.Test.YtppabikbepdobaaRNet
namespace Go.Proofs.Ytppabikbepdobaa

open Go.ChangeShapes Go.WideShapes Go.ChangeAt Go.RowKit Go.Joins

theorem fnExactFormatNet_cells_net : Try.prog.cellsOf 24 = 4 := by kernel_rfl
theorem fnExactFormatNet_cells_wire : Try.prog.cellsOf 85 = 3 := by kernel_rfl

set_option maxRecDepth 100000 in
theorem fnExactFormatNet_lifted (os : Os) (started : os.Started) (H : Type) (enc : TypeId × Value → H) :
    ReturnsInHanded {} Try.checked os 3 .any (Rows.fnExactFormatNetSpec.pre6 enc Try.prog Try.f3 Rows.fnExactFormatNetRow.domain false) (Rows.fnExactFormatNetSpec.post enc Try.prog Try.f3 false true false false) := by
  refine returnsInHanded_of_change (C := Try.checked) own_knob started (by kernel_rfl) Try.func3
    (ChangeSpec.witness6 (enc := enc) (C := Try.checked) false ⟨#[], #[.agg #[.int .i64 0, .int .i64 0, .int .i64 0, .slice none 0 0]], []⟩ 8 (by kernel_rfl) (by kernel_rfl) (by kernel_rfl) (by kernel_rfl)) ?_
  intro W base args ds gs before hval0 hW hcnd _
  have hval : ∀ (j : Nat) t v, Try.f3.params[j]? = some t → args[j]? = some v → Value.okWide Try.prog W .any base t v := hval0
  have hW' := hW
  obtain ⟨p, q, hA0, hV, rfl, hfz, hnd⟩ := hW
  have hA : DataW.TrodAll enc Try.prog W 0 (fun _ => true) true Try.f3.params.toList args.toList ds p := hA0
  rw [Try.params3] at hA hval
  obtain ⟨v0, d0, rfl, rfl, h0⟩ := trodAll_one hA
  obtain ⟨rfl, rfl⟩ := trodVars_none hV
  obtain ⟨Nn, En, Sn, pn, nn, cn, ln, rfl, sn, mn, bn, hcn, iNn, iEn, iSn⟩ := arg_net Try.underlying24 (by kernel_rfl) fnExactFormatNet_cells_net Try.underlying3 Try.underlying3 Try.underlying3 rfl Try.underlying22 Try.underlying85 (by kernel_rfl) fnExactFormatNet_cells_wire Try.underlying3 Try.underlying3 Try.underlying3 (hval 0 24 v0 rfl rfl) h0
  clear hA0 hval0
  exact (lFnExactFormatNet Nn En Sn pn nn cn ln W sn mn).mono fun e W' ⟨he, hg⟩ =>
    law_done (B := 4) he laid_out (by kernel_rfl) Try.underlying4 (by kernel_rfl) hW' rfl rfl hg

theorem fnExactFormatNet_holds : Rows.FnExactFormatNetSaid :=
  OpenClaim.holds_of_wide 3 Try.f3 rfl rfl rfl rfl rfl rfl rfl ⟨rfl, rfl, rfl, rfl, rfl⟩ rfl rfl rfl rfl rfl (by kernel_rfl) Try.func3 (by kernel_rfl)
    (of_decide_eq_true (by kernel_rfl)) (by unfold Func.isWrapper; first | (rw [if_pos (by decide +kernel)]; kernel_rfl) | (rw [if_neg (by decide +kernel)]; exact ⟨rfl, rfl⟩))
    (fun os started H enc _ => fnExactFormatNet_lifted os started H enc)
#print axioms fnExactFormatNet_holds

end Go.Proofs.Ytppabikbepdobaa
