/- The law FnExactStepChance returns true for all arguments. No condition. -/
import Derived.Test.YtppabikbepdobaaWStepChanceLaw
import Derived.Test.YtppabikbepdobaaRBase
import Derived.Test.YtppabikbepdobaaRNet
namespace Go.Proofs.Ytppabikbepdobaa

open Go.ChangeShapes Go.WideShapes Go.ChangeAt Go.RowKit Go.Joins

theorem fnExactStepChance_cells_net : Try.prog.cellsOf 24 = 4 := by kernel_rfl
theorem fnExactStepChance_cells_wire : Try.prog.cellsOf 85 = 3 := by kernel_rfl

set_option maxRecDepth 100000 in
theorem fnExactStepChance_lifted (os : Os) (started : os.Started) (H : Type) (enc : TypeId × Value → H) :
    ReturnsInHanded {} Try.checked os 4 .any (Rows.fnExactStepChanceSpec.pre6 enc Try.prog Try.f4 Rows.fnExactStepChanceRow.domain false) (Rows.fnExactStepChanceSpec.post enc Try.prog Try.f4 false true false false) := by
  refine returnsInHanded_of_change (C := Try.checked) own_knob started (by kernel_rfl) Try.func4
    (ChangeSpec.witness6 (enc := enc) (C := Try.checked) false ⟨#[], #[.agg #[.int .i64 0, .int .i64 0, .int .i64 0, .slice none 0 0], .int .i64 0, .int .i64 0], []⟩ 8 (by kernel_rfl) (by kernel_rfl) (by kernel_rfl) (by kernel_rfl)) ?_
  intro W base args ds gs before hval0 hW hcnd _
  have hval : ∀ (j : Nat) t v, Try.f4.params[j]? = some t → args[j]? = some v → Value.okWide Try.prog W .any base t v := hval0
  have hW' := hW
  obtain ⟨p, q, hA0, hV, rfl, hfz, hnd⟩ := hW
  have hA : DataW.TrodAll enc Try.prog W 0 (fun _ => true) true Try.f4.params.toList args.toList ds p := hA0
  rw [Try.params4] at hA hval
  obtain ⟨v0, v1, v2, d0, d1, d2, p0, p1, p2, rfl, rfl, rfl, h0, h1, h2⟩ := trodAll_three hA
  obtain ⟨rfl, rfl⟩ := trodVars_none hV
  obtain ⟨Nn, En, Sn, pn, nn, cn, ln, rfl, sn, mn, bn, hcn, iNn, iEn, iSn⟩ := arg_net Try.underlying24 (by kernel_rfl) fnExactStepChance_cells_net Try.underlying3 Try.underlying3 Try.underlying3 rfl Try.underlying22 Try.underlying85 (by kernel_rfl) fnExactStepChance_cells_wire Try.underlying3 Try.underlying3 Try.underlying3 (hval 0 24 v0 rfl rfl) h0
  obtain ⟨v, rfl, rfl, rfl, wv⟩ := open_int Try.underlying3 (hval 1 3 v1 rfl rfl) h1
  obtain ⟨u, rfl, rfl, rfl, wu⟩ := open_int Try.underlying3 (hval 2 3 v2 rfl rfl) h2
  clear hA0 hval0
  exact (lFnExactStepChance Nn En Sn pn nn cn ln v u W sn mn (i64_of_wf wv) (i64_of_wf wu)).mono fun e W' ⟨he, hg⟩ =>
    law_done (B := 4) he laid_out (by kernel_rfl) Try.underlying4 (by kernel_rfl) hW' rfl rfl hg

theorem fnExactStepChance_holds : Rows.FnExactStepChanceSaid :=
  OpenClaim.holds_of_wide 4 Try.f4 rfl rfl rfl rfl rfl rfl rfl ⟨rfl, rfl, rfl, rfl, rfl⟩ rfl rfl rfl rfl rfl (by kernel_rfl) Try.func4 (by kernel_rfl)
    (of_decide_eq_true (by kernel_rfl)) (by unfold Func.isWrapper; first | (rw [if_pos (by decide +kernel)]; kernel_rfl) | (rw [if_neg (by decide +kernel)]; exact ⟨rfl, rfl⟩))
    (fun os started H enc _ => fnExactStepChance_lifted os started H enc)
#print axioms fnExactStepChance_holds

end Go.Proofs.Ytppabikbepdobaa
