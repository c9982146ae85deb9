/- The law FnExactSeriesRatio returns true for all arguments. No condition. -/
import Derived.Test.YtmkmdcifakaflaaWRatioLaws
import Derived.Test.YtmkmdcifakaflaaRBase
namespace Go.Proofs.Ytmkmdcifakaflaa
open Go.ChangeShapes Go.WideShapes Go.ChangeAt Go.RowKit Go.Joins

theorem fnExactSeriesRatio_cells_laws_Ratio : Try.prog.cellsOf 48 = 2 := by kernel_rfl

set_option maxRecDepth 100000 in
theorem fnExactSeriesRatio_lifted (os : Os) (started : os.Started) (H : Type) (enc : TypeId × Value → H) :
    ReturnsInHanded {} Try.checked os 8 .any (Rows.fnExactSeriesRatioSpec.pre6 enc Try.prog Try.f8 Rows.fnExactSeriesRatioRow.domain false) (Rows.fnExactSeriesRatioSpec.post enc Try.prog Try.f8 false true false false) := by
  refine returnsInHanded_of_change (C := Try.checked) own_knob started (by kernel_rfl) Try.func8
    (ChangeSpec.witness6 (enc := enc) (C := Try.checked) false ⟨#[], #[.agg #[.int .i64 0, .int .i64 0], .agg #[.int .i64 0, .int .i64 0]], []⟩ 8 (by kernel_rfl) (by kernel_rfl) (by kernel_rfl) (by kernel_rfl)) ?_
  intro W base args ds gs before hval0 hW hcnd _
  have hval : ∀ (j : Nat) t v, Try.f8.params[j]? = some t → args[j]? = some v → Value.okWide Try.prog W .any base t v := hval0
  have hW' := hW
  obtain ⟨p, q, hA0, hV, rfl, hfz, hnd⟩ := hW
  have hA : DataW.TrodAll enc Try.prog W 0 (fun _ => true) true Try.f8.params.toList args.toList ds p := hA0
  rw [Try.params8] at hA hval
  obtain ⟨v0, v1, d0, d1, p0, p1, rfl, rfl, rfl, h0, h1⟩ := trodAll_two hA
  obtain ⟨rfl, rfl⟩ := trodVars_none hV
  obtain ⟨ca0, ca1, ya0, ya1, ma, rfl, rfl, rfl, hya0, hya1⟩ := open_agg2 Try.underlying48 (by kernel_rfl) fnExactSeriesRatio_cells_laws_Ratio (hval 0 48 v0 rfl rfl) h0
  obtain ⟨a0, ea0, rfl, wa0⟩ := DataW.trod_int Try.underlying3 hya0
  obtain ⟨a1, ea1, rfl, wa1⟩ := DataW.trod_int Try.underlying3 hya1
  simp at ea0 ea1
  subst ea0 ea1
  obtain ⟨cb0, cb1, yb0, yb1, mb, rfl, rfl, rfl, hyb0, hyb1⟩ := open_agg2 Try.underlying48 (by kernel_rfl) fnExactSeriesRatio_cells_laws_Ratio (hval 1 48 v1 rfl rfl) h1
  obtain ⟨b0, eb0, rfl, wb0⟩ := DataW.trod_int Try.underlying3 hyb0
  obtain ⟨b1, eb1, rfl, wb1⟩ := DataW.trod_int Try.underlying3 hyb1
  simp at eb0 eb1
  subst eb0 eb1
  clear hA0 hval0
  exact (lFnExactSeriesRatio a0 a1 b0 b1 W).mono fun e W' ⟨he, hg⟩ =>
    law_done (B := 4) he laid_out (by kernel_rfl) Try.underlying4 (by kernel_rfl) hW' rfl rfl hg

theorem fnExactSeriesRatio_holds : Rows.FnExactSeriesRatioSaid :=
  OpenClaim.holds_of_wide 8 Try.f8 rfl rfl rfl rfl rfl rfl rfl ⟨rfl, rfl, rfl, rfl, rfl⟩ rfl rfl rfl rfl rfl (by kernel_rfl) Try.func8 (by kernel_rfl)
    (of_decide_eq_true (by kernel_rfl)) (by unfold Func.isWrapper; first | (rw [if_pos (by decide +kernel)]; kernel_rfl) | (rw [if_neg (by decide +kernel)]; exact ⟨rfl, rfl⟩))
    (fun os started H enc _ => fnExactSeriesRatio_lifted os started H enc)
#print axioms fnExactSeriesRatio_holds
end Go.Proofs.Ytmkmdcifakaflaa
