/- FormatSquare. -/
import Derived.Test.YtndbdbcbnipmaaaWFmt
namespace Go.Proofs.Ytndbdbcbnipmaaa

open Go.RowKit

def squareTxt (x y z : Int) : List UInt8 := fmtInt z ++ [64] ++ fmtInt x ++ [44] ++ fmtInt y

theorem squareTxt_eq (x y z : Int) : bstr (fmtInt z) ++ (⟨#[64]⟩ : ByteArray) ++ bstr (fmtInt x) ++ (⟨#[44]⟩ : ByteArray) ++ bstr (fmtInt y) = bstr (squareTxt x y z) := by
  show bstr (fmtInt z) ++ bstr [64] ++ bstr (fmtInt x) ++ bstr [44] ++ bstr (fmtInt y) = _
  rw [bstr_append, bstr_append, bstr_append, bstr_append]; rfl

theorem square_z (x y z : Int) : (¬ 9223372036854775807 < (bstr (fmtInt z)).size + 1) ∧ (¬ 9223372036854775807 < (bstr (fmtInt z)).size + 1 + (bstr (fmtInt x)).size) ∧
    (¬ 9223372036854775807 < (bstr (fmtInt z)).size + 1 + (bstr (fmtInt x)).size + 1) ∧ (¬ 9223372036854775807 < (bstr (fmtInt z)).size + 1 + (bstr (fmtInt x)).size + 1 + (bstr (fmtInt y)).size) := by
  have := fmtInt_length x; have := fmtInt_length y; have := fmtInt_length z; rw [bstr_size, bstr_size, bstr_size]; omega

set_option maxHeartbeats 400000 in
theorem iFormatSquare (x y z : Int) (w : World) (hx : -9223372036854775808 ≤ x ∧ x ≤ 9223372036854775807) (hy : -9223372036854775808 ≤ y ∧ y ≤ 9223372036854775807) (hz : -9223372036854775808 ≤ z ∧ z ≤ 9223372036854775807) :
    Calls Try.prog 75 #[.agg #[.int .i64 x, .int .i64 y, .int .i64 z]] w fun e w' => e = .returned (.string (bstr (squareTxt x y z))) ∧ Ge w w' := by
  obtain ⟨x0, x1⟩ := hx
  obtain ⟨y0, y1⟩ := hy
  obtain ⟨z0, z1⟩ := hz
  obtain ⟨u1, u2, u3, u4⟩ := square_z x y z
  go_enter Try.func75, Try.ntmps75
  go_wp2_with fail
  go_region_held3 (fun w' => w'.cell? ⟨w.heap.size, 0, none⟩ = some (.int .i64 x) ∧ w'.cell? ⟨w.heap.size, 1, none⟩ = some (.int .i64 y) ∧ w'.cell? ⟨w.heap.size, 2, none⟩ = some (.int .i64 z) ∧ Ge w w') (exact ⟨by simp, by simp, by simp, by (repeat (first | with_reducible exact Ge.refl _ | assumption | with_reducible refine Ge.drew ?_ | with_reducible refine Ge.drewN ?_ _ | with_reducible refine Ge.alloc ?_ _ | (with_reducible refine Ge.setCell ?_ (by first | (simp; done) | omega | (simp; omega)) _) | with_reducible refine Ge.trans ?_ (by assumption)))⟩)
    (first | (go_at_call 74; ((with_reducible refine (iFormatInt _ _ (by assumption) (by assumption)).mono ?_); rintro e w' ⟨rfl, rfl⟩)) | fail)
  go_wp2_with fail
  go_ret
  exact ⟨ret_str (squareTxt_eq _ _ _), by (repeat (first | with_reducible exact Ge.refl _ | assumption | with_reducible refine Ge.drew ?_ | with_reducible refine Ge.drewN ?_ _ | with_reducible refine Ge.alloc ?_ _ | (with_reducible refine Ge.setCell ?_ (by first | (simp; done) | omega | (simp; omega)) _) | with_reducible refine Ge.trans ?_ (by assumption)))⟩

set_option maxHeartbeats 400000 in
theorem sFormatSquare (x y z : Int) (w : World) (hx : -9223372036854775808 ≤ x ∧ x ≤ 9223372036854775807) (hy : -9223372036854775808 ≤ y ∧ y ≤ 9223372036854775807) (hz : -9223372036854775808 ≤ z ∧ z ≤ 9223372036854775807) :
    Calls Try.prog 73 #[.agg #[.int .i64 x, .int .i64 y, .int .i64 z]] w fun e w' => e = .returned (.string (bstr (squareTxt x y z))) ∧ Ge w w' := by
  obtain ⟨x0, x1⟩ := hx
  obtain ⟨y0, y1⟩ := hy
  obtain ⟨z0, z1⟩ := hz
  obtain ⟨u1, u2, u3, u4⟩ := square_z x y z
  go_enter Try.func73, Try.ntmps73
  go_wp2_with fail
  go_region_held3 (fun w' => w'.cell? ⟨w.heap.size, 0, none⟩ = some (.int .i64 x) ∧ w'.cell? ⟨w.heap.size, 1, none⟩ = some (.int .i64 y) ∧ w'.cell? ⟨w.heap.size, 2, none⟩ = some (.int .i64 z) ∧ Ge w w') (first | exact ⟨hb.keep (‹_ ∧ _ ∧ _ ∧ _›).1, hb.keep (‹_ ∧ _ ∧ _ ∧ _›).2.1, hb.keep (‹_ ∧ _ ∧ _ ∧ _›).2.2.1, Ge.trans (‹_ ∧ _ ∧ _ ∧ _›).2.2.2 hb⟩ | exact ⟨by simp, by simp, by simp, by (repeat (first | with_reducible exact Ge.refl _ | assumption | with_reducible refine Ge.drew ?_ | with_reducible refine Ge.drewN ?_ _ | with_reducible refine Ge.alloc ?_ _ | (with_reducible refine Ge.setCell ?_ (by first | (simp; done) | omega | (simp; omega)) _) | with_reducible refine Ge.trans ?_ (by assumption)))⟩)
    (first | (go_at_call 72; ((with_reducible refine (sFormatInt _ _ (by assumption) (by assumption)).mono ?_); rintro e w' ⟨rfl, hb⟩)) | fail)
  go_wp2_with fail
  go_ret
  exact ⟨ret_str (squareTxt_eq _ _ _), by (repeat (first | with_reducible exact Ge.refl _ | assumption | with_reducible refine Ge.drew ?_ | with_reducible refine Ge.drewN ?_ _ | with_reducible refine Ge.alloc ?_ _ | (with_reducible refine Ge.setCell ?_ (by first | (simp; done) | omega | (simp; omega)) _) | with_reducible refine Ge.trans ?_ (by assumption)))⟩

theorem lToSquare (x y z : Int) (w : World) :
    Calls Try.prog 68 #[.agg #[.int .i64 x, .int .i64 y, .int .i64 z]] w fun e w' => e = .returned (.agg #[.int .i64 x, .int .i64 y, .int .i64 z]) ∧ Ge w w' := by
  go_enter Try.func68, Try.ntmps68
  go_wp2_with fail
  exact bodyPost_ret (v := .agg #[.int .i64 x, .int .i64 y, .int .i64 z]) (by simp [results, Try.results68, go_sem]) rfl ⟨rfl, by (repeat (first | with_reducible exact Ge.refl _ | assumption | with_reducible refine Ge.drew ?_ | with_reducible refine Ge.drewN ?_ _ | with_reducible refine Ge.alloc ?_ _ | (with_reducible refine Ge.setCell ?_ (by first | (simp; done) | omega | (simp; omega)) _) | with_reducible refine Ge.trans ?_ (by assumption)))⟩

end Go.Proofs.Ytndbdbcbnipmaaa
