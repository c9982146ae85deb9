/- FormatFault. -/
import Derived.Test.YtmkmdcifakaflaaWFmt
namespace Go.Proofs.Ytmkmdcifakaflaa

open Go.RowKit

def faultTxt (a b : Int) : List UInt8 := fmtInt a ++ [61] ++ fmtInt b

theorem faultTxt_eq (a b : Int) : bstr (fmtInt a) ++ (⟨#[61]⟩ : ByteArray) ++ bstr (fmtInt b) = bstr (faultTxt a b) := by
  show bstr (fmtInt a) ++ bstr [61] ++ bstr (fmtInt b) = _
  rw [bstr_append, bstr_append]; rfl

theorem fault_z (a b : Int) : (¬ 9223372036854775807 < (bstr (fmtInt a)).size + 1) ∧ (¬ 9223372036854775807 < (bstr (fmtInt a)).size + 1 + (bstr (fmtInt b)).size) := by
  have := fmtInt_length a; have := fmtInt_length b; rw [bstr_size, bstr_size]; omega

set_option maxHeartbeats 400000 in
theorem iFormatFault (a b : Int) (w : World) (ha : -9223372036854775808 ≤ a ∧ a ≤ 9223372036854775807) (hb : -9223372036854775808 ≤ b ∧ b ≤ 9223372036854775807) :
    Calls Try.prog 17 #[.agg #[.int .i64 a, .int .i64 b]] w fun e w' => e = .returned (.string (bstr (faultTxt a b))) ∧ Ge w w' := by
  obtain ⟨a0, a1⟩ := ha
  obtain ⟨b0, b1⟩ := hb
  obtain ⟨z1, z2⟩ := fault_z a b
  go_enter Try.func17, Try.ntmps17
  go_wp2_with fail
  go_region_held3 (fun w' => w'.cell? ⟨w.heap.size, 0, none⟩ = some (.int .i64 a) ∧ w'.cell? ⟨w.heap.size, 1, none⟩ = some (.int .i64 b) ∧ Ge w w') (exact ⟨by simp, by simp, by (repeat (first | with_reducible exact Ge.refl _ | assumption | with_reducible refine Ge.drew ?_ | with_reducible refine Ge.drewN ?_ _ | with_reducible refine Ge.alloc ?_ _ | (with_reducible refine Ge.setCell ?_ (by first | (simp; done) | omega | (simp; omega)) _) | with_reducible refine Ge.trans ?_ (by assumption)))⟩)
    (first | (go_at_call 60; ((with_reducible refine (iFormatInt _ _ (by assumption) (by assumption)).mono ?_); rintro e w' ⟨rfl, rfl⟩)) | fail)
  go_wp2_with fail
  go_ret
  exact ⟨ret_str (faultTxt_eq _ _), by (repeat (first | with_reducible exact Ge.refl _ | assumption | with_reducible refine Ge.drew ?_ | with_reducible refine Ge.drewN ?_ _ | with_reducible refine Ge.alloc ?_ _ | (with_reducible refine Ge.setCell ?_ (by first | (simp; done) | omega | (simp; omega)) _) | with_reducible refine Ge.trans ?_ (by assumption)))⟩

set_option maxHeartbeats 400000 in
theorem sFormatFault (a b : Int) (w : World) (ha : -9223372036854775808 ≤ a ∧ a ≤ 9223372036854775807) (hb : -9223372036854775808 ≤ b ∧ b ≤ 9223372036854775807) :
    Calls Try.prog 15 #[.agg #[.int .i64 a, .int .i64 b]] w fun e w' => e = .returned (.string (bstr (faultTxt a b))) ∧ Ge w w' := by
  obtain ⟨a0, a1⟩ := ha
  obtain ⟨b0, b1⟩ := hb
  obtain ⟨z1, z2⟩ := fault_z a b
  go_enter Try.func15, Try.ntmps15
  go_wp2_with fail
  go_region_held3 (fun w' => w'.cell? ⟨w.heap.size, 0, none⟩ = some (.int .i64 a) ∧ w'.cell? ⟨w.heap.size, 1, none⟩ = some (.int .i64 b) ∧ Ge w w') (first | exact ⟨hb.keep (‹_ ∧ _ ∧ _›).1, hb.keep (‹_ ∧ _ ∧ _›).2.1, Ge.trans (‹_ ∧ _ ∧ _›).2.2 hb⟩ | exact ⟨by simp, by simp, by (repeat (first | with_reducible exact Ge.refl _ | assumption | with_reducible refine Ge.drew ?_ | with_reducible refine Ge.drewN ?_ _ | with_reducible refine Ge.alloc ?_ _ | (with_reducible refine Ge.setCell ?_ (by first | (simp; done) | omega | (simp; omega)) _) | with_reducible refine Ge.trans ?_ (by assumption)))⟩)
    (first | (go_at_call 59; ((with_reducible refine (sFormatInt _ _ (by assumption) (by assumption)).mono ?_); rintro e w' ⟨rfl, hb⟩)) | fail)
  go_wp2_with fail
  go_ret
  exact ⟨ret_str (faultTxt_eq _ _), by (repeat (first | with_reducible exact Ge.refl _ | assumption | with_reducible refine Ge.drew ?_ | with_reducible refine Ge.drewN ?_ _ | with_reducible refine Ge.alloc ?_ _ | (with_reducible refine Ge.setCell ?_ (by first | (simp; done) | omega | (simp; omega)) _) | with_reducible refine Ge.trans ?_ (by assumption)))⟩

theorem lToFault (a b : Int) (w : World) :
    Calls Try.prog 16 #[.agg #[.int .i64 a, .int .i64 b]] w fun e w' => e = .returned (.agg #[.int .i64 a, .int .i64 b]) ∧ Ge w w' := by
  go_enter Try.func16, Try.ntmps16
  go_wp2_with fail
  exact bodyPost_ret (v := .agg #[.int .i64 a, .int .i64 b]) (by simp [results, Try.results16, go_sem]) rfl ⟨rfl, by (repeat (first | with_reducible exact Ge.refl _ | assumption | with_reducible refine Ge.drew ?_ | with_reducible refine Ge.drewN ?_ _ | with_reducible refine Ge.alloc ?_ _ | (with_reducible refine Ge.setCell ?_ (by first | (simp; done) | omega | (simp; omega)) _) | with_reducible refine Ge.trans ?_ (by assumption)))⟩

set_option maxHeartbeats 400000 in
theorem lFnExactFormatFault (a b : Int) (w : World) (ha : -9223372036854775808 ≤ a ∧ a ≤ 9223372036854775807) (hb : -9223372036854775808 ≤ b ∧ b ≤ 9223372036854775807) :
    Calls Try.prog 3 #[.agg #[.int .i64 a, .int .i64 b]] w fun e w' => e = .returned (.bool true) ∧ Ge w w' := by
  go_enter Try.func3, Try.ntmps3
  go_wp2_with (first
    | (go_at_call 16; ((with_reducible refine (lToFault a b _).mono ?_); rintro e w' ⟨rfl, hGe⟩); obtain ⟨hCe, hFr, hSz⟩ := Ge.rules hGe; (try simp at hSz); have hL0 : w.heap.size < w'.heap.size := (by omega))
    | (go_at_call 17; ((with_reducible refine (iFormatFault a b _ ha hb).mono ?_); rintro e w' ⟨rfl, hGe⟩); obtain ⟨hCe, hFr, hSz⟩ := Ge.rules hGe; (try simp at hSz); have hL0 : w.heap.size < w'.heap.size := (by omega))
    | (go_at_call 15; ((with_reducible refine (sFormatFault a b _ ha hb).mono ?_); rintro e w' ⟨rfl, hGe⟩); obtain ⟨hCe, hFr, hSz⟩ := Ge.rules hGe; (try simp at hSz); have hL0 : w.heap.size < w'.heap.size := (by omega)))
  go_ret
  exact ⟨rfl, by (repeat (first | with_reducible exact Ge.refl _ | assumption | with_reducible refine Ge.drew ?_ | with_reducible refine Ge.drewN ?_ _ | with_reducible refine Ge.alloc ?_ _ | (with_reducible refine Ge.setCell ?_ (by first | (simp; done) | omega | (simp; omega)) _) | with_reducible refine Ge.trans ?_ (by assumption)))⟩
end Go.Proofs.Ytmkmdcifakaflaa
