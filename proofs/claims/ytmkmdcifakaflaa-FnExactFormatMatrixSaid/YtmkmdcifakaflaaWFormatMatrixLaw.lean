/- The law of FormatMatrix, walked. No condition. -/
import Derived.Test.YtmkmdcifakaflaaWFormatMatrix
namespace Go.Proofs.Ytmkmdcifakaflaa
set_option maxRecDepth 100000
open Go.ChangeShapes Go.WideShapes Go.ChangeAt Go.RowKit Go.Joins

theorem SlM.form {w : World} {v : Value} {n : Nat} {R : List (Nat × List Int)} (h : SlM w v n R) : ∃ p c, v = .slice p n c := by
  obtain ⟨p, c, hv, _⟩ := h; exact ⟨p, c, hv⟩
set_option maxHeartbeats 800000 in
theorem lFnExactFormatMatrix (v : Value) (n : Nat) (R : List (Nat × List Int)) (w : World) (hv : SlM w v n R) (hn : R.length = n) (hm : n ≤ 9223372036854775807) (hr : ∀ i, i < n → rlen R i ≤ 9223372036854775807)
    (hb : ∀ i, i < n → ∀ j, -9223372036854775808 ≤ nth (rdat R i) j ∧ nth (rdat R i) j ≤ 9223372036854775807) :
    Calls Try.prog 14 #[v] w fun e w' => e = .returned (.bool true) ∧ Ge w w' := by
  have hz := lSzRatioSS v n R 1048576 w hv hn hm hr (by decide) (by decide)
  by_cases hbig : szMat 1048576 R < 0
  · have HZ := Lib.hid hz
    clear hz hv hr hb
    go_enter Try.func14, Try.ntmps14
    go_wp2_with (go_at_call 54; ((with_reducible refine (HZ.out).mono ?_); rintro e w' ⟨rfl, rfl⟩))
    go_ret
    exact ⟨rfl, Ge.refl _⟩
  obtain ⟨hle, hrs⟩ := szMat_small (R := R) (by omega)
  rw [hn] at hle hrs
  have HZ := Lib.hid hz
  have HV := Lib.hid hv
  have HLe := Lib.hid hle
  have HR := Lib.hid hrs
  have HB := Lib.hid hb
  clear hz hv hm hr hb hle hrs
  go_enter Try.func14, Try.ntmps14
  go_wp2_with (first | (go_at_call 54; ((with_reducible refine (HZ.out).mono ?_); rintro e w' ⟨rfl, rfl⟩)) | (go_at_call 56; ((with_reducible refine (lToRatioSS _ n R _ HV.out HLe.out HR.out).mono ?_); rintro e w1 ⟨v1, rfl, o1, g1⟩)))
  go_wp2_with (go_at_call 55; ((with_reducible refine (sFormatMatrix v1 n R _ o1 HLe.out HR.out HB.out).mono ?_); rintro e w2 ⟨rfl, g2⟩))
  have G2 : Ge w w2 := g1.trans g2
  go_wp2_with (go_at_call 56; ((with_reducible refine (lToRatioSS _ n R _ (SlM.ge HV.out G2) HLe.out HR.out).mono ?_); rintro e w3 ⟨v3, rfl, o3, g3⟩))
  go_wp2_with (go_at_call 57; ((with_reducible refine (iFormatMatrix v3 n R _ o3 HLe.out HR.out HB.out).mono ?_); rintro e w4 ⟨rfl, g4⟩))
  have G4 : Ge w w4 := (G2.trans g3).trans g4
  have o4 := SlM.ge o3 g4
  go_wp2_with (go_at_call 56; ((with_reducible refine (lToRatioSS _ n R _ (SlM.ge HV.out G4) HLe.out HR.out).mono ?_); rintro e w6 ⟨v6, rfl, o6, g6⟩))
  go_wp2_with (go_at_call 58; ((with_reducible refine (lEqRatioSS v3 v6 n R _ (SlM.ge o4 g6) o6 HLe.out HR.out).mono ?_); rintro e w7 ⟨rfl, g7⟩))
  go_ret
  exact ⟨rfl, (G4.trans g6).trans g7⟩
end Go.Proofs.Ytmkmdcifakaflaa
