/- The law of PlanarLine, walked. No condition. -/
import Derived.Test.YtfhhgonoddedlaaWPlanarLine
import Derived.Test.YtfhhgonoddedlaaWIntSS
namespace Go.Proofs.Ytfhhgonoddedlaa
set_option maxRecDepth 100000
open Go.ChangeShapes Go.WideShapes Go.ChangeAt Go.RowKit Go.Joins

theorem SlMI.form {w : World} {v : Value} {n : Nat} {R : List (List Int)} (h : SlMI w v n R) : ∃ p c, v = .slice p n c := by
  obtain ⟨p, c, hv, _⟩ := h; exact ⟨p, c, hv⟩
set_option maxHeartbeats 800000 in
theorem lFnExactPlanarLine (v : Value) (n : Nat) (R : List (List Int)) (w : World) (hv : SlMI w v n R) (hn : R.length = n) (hm : n ≤ 9223372036854775807) (hr : ∀ i, i < n → (rowL R i).length ≤ 9223372036854775807)
    (hb : ∀ i, i < n → ∀ j, -9223372036854775808 ≤ nth (rowL R i) j ∧ nth (rowL R i) j ≤ 9223372036854775807) :
    Calls Try.prog 3 #[v] w fun e w' => e = .returned (.bool true) ∧ Ge w w' := by
  have hz := lSzIntSS v n R 1048576 w hv hn hm hr (by decide) (by decide)
  by_cases hbig : szSS 1048576 R < 0
  · have HZ := Lib.hid hz
    clear hz hv hr hb
    go_enter Try.func3, Try.ntmps3
    go_wp2_with (go_at_call 7; ((with_reducible refine (HZ.out).mono ?_); rintro e w' ⟨rfl, rfl⟩))
    go_ret
    exact ⟨rfl, Ge.refl _⟩
  obtain ⟨hle, hrs⟩ := szSS_small (R := R) (by omega)
  rw [hn] at hle hrs
  have HN := Lib.hid hn
  have HZ := Lib.hid hz
  have HV := Lib.hid hv
  have HLe := Lib.hid hle
  have HR := Lib.hid hrs
  have HB := Lib.hid hb
  clear hz hv hm hr hb hle hrs
  go_enter Try.func3, Try.ntmps3
  go_wp2_with (first | (go_at_call 7; ((with_reducible refine (HZ.out).mono ?_); rintro e w' ⟨rfl, rfl⟩)) | (go_at_call 9; ((with_reducible refine (lToIntSS _ n R _ HV.out HLe.out HR.out).mono ?_); rintro e w1 ⟨v1, rfl, o1, g1⟩)))
  go_wp2_with (go_at_call 8; ((with_reducible refine (sPlanarLine v1 n R _ o1 HN.out HLe.out HR.out).mono ?_); rintro e w2 ⟨rfl, g2⟩))
  have G2 : Ge w w2 := g1.trans g2
  go_wp2_with (go_at_call 9; ((with_reducible refine (lToIntSS _ n R _ (SlMI.ge HV.out G2) HLe.out HR.out).mono ?_); rintro e w3 ⟨v3, rfl, o3, g3⟩))
  go_wp2_with (go_at_call 10; ((with_reducible refine (iPlanarLine v3 n R _ o3 HN.out HLe.out HR.out).mono ?_); rintro e w4 ⟨rfl, g4⟩))
  have G4 : Ge w w4 := (G2.trans g3).trans g4
  have o4 := SlMI.ge o3 g4
  go_wp2_with (go_at_call 9; ((with_reducible refine (lToIntSS _ n R _ (SlMI.ge HV.out G4) HLe.out HR.out).mono ?_); rintro e w6 ⟨v6, rfl, o6, g6⟩))
  go_wp2_with (go_at_call 11; ((with_reducible refine (lEqIntSS v3 v6 n R _ (SlMI.ge o4 g6) o6 HLe.out HR.out).mono ?_); rintro e w7 ⟨rfl, g7⟩))
  go_ret
  exact ⟨rfl, (G4.trans g6).trans g7⟩
end Go.Proofs.Ytfhhgonoddedlaa
