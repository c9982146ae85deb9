/- The law of HasEqualSquares, walked. No condition. -/
import Derived.Test.YtndbdbcbnipmaaaWTileLaws
import Derived.Test.YtndbdbcbnipmaaaWSizes
namespace Go.Proofs.Ytndbdbcbnipmaaa
set_option maxRecDepth 100000
open Go.ChangeShapes Go.WideShapes Go.ChangeAt Go.RowKit Go.Joins

set_option maxHeartbeats 800000 in
theorem lFnExactHasEqualSquares (v : Value) (n : Nat) (l : List Int) (w : World) (hv : SlF w v n 3 l) (hm : n ≤ 9223372036854775807) (hb : ∀ j, -9223372036854775808 ≤ nth l j ∧ nth l j ≤ 9223372036854775807) :
    Calls Try.prog 9 #[v] w fun e w' => e = .returned (.bool true) ∧ Ge w w' := by
  obtain ⟨pv, cv', rfl, hc⟩ := hv.open
  by_cases hbig : 1048576 < n
  · clear hv hc hb
    have z1 : szI 1048576 n = -1 := by unfold szI; rw [if_pos (by omega)]
    go_enter Try.func9, Try.ntmps9
    go_wp2_with (go_at_call 20; ((with_reducible refine (lSzSquareS _ n _ _ _ hm (by decide) (by decide)).mono ?_); rintro e w' ⟨rfl, rfl⟩))
    go_ret
    exact ⟨rfl, Ge.refl _⟩
  have hle : n ≤ 1048576 := by omega
  have HV := Lib.hid hv
  have HLe := Lib.hid hle
  have HB := Lib.hid hb
  have hsm : n ≤ 9223372036854775807 := hm
  have e1 : (equalB n l != equalB n l) = false := by simp
  have z1 : szI 1048576 n = 1048576 - n := by unfold szI; rw [if_neg (by omega)]
  have z2 : ¬ (1048576 - (n : Int) < 0) := by omega
  have hsm2 : n ≤ 4611686018427387904 := by omega
  have HSm := Lib.hid hsm2
  clear hv hc hm hle hb hsm2
  go_enter Try.func9, Try.ntmps9
  go_wp2_with (first | (go_at_call 20; ((with_reducible refine (lSzSquareS _ n _ _ _ hsm (by decide) (by decide)).mono ?_); rintro e w' ⟨rfl, rfl⟩)) | (go_at_call 22; ((with_reducible refine (lToSquareS _ n l _ HV.out HLe.out).mono ?_); rintro e w1 ⟨v1, rfl, o1, g1⟩)))
  go_wp2_with (go_at_call 35; ((with_reducible refine (sHasEqualSquares v1 n l _ (SlF.of_owns o1) hsm HB.out (owns_cap o1)).mono ?_); rintro e w2 ⟨rfl, g2⟩))
  have G2 : Ge w w2 := g1.trans g2
  go_wp2_with (go_at_call 22; ((with_reducible refine (lToSquareS _ n l _ (SlF.ge HV.out G2) HLe.out).mono ?_); rintro e w3 ⟨v3, rfl, o3, g3⟩))
  go_wp2_with (go_at_call 36; ((with_reducible refine (iHasEqualSquares v3 n l _ (SlF.of_owns o3) hsm HB.out (owns_cap o3)).mono ?_); rintro e w4 ⟨rfl, g4⟩))
  have G4 : Ge w w4 := (G2.trans g3).trans g4
  have o4 := Ge.owns g4 o3
  go_wp2_with (go_at_call 22; ((with_reducible refine (lToSquareS _ n l _ (SlF.ge HV.out G4) HLe.out).mono ?_); rintro e w6 ⟨v6, rfl, o6, g6⟩))
  have ed : decide (l = l) = true := by simp
  go_wp2_with (go_at_call 24; ((with_reducible refine (lEqSquareS v3 v6 n n l l _ (SlF.of_owns (g6.owns o4)) (SlF.of_owns o6) HSm.out).mono ?_); rintro e w7 ⟨rfl, g7⟩))
  go_ret
  exact ⟨rfl, (G4.trans g6).trans g7⟩

end Go.Proofs.Ytndbdbcbnipmaaa
