/- The laws of TilingOk, HeightOf, WidthOf, walked. No condition. -/
import Derived.Test.YtndbdbcbnipmaaaWTile5
import Derived.Test.YtndbdbcbnipmaaaWSqArg
namespace Go.Proofs.Ytndbdbcbnipmaaa
set_option maxRecDepth 100000
open Go.ChangeShapes Go.WideShapes Go.ChangeAt Go.RowKit Go.Joins

theorem owns_cap {w : World} {base : Nat} {e : TypeId} {sz : Nat} {v : Value} {n : Nat} {xs : List Value} (h : w.ownsRow base e sz v n xs) : ∀ p c, v = .slice p n c → n ≤ c := by
  intro p c hv
  rcases h.2 with ⟨h', h0⟩ | ⟨g, cap, cur, h', _, _, hnc, _⟩
  · omega
  · subst h'
    simp at hv
    omega

def szI (L : Int) (n : Nat) : Int := if L - n < 0 then -1 else L - n
set_option maxHeartbeats 400000 in
theorem lSzSquareS (p : Option Addr) (n cap : Nat) (L : Int) (w : World) (hm : n ≤ 9223372036854775807) (h0 : 0 ≤ L) (h1 : L ≤ 1048576) :
    Calls Try.prog 20 #[.slice p n cap, .int .i64 L] w fun e w' => e = .returned (.int .i64 (szI L n)) ∧ w = w' := by
  by_cases h : L - n < 0
  · have HF : Hid (szI L n = -1) := by simp [szI, h, Lib.hid]
    go_enter Try.func20, Try.ntmps20
    go_wp2_with fail
    go_ret
    exact ⟨ret_int HF.out.symm, rfl⟩
  · have HF : Hid (szI L n = L - n) := by simp [szI, h, Lib.hid]
    go_enter Try.func20, Try.ntmps20
    go_wp2_with fail
    go_ret
    exact ⟨ret_int HF.out.symm, rfl⟩

set_option maxHeartbeats 800000 in
theorem lFnExactTilingOk (v : Value) (n : Nat) (l : List Int) (w : World) (hv : SlF w v n 3 l) (hm : n ≤ 9223372036854775807) (hb : ∀ j, -9223372036854775808 ≤ nth l j ∧ nth l j ≤ 9223372036854775807) :
    Calls Try.prog 4 #[v] w fun e w' => e = .returned (.bool true) ∧ Ge w w' := by
  obtain ⟨pv, cv', rfl, hc⟩ := hv.open
  by_cases hbig : 1048576 < n
  · clear hv hc hb
    have z1 : szI 1048576 n = -1 := by unfold szI; rw [if_pos (by omega)]
    go_enter Try.func4, Try.ntmps4
    go_wp2_with (go_at_call 20; ((with_reducible refine (lSzSquareS _ n _ _ _ hm (by decide) (by decide)).mono ?_); rintro e w' ⟨rfl, rfl⟩))
    go_ret
    exact ⟨rfl, Ge.refl _⟩
  have hle : n ≤ 1048576 := by omega
  have HV := Lib.hid hv
  have HLe := Lib.hid hle
  have HB := Lib.hid hb
  have hsm : n ≤ 9223372036854775807 := hm
  have e1 : (tileB n l != tileB n l) = false := by simp
  have z1 : szI 1048576 n = 1048576 - n := by unfold szI; rw [if_neg (by omega)]
  have z2 : ¬ (1048576 - (n : Int) < 0) := by omega
  have hsm2 : n ≤ 4611686018427387904 := by omega
  have HSm := Lib.hid hsm2
  clear hv hc hm hle hb hsm2
  go_enter Try.func4, Try.ntmps4
  go_wp2_with (first | (go_at_call 20; ((with_reducible refine (lSzSquareS _ n _ _ _ hsm (by decide) (by decide)).mono ?_); rintro e w' ⟨rfl, rfl⟩)) | (go_at_call 22; ((with_reducible refine (lToSquareS _ n l _ HV.out HLe.out).mono ?_); rintro e w1 ⟨v1, rfl, o1, g1⟩)))
  go_wp2_with (go_at_call 21; ((with_reducible refine (sTilingOk v1 n l _ (SlF.of_owns o1) hsm HB.out (owns_cap o1)).mono ?_); rintro e w2 ⟨rfl, g2⟩))
  have G2 : Ge w w2 := g1.trans g2
  go_wp2_with (go_at_call 22; ((with_reducible refine (lToSquareS _ n l _ (SlF.ge HV.out G2) HLe.out).mono ?_); rintro e w3 ⟨v3, rfl, o3, g3⟩))
  go_wp2_with (go_at_call 23; ((with_reducible refine (iTilingOk v3 n l _ (SlF.of_owns o3) hsm HB.out (owns_cap o3)).mono ?_); rintro e w4 ⟨rfl, g4⟩))
  have G4 : Ge w w4 := (G2.trans g3).trans g4
  have o4 := Ge.owns g4 o3
  go_wp2_with (go_at_call 22; ((with_reducible refine (lToSquareS _ n l _ (SlF.ge HV.out G4) HLe.out).mono ?_); rintro e w6 ⟨v6, rfl, o6, g6⟩))
  have ed : decide (l = l) = true := by simp
  go_wp2_with (go_at_call 24; ((with_reducible refine (lEqSquareS v3 v6 n n l l _ (SlF.of_owns (g6.owns o4)) (SlF.of_owns o6) HSm.out).mono ?_); rintro e w7 ⟨rfl, g7⟩))
  go_ret
  exact ⟨rfl, (G4.trans g6).trans g7⟩

set_option maxHeartbeats 800000 in
theorem lFnExactHeightOf (v : Value) (n : Nat) (l : List Int) (w : World) (hv : SlF w v n 3 l) (hm : n ≤ 9223372036854775807) (hb : ∀ j, -9223372036854775808 ≤ nth l j ∧ nth l j ≤ 9223372036854775807) :
    Calls Try.prog 5 #[v] w fun e w' => e = .returned (.bool true) ∧ Ge w w' := by
  obtain ⟨pv, cv', rfl, hc⟩ := hv.open
  by_cases hbig : 1048576 < n
  · clear hv hc hb
    have z1 : szI 1048576 n = -1 := by unfold szI; rw [if_pos (by omega)]
    go_enter Try.func5, Try.ntmps5
    go_wp2_with (go_at_call 20; ((with_reducible refine (lSzSquareS _ n _ _ _ hm (by decide) (by decide)).mono ?_); rintro e w' ⟨rfl, rfl⟩))
    go_ret
    exact ⟨rfl, Ge.refl _⟩
  have hle : n ≤ 1048576 := by omega
  have HV := Lib.hid hv
  have HLe := Lib.hid hle
  have HB := Lib.hid hb
  have hsm : n ≤ 9223372036854775807 := hm
  have e1 : (heightQ n l != heightQ n l) = false := by simp
  have z1 : szI 1048576 n = 1048576 - n := by unfold szI; rw [if_neg (by omega)]
  have z2 : ¬ (1048576 - (n : Int) < 0) := by omega
  have hsm2 : n ≤ 4611686018427387904 := by omega
  have HSm := Lib.hid hsm2
  clear hv hc hm hle hb hsm2
  go_enter Try.func5, Try.ntmps5
  go_wp2_with (first | (go_at_call 20; ((with_reducible refine (lSzSquareS _ n _ _ _ hsm (by decide) (by decide)).mono ?_); rintro e w' ⟨rfl, rfl⟩)) | (go_at_call 22; ((with_reducible refine (lToSquareS _ n l _ HV.out HLe.out).mono ?_); rintro e w1 ⟨v1, rfl, o1, g1⟩)))
  go_wp2_with (go_at_call 25; ((with_reducible refine (sHeightOf v1 n l _ (SlF.of_owns o1) hsm HB.out (owns_cap o1)).mono ?_); rintro e w2 ⟨rfl, g2⟩))
  have G2 : Ge w w2 := g1.trans g2
  go_wp2_with (go_at_call 22; ((with_reducible refine (lToSquareS _ n l _ (SlF.ge HV.out G2) HLe.out).mono ?_); rintro e w3 ⟨v3, rfl, o3, g3⟩))
  go_wp2_with (go_at_call 26; ((with_reducible refine (iHeightOf v3 n l _ (SlF.of_owns o3) hsm HB.out (owns_cap o3)).mono ?_); rintro e w4 ⟨rfl, g4⟩))
  have G4 : Ge w w4 := (G2.trans g3).trans g4
  have o4 := Ge.owns g4 o3
  go_wp2_with (go_at_call 22; ((with_reducible refine (lToSquareS _ n l _ (SlF.ge HV.out G4) HLe.out).mono ?_); rintro e w6 ⟨v6, rfl, o6, g6⟩))
  have ed : decide (l = l) = true := by simp
  go_wp2_with (go_at_call 24; ((with_reducible refine (lEqSquareS v3 v6 n n l l _ (SlF.of_owns (g6.owns o4)) (SlF.of_owns o6) HSm.out).mono ?_); rintro e w7 ⟨rfl, g7⟩))
  go_ret
  exact ⟨rfl, (G4.trans g6).trans g7⟩

set_option maxHeartbeats 800000 in
theorem lFnExactWidthOf (v : Value) (n : Nat) (l : List Int) (w : World) (hv : SlF w v n 3 l) (hm : n ≤ 9223372036854775807) (hb : ∀ j, -9223372036854775808 ≤ nth l j ∧ nth l j ≤ 9223372036854775807) :
    Calls Try.prog 6 #[v] w fun e w' => e = .returned (.bool true) ∧ Ge w w' := by
  obtain ⟨pv, cv', rfl, hc⟩ := hv.open
  by_cases hbig : 1048576 < n
  · clear hv hc hb
    have z1 : szI 1048576 n = -1 := by unfold szI; rw [if_pos (by omega)]
    go_enter Try.func6, Try.ntmps6
    go_wp2_with (go_at_call 20; ((with_reducible refine (lSzSquareS _ n _ _ _ hm (by decide) (by decide)).mono ?_); rintro e w' ⟨rfl, rfl⟩))
    go_ret
    exact ⟨rfl, Ge.refl _⟩
  have hle : n ≤ 1048576 := by omega
  have HV := Lib.hid hv
  have HLe := Lib.hid hle
  have HB := Lib.hid hb
  have hsm : n ≤ 9223372036854775807 := hm
  have e1 : (widthQ n l != widthQ n l) = false := by simp
  have z1 : szI 1048576 n = 1048576 - n := by unfold szI; rw [if_neg (by omega)]
  have z2 : ¬ (1048576 - (n : Int) < 0) := by omega
  have hsm2 : n ≤ 4611686018427387904 := by omega
  have HSm := Lib.hid hsm2
  clear hv hc hm hle hb hsm2
  go_enter Try.func6, Try.ntmps6
  go_wp2_with (first | (go_at_call 20; ((with_reducible refine (lSzSquareS _ n _ _ _ hsm (by decide) (by decide)).mono ?_); rintro e w' ⟨rfl, rfl⟩)) | (go_at_call 22; ((with_reducible refine (lToSquareS _ n l _ HV.out HLe.out).mono ?_); rintro e w1 ⟨v1, rfl, o1, g1⟩)))
  go_wp2_with (go_at_call 27; ((with_reducible refine (sWidthOf v1 n l _ (SlF.of_owns o1) hsm HB.out (owns_cap o1)).mono ?_); rintro e w2 ⟨rfl, g2⟩))
  have G2 : Ge w w2 := g1.trans g2
  go_wp2_with (go_at_call 22; ((with_reducible refine (lToSquareS _ n l _ (SlF.ge HV.out G2) HLe.out).mono ?_); rintro e w3 ⟨v3, rfl, o3, g3⟩))
  go_wp2_with (go_at_call 28; ((with_reducible refine (iWidthOf v3 n l _ (SlF.of_owns o3) hsm HB.out (owns_cap o3)).mono ?_); rintro e w4 ⟨rfl, g4⟩))
  have G4 : Ge w w4 := (G2.trans g3).trans g4
  have o4 := Ge.owns g4 o3
  go_wp2_with (go_at_call 22; ((with_reducible refine (lToSquareS _ n l _ (SlF.ge HV.out G4) HLe.out).mono ?_); rintro e w6 ⟨v6, rfl, o6, g6⟩))
  have ed : decide (l = l) = true := by simp
  go_wp2_with (go_at_call 24; ((with_reducible refine (lEqSquareS v3 v6 n n l l _ (SlF.of_owns (g6.owns o4)) (SlF.of_owns o6) HSm.out).mono ?_); rintro e w7 ⟨rfl, g7⟩))
  go_ret
  exact ⟨rfl, (G4.trans g6).trans g7⟩
end Go.Proofs.Ytndbdbcbnipmaaa
