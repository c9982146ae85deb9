/- Tilings: byPlace, sides, TilingOk of both sides. No condition. -/
import Derived.Test.YtfhhgonoddedlaaWLaw
import Derived.Test.YtfhhgonoddedlaaWSl
import Derived.Test.YtfhhgonoddedlaaPlTile
import Derived.Test.YtfhhgonoddedlaaWIn
namespace Go.Proofs.Ytfhhgonoddedlaa
set_option maxRecDepth 100000
open Go.ChangeShapes Go.WideShapes Go.ChangeAt Go.RowKit Go.Joins

theorem isNaNInt (x : Int) (w : World) : Calls Try.prog 116 #[.int .i64 x] w fun e w' => e = .returned (.bool false) ∧ w = w' := by
  have h : (x != x) = false := by simp
  go_enter Try.func116, Try.ntmps116
  go_wp2_with fail
  go_ret
  exact ⟨rfl, rfl⟩

theorem compareInt (x y : Int) (w : World) : Calls Try.prog 93 #[.int .i64 x, .int .i64 y] w fun e w' => e = .returned (.int .i64 (cmpI x y)) ∧ w = w' := by
  by_cases h1 : x < y
  · go_enter Try.func93, Try.ntmps93
    go_wp2_with (go_at_call 116; ((with_reducible refine (isNaNInt _ _).mono ?_); rintro e w' ⟨rfl, rfl⟩))
    go_ret
    exact ⟨ret_int (by simp [cmpI, h1]), rfl⟩
  · by_cases h2 : y < x
    · go_enter Try.func93, Try.ntmps93
      go_wp2_with (go_at_call 116; ((with_reducible refine (isNaNInt _ _).mono ?_); rintro e w' ⟨rfl, rfl⟩))
      go_ret
      exact ⟨ret_int (by simp [cmpI, h1, h2]), rfl⟩
    · have h3 : cmpI x y = 0 := by unfold cmpI; rw [if_neg h1, if_neg h2]
      go_enter Try.func93, Try.ntmps93
      go_wp2_with (go_at_call 116; ((with_reducible refine (isNaNInt _ _).mono ?_); rintro e w' ⟨rfl, rfl⟩))
      go_ret
      exact ⟨ret_int h3.symm, rfl⟩

def orI (x y : Int) : Int := if x ≠ 0 then x else y
theorem orI_ne {x y : Int} (h : ¬ x = 0) : orI x y = x := by simp [orI, h]
theorem orI_eq {x y : Int} (h : x = 0) : orI x y = y := by simp [orI, h]
set_option maxHeartbeats 400000 in
theorem orInt (x y : Int) (b : Nat) (w : World) (h0 : w.cell? ⟨b, 0, none⟩ = some (.int .i64 x)) (h1 : w.cell? ⟨b, 1, none⟩ = some (.int .i64 y)) :
    Calls Try.prog 92 #[.slice (some ⟨b, 0, none⟩) 2 2] w fun e w' => e = .returned (.int .i64 (orI x y)) ∧ w = w' := by
  go_enter Try.func92, Try.ntmps92
  go_wp2_with fail
  go_loop [8] (fun i => i = .int .i64 0 ∨ i = .int .i64 1 ∧ Hid (x = 0) ∨ i = .int .i64 2 ∧ Hid (x = 0) ∧ Hid (y = 0)) (fun i => 2 - (intOf i).toNat)
  case atStart => exact .inl rfl
  case round =>
    rcases hrel with rfl | ⟨rfl, HX⟩ | ⟨rfl, HX, HY⟩
    · by_cases hx : x = 0
      · have ex : (x != 0) = false := by simp [hx]
        have HX := Lib.hid hx
        clear hx
        go_wp2_with fail
        go_round
        case rel => exact .inr (.inl ⟨rfl, HX⟩)
        case measure => simp [intOf]
      · have ex : (x != 0) = true := by simp [hx]
        go_wp2_with fail
        go_ret
        exact ⟨ret_int (orI_ne hx).symm, rfl⟩
    · by_cases hy : y = 0
      · have ey : (y != 0) = false := by simp [hy]
        have HY := Lib.hid hy
        clear hy
        go_wp2_with fail
        go_round
        case rel => exact .inr (.inr ⟨rfl, HX, HY⟩)
        case measure => simp [intOf]
      · have ey : (y != 0) = true := by simp [hy]
        go_wp2_with fail
        go_ret
        exact ⟨ret_int (orI_eq HX.out).symm, rfl⟩
    · go_wp2_with fail
      go_ret
      exact ⟨ret_int (by rw [orI_eq HX.out, HY.out]), rfl⟩

end Go.Proofs.Ytfhhgonoddedlaa
