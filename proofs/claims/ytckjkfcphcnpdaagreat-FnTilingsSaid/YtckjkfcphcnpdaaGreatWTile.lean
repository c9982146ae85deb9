/- Tilings: byPlace, sides, TilingOk of both sides. No condition. -/
import Derived.Test.YtckjkfcphcnpdaaGreatWLaw
import Derived.Test.YtckjkfcphcnpdaaGreatWSl
import Derived.Test.YtckjkfcphcnpdaaGreatPlTile
import Derived.Test.YtckjkfcphcnpdaaGreatWIn
namespace Go.Proofs.YtckjkfcphcnpdaaGreat
set_option maxRecDepth 100000
open Go.ChangeShapes Go.WideShapes Go.ChangeAt Go.RowKit Go.Joins

theorem isNaNInt (x : Int) (w : World) : Calls Tryz.prog 73 #[.int .i64 x] w fun e w' => e = .returned (.bool false) ∧ w = w' := by
  have h : (x != x) = false := by simp
  go_enter Tryz.func73, Tryz.ntmps73
  go_wp2_with fail
  go_ret
  exact ⟨rfl, rfl⟩

theorem compareInt (x y : Int) (w : World) : Calls Tryz.prog 52 #[.int .i64 x, .int .i64 y] w fun e w' => e = .returned (.int .i64 (cmpI x y)) ∧ w = w' := by
  by_cases h1 : x < y
  · go_enter Tryz.func52, Tryz.ntmps52
    go_wp2_with (go_at_call 73; ((with_reducible refine (isNaNInt _ _).mono ?_); rintro e w' ⟨rfl, rfl⟩))
    go_ret
    exact ⟨ret_int (by simp [cmpI, h1]), rfl⟩
  · by_cases h2 : y < x
    · go_enter Tryz.func52, Tryz.ntmps52
      go_wp2_with (go_at_call 73; ((with_reducible refine (isNaNInt _ _).mono ?_); rintro e w' ⟨rfl, rfl⟩))
      go_ret
      exact ⟨ret_int (by simp [cmpI, h1, h2]), rfl⟩
    · have h3 : cmpI x y = 0 := by unfold cmpI; rw [if_neg h1, if_neg h2]
      go_enter Tryz.func52, Tryz.ntmps52
      go_wp2_with (go_at_call 73; ((with_reducible refine (isNaNInt _ _).mono ?_); rintro e w' ⟨rfl, rfl⟩))
      go_ret
      exact ⟨ret_int h3.symm, rfl⟩

def orI (x y : Int) : Int := if x ≠ 0 then x else y
theorem orI_ne {x y : Int} (h : ¬ x = 0) : orI x y = x := by simp [orI, h]
theorem orI_eq {x y : Int} (h : x = 0) : orI x y = y := by simp [orI, h]
set_option maxHeartbeats 400000 in
theorem orInt (x y : Int) (b : Nat) (w : World) (h0 : w.cell? ⟨b, 0, none⟩ = some (.int .i64 x)) (h1 : w.cell? ⟨b, 1, none⟩ = some (.int .i64 y)) :
    Calls Tryz.prog 54 #[.slice (some ⟨b, 0, none⟩) 2 2] w fun e w' => e = .returned (.int .i64 (orI x y)) ∧ w = w' := by
  go_enter Tryz.func54, Tryz.ntmps54
  go_wp2_with fail
  go_loop [8] (fun i => i = .int .i64 0 ∨ i = .int .i64 1 ∧ Hid (x = 0) ∨ i = .int .i64 2 ∧ Hid (x = 0) ∧ Hid (y = 0)) (fun i => 2 - (intOf i).toNat)
  case atStart => exact .inl rfl
  case round =>
    rcases hrel with rfl | ⟨rfl, HX⟩ | ⟨rfl, HX, HY⟩
    · by_cases hx : x = 0
      · have ex : (x != 0) = false := by simp [hx]
        have HX := Lib.hid hx
        clear hx
        go_wp2_with fail
        go_round
        case rel => exact .inr (.inl ⟨rfl, HX⟩)
        case measure => simp [intOf]
      · have ex : (x != 0) = true := by simp [hx]
        go_wp2_with fail
        go_ret
        exact ⟨ret_int (orI_ne hx).symm, rfl⟩
    · by_cases hy : y = 0
      · have ey : (y != 0) = false := by simp [hy]
        have HY := Lib.hid hy
        clear hy
        go_wp2_with fail
        go_round
        case rel => exact .inr (.inr ⟨rfl, HX, HY⟩)
        case measure => simp [intOf]
      · have ey : (y != 0) = true := by simp [hy]
        go_wp2_with fail
        go_ret
        exact ⟨ret_int (orI_eq HX.out).symm, rfl⟩
    · go_wp2_with fail
      go_ret
      exact ⟨ret_int (by rw [orI_eq HX.out, HY.out]), rfl⟩

set_option maxHeartbeats 800000 in
theorem iByPlace (x1 y1 s1 x2 y2 s2 : Int) (w : World) :
    Calls Tryz.prog 31 #[.agg #[.int .i64 x1, .int .i64 y1, .int .i64 s1], .agg #[.int .i64 x2, .int .i64 y2, .int .i64 s2]] w fun e w' => e = .returned (.int .i64 (cmpSq x1 y1 x2 y2)) ∧ Ge w w' := by
  go_enter Tryz.func31, Tryz.ntmps31
  go_wp2_with fail
  go_region_held3 (fun w' => w'.cell? ⟨w.heap.size, 0, none⟩ = some (.int .i64 x1) ∧ w'.cell? ⟨w.heap.size, 1, none⟩ = some (.int .i64 y1) ∧ w'.cell? ⟨w.heap.size, 2, none⟩ = some (.int .i64 s1) ∧ w'.cell? ⟨w.heap.size + 1, 0, none⟩ = some (.int .i64 x2) ∧ w'.cell? ⟨w.heap.size + 1, 1, none⟩ = some (.int .i64 y2) ∧ w'.cell? ⟨w.heap.size + 1, 2, none⟩ = some (.int .i64 s2) ∧ Ge w w') (first | exact ⟨hb.keep (‹_ ∧ _ ∧ _ ∧ _ ∧ _ ∧ _ ∧ _›).1, hb.keep (‹_ ∧ _ ∧ _ ∧ _ ∧ _ ∧ _ ∧ _›).2.1, hb.keep (‹_ ∧ _ ∧ _ ∧ _ ∧ _ ∧ _ ∧ _›).2.2.1, hb.keep (‹_ ∧ _ ∧ _ ∧ _ ∧ _ ∧ _ ∧ _›).2.2.2.1, hb.keep (‹_ ∧ _ ∧ _ ∧ _ ∧ _ ∧ _ ∧ _›).2.2.2.2.1, hb.keep (‹_ ∧ _ ∧ _ ∧ _ ∧ _ ∧ _ ∧ _›).2.2.2.2.2.1, Ge.trans (‹_ ∧ _ ∧ _ ∧ _ ∧ _ ∧ _ ∧ _›).2.2.2.2.2.2 hb⟩ | ((refine ⟨?_, ?_, ?_, ?_, ?_, ?_, ?_⟩ <;> (repeat (first | assumption | with_reducible exact Ge.refl _ | with_reducible refine cv_drew ?_ | with_reducible refine cv_alloc ?_ | with_reducible refine cv_set ?_ | with_reducible refine cell_drew ?_ | ((with_reducible refine cell_new ?_ ?_); (focus (simp; done)); rfl) | ((with_reducible refine froz_new (v := undef) ?_ ?_); (focus (simp; done)); rfl) | with_reducible refine cell_drewN ?_ | with_reducible refine cell_alloc ?_ | ((with_reducible refine cell_set ?_ ?_); rotate_left; focus (simp; done)) | with_reducible refine froz_drew ?_ | with_reducible refine froz_set ?_ | with_reducible refine froz_alloc (by assumption) ?_ | with_reducible refine Ge.drew ?_ | with_reducible refine Ge.drewN ?_ _ | with_reducible refine Ge.alloc ?_ _ | ((with_reducible refine Ge.setCell ?_ ?_ _); rotate_left; focus (first | (simp; done) | omega | (simp; omega))) | with_reducible refine Ge.trans ?_ (by assumption)))); done) | ((obtain ⟨s0, s1, s2, s3, s4, s5, s6⟩ := ‹_ ∧ _ ∧ _ ∧ _ ∧ _ ∧ _ ∧ _›); refine ⟨?_, ?_, ?_, ?_, ?_, ?_, ?_⟩ <;> (repeat (first | assumption | with_reducible exact Ge.refl _ | with_reducible refine cv_drew ?_ | with_reducible refine cv_alloc ?_ | with_reducible refine cv_set ?_ | with_reducible refine cell_drew ?_ | ((with_reducible refine cell_new ?_ ?_); (focus (simp; done)); rfl) | ((with_reducible refine froz_new (v := undef) ?_ ?_); (focus (simp; done)); rfl) | with_reducible refine cell_drewN ?_ | with_reducible refine cell_alloc ?_ | ((with_reducible refine cell_set ?_ ?_); rotate_left; focus (simp; done)) | with_reducible refine froz_drew ?_ | with_reducible refine froz_set ?_ | with_reducible refine froz_alloc (by assumption) ?_ | with_reducible refine Ge.drew ?_ | with_reducible refine Ge.drewN ?_ _ | with_reducible refine Ge.alloc ?_ _ | ((with_reducible refine Ge.setCell ?_ ?_ _); rotate_left; focus (first | (simp; done) | omega | (simp; omega))) | with_reducible refine Ge.trans ?_ (by assumption))))) (first | (go_at_call 52; ((with_reducible refine (compareInt _ _ _).mono ?_); rintro e w' ⟨rfl, rfl⟩)) | (go_at_call 54; ((with_reducible refine (orInt (cmpI y1 y2) (cmpI x1 x2) _ _ (cell_drew (cell_new (by simp) rfl)) (cell_drew (cell_new (by simp) rfl))).mono ?_); rintro e w' ⟨rfl, rfl⟩)) | fail); (rename_i hHeldX; obtain ⟨c0_0, c0_1, c0_2, c1_0, c1_1, c1_2, G2⟩ := hHeldX)
  go_wp2_with fail
  go_ret
  exact ⟨rfl, by (repeat (first | with_reducible exact Ge.refl _ | assumption | with_reducible refine Ge.drew ?_ | with_reducible refine Ge.drewN ?_ _ | with_reducible refine Ge.alloc ?_ _ | (with_reducible refine Ge.setCell ?_ (by first | (simp; done) | omega | (simp; omega)) _) | with_reducible refine Ge.trans ?_ (by assumption)))⟩
end Go.Proofs.YtckjkfcphcnpdaaGreat
