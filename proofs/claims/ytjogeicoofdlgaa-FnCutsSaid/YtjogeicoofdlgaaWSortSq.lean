/- slices.SortFunc of at most 12 squares that are in order. No condition. -/
import Derived.Test.YtjogeicoofdlgaaWTile
import Derived.Test.YtjogeicoofdlgaaWFlat
import Derived.Test.YtjogeicoofdlgaaShelf
namespace Go.Proofs.Ytjogeicoofdlgaa
set_option maxRecDepth 100000
open Go.ChangeShapes Go.WideShapes Go.ChangeAt Go.RowKit Go.Joins

/-- Each square stands behind the one before it. -/
def ordC (n : Nat) (xs : List Int) : Prop := ∀ k, k + 1 < n → ¬ cmpSq (nth xs ((k + 1) * 3)) (nth xs ((k + 1) * 3 + 1)) (nth xs (k * 3)) (nth xs (k * 3 + 1)) < 0
set_option maxHeartbeats 3200000 in
theorem insSq (v : Value) (n : Nat) (xs : List Int) (w : World) (h : SlF w v n 3 xs) (hn : n ≤ 12) (ho : ordC n xs) (fv : Value) (hf : fv = .func (.func 32) #[] #[]) :
    Calls Try.prog 69 #[v, .int .i64 0, .int .i64 (n : Int), fv] w fun e w' => e = .returned (.tuple #[]) ∧ Ge w w' := by
  subst hf
  obtain ⟨p, c, rfl, hc⟩ := h.open
  have HC := Lib.hid hc
  have HO := Lib.hid ho
  clear h hc ho
  go_enter Try.func69, Try.ntmps69
  go_wp2_with fail
  go_loopw [8] (fun i wr => ∃ k : Nat, 1 ≤ k ∧ (k ≤ n ∨ k = 1) ∧ i = .int .i64 k ∧ Ge w wr) (fun i _ => (n + 1) - (intOf i).toNat)
  case atStart => exact ⟨1, by omega, .inr rfl, by go_num, Ge.refl _⟩
  case round =>
    obtain ⟨k, hk1, hk, rfl, hg⟩ := hrel
    by_cases hlt : k < n
    · obtain ⟨k', hk'⟩ : ∃ k', k = k' + 1 := ⟨k - 1, by omega⟩
      obtain ⟨b, o, rfl, x0, x1, x2⟩ := three_cells HC.out hlt
      obtain ⟨b', o', he, y0, y1, y2⟩ := three_cells HC.out (show k' < n by omega)
      simp only [Option.some.injEq, Addr.mk.injEq, and_true] at he
      obtain ⟨rfl, rfl⟩ := he
      have ho := HO.out k' (by omega)
      rw [← hk'] at ho
      replace x0 := hg.keep x0
      replace x1 := hg.keep x1
      replace x2 := hg.keep x2
      replace y0 := hg.keep y0
      replace y1 := hg.keep y1
      replace y2 := hg.keep y2
      generalize nth xs (k * 3) = X0 at *
      generalize nth xs (k * 3 + 1) = X1 at *
      generalize nth xs (k * 3 + 2) = X2 at *
      generalize nth xs (k' * 3) = Y0 at *
      generalize nth xs (k' * 3 + 1) = Y1 at *
      generalize nth xs (k' * 3 + 2) = Y2 at *
      have HB := Lib.hid (fun w' => iByPlace X0 X1 X2 Y0 Y1 Y2 w')
      generalize cmpSq X0 X1 Y0 Y1 = CM at *
      have i0 : (0 : Int) ≤ (k' : Int) := by omega
      have i1 : (k' : Int) < (n : Int) := by omega
      have i2 : k' < n := by omega
      subst hk'
      have i3 : (0 : Int) < ((k' + 1 : Nat) : Int) := by omega
      have i5 : ((k' + 1 : Nat) : Int) < (n : Int) := by omega
      have i6 : k' + 1 < n := by omega
      have i7 : (k' : Int) + 1 < (n : Int) := by omega
      have i8 : (0 : Int) ≤ (k' : Int) + 1 := by omega
      have i9 : (0 : Int) < (k' : Int) + 1 := by omega
      have tw : IntKind.i64.wrap ((k' : Int) + 1 - 1) = (k' : Int) := by rw [show (k' : Int) + 1 - 1 = (k' : Int) by omega]; exact IntWalk.i64_in _ (by omega)
      have tw2 : IntKind.i64.wrap (k' : Int) = (k' : Int) := IntWalk.i64_in _ (by omega)
      go_wp2_with fail
      obtain ⟨wa, hwa⟩ : ∃ wa, wa = wr := ⟨_, rfl⟩
      subst hwa
      go_loopw [9] (fun j wr => j = .int .i64 ((k' : Int) + 1) ∧ wr = wa) (fun _ _ => 0)
      case atStart => exact ⟨by go_num, rfl⟩
      case round =>
        obtain ⟨rfl, rfl⟩ := hrel
        go_wp2_with fail
        have hS : ∀ w', Ge wr w' → (w'.cell? ⟨b, o + (k' + 1) * 3, none⟩ = some (.int .i64 X0) ∧ w'.cell? ⟨b, o + (k' + 1) * 3 + 1, none⟩ = some (.int .i64 X1) ∧ w'.cell? ⟨b, o + (k' + 1) * 3 + 2, none⟩ = some (.int .i64 X2) ∧ w'.cell? ⟨b, o + k' * 3, none⟩ = some (.int .i64 Y0) ∧ w'.cell? ⟨b, o + k' * 3 + 1, none⟩ = some (.int .i64 Y1) ∧ w'.cell? ⟨b, o + k' * 3 + 2, none⟩ = some (.int .i64 Y2) ∧ Ge wr w') := fun w' g => ⟨g.keep (by (repeat (first | assumption | with_reducible exact Ge.refl _ | with_reducible refine cv_drew ?_ | with_reducible refine cv_alloc ?_ | with_reducible refine cv_set ?_ | (with_reducible apply cv_some; assumption) | with_reducible refine cell_drew ?_ | with_reducible refine cell_drewN ?_ | ((with_reducible refine cell_new ?_ ?_); (focus (simp; done)); rfl) | with_reducible refine cell_alloc ?_ | with_reducible refine cell_same2 ?_ | ((with_reducible refine cell_set2 ?_ ?_); focus (first | (simp; done) | (intro hE; simp at hE; done) | (intro hE; simp at hE; omega))) | with_reducible refine Ge.drew ?_ | with_reducible refine Ge.drewN ?_ _ | with_reducible refine Ge.alloc ?_ _ | ((with_reducible refine Ge.setCell ?_ ?_ _); rotate_left; focus (first | (simp; done) | omega | (simp; omega))) | with_reducible refine Ge.trans ?_ (by assumption) | with_reducible refine Ge.keep (by assumption) ?_))), g.keep (by (repeat (first | assumption | with_reducible exact Ge.refl _ | with_reducible refine cv_drew ?_ | with_reducible refine cv_alloc ?_ | with_reducible refine cv_set ?_ | (with_reducible apply cv_some; assumption) | with_reducible refine cell_drew ?_ | with_reducible refine cell_drewN ?_ | ((with_reducible refine cell_new ?_ ?_); (focus (simp; done)); rfl) | with_reducible refine cell_alloc ?_ | with_reducible refine cell_same2 ?_ | ((with_reducible refine cell_set2 ?_ ?_); focus (first | (simp; done) | (intro hE; simp at hE; done) | (intro hE; simp at hE; omega))) | with_reducible refine Ge.drew ?_ | with_reducible refine Ge.drewN ?_ _ | with_reducible refine Ge.alloc ?_ _ | ((with_reducible refine Ge.setCell ?_ ?_ _); rotate_left; focus (first | (simp; done) | omega | (simp; omega))) | with_reducible refine Ge.trans ?_ (by assumption) | with_reducible refine Ge.keep (by assumption) ?_))), g.keep (by (repeat (first | assumption | with_reducible exact Ge.refl _ | with_reducible refine cv_drew ?_ | with_reducible refine cv_alloc ?_ | with_reducible refine cv_set ?_ | (with_reducible apply cv_some; assumption) | with_reducible refine cell_drew ?_ | with_reducible refine cell_drewN ?_ | ((with_reducible refine cell_new ?_ ?_); (focus (simp; done)); rfl) | with_reducible refine cell_alloc ?_ | with_reducible refine cell_same2 ?_ | ((with_reducible refine cell_set2 ?_ ?_); focus (first | (simp; done) | (intro hE; simp at hE; done) | (intro hE; simp at hE; omega))) | with_reducible refine Ge.drew ?_ | with_reducible refine Ge.drewN ?_ _ | with_reducible refine Ge.alloc ?_ _ | ((with_reducible refine Ge.setCell ?_ ?_ _); rotate_left; focus (first | (simp; done) | omega | (simp; omega))) | with_reducible refine Ge.trans ?_ (by assumption) | with_reducible refine Ge.keep (by assumption) ?_))), g.keep (by (repeat (first | assumption | with_reducible exact Ge.refl _ | with_reducible refine cv_drew ?_ | with_reducible refine cv_alloc ?_ | with_reducible refine cv_set ?_ | (with_reducible apply cv_some; assumption) | with_reducible refine cell_drew ?_ | with_reducible refine cell_drewN ?_ | ((with_reducible refine cell_new ?_ ?_); (focus (simp; done)); rfl) | with_reducible refine cell_alloc ?_ | with_reducible refine cell_same2 ?_ | ((with_reducible refine cell_set2 ?_ ?_); focus (first | (simp; done) | (intro hE; simp at hE; done) | (intro hE; simp at hE; omega))) | with_reducible refine Ge.drew ?_ | with_reducible refine Ge.drewN ?_ _ | with_reducible refine Ge.alloc ?_ _ | ((with_reducible refine Ge.setCell ?_ ?_ _); rotate_left; focus (first | (simp; done) | omega | (simp; omega))) | with_reducible refine Ge.trans ?_ (by assumption) | with_reducible refine Ge.keep (by assumption) ?_))), g.keep (by (repeat (first | assumption | with_reducible exact Ge.refl _ | with_reducible refine cv_drew ?_ | with_reducible refine cv_alloc ?_ | with_reducible refine cv_set ?_ | (with_reducible apply cv_some; assumption) | with_reducible refine cell_drew ?_ | with_reducible refine cell_drewN ?_ | ((with_reducible refine cell_new ?_ ?_); (focus (simp; done)); rfl) | with_reducible refine cell_alloc ?_ | with_reducible refine cell_same2 ?_ | ((with_reducible refine cell_set2 ?_ ?_); focus (first | (simp; done) | (intro hE; simp at hE; done) | (intro hE; simp at hE; omega))) | with_reducible refine Ge.drew ?_ | with_reducible refine Ge.drewN ?_ _ | with_reducible refine Ge.alloc ?_ _ | ((with_reducible refine Ge.setCell ?_ ?_ _); rotate_left; focus (first | (simp; done) | omega | (simp; omega))) | with_reducible refine Ge.trans ?_ (by assumption) | with_reducible refine Ge.keep (by assumption) ?_))), g.keep (by (repeat (first | assumption | with_reducible exact Ge.refl _ | with_reducible refine cv_drew ?_ | with_reducible refine cv_alloc ?_ | with_reducible refine cv_set ?_ | (with_reducible apply cv_some; assumption) | with_reducible refine cell_drew ?_ | with_reducible refine cell_drewN ?_ | ((with_reducible refine cell_new ?_ ?_); (focus (simp; done)); rfl) | with_reducible refine cell_alloc ?_ | with_reducible refine cell_same2 ?_ | ((with_reducible refine cell_set2 ?_ ?_); focus (first | (simp; done) | (intro hE; simp at hE; done) | (intro hE; simp at hE; omega))) | with_reducible refine Ge.drew ?_ | with_reducible refine Ge.drewN ?_ _ | with_reducible refine Ge.alloc ?_ _ | ((with_reducible refine Ge.setCell ?_ ?_ _); rotate_left; focus (first | (simp; done) | omega | (simp; omega))) | with_reducible refine Ge.trans ?_ (by assumption) | with_reducible refine Ge.keep (by assumption) ?_))), Ge.trans (by (repeat (first | assumption | with_reducible exact Ge.refl _ | with_reducible refine cv_drew ?_ | with_reducible refine cv_alloc ?_ | with_reducible refine cv_set ?_ | (with_reducible apply cv_some; assumption) | with_reducible refine cell_drew ?_ | with_reducible refine cell_drewN ?_ | ((with_reducible refine cell_new ?_ ?_); (focus (simp; done)); rfl) | with_reducible refine cell_alloc ?_ | with_reducible refine cell_same2 ?_ | ((with_reducible refine cell_set2 ?_ ?_); focus (first | (simp; done) | (intro hE; simp at hE; done) | (intro hE; simp at hE; omega))) | with_reducible refine Ge.drew ?_ | with_reducible refine Ge.drewN ?_ _ | with_reducible refine Ge.alloc ?_ _ | ((with_reducible refine Ge.setCell ?_ ?_ _); rotate_left; focus (first | (simp; done) | omega | (simp; omega))) | with_reducible refine Ge.trans ?_ (by assumption) | with_reducible refine Ge.keep (by assumption) ?_))) g⟩
        go_region_held3 (fun w' => w'.cell? ⟨b, o + (k' + 1) * 3, none⟩ = some (.int .i64 X0) ∧ w'.cell? ⟨b, o + (k' + 1) * 3 + 1, none⟩ = some (.int .i64 X1) ∧ w'.cell? ⟨b, o + (k' + 1) * 3 + 2, none⟩ = some (.int .i64 X2) ∧ w'.cell? ⟨b, o + k' * 3, none⟩ = some (.int .i64 Y0) ∧ w'.cell? ⟨b, o + k' * 3 + 1, none⟩ = some (.int .i64 Y1) ∧ w'.cell? ⟨b, o + k' * 3 + 2, none⟩ = some (.int .i64 Y2) ∧ Ge wr w') (first | ((with_reducible refine hS _ ?_); (repeat (first | assumption | with_reducible exact Ge.refl _ | with_reducible refine cv_drew ?_ | with_reducible refine cv_alloc ?_ | with_reducible refine cv_set ?_ | (with_reducible apply cv_some; assumption) | with_reducible refine cell_drew ?_ | with_reducible refine cell_drewN ?_ | ((with_reducible refine cell_new ?_ ?_); (focus (simp; done)); rfl) | with_reducible refine cell_alloc ?_ | with_reducible refine cell_same2 ?_ | ((with_reducible refine cell_set2 ?_ ?_); focus (first | (simp; done) | (intro hE; simp at hE; done) | (intro hE; simp at hE; omega))) | with_reducible refine Ge.drew ?_ | with_reducible refine Ge.drewN ?_ _ | with_reducible refine Ge.alloc ?_ _ | ((with_reducible refine Ge.setCell ?_ ?_ _); rotate_left; focus (first | (simp; done) | omega | (simp; omega))) | with_reducible refine Ge.trans ?_ (by assumption) | with_reducible refine Ge.keep (by assumption) ?_)); done) | fail) (first | (go_at_call 32; ((with_reducible refine (HB.out _).mono ?_); rintro e w' ⟨rfl, hb⟩); have hz := Ge.size hb; (try simp at hz)) | fail)
        rename_i hHeldX
        obtain ⟨q0, q1, q2, q3, q4, q5, G7⟩ := hHeldX
        clear hS
        go_wp2_with fail
        go_roundw
        case rel => exact ⟨k' + 2, by omega, by omega, by go_num, Ge.trans hg G7⟩
        case measure => simp [intOf]; omega
    · go_wp2_with fail
      exact bodyPost_end (v := .tuple #[]) (by simp [results, Try.results69, go_sem]) rfl ⟨rfl, hg⟩

set_option maxHeartbeats 1600000 in
theorem pdqSq (v : Value) (n : Nat) (xs : List Int) (lim : Int) (w : World) (h : SlF w v n 3 xs) (hn : n ≤ 12) (ho : ordC n xs) (fv : Value) (hf : fv = .func (.func 32) #[] #[]) :
    Calls Try.prog 58 #[v, .int .i64 0, .int .i64 (n : Int), .int .i64 lim, fv] w fun e w' => e = .returned (.tuple #[]) ∧ Ge w w' := by
  have HI := Lib.hid (insSq v n xs w h hn ho fv hf)
  obtain ⟨p, c, rfl, hc⟩ := h.open
  clear h hc ho
  subst hf
  go_enter Try.func58, Try.ntmps58
  go_wp2_with fail
  go_loopw [1, 2] (fun a b wr => a = .int .i64 0 ∧ b = .int .i64 (n : Int) ∧ wr = w) (fun _ _ _ => 0)
  case atStart => exact ⟨rfl, rfl, rfl⟩
  case round =>
    obtain ⟨rfl, rfl, rfl⟩ := hrel
    go_wp2_with (go_at_call 69; ((with_reducible refine (HI.out).mono ?_); rintro e w' ⟨rfl, g⟩))
    exact bodyPost_ret (v := .tuple #[]) (by simp [results, Try.results58, go_sem]) rfl ⟨rfl, g⟩

set_option maxHeartbeats 1600000 in
theorem sortSq (v : Value) (n : Nat) (xs : List Int) (w : World) (h : SlF w v n 3 xs) (hn : n ≤ 12) (ho : ordC n xs) (fv : Value) (hf : fv = .func (.func 32) #[] #[]) :
    Calls Try.prog 31 #[v, fv] w fun e w' => e = .returned (.tuple #[]) ∧ Ge w w' := by
  have HP := Lib.hid (fun lim w' (g : Ge w w') => pdqSq v n xs lim w' (h.ge g) hn ho fv hf)
  have HL := Lib.hid (fun w' => Try.bits_Len (n : Int) w' (by omega) (by omega))
  obtain ⟨p, c, rfl, hc⟩ := h.open
  clear h hc ho
  subst hf
  go_enter Try.func31, Try.ntmps31
  go_wp2_with (first
    | (go_at_call 59; ((with_reducible refine (HL.out _).mono ?_); rintro e w' ⟨rfl, rfl⟩))
    | (go_at_call 58; ((with_reducible refine (HP.out _ _ (Ge.refl _)).mono ?_); rintro e w' ⟨rfl, g⟩)))
  exact bodyPost_end (v := .tuple #[]) (by simp [results, Try.results31, go_sem]) rfl ⟨rfl, g⟩
end Go.Proofs.Ytjogeicoofdlgaa
