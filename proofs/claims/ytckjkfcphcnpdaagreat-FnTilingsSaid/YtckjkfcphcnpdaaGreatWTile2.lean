/- Tilings: TilingOk of impl. No condition. -/
import Derived.Test.YtckjkfcphcnpdaaGreatWSides
namespace Go.Proofs.YtckjkfcphcnpdaaGreat
set_option maxRecDepth 100000
open Go.ChangeShapes Go.WideShapes Go.ChangeAt Go.RowKit Go.Joins

theorem no_step {xs : List Int} {k j : Nat} (h : Hid (∀ i, i < j → ¬ overSq xs k i)) (hj : ¬ overSq xs k j) : Hid (∀ i, i < j + 1 → ¬ overSq xs k i) := fun i hi => by
  by_cases e : i = j
  · subst e; exact hj
  · exact h.out i (by omega)
theorem good_next {xs : List Int} {k : Nat} (h : Hid (∀ i, i < k → goodSq xs i)) (hk : goodSq xs k) : Hid (∀ i, i < k + 1 → goodSq xs i) := fun i hi => by
  by_cases e : i = k
  · subst e; exact hk
  · exact h.out i (by omega)
set_option maxHeartbeats 3200000 in
theorem iTilingOk (v : Value) (n : Nat) (xs : List Int) (w : World) (hv : SlF w v n 3 xs) (hm : n ≤ 9223372036854775807) (hb : ∀ j, -9223372036854775808 ≤ nth xs j ∧ nth xs j ≤ 9223372036854775807) (hcap : ∀ p c, v = .slice p n c → n ≤ c) :
    Calls Tryz.prog 11 #[v] w fun e w' => e = .returned (.bool (tileB n xs)) ∧ Ge w w' := by
  obtain ⟨p, cap, rfl, hc⟩ := hv.open
  have HV := Lib.hid hv
  have HC := Lib.hid hc
  have HBd := Lib.hid hb
  have hnc := hcap _ _ rfl
  have HCap := Lib.hid hcap
  clear hv hc hb hcap
  by_cases h1 : n < 1
  · have HF : Hid (tileB n xs = false) := tileB_false (fun h => by have := h.1; omega)
    go_enter Tryz.func11, Tryz.ntmps11
    go_wp2_with fail
    go_ret
    exact ⟨ret_bool HF.out.symm, Ge.refl _⟩
  by_cases h12 : 12 < n
  · have HF : Hid (tileB n xs = false) := tileB_false (fun h => by have := h.2.1; omega)
    go_enter Tryz.func11, Tryz.ntmps11
    go_wp2_with fail
    go_ret
    exact ⟨ret_bool HF.out.symm, Ge.refl _⟩
  go_enter Tryz.func11, Tryz.ntmps11
  go_wp2_with fail
  go_loopw [3, 4, 5, 22] (fun a b c i wr => ∃ k : Nat, k ≤ n ∧ i = .int .i64 k ∧ a = .int .i64 (minX xs k) ∧ b = .int .i64 (minY xs k) ∧ c = .int .i64 (areaSq xs k) ∧ Hid (∀ j, j < k → goodSq xs j) ∧ Ge w wr) (fun _ _ _ i _ => n - (intOf i).toNat)
  case atStart => exact ⟨0, Nat.zero_le _, rfl, rfl, rfl, rfl, fun j hj => by omega, Ge.refl _⟩
  case round =>
    obtain ⟨k, hk, rfl, rfl, rfl, rfl, HK, hg⟩ := hrel
    by_cases hlt : k < n
    · obtain ⟨b, o, rfl, x0, x1, x2⟩ := three_cells HC.out hlt
      have y0 := hg.keep x0
      have y1 := hg.keep x1
      have y2 := hg.keep x2
      clear x0 x1 x2
      change wr.cell? _ = some (.int .i64 (sx xs k)) at y0
      change wr.cell? _ = some (.int .i64 (sy xs k)) at y1
      change wr.cell? _ = some (.int .i64 (ss xs k)) at y2
      have HB0 := HBd.out (k * 3)
      have HB1 := HBd.out (k * 3 + 1)
      have HB2 := HBd.out (k * 3 + 2)
      change _ ≤ sx xs k ∧ sx xs k ≤ _ at HB0
      change _ ≤ sy xs k ∧ sy xs k ≤ _ at HB1
      change _ ≤ ss xs k ∧ ss xs k ≤ _ at HB2
      by_cases t1 : sx xs k < 0
      · have HF : Hid (tileB n xs = false) := tileB_false (fun h => by have := (h.2.2.1 k hlt).1.1; omega)
        go_upto_region 7 with (fail)
        go_quiet (fail)
        go_wp2_with fail
        go_ret
        exact ⟨ret_bool HF.out.symm, by (repeat (first | with_reducible exact Ge.refl _ | assumption | with_reducible refine Ge.drew ?_ | with_reducible refine Ge.drewN ?_ _ | with_reducible refine Ge.alloc ?_ _ | (with_reducible refine Ge.setCell ?_ (by first | (simp; done) | omega | (simp; omega)) _) | with_reducible refine Ge.trans ?_ (by assumption)))⟩
      by_cases t2 : 200 < sx xs k
      · have HF : Hid (tileB n xs = false) := tileB_false (fun h => by have := (h.2.2.1 k hlt).1.2.1; omega)
        go_upto_region 7 with (fail)
        go_quiet (fail)
        go_wp2_with fail
        go_ret
        exact ⟨ret_bool HF.out.symm, by (repeat (first | with_reducible exact Ge.refl _ | assumption | with_reducible refine Ge.drew ?_ | with_reducible refine Ge.drewN ?_ _ | with_reducible refine Ge.alloc ?_ _ | (with_reducible refine Ge.setCell ?_ (by first | (simp; done) | omega | (simp; omega)) _) | with_reducible refine Ge.trans ?_ (by assumption)))⟩
      by_cases t3 : sy xs k < 0
      · have HF : Hid (tileB n xs = false) := tileB_false (fun h => by have := (h.2.2.1 k hlt).1.2.2.1; omega)
        go_upto_region 7 with (fail)
        go_quiet (fail)
        go_wp2_with fail
        go_ret
        exact ⟨ret_bool HF.out.symm, by (repeat (first | with_reducible exact Ge.refl _ | assumption | with_reducible refine Ge.drew ?_ | with_reducible refine Ge.drewN ?_ _ | with_reducible refine Ge.alloc ?_ _ | (with_reducible refine Ge.setCell ?_ (by first | (simp; done) | omega | (simp; omega)) _) | with_reducible refine Ge.trans ?_ (by assumption)))⟩
      by_cases t4 : 200 < sy xs k
      · have HF : Hid (tileB n xs = false) := tileB_false (fun h => by have := (h.2.2.1 k hlt).1.2.2.2.1; omega)
        go_upto_region 7 with (fail)
        go_quiet (fail)
        go_wp2_with fail
        go_ret
        exact ⟨ret_bool HF.out.symm, by (repeat (first | with_reducible exact Ge.refl _ | assumption | with_reducible refine Ge.drew ?_ | with_reducible refine Ge.drewN ?_ _ | with_reducible refine Ge.alloc ?_ _ | (with_reducible refine Ge.setCell ?_ (by first | (simp; done) | omega | (simp; omega)) _) | with_reducible refine Ge.trans ?_ (by assumption)))⟩
      by_cases t5 : ss xs k < 1
      · have HF : Hid (tileB n xs = false) := tileB_false (fun h => by have := (h.2.2.1 k hlt).1.2.2.2.2.1; omega)
        go_upto_region 7 with (fail)
        go_quiet (fail)
        go_wp2_with fail
        go_ret
        exact ⟨ret_bool HF.out.symm, by (repeat (first | with_reducible exact Ge.refl _ | assumption | with_reducible refine Ge.drew ?_ | with_reducible refine Ge.drewN ?_ _ | with_reducible refine Ge.alloc ?_ _ | (with_reducible refine Ge.setCell ?_ (by first | (simp; done) | omega | (simp; omega)) _) | with_reducible refine Ge.trans ?_ (by assumption)))⟩
      by_cases t6 : 200 < ss xs k
      · have HF : Hid (tileB n xs = false) := tileB_false (fun h => by have := (h.2.2.1 k hlt).1.2.2.2.2.2; omega)
        go_upto_region 7 with (fail)
        go_quiet (fail)
        go_wp2_with fail
        go_ret
        exact ⟨ret_bool HF.out.symm, by (repeat (first | with_reducible exact Ge.refl _ | assumption | with_reducible refine Ge.drew ?_ | with_reducible refine Ge.drewN ?_ _ | with_reducible refine Ge.alloc ?_ _ | (with_reducible refine Ge.setCell ?_ (by first | (simp; done) | omega | (simp; omega)) _) | with_reducible refine Ge.trans ?_ (by assumption)))⟩
      have OK : Hid (okSq xs k) := ⟨by omega, by omega, by omega, by omega, by omega, by omega⟩
      obtain ⟨bad, hbad⟩ : ∃ bad : Bool, bad = true ↔ (0 < k ∧ ¬ ordSq xs (k - 1) k) := ⟨@decide (0 < k ∧ ¬ ordSq xs (k - 1) k) (Classical.propDecidable _), by simp⟩
      have HBad := Lib.hid hbad
      clear hbad
      go_upto_region 7 with (fail)
      go_cut [68] (fun s wx => s = .bool bad ∧ wx.cell? ⟨wr.heap.size, 0, none⟩ = some (.int .i64 (sx xs k)) ∧ wx.cell? ⟨wr.heap.size, 1, none⟩ = some (.int .i64 (sy xs k)) ∧ wx.cell? ⟨wr.heap.size, 2, none⟩ = some (.int .i64 (ss xs k)) ∧ Ge wr wx)
      case first =>
        by_cases hp : 0 < k
        · obtain ⟨j, rfl⟩ : ∃ j, k = j + 1 := ⟨k - 1, by omega⟩
          obtain ⟨b', o', e', x0, x1, x2⟩ := three_cells HC.out (show j < n by omega)
          simp only [Option.some.injEq, Addr.mk.injEq, and_true] at e'
          obtain ⟨rfl, rfl⟩ := e'
          have z0 := hg.keep x0
          have z1 := hg.keep x1
          have z2 := hg.keep x2
          clear x0 x1 x2
          change wr.cell? _ = some (.int .i64 (sx xs j)) at z0
          change wr.cell? _ = some (.int .i64 (sy xs j)) at z1
          change wr.cell? _ = some (.int .i64 (ss xs j)) at z2
          have w1 : IntKind.i64.wrap (((j + 1 : Nat) : Int) - 1) = (j : Int) := IntWalk.i64_in _ (by omega) |>.trans (by omega)
          have w2 : IntKind.i64.wrap (j : Int) = (j : Int) := IntWalk.i64_in _ (by omega)
          have j0 : (0 : Int) ≤ (j : Int) := by omega
          have j1 : (j : Int) < (n : Int) := by omega
          have w3 : ((j : Int) + 1 - 1) = (j : Int) := by omega
          have lb := World.block_lt_of_cell? wr _ z0
          simp at lb
          have c0 : decide (0 ≤ cmpSq (sx xs j) (sy xs j) (sx xs (j + 1)) (sy xs (j + 1))) = bad := by
            have h1 := HBad.out
            have h2 := @cmpSq_lt (sx xs j) (sy xs j) (sx xs (j + 1)) (sy xs (j + 1))
            have h3 : ordSq xs j (j + 1) ↔ cmpSq (sx xs j) (sy xs j) (sx xs (j + 1)) (sy xs (j + 1)) < 0 := h2.symm
            simp only [Nat.add_sub_cancel, h3] at h1
            cases bad with
            | true => have := h1.1 rfl; simp; omega
            | false =>
              simp
              by_cases h4 : cmpSq (sx xs j) (sy xs j) (sx xs (j + 1)) (sy xs (j + 1)) < 0
              · exact h4
              · exact absurd (h1.2 ⟨by omega, h4⟩) (by simp)
          have hS : ∀ w', Ge (wr.alloc (.cells #[.int .i64 (sx xs (j + 1)), .int .i64 (sy xs (j + 1)), .int .i64 (ss xs (j + 1))] 27)) w' → (w'.cell? ⟨wr.heap.size, 0, none⟩ = some (.int .i64 (sx xs (j + 1))) ∧ w'.cell? ⟨wr.heap.size, 1, none⟩ = some (.int .i64 (sy xs (j + 1))) ∧ w'.cell? ⟨wr.heap.size, 2, none⟩ = some (.int .i64 (ss xs (j + 1))) ∧ w'.cell? ⟨b, o + j * 3, none⟩ = some (.int .i64 (sx xs j)) ∧ w'.cell? ⟨b, o + j * 3 + 1, none⟩ = some (.int .i64 (sy xs j)) ∧ w'.cell? ⟨b, o + j * 3 + 2, none⟩ = some (.int .i64 (ss xs j)) ∧ Ge wr w') := fun w' g => ⟨g.keep (by (repeat (first | assumption | with_reducible exact Ge.refl _ | with_reducible refine cv_drew ?_ | with_reducible refine cv_alloc ?_ | with_reducible refine cv_set ?_ | (with_reducible apply cv_some; assumption) | with_reducible refine cell_drew ?_ | with_reducible refine cell_drewN ?_ | ((with_reducible refine cell_new ?_ ?_); (focus (simp; done)); rfl) | with_reducible refine cell_alloc ?_ | with_reducible refine cell_same2 ?_ | ((with_reducible refine cell_set2 ?_ ?_); focus (first | (simp; done) | (intro hE; simp at hE; done) | (intro hE; simp at hE; omega))) | with_reducible refine Ge.drew ?_ | with_reducible refine Ge.drewN ?_ _ | with_reducible refine Ge.alloc ?_ _ | ((with_reducible refine Ge.setCell ?_ ?_ _); rotate_left; focus (first | (simp; done) | omega | (simp; omega))) | with_reducible refine Ge.trans ?_ (by assumption) | with_reducible refine Ge.keep (by assumption) ?_))), g.keep (by (repeat (first | assumption | with_reducible exact Ge.refl _ | with_reducible refine cv_drew ?_ | with_reducible refine cv_alloc ?_ | with_reducible refine cv_set ?_ | (with_reducible apply cv_some; assumption) | with_reducible refine cell_drew ?_ | with_reducible refine cell_drewN ?_ | ((with_reducible refine cell_new ?_ ?_); (focus (simp; done)); rfl) | with_reducible refine cell_alloc ?_ | with_reducible refine cell_same2 ?_ | ((with_reducible refine cell_set2 ?_ ?_); focus (first | (simp; done) | (intro hE; simp at hE; done) | (intro hE; simp at hE; omega))) | with_reducible refine Ge.drew ?_ | with_reducible refine Ge.drewN ?_ _ | with_reducible refine Ge.alloc ?_ _ | ((with_reducible refine Ge.setCell ?_ ?_ _); rotate_left; focus (first | (simp; done) | omega | (simp; omega))) | with_reducible refine Ge.trans ?_ (by assumption) | with_reducible refine Ge.keep (by assumption) ?_))), g.keep (by (repeat (first | assumption | with_reducible exact Ge.refl _ | with_reducible refine cv_drew ?_ | with_reducible refine cv_alloc ?_ | with_reducible refine cv_set ?_ | (with_reducible apply cv_some; assumption) | with_reducible refine cell_drew ?_ | with_reducible refine cell_drewN ?_ | ((with_reducible refine cell_new ?_ ?_); (focus (simp; done)); rfl) | with_reducible refine cell_alloc ?_ | with_reducible refine cell_same2 ?_ | ((with_reducible refine cell_set2 ?_ ?_); focus (first | (simp; done) | (intro hE; simp at hE; done) | (intro hE; simp at hE; omega))) | with_reducible refine Ge.drew ?_ | with_reducible refine Ge.drewN ?_ _ | with_reducible refine Ge.alloc ?_ _ | ((with_reducible refine Ge.setCell ?_ ?_ _); rotate_left; focus (first | (simp; done) | omega | (simp; omega))) | with_reducible refine Ge.trans ?_ (by assumption) | with_reducible refine Ge.keep (by assumption) ?_))), g.keep (by (repeat (first | assumption | with_reducible exact Ge.refl _ | with_reducible refine cv_drew ?_ | with_reducible refine cv_alloc ?_ | with_reducible refine cv_set ?_ | (with_reducible apply cv_some; assumption) | with_reducible refine cell_drew ?_ | with_reducible refine cell_drewN ?_ | ((with_reducible refine cell_new ?_ ?_); (focus (simp; done)); rfl) | with_reducible refine cell_alloc ?_ | with_reducible refine cell_same2 ?_ | ((with_reducible refine cell_set2 ?_ ?_); focus (first | (simp; done) | (intro hE; simp at hE; done) | (intro hE; simp at hE; omega))) | with_reducible refine Ge.drew ?_ | with_reducible refine Ge.drewN ?_ _ | with_reducible refine Ge.alloc ?_ _ | ((with_reducible refine Ge.setCell ?_ ?_ _); rotate_left; focus (first | (simp; done) | omega | (simp; omega))) | with_reducible refine Ge.trans ?_ (by assumption) | with_reducible refine Ge.keep (by assumption) ?_))), g.keep (by (repeat (first | assumption | with_reducible exact Ge.refl _ | with_reducible refine cv_drew ?_ | with_reducible refine cv_alloc ?_ | with_reducible refine cv_set ?_ | (with_reducible apply cv_some; assumption) | with_reducible refine cell_drew ?_ | with_reducible refine cell_drewN ?_ | ((with_reducible refine cell_new ?_ ?_); (focus (simp; done)); rfl) | with_reducible refine cell_alloc ?_ | with_reducible refine cell_same2 ?_ | ((with_reducible refine cell_set2 ?_ ?_); focus (first | (simp; done) | (intro hE; simp at hE; done) | (intro hE; simp at hE; omega))) | with_reducible refine Ge.drew ?_ | with_reducible refine Ge.drewN ?_ _ | with_reducible refine Ge.alloc ?_ _ | ((with_reducible refine Ge.setCell ?_ ?_ _); rotate_left; focus (first | (simp; done) | omega | (simp; omega))) | with_reducible refine Ge.trans ?_ (by assumption) | with_reducible refine Ge.keep (by assumption) ?_))), g.keep (by (repeat (first | assumption | with_reducible exact Ge.refl _ | with_reducible refine cv_drew ?_ | with_reducible refine cv_alloc ?_ | with_reducible refine cv_set ?_ | (with_reducible apply cv_some; assumption) | with_reducible refine cell_drew ?_ | with_reducible refine cell_drewN ?_ | ((with_reducible refine cell_new ?_ ?_); (focus (simp; done)); rfl) | with_reducible refine cell_alloc ?_ | with_reducible refine cell_same2 ?_ | ((with_reducible refine cell_set2 ?_ ?_); focus (first | (simp; done) | (intro hE; simp at hE; done) | (intro hE; simp at hE; omega))) | with_reducible refine Ge.drew ?_ | with_reducible refine Ge.drewN ?_ _ | with_reducible refine Ge.alloc ?_ _ | ((with_reducible refine Ge.setCell ?_ ?_ _); rotate_left; focus (first | (simp; done) | omega | (simp; omega))) | with_reducible refine Ge.trans ?_ (by assumption) | with_reducible refine Ge.keep (by assumption) ?_))), Ge.trans (by (repeat (first | assumption | with_reducible exact Ge.refl _ | with_reducible refine cv_drew ?_ | with_reducible refine cv_alloc ?_ | with_reducible refine cv_set ?_ | (with_reducible apply cv_some; assumption) | with_reducible refine cell_drew ?_ | with_reducible refine cell_drewN ?_ | ((with_reducible refine cell_new ?_ ?_); (focus (simp; done)); rfl) | with_reducible refine cell_alloc ?_ | with_reducible refine cell_same2 ?_ | ((with_reducible refine cell_set2 ?_ ?_); focus (first | (simp; done) | (intro hE; simp at hE; done) | (intro hE; simp at hE; omega))) | with_reducible refine Ge.drew ?_ | with_reducible refine Ge.drewN ?_ _ | with_reducible refine Ge.alloc ?_ _ | ((with_reducible refine Ge.setCell ?_ ?_ _); rotate_left; focus (first | (simp; done) | omega | (simp; omega))) | with_reducible refine Ge.trans ?_ (by assumption) | with_reducible refine Ge.keep (by assumption) ?_))) g⟩
          go_region_held3 (fun w' => w'.cell? ⟨wr.heap.size, 0, none⟩ = some (.int .i64 (sx xs (j + 1))) ∧ w'.cell? ⟨wr.heap.size, 1, none⟩ = some (.int .i64 (sy xs (j + 1))) ∧ w'.cell? ⟨wr.heap.size, 2, none⟩ = some (.int .i64 (ss xs (j + 1))) ∧ w'.cell? ⟨b, o + j * 3, none⟩ = some (.int .i64 (sx xs j)) ∧ w'.cell? ⟨b, o + j * 3 + 1, none⟩ = some (.int .i64 (sy xs j)) ∧ w'.cell? ⟨b, o + j * 3 + 2, none⟩ = some (.int .i64 (ss xs j)) ∧ Ge wr w') (first | ((with_reducible refine hS _ ?_); (repeat (first | assumption | with_reducible exact Ge.refl _ | with_reducible refine cv_drew ?_ | with_reducible refine cv_alloc ?_ | with_reducible refine cv_set ?_ | (with_reducible apply cv_some; assumption) | with_reducible refine cell_drew ?_ | with_reducible refine cell_drewN ?_ | ((with_reducible refine cell_new ?_ ?_); (focus (simp; done)); rfl) | with_reducible refine cell_alloc ?_ | with_reducible refine cell_same2 ?_ | ((with_reducible refine cell_set2 ?_ ?_); focus (first | (simp; done) | (intro hE; simp at hE; done) | (intro hE; simp at hE; omega))) | with_reducible refine Ge.drew ?_ | with_reducible refine Ge.drewN ?_ _ | with_reducible refine Ge.alloc ?_ _ | ((with_reducible refine Ge.setCell ?_ ?_ _); rotate_left; focus (first | (simp; done) | omega | (simp; omega))) | with_reducible refine Ge.trans ?_ (by assumption) | with_reducible refine Ge.keep (by assumption) ?_)); done) | fail) (first | (go_at_call 31; ((with_reducible refine (iByPlace _ _ _ _ _ _ _).mono ?_); rintro e w' ⟨rfl, hb⟩); have hz := Ge.size hb; (try simp at hz)) | fail)
          rename_i hHeldX
          obtain ⟨q0, q1, q2, q3, q4, q5, G7⟩ := hHeldX
          clear hS
          go_wp2_with fail
          go_meet
          exact ⟨rfl, q0, q1, q2, G7⟩
        · have hk0 : k = 0 := by omega
          subst hk0
          have hb0 : bad = false := by
            cases bad with
            | true => have := (HBad.out.1 rfl).1; omega
            | false => rfl
          subst hb0
          go_quiet (fail)
          go_wp2_with fail
          go_meet
          exact ⟨rfl, cell_drewN (cell_new rfl rfl), cell_drewN (cell_new rfl rfl), cell_drewN (cell_new rfl rfl), by (repeat (first | with_reducible exact Ge.refl _ | assumption | with_reducible refine Ge.drew ?_ | with_reducible refine Ge.drewN ?_ _ | with_reducible refine Ge.alloc ?_ _ | (with_reducible refine Ge.setCell ?_ (by first | (simp; done) | omega | (simp; omega)) _) | with_reducible refine Ge.trans ?_ (by assumption)))⟩
      case rest =>
        obtain ⟨rfl, q0, q1, q2, G7⟩ := hcut
        cases bad with
        | true =>
          have HF : Hid (tileB n xs = false) := tileB_false (fun h => by
            obtain ⟨e1, e2⟩ := HBad.out.1 rfl
            exact e2 ((h.2.2.1 k hlt).2.1 e1))
          go_wp2_with fail
          go_ret
          exact ⟨ret_bool HF.out.symm, by (repeat (first | with_reducible exact Ge.refl _ | assumption | with_reducible refine Ge.drew ?_ | with_reducible refine Ge.drewN ?_ _ | with_reducible refine Ge.alloc ?_ _ | (with_reducible refine Ge.setCell ?_ (by first | (simp; done) | omega | (simp; omega)) _) | with_reducible refine Ge.trans ?_ (by assumption)))⟩
        | false =>
          have hkc : k ≤ cap := by omega
          have hkn : k ≤ n := by omega
          go_wp2_with fail
          go_loopw [73] (fun i wi => ∃ j : Nat, j ≤ k ∧ i = .int .i64 j ∧ Hid (∀ i, i < j → ¬ overSq xs k i) ∧ Ge wc wi) (fun i _ => k - (intOf i).toNat)
          case atStart => exact ⟨0, Nat.zero_le _, rfl, fun i hi => by omega, Ge.refl _⟩
          case round =>
            obtain ⟨j, hj, rfl, HN, hgi⟩ := hrel
            by_cases hjk : j < k
            · obtain ⟨b', o', e', x0, x1, x2⟩ := three_cells HC.out (show j < n by omega)
              simp only [Option.some.injEq, Addr.mk.injEq, and_true] at e'
              obtain ⟨rfl, rfl⟩ := e'
              have z0 := hgi.keep (G7.keep (hg.keep x0))
              have z1 := hgi.keep (G7.keep (hg.keep x1))
              have z2 := hgi.keep (G7.keep (hg.keep x2))
              clear x0 x1 x2
              have p0 := hgi.keep q0
              have p1 := hgi.keep q1
              have p2 := hgi.keep q2
              have lz := World.block_lt_of_cell? _ _ p0
              simp at lz
              obtain ⟨r0, r1, r2, r3, r4, r5⟩ := (HK.out j hjk).1
              change wr.cell? _ = some (.int .i64 (sx xs j)) at z0
              change wr.cell? _ = some (.int .i64 (sy xs j)) at z1
              change wr.cell? _ = some (.int .i64 (ss xs j)) at z2
              by_cases c1 : sx xs k < sx xs j + ss xs j
              · by_cases c2 : sx xs j < sx xs k + ss xs k
                · by_cases c3 : sy xs k < sy xs j + ss xs j
                  · by_cases c4 : sy xs j < sy xs k + ss xs k
                    · have HF : Hid (tileB n xs = false) := tileB_false (fun h => (h.2.2.1 k hlt).2.2 j hjk ⟨c1, c2, c3, c4⟩)
                      go_wp2_with fail
                      go_ret
                      exact ⟨ret_bool HF.out.symm, by (repeat (first | with_reducible exact Ge.refl _ | assumption | with_reducible refine Ge.drew ?_ | with_reducible refine Ge.drewN ?_ _ | with_reducible refine Ge.alloc ?_ _ | (with_reducible refine Ge.setCell ?_ (by first | (simp; done) | omega | (simp; omega)) _) | with_reducible refine Ge.trans ?_ (by assumption)))⟩
                    · have HN2 : Hid (∀ i, i < j + 1 → ¬ overSq xs k i) := no_step HN (fun h => by unfold overSq at h; omega)
                      go_wp2_with fail
                      go_roundw
                      case rel => exact ⟨j + 1, by omega, by go_num, HN2, by (repeat (first | with_reducible exact Ge.refl _ | assumption | with_reducible refine Ge.drew ?_ | with_reducible refine Ge.drewN ?_ _ | with_reducible refine Ge.alloc ?_ _ | (with_reducible refine Ge.setCell ?_ (by first | (simp; done) | omega | (simp; omega)) _) | with_reducible refine Ge.trans ?_ (by assumption)))⟩
                      case measure => simp [intOf]; omega
                  · have HN2 : Hid (∀ i, i < j + 1 → ¬ overSq xs k i) := no_step HN (fun h => by unfold overSq at h; omega)
                    go_wp2_with fail
                    go_roundw
                    case rel => exact ⟨j + 1, by omega, by go_num, HN2, by (repeat (first | with_reducible exact Ge.refl _ | assumption | with_reducible refine Ge.drew ?_ | with_reducible refine Ge.drewN ?_ _ | with_reducible refine Ge.alloc ?_ _ | (with_reducible refine Ge.setCell ?_ (by first | (simp; done) | omega | (simp; omega)) _) | with_reducible refine Ge.trans ?_ (by assumption)))⟩
                    case measure => simp [intOf]; omega
                · have HN2 : Hid (∀ i, i < j + 1 → ¬ overSq xs k i) := no_step HN (fun h => by unfold overSq at h; omega)
                  go_wp2_with fail
                  go_roundw
                  case rel => exact ⟨j + 1, by omega, by go_num, HN2, by (repeat (first | with_reducible exact Ge.refl _ | assumption | with_reducible refine Ge.drew ?_ | with_reducible refine Ge.drewN ?_ _ | with_reducible refine Ge.alloc ?_ _ | (with_reducible refine Ge.setCell ?_ (by first | (simp; done) | omega | (simp; omega)) _) | with_reducible refine Ge.trans ?_ (by assumption)))⟩
                  case measure => simp [intOf]; omega
              · have HN2 : Hid (∀ i, i < j + 1 → ¬ overSq xs k i) := no_step HN (fun h => by unfold overSq at h; omega)
                go_wp2_with fail
                go_roundw
                case rel => exact ⟨j + 1, by omega, by go_num, HN2, by (repeat (first | with_reducible exact Ge.refl _ | assumption | with_reducible refine Ge.drew ?_ | with_reducible refine Ge.drewN ?_ _ | with_reducible refine Ge.alloc ?_ _ | (with_reducible refine Ge.setCell ?_ (by first | (simp; done) | omega | (simp; omega)) _) | with_reducible refine Ge.trans ?_ (by assumption)))⟩
                case measure => simp [intOf]; omega
            · have hjk2 : j = k := by omega
              subst hjk2
              have HG : Hid (∀ i, i < j + 1 → goodSq xs i) := good_next HK ⟨OK.out, fun h0 => Classical.byContradiction fun h => by have := HBad.out.2 ⟨h0, h⟩; simp at this, HN.out⟩
              have p0 := hgi.keep q0
              have p1 := hgi.keep q1
              have p2 := hgi.keep q2
              have HX : Hid (minX xs (j + 1) = min (minX xs j) (sx xs j)) := rfl
              have HY : Hid (minY xs (j + 1) = min (minY xs j) (sy xs j)) := rfl
              have HA : Hid (areaSq xs (j + 1) = areaSq xs j + ss xs j * ss xs j) := rfl
              obtain ⟨m0, m1⟩ := minX_bd j (fun i hi => (HK.out i hi).1)
              obtain ⟨m2, m3⟩ := minY_bd j (fun i hi => (HK.out i hi).1)
              obtain ⟨m4, m5⟩ := area_bd j (fun i hi => (HK.out i hi).1)
              have m6 : ss xs j * ss xs j ≤ 200 * 200 := Int.mul_le_mul (by omega) (by omega) (by omega) (by omega)
              have m7 : 0 ≤ ss xs j * ss xs j := Int.mul_nonneg (by omega) (by omega)
              generalize hq : ss xs j * ss xs j = q at *
              go_wp2_with fail
              go_roundw
              case rel => exact ⟨j + 1, by omega, by go_num, congrArg _ (by rw [HX.out] <;> (split <;> omega)), congrArg _ (by rw [HY.out] <;> (split <;> omega)), congrArg _ (by rw [HA.out]), HG, by (repeat (first | with_reducible exact Ge.refl _ | assumption | with_reducible refine Ge.drew ?_ | with_reducible refine Ge.drewN ?_ _ | with_reducible refine Ge.alloc ?_ _ | (with_reducible refine Ge.setCell ?_ (by first | (simp; done) | omega | (simp; omega)) _) | with_reducible refine Ge.trans ?_ (by assumption)))⟩
              case measure => simp [intOf]; omega
    · have hkn : k = n := by omega
      subst hkn
      have hn12 : k ≤ 12 := by omega
      obtain ⟨m0, m1⟩ := minX_bd k (fun i hi => (HK.out i hi).1)
      obtain ⟨m2, m3⟩ := minY_bd k (fun i hi => (HK.out i hi).1)
      obtain ⟨m4, m5⟩ := area_bd k (fun i hi => (HK.out i hi).1)
      obtain ⟨r0, r1⟩ := right_bd k (fun i hi => (HK.out i hi).1)
      obtain ⟨l0, l1⟩ := low_bd k (fun i hi => (HK.out i hi).1)
      have m6 : rightSq xs k * lowSq xs k ≤ 400 * 400 := Int.mul_le_mul (by omega) (by omega) (by omega) (by omega)
      have m7 : 0 ≤ rightSq xs k * lowSq xs k := Int.mul_nonneg (by omega) (by omega)
      have HS : ∀ w', Ge w w' → SlF w' (.slice p k cap) k 3 xs := fun w' g => HV.out.ge g
      have HOK : Hid (∀ i, i < k → okSq xs i) := fun i hi => (HK.out i hi).1
      by_cases e1 : minX xs k = 0
      · have e1b : (minX xs k == 0) = true := by simp [e1]
        by_cases e2 : minY xs k = 0
        · have e2b : (minY xs k == 0) = true := by simp [e2]
          by_cases e3 : areaSq xs k = rightSq xs k * lowSq xs k
          · have e3b : (areaSq xs k == rightSq xs k * lowSq xs k) = true := by simp [e3]
            have HF : Hid (tileB k xs = true) := tileB_true ⟨by omega, by omega, HK.out, e1, e2, e3⟩
            go_wp2_with (go_at_call 18; ((with_reducible refine (iSides _ _ _ _ (HS _ hg) hn12 HOK.out).mono ?_); rintro e w' ⟨rfl, hb⟩))
            go_ret
            exact ⟨ret_bool HF.out.symm, by (repeat (first | with_reducible exact Ge.refl _ | assumption | with_reducible refine Ge.drew ?_ | with_reducible refine Ge.drewN ?_ _ | with_reducible refine Ge.alloc ?_ _ | (with_reducible refine Ge.setCell ?_ (by first | (simp; done) | omega | (simp; omega)) _) | with_reducible refine Ge.trans ?_ (by assumption)))⟩
          · have e3b : (areaSq xs k == rightSq xs k * lowSq xs k) = false := by simp [e3]
            have HF : Hid (tileB k xs = false) := tileB_false (fun h => e3 h.2.2.2.2.2)
            go_wp2_with (go_at_call 18; ((with_reducible refine (iSides _ _ _ _ (HS _ hg) hn12 HOK.out).mono ?_); rintro e w' ⟨rfl, hb⟩))
            go_ret
            exact ⟨ret_bool HF.out.symm, by (repeat (first | with_reducible exact Ge.refl _ | assumption | with_reducible refine Ge.drew ?_ | with_reducible refine Ge.drewN ?_ _ | with_reducible refine Ge.alloc ?_ _ | (with_reducible refine Ge.setCell ?_ (by first | (simp; done) | omega | (simp; omega)) _) | with_reducible refine Ge.trans ?_ (by assumption)))⟩
        · have e2b : (minY xs k == 0) = false := by simp [e2]
          have HF : Hid (tileB k xs = false) := tileB_false (fun h => e2 h.2.2.2.2.1)
          go_wp2_with (go_at_call 18; ((with_reducible refine (iSides _ _ _ _ (HS _ hg) hn12 HOK.out).mono ?_); rintro e w' ⟨rfl, hb⟩))
          go_ret
          exact ⟨ret_bool HF.out.symm, by (repeat (first | with_reducible exact Ge.refl _ | assumption | with_reducible refine Ge.drew ?_ | with_reducible refine Ge.drewN ?_ _ | with_reducible refine Ge.alloc ?_ _ | (with_reducible refine Ge.setCell ?_ (by first | (simp; done) | omega | (simp; omega)) _) | with_reducible refine Ge.trans ?_ (by assumption)))⟩
      · have e1b : (minX xs k == 0) = false := by simp [e1]
        have HF : Hid (tileB k xs = false) := tileB_false (fun h => e1 h.2.2.2.1)
        go_wp2_with (go_at_call 18; ((with_reducible refine (iSides _ _ _ _ (HS _ hg) hn12 HOK.out).mono ?_); rintro e w' ⟨rfl, hb⟩))
        go_ret
        exact ⟨ret_bool HF.out.symm, by (repeat (first | with_reducible exact Ge.refl _ | assumption | with_reducible refine Ge.drew ?_ | with_reducible refine Ge.drewN ?_ _ | with_reducible refine Ge.alloc ?_ _ | (with_reducible refine Ge.setCell ?_ (by first | (simp; done) | omega | (simp; omega)) _) | with_reducible refine Ge.trans ?_ (by assumption)))⟩
end Go.Proofs.YtckjkfcphcnpdaaGreat
