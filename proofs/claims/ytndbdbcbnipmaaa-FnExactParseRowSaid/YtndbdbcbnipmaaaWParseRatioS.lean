/- ParseRatio of spec. No condition. -/
import Derived.Test.YtndbdbcbnipmaaaWParseRatio
namespace Go.Proofs.Ytndbdbcbnipmaaa
set_option maxRecDepth 100000
open Go.ChangeShapes Go.WideShapes Go.ChangeAt Go.RowKit Go.Joins

set_option maxHeartbeats 3200000 in
theorem sParseRatio (s : List UInt8) (w : World) (hm : s.length ≤ 1048576) :
    Calls Try.prog 60 #[.string (bstr s)] w fun e w' => e = .returned (.tuple #[.agg #[.int .i64 (ratN s), .int .i64 (ratD s)], .bool (rGood s)]) ∧ Ge w w' := by
  have hS : ∀ w0, Calls Try.prog 59 #[.string (bstr s), .string ⟨#[47]⟩] w0 (GivesS w0 (rpts s)) := fun w0 => sSplitAny s [47] w0 hm (by simp)
  have HS := Lib.hid hS
  have hpos := pieces_pos [47] s
  obtain ⟨r, hr⟩ : ∃ r, (rpts s).length = r := ⟨_, rfl⟩
  have hr0 : 0 < r := by rw [← hr]; exact hpos
  have HLen := Lib.hid hr
  obtain ⟨T0, hT0⟩ : ∃ T0, tnth (rpts s) 0 = T0 := ⟨_, rfl⟩
  have hl0 : T0.length ≤ 1048576 := by rw [← hT0]; exact Nat.le_trans (tail_text hpos) hm
  have HP0 := Lib.hid (fun w => sParseInt T0 w hl0)
  have hn0 : rN s = pv T0 := by rw [← hT0]; rfl
  have HN0 := Lib.hid hn0
  clear hS hpos hr hn0
  by_cases h2 : r = 2
  · have t2 : ((r : Int) == 2) = true := by simp [h2]
    have hr1 : 1 < r := by omega
    have k1 : (1 : Int) < (r : Int) := by omega
    have t3 : ¬ (2 < (r : Int)) := by omega
    obtain ⟨T1, hT1⟩ : ∃ T1, tnth (rpts s) 1 = T1 := ⟨_, rfl⟩
    have hl1 : T1.length ≤ 1048576 := by rw [← hT1]; exact Nat.le_trans (tail_text (by show 1 < (rpts s).length; rw [HLen.out]; exact hr1)) hm
    have HP1 := Lib.hid (fun w => sParseInt T1 w hl1)
    have HD1 : Hid (rD s = pv T1) := by
      have := rD_2 (s := s) (by rw [HLen.out, h2])
      rw [hT1] at this; exact this
    cases c0 : pb T0 with
    | false =>
      have HF := Lib.hid (rat_f (ok_f0 (s := s) (by rw [hT0]; exact c0)))
      rw [c0] at HP0
      generalize pv T0 = N0 at *
      generalize pv T1 = N1 at *
      generalize pb T1 = B1 at *
      clear h2
      go_enter Try.func60, Try.ntmps60
      go_wp2_with (first | (go_at_call 59; ((with_reducible refine (HS.out _).mono ?_); rintro e w1 ⟨v1, rfl, o1, g1⟩); rw [HLen.out] at o1; obtain ⟨g, c1, rfl⟩ := Go.Joins.ownsRow_form o1 hr0; have ob0 : Own w1 ⟨w.heap.size, 0, none⟩ _ := Ge.own g1 (own_new rfl rfl); have ob1 : Own w1 ⟨w.heap.size, 1, none⟩ _ := Ge.own g1 (own_new rfl rfl); have bc0 := ob0.1; have bf0 := ob0.2; have bc1 := ob1.1; have bf1 := ob1.2; clear ob0 ob1; simp at bc0 bc1; have x0 := own_str o1 hr0; rw [hT0] at x0; have x1 := own_str o1 hr1; rw [hT1] at x1; have Gc := Ge.trans (Ge.alloc (Ge.refl w) _) g1) | (go_at_call 101; ((with_reducible refine (HP0.out _).mono ?_); rintro e w' ⟨rfl, gp⟩); have bf0 := Ge.keepF gp bc0 bf0; have bf1 := Ge.keepF gp bc1 bf1; have bc0 := Ge.keep gp bc0; have bc1 := Ge.keep gp bc1; have x1 := Ge.keep gp x1; have Gc := Ge.trans Gc gp; have zl : w.heap.size < w'.heap.size := (by have := World.block_lt_of_cell? _ _ bc0; simpa using this)) | (go_at_call 101; ((with_reducible refine (HP1.out _).mono ?_); rintro e w' ⟨rfl, gp⟩); have bf0 := Ge.keepF gp bc0 bf0; have bf1 := Ge.keepF gp bc1 bf1; have bc0 := Ge.keep gp bc0; have bc1 := Ge.keep gp bc1; have Gc := Ge.trans Gc gp; have zl : w.heap.size < w'.heap.size := (by have := World.block_lt_of_cell? _ _ bc0; simpa using this)))
      exact bodyPost_ret (v := .tuple #[.agg #[.int .i64 0, .int .i64 0], .bool false]) (by simp [results, Try.results60, go_sem, *]) rfl ⟨ret_rat ⟨HF.out.1, HF.out.2.1, HF.out.2.2⟩, by (repeat (first | with_reducible exact Ge.refl _ | assumption | with_reducible refine Ge.drew ?_ | with_reducible refine Ge.drewN ?_ _ | with_reducible refine Ge.alloc ?_ _ | (with_reducible refine Ge.setCell ?_ (by first | (simp; done) | omega | (simp; omega)) _) | with_reducible refine Ge.trans ?_ (by assumption)))⟩
    | true =>
      rw [c0] at HP0
      cases c1' : pb T1 with
      | false =>
        have HF := Lib.hid (rat_f (ok_f1 (s := s) (by rw [HLen.out, h2]) (by rw [hT1]; exact c1')))
        rw [c1'] at HP1
        generalize pv T0 = N0 at *
        generalize pv T1 = N1 at *
        clear h2
        go_enter Try.func60, Try.ntmps60
        go_wp2_with (first | (go_at_call 59; ((with_reducible refine (HS.out _).mono ?_); rintro e w1 ⟨v1, rfl, o1, g1⟩); rw [HLen.out] at o1; obtain ⟨g, c1, rfl⟩ := Go.Joins.ownsRow_form o1 hr0; have ob0 : Own w1 ⟨w.heap.size, 0, none⟩ _ := Ge.own g1 (own_new rfl rfl); have ob1 : Own w1 ⟨w.heap.size, 1, none⟩ _ := Ge.own g1 (own_new rfl rfl); have bc0 := ob0.1; have bf0 := ob0.2; have bc1 := ob1.1; have bf1 := ob1.2; clear ob0 ob1; simp at bc0 bc1; have x0 := own_str o1 hr0; rw [hT0] at x0; have x1 := own_str o1 hr1; rw [hT1] at x1; have Gc := Ge.trans (Ge.alloc (Ge.refl w) _) g1) | (go_at_call 101; ((with_reducible refine (HP0.out _).mono ?_); rintro e w' ⟨rfl, gp⟩); have bf0 := Ge.keepF gp bc0 bf0; have bf1 := Ge.keepF gp bc1 bf1; have bc0 := Ge.keep gp bc0; have bc1 := Ge.keep gp bc1; have x1 := Ge.keep gp x1; have Gc := Ge.trans Gc gp; have zl : w.heap.size < w'.heap.size := (by have := World.block_lt_of_cell? _ _ bc0; simpa using this)) | (go_at_call 101; ((with_reducible refine (HP1.out _).mono ?_); rintro e w' ⟨rfl, gp⟩); have bf0 := Ge.keepF gp bc0 bf0; have bf1 := Ge.keepF gp bc1 bf1; have bc0 := Ge.keep gp bc0; have bc1 := Ge.keep gp bc1; have Gc := Ge.trans Gc gp; have zl : w.heap.size < w'.heap.size := (by have := World.block_lt_of_cell? _ _ bc0; simpa using this)))
        exact bodyPost_ret (v := .tuple #[.agg #[.int .i64 0, .int .i64 0], .bool false]) (by simp [results, Try.results60, go_sem, *]) rfl ⟨ret_rat ⟨HF.out.1, HF.out.2.1, HF.out.2.2⟩, by (repeat (first | with_reducible exact Ge.refl _ | assumption | with_reducible refine Ge.drew ?_ | with_reducible refine Ge.drewN ?_ _ | with_reducible refine Ge.alloc ?_ _ | (with_reducible refine Ge.setCell ?_ (by first | (simp; done) | omega | (simp; omega)) _) | with_reducible refine Ge.trans ?_ (by assumption)))⟩
      | true =>
        rw [c1'] at HP1
        by_cases hE : ratioTxt (pv T0) (pv T1) = s
        · have hok := ok_t2 (s := s) (by rw [HLen.out, h2]) (by rw [hT0]; exact c0) (by rw [hT1]; exact c1') (by rw [HN0.out, HD1.out]; exact hE)
          have HF := Lib.hid (rat_t hok.1)
          have HROK := Lib.hid hok.2
          have hE1 : bstr (ratioTxt (pv T0) (pv T1)) = bstr s := by rw [hE]
          rw [HN0.out, HD1.out] at HF HROK
          generalize pv T0 = N0 at *
          generalize pv T1 = N1 at *
          clear h2 hE hok
          go_enter Try.func60, Try.ntmps60
          go_wp2_with (first | (go_at_call 59; ((with_reducible refine (HS.out _).mono ?_); rintro e w1 ⟨v1, rfl, o1, g1⟩); rw [HLen.out] at o1; obtain ⟨g, c1, rfl⟩ := Go.Joins.ownsRow_form o1 hr0; have ob0 : Own w1 ⟨w.heap.size, 0, none⟩ _ := Ge.own g1 (own_new rfl rfl); have ob1 : Own w1 ⟨w.heap.size, 1, none⟩ _ := Ge.own g1 (own_new rfl rfl); have bc0 := ob0.1; have bf0 := ob0.2; have bc1 := ob1.1; have bf1 := ob1.2; clear ob0 ob1; simp at bc0 bc1; have x0 := own_str o1 hr0; rw [hT0] at x0; have x1 := own_str o1 hr1; rw [hT1] at x1; have Gc := Ge.trans (Ge.alloc (Ge.refl w) _) g1) | (go_at_call 101; ((with_reducible refine (HP0.out _).mono ?_); rintro e w' ⟨rfl, gp⟩); have bf0 := Ge.keepF gp bc0 bf0; have bf1 := Ge.keepF gp bc1 bf1; have bc0 := Ge.keep gp bc0; have bc1 := Ge.keep gp bc1; have x1 := Ge.keep gp x1; have Gc := Ge.trans Gc gp; have zl : w.heap.size < w'.heap.size := (by have := World.block_lt_of_cell? _ _ bc0; simpa using this)) | (go_at_call 101; ((with_reducible refine (HP1.out _).mono ?_); rintro e w' ⟨rfl, gp⟩); have bf0 := Ge.keepF gp bc0 bf0; have bf1 := Ge.keepF gp bc1 bf1; have bc0 := Ge.keep gp bc0; have bc1 := Ge.keep gp bc1; have Gc := Ge.trans Gc gp; have zl : w.heap.size < w'.heap.size := (by have := World.block_lt_of_cell? _ _ bc0; simpa using this)) | (go_at_call 102; ((with_reducible refine (sFormatRatio _ _ _).mono ?_); rintro e w5 ⟨rfl, g5⟩); have d0 := Ge.keep g5 (cell_new (i := 0) rfl rfl); have d1 := Ge.keep g5 (cell_new (i := 1) rfl rfl); have bf0 := Ge.keepF g5 (cell_alloc bc0) (froz_allocW bc0 bf0); have bf1 := Ge.keepF g5 (cell_alloc bc1) (froz_allocW bc1 bf1); have bc0 := Ge.keep g5 (cell_alloc bc0); have bc1 := Ge.keep g5 (cell_alloc bc1); have Gc := Ge.trans (Ge.alloc Gc _) g5; have zl : w.heap.size < w5.heap.size := (by have := World.block_lt_of_cell? _ _ bc0; simpa using this)) | (go_at_call 103; ((with_reducible refine (sRatioOk _ _ _).mono ?_); rintro e w6 ⟨rfl, g6⟩); rw [HROK.out]; have bf0 := Ge.keepF g6 bc0 bf0; have bf1 := Ge.keepF g6 bc1 bf1; have bc0 := Ge.keep g6 bc0; have bc1 := Ge.keep g6 bc1; have d0 := Ge.keep g6 d0; have d1 := Ge.keep g6 d1; have Gc := Ge.trans Gc g6; have zl : w.heap.size < w6.heap.size := (by have := World.block_lt_of_cell? _ _ bc0; simpa using this)))
          exact bodyPost_ret (v := .tuple #[.agg #[.int .i64 N0, .int .i64 N1], .bool true]) (by simp [results, Try.results60, go_sem, *]) rfl ⟨ret_rat ⟨HF.out.1, HF.out.2.1, HF.out.2.2⟩, by (repeat (first | with_reducible exact Ge.refl _ | assumption | with_reducible refine Ge.drew ?_ | with_reducible refine Ge.drewN ?_ _ | with_reducible refine Ge.alloc ?_ _ | (with_reducible refine Ge.setCell ?_ (by first | (simp; done) | omega | (simp; omega)) _) | with_reducible refine Ge.trans ?_ (by assumption)))⟩
        · have HF := Lib.hid (rat_f (ok_f3 (s := s) (by rw [HN0.out, HD1.out]; exact hE)))
          have hE1 := bstr_neq hE
          have HROK : Hid True := trivial
          generalize pv T0 = N0 at *
          generalize pv T1 = N1 at *
          clear h2 hE
          go_enter Try.func60, Try.ntmps60
          go_wp2_with (first | (go_at_call 59; ((with_reducible refine (HS.out _).mono ?_); rintro e w1 ⟨v1, rfl, o1, g1⟩); rw [HLen.out] at o1; obtain ⟨g, c1, rfl⟩ := Go.Joins.ownsRow_form o1 hr0; have ob0 : Own w1 ⟨w.heap.size, 0, none⟩ _ := Ge.own g1 (own_new rfl rfl); have ob1 : Own w1 ⟨w.heap.size, 1, none⟩ _ := Ge.own g1 (own_new rfl rfl); have bc0 := ob0.1; have bf0 := ob0.2; have bc1 := ob1.1; have bf1 := ob1.2; clear ob0 ob1; simp at bc0 bc1; have x0 := own_str o1 hr0; rw [hT0] at x0; have x1 := own_str o1 hr1; rw [hT1] at x1; have Gc := Ge.trans (Ge.alloc (Ge.refl w) _) g1) | (go_at_call 101; ((with_reducible refine (HP0.out _).mono ?_); rintro e w' ⟨rfl, gp⟩); have bf0 := Ge.keepF gp bc0 bf0; have bf1 := Ge.keepF gp bc1 bf1; have bc0 := Ge.keep gp bc0; have bc1 := Ge.keep gp bc1; have x1 := Ge.keep gp x1; have Gc := Ge.trans Gc gp; have zl : w.heap.size < w'.heap.size := (by have := World.block_lt_of_cell? _ _ bc0; simpa using this)) | (go_at_call 101; ((with_reducible refine (HP1.out _).mono ?_); rintro e w' ⟨rfl, gp⟩); have bf0 := Ge.keepF gp bc0 bf0; have bf1 := Ge.keepF gp bc1 bf1; have bc0 := Ge.keep gp bc0; have bc1 := Ge.keep gp bc1; have Gc := Ge.trans Gc gp; have zl : w.heap.size < w'.heap.size := (by have := World.block_lt_of_cell? _ _ bc0; simpa using this)) | (go_at_call 102; ((with_reducible refine (sFormatRatio _ _ _).mono ?_); rintro e w5 ⟨rfl, g5⟩); have d0 := Ge.keep g5 (cell_new (i := 0) rfl rfl); have d1 := Ge.keep g5 (cell_new (i := 1) rfl rfl); have bf0 := Ge.keepF g5 (cell_alloc bc0) (froz_allocW bc0 bf0); have bf1 := Ge.keepF g5 (cell_alloc bc1) (froz_allocW bc1 bf1); have bc0 := Ge.keep g5 (cell_alloc bc0); have bc1 := Ge.keep g5 (cell_alloc bc1); have Gc := Ge.trans (Ge.alloc Gc _) g5; have zl : w.heap.size < w5.heap.size := (by have := World.block_lt_of_cell? _ _ bc0; simpa using this)) | (go_at_call 103; ((with_reducible refine (sRatioOk _ _ _).mono ?_); rintro e w6 ⟨rfl, g6⟩); rw [HROK.out]; have bf0 := Ge.keepF g6 bc0 bf0; have bf1 := Ge.keepF g6 bc1 bf1; have bc0 := Ge.keep g6 bc0; have bc1 := Ge.keep g6 bc1; have d0 := Ge.keep g6 d0; have d1 := Ge.keep g6 d1; have Gc := Ge.trans Gc g6; have zl : w.heap.size < w6.heap.size := (by have := World.block_lt_of_cell? _ _ bc0; simpa using this)))
          exact bodyPost_ret (v := .tuple #[.agg #[.int .i64 0, .int .i64 0], .bool false]) (by simp [results, Try.results60, go_sem, *]) rfl ⟨ret_rat ⟨HF.out.1, HF.out.2.1, HF.out.2.2⟩, by (repeat (first | with_reducible exact Ge.refl _ | assumption | with_reducible refine Ge.drew ?_ | with_reducible refine Ge.drewN ?_ _ | with_reducible refine Ge.alloc ?_ _ | (with_reducible refine Ge.setCell ?_ (by first | (simp; done) | omega | (simp; omega)) _) | with_reducible refine Ge.trans ?_ (by assumption)))⟩
  · have t2 : ((r : Int) == 2) = false := by simp; omega
    have HD1 : Hid (rD s = 1) := rD_1 (s := s) (by rw [HLen.out]; exact h2)
    cases c0 : pb T0 with
    | false =>
      have HF := Lib.hid (rat_f (ok_f0 (s := s) (by rw [hT0]; exact c0)))
      rw [c0] at HP0
      generalize pv T0 = N0 at *
      clear h2
      go_enter Try.func60, Try.ntmps60
      go_wp2_with (first | (go_at_call 59; ((with_reducible refine (HS.out _).mono ?_); rintro e w1 ⟨v1, rfl, o1, g1⟩); rw [HLen.out] at o1; obtain ⟨g, c1, rfl⟩ := Go.Joins.ownsRow_form o1 hr0; have ob0 : Own w1 ⟨w.heap.size, 0, none⟩ _ := Ge.own g1 (own_new rfl rfl); have ob1 : Own w1 ⟨w.heap.size, 1, none⟩ _ := Ge.own g1 (own_new rfl rfl); have bc0 := ob0.1; have bf0 := ob0.2; have bc1 := ob1.1; have bf1 := ob1.2; clear ob0 ob1; simp at bc0 bc1; have x0 := own_str o1 hr0; rw [hT0] at x0; have Gc := Ge.trans (Ge.alloc (Ge.refl w) _) g1) | (go_at_call 101; ((with_reducible refine (HP0.out _).mono ?_); rintro e w' ⟨rfl, gp⟩); have bf0 := Ge.keepF gp bc0 bf0; have bf1 := Ge.keepF gp bc1 bf1; have bc0 := Ge.keep gp bc0; have bc1 := Ge.keep gp bc1; have Gc := Ge.trans Gc gp; have zl : w.heap.size < w'.heap.size := (by have := World.block_lt_of_cell? _ _ bc0; simpa using this)))
      exact bodyPost_ret (v := .tuple #[.agg #[.int .i64 0, .int .i64 0], .bool false]) (by simp [results, Try.results60, go_sem, *]) rfl ⟨ret_rat ⟨HF.out.1, HF.out.2.1, HF.out.2.2⟩, by (repeat (first | with_reducible exact Ge.refl _ | assumption | with_reducible refine Ge.drew ?_ | with_reducible refine Ge.drewN ?_ _ | with_reducible refine Ge.alloc ?_ _ | (with_reducible refine Ge.setCell ?_ (by first | (simp; done) | omega | (simp; omega)) _) | with_reducible refine Ge.trans ?_ (by assumption)))⟩
    | true =>
      rw [c0] at HP0
      by_cases h3 : 2 < r
      · have HF := Lib.hid (rat_f (ok_f2 (s := s) (by rw [HLen.out]; exact h3)))
        have t3 : (2 : Int) < (r : Int) := by omega
        generalize pv T0 = N0 at *
        clear h2
        go_enter Try.func60, Try.ntmps60
        go_wp2_with (first | (go_at_call 59; ((with_reducible refine (HS.out _).mono ?_); rintro e w1 ⟨v1, rfl, o1, g1⟩); rw [HLen.out] at o1; obtain ⟨g, c1, rfl⟩ := Go.Joins.ownsRow_form o1 hr0; have ob0 : Own w1 ⟨w.heap.size, 0, none⟩ _ := Ge.own g1 (own_new rfl rfl); have ob1 : Own w1 ⟨w.heap.size, 1, none⟩ _ := Ge.own g1 (own_new rfl rfl); have bc0 := ob0.1; have bf0 := ob0.2; have bc1 := ob1.1; have bf1 := ob1.2; clear ob0 ob1; simp at bc0 bc1; have x0 := own_str o1 hr0; rw [hT0] at x0; have Gc := Ge.trans (Ge.alloc (Ge.refl w) _) g1) | (go_at_call 101; ((with_reducible refine (HP0.out _).mono ?_); rintro e w' ⟨rfl, gp⟩); have bf0 := Ge.keepF gp bc0 bf0; have bf1 := Ge.keepF gp bc1 bf1; have bc0 := Ge.keep gp bc0; have bc1 := Ge.keep gp bc1; have Gc := Ge.trans Gc gp; have zl : w.heap.size < w'.heap.size := (by have := World.block_lt_of_cell? _ _ bc0; simpa using this)))
        exact bodyPost_ret (v := .tuple #[.agg #[.int .i64 0, .int .i64 0], .bool false]) (by simp [results, Try.results60, go_sem, *]) rfl ⟨ret_rat ⟨HF.out.1, HF.out.2.1, HF.out.2.2⟩, by (repeat (first | with_reducible exact Ge.refl _ | assumption | with_reducible refine Ge.drew ?_ | with_reducible refine Ge.drewN ?_ _ | with_reducible refine Ge.alloc ?_ _ | (with_reducible refine Ge.setCell ?_ (by first | (simp; done) | omega | (simp; omega)) _) | with_reducible refine Ge.trans ?_ (by assumption)))⟩
      · have t3 : ¬ ((2 : Int) < (r : Int)) := by omega
        by_cases hE : ratioTxt (pv T0) 1 = s
        · have hok := ok_t1 (s := s) (by rw [HLen.out]; exact h2) (by rw [HLen.out]; exact h3) (by rw [hT0]; exact c0) (by rw [HN0.out, HD1.out]; exact hE)
          have HF := Lib.hid (rat_t hok.1)
          have HROK := Lib.hid hok.2
          have hE1 : bstr (ratioTxt (pv T0) 1) = bstr s := by rw [hE]
          rw [HN0.out, HD1.out] at HF HROK
          generalize pv T0 = N0 at *
          clear h2 hE hok
          go_enter Try.func60, Try.ntmps60
          go_wp2_with (first | (go_at_call 59; ((with_reducible refine (HS.out _).mono ?_); rintro e w1 ⟨v1, rfl, o1, g1⟩); rw [HLen.out] at o1; obtain ⟨g, c1, rfl⟩ := Go.Joins.ownsRow_form o1 hr0; have ob0 : Own w1 ⟨w.heap.size, 0, none⟩ _ := Ge.own g1 (own_new rfl rfl); have ob1 : Own w1 ⟨w.heap.size, 1, none⟩ _ := Ge.own g1 (own_new rfl rfl); have bc0 := ob0.1; have bf0 := ob0.2; have bc1 := ob1.1; have bf1 := ob1.2; clear ob0 ob1; simp at bc0 bc1; have x0 := own_str o1 hr0; rw [hT0] at x0; have Gc := Ge.trans (Ge.alloc (Ge.refl w) _) g1) | (go_at_call 101; ((with_reducible refine (HP0.out _).mono ?_); rintro e w' ⟨rfl, gp⟩); have bf0 := Ge.keepF gp bc0 bf0; have bf1 := Ge.keepF gp bc1 bf1; have bc0 := Ge.keep gp bc0; have bc1 := Ge.keep gp bc1; have Gc := Ge.trans Gc gp; have zl : w.heap.size < w'.heap.size := (by have := World.block_lt_of_cell? _ _ bc0; simpa using this)) | (go_at_call 102; ((with_reducible refine (sFormatRatio _ _ _).mono ?_); rintro e w5 ⟨rfl, g5⟩); have d0 := Ge.keep g5 (cell_new (i := 0) rfl rfl); have d1 := Ge.keep g5 (cell_new (i := 1) rfl rfl); have bf0 := Ge.keepF g5 (cell_alloc bc0) (froz_allocW bc0 bf0); have bf1 := Ge.keepF g5 (cell_alloc bc1) (froz_allocW bc1 bf1); have bc0 := Ge.keep g5 (cell_alloc bc0); have bc1 := Ge.keep g5 (cell_alloc bc1); have Gc := Ge.trans (Ge.alloc Gc _) g5; have zl : w.heap.size < w5.heap.size := (by have := World.block_lt_of_cell? _ _ bc0; simpa using this)) | (go_at_call 103; ((with_reducible refine (sRatioOk _ _ _).mono ?_); rintro e w6 ⟨rfl, g6⟩); rw [HROK.out]; have bf0 := Ge.keepF g6 bc0 bf0; have bf1 := Ge.keepF g6 bc1 bf1; have bc0 := Ge.keep g6 bc0; have bc1 := Ge.keep g6 bc1; have d0 := Ge.keep g6 d0; have d1 := Ge.keep g6 d1; have Gc := Ge.trans Gc g6; have zl : w.heap.size < w6.heap.size := (by have := World.block_lt_of_cell? _ _ bc0; simpa using this)))
          exact bodyPost_ret (v := .tuple #[.agg #[.int .i64 N0, .int .i64 1], .bool true]) (by simp [results, Try.results60, go_sem, *]) rfl ⟨ret_rat ⟨HF.out.1, HF.out.2.1, HF.out.2.2⟩, by (repeat (first | with_reducible exact Ge.refl _ | assumption | with_reducible refine Ge.drew ?_ | with_reducible refine Ge.drewN ?_ _ | with_reducible refine Ge.alloc ?_ _ | (with_reducible refine Ge.setCell ?_ (by first | (simp; done) | omega | (simp; omega)) _) | with_reducible refine Ge.trans ?_ (by assumption)))⟩
        · have HF := Lib.hid (rat_f (ok_f3 (s := s) (by rw [HN0.out, HD1.out]; exact hE)))
          have hE1 := bstr_neq hE
          have HROK : Hid True := trivial
          generalize pv T0 = N0 at *
          clear h2 hE
          go_enter Try.func60, Try.ntmps60
          go_wp2_with (first | (go_at_call 59; ((with_reducible refine (HS.out _).mono ?_); rintro e w1 ⟨v1, rfl, o1, g1⟩); rw [HLen.out] at o1; obtain ⟨g, c1, rfl⟩ := Go.Joins.ownsRow_form o1 hr0; have ob0 : Own w1 ⟨w.heap.size, 0, none⟩ _ := Ge.own g1 (own_new rfl rfl); have ob1 : Own w1 ⟨w.heap.size, 1, none⟩ _ := Ge.own g1 (own_new rfl rfl); have bc0 := ob0.1; have bf0 := ob0.2; have bc1 := ob1.1; have bf1 := ob1.2; clear ob0 ob1; simp at bc0 bc1; have x0 := own_str o1 hr0; rw [hT0] at x0; have Gc := Ge.trans (Ge.alloc (Ge.refl w) _) g1) | (go_at_call 101; ((with_reducible refine (HP0.out _).mono ?_); rintro e w' ⟨rfl, gp⟩); have bf0 := Ge.keepF gp bc0 bf0; have bf1 := Ge.keepF gp bc1 bf1; have bc0 := Ge.keep gp bc0; have bc1 := Ge.keep gp bc1; have Gc := Ge.trans Gc gp; have zl : w.heap.size < w'.heap.size := (by have := World.block_lt_of_cell? _ _ bc0; simpa using this)) | (go_at_call 102; ((with_reducible refine (sFormatRatio _ _ _).mono ?_); rintro e w5 ⟨rfl, g5⟩); have d0 := Ge.keep g5 (cell_new (i := 0) rfl rfl); have d1 := Ge.keep g5 (cell_new (i := 1) rfl rfl); have bf0 := Ge.keepF g5 (cell_alloc bc0) (froz_allocW bc0 bf0); have bf1 := Ge.keepF g5 (cell_alloc bc1) (froz_allocW bc1 bf1); have bc0 := Ge.keep g5 (cell_alloc bc0); have bc1 := Ge.keep g5 (cell_alloc bc1); have Gc := Ge.trans (Ge.alloc Gc _) g5; have zl : w.heap.size < w5.heap.size := (by have := World.block_lt_of_cell? _ _ bc0; simpa using this)) | (go_at_call 103; ((with_reducible refine (sRatioOk _ _ _).mono ?_); rintro e w6 ⟨rfl, g6⟩); rw [HROK.out]; have bf0 := Ge.keepF g6 bc0 bf0; have bf1 := Ge.keepF g6 bc1 bf1; have bc0 := Ge.keep g6 bc0; have bc1 := Ge.keep g6 bc1; have d0 := Ge.keep g6 d0; have d1 := Ge.keep g6 d1; have Gc := Ge.trans Gc g6; have zl : w.heap.size < w6.heap.size := (by have := World.block_lt_of_cell? _ _ bc0; simpa using this)))
          exact bodyPost_ret (v := .tuple #[.agg #[.int .i64 0, .int .i64 0], .bool false]) (by simp [results, Try.results60, go_sem, *]) rfl ⟨ret_rat ⟨HF.out.1, HF.out.2.1, HF.out.2.2⟩, by (repeat (first | with_reducible exact Ge.refl _ | assumption | with_reducible refine Ge.drew ?_ | with_reducible refine Ge.drewN ?_ _ | with_reducible refine Ge.alloc ?_ _ | (with_reducible refine Ge.setCell ?_ (by first | (simp; done) | omega | (simp; omega)) _) | with_reducible refine Ge.trans ?_ (by assumption)))⟩
end Go.Proofs.Ytndbdbcbnipmaaa
