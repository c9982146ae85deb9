/- FnLadders, walked. No condition. -/
import Derived.Test.YtndbdbcbnipmaaaWLadder
import Derived.Test.YtndbdbcbnipmaaaWTerms
import Derived.Test.YtndbdbcbnipmaaaWMakeTerms
namespace Go.Proofs.Ytndbdbcbnipmaaa
set_option maxRecDepth 100000
open Go.ChangeShapes Go.WideShapes Go.ChangeAt Go.RowKit Go.Joins

set_option maxHeartbeats 1600000 in
theorem lFnLadders (p : Option Addr) (n cap : Nat) (w : World) (hb : SlB w p n) (hm : n ≤ 9223372036854775807) : Calls Try.prog 12 #[.slice p n cap] w fun e w' => e = .returned (.bool true) ∧ Ge w w' := by
  by_cases hbig : 1048576 < n
  · clear hb
    go_enter Try.func12, Try.ntmps12
    go_wp2_with fail
    go_ret
    exact ⟨rfl, Ge.refl _⟩
  have hn : n ≤ 1048576 := by omega
  have HB := Lib.hid hb
  clear hb hm
  go_enter Try.func12, Try.ntmps12
  go_wp2_with (go_at_call 47; ((with_reducible refine (sMakeTerms _ _ _ _ HB.out hn).mono ?_); rintro e w1 ⟨v1, a, ts, rfl, a0, a1, hts, hx, o1, g1⟩))
  obtain ⟨f1, f2, f3⟩ := factA a0 a1 hts hx
  have hlen : (bump (a :: ts)).length ≤ 9223372036854775807 := by rw [bump_len]; simp; omega
  have F1 := Lib.hid (valOf_good f1)
  clear hts hx f1 a0 a1
  generalize bump (a :: ts) = l at *
  have v1n := F1.out.2
  obtain ⟨p1, c1, rfl⟩ := owns_form o1
  go_wp2_with (go_at_call 48; ((with_reducible refine (iRatioOfTerms _ l _ (SlI.of_owns o1) hlen).mono ?_); rintro e w2 ⟨rfl, g2⟩))
  have HT := Lib.hid (fun w => by have := iTermsOf (valOf l).n (valOf l).d w; rw [f3] at this; exact this : ∀ w, Calls Try.prog 50 #[.int .i64 (valOf l).n, .int .i64 (valOf l).d] w (Gives w l))
  have o2 := Ge.owns (g2.alloc (.cells #[.int .i64 (valOf l).n, .int .i64 (valOf l).d] 52)) o1
  have G2 : Ge w (w2.alloc (.cells #[.int .i64 (valOf l).n, .int .i64 (valOf l).d] 52)) := (g1.trans g2).alloc _
  clear o1
  go_wp2_with (go_at_call 50; ((with_reducible refine (HT.out _).mono ?_); rintro e w3 ⟨v3, rfl, o3, g3⟩))
  have G3 := G2.trans g3
  go_wp2_with (go_at_call 49; ((with_reducible refine (lSame v3 _ l l _ (SlI.of_owns o3) (SlI.of_owns (Ge.owns g3 o2)) hlen).mono ?_); rintro e w4 ⟨rfl, g4⟩))
  have G4 := G3.trans g4
  clear o2 o3 g3 g4 G2 G3 HT f3 f2 F1
  go_wp2_with ((go_at_call 51; ((with_reducible refine (sMakeNum _ _ _ _ _ (HB.out.ge G4) hn (by omega)).mono ?_); rintro e w5 ⟨x, rfl, x0, x1, g5⟩)); have x2 := Int.emod_nonneg x (show (60 : Int) ≠ 0 by omega); have x3 := Int.emod_lt_of_pos x (show (0 : Int) < 60 by omega))
  have G5 := G4.trans g5
  go_wp2_with ((go_at_call 51; ((with_reducible refine (sMakeNum _ _ _ _ _ (HB.out.ge G5) hn (by omega)).mono ?_); rintro e w6 ⟨y, rfl, y0, y1, g6⟩)); have y2 := Int.emod_nonneg y (show (60 : Int) ≠ 0 by omega); have y3 := Int.emod_lt_of_pos y (show (0 : Int) < 60 by omega))
  have G6 := G5.trans g6
  clear G4 G5 g5 g6
  have b1 : 1 ≤ 1 + x % 60 := by omega
  have b2 : 1 + x % 60 ≤ 60 := by omega
  have b3 : 1 ≤ 1 + y % 60 := by omega
  have b4 : 1 + y % 60 ≤ 60 := by omega
  clear x2 x3 y2 y3 x0 x1 y0 y1
  generalize 1 + x % 60 = P at *
  generalize 1 + y % 60 = Q at *
  obtain ⟨k1, k2, k3, k4⟩ := factB b1 b2 b3 b4
  have K4 := Lib.hid k4
  have K3 := Lib.hid k3
  have hlen2 : (termsOf P Q).length ≤ 9223372036854775807 := Nat.le_trans (termsOf_len P Q) (by omega)
  have HU := Lib.hid (iTermsOf P Q)
  have HC := Lib.hid (iCountUnits P Q)
  clear k4 k3
  generalize termsOf P Q = u at *
  generalize countUnits P Q = c at *
  obtain ⟨n2, hn2⟩ : ∃ n, u.length = n := ⟨_, rfl⟩
  rw [hn2] at k1 
  have HN2 : Hid (u.length = n2) := hn2
  rw [hn2] at hlen2
  clear hn2
  go_wp2_with ((go_at_call 50; ((with_reducible refine (HU.out _).mono ?_); rintro e w7 ⟨v7, rfl, o7, g7⟩)); rw [HN2.out] at o7; obtain ⟨p7, c7, rfl⟩ := owns_form o7)
  have G7 := G6.trans g7
  go_wp2_with ((go_at_call 52; ((with_reducible refine (HC.out _).mono ?_); rintro e w8 ⟨rfl, g8⟩)))
  have G8 := G7.trans g8
  have o8 := Ge.owns g8 o7
  go_wp2_with ((go_at_call 48; ((with_reducible refine (iRatioOfTerms _ u _ (by have h := HN2.out; unfold SlI; rw [h]; exact Sl.of_owns o8) (by rw [HN2.out]; exact hlen2)).mono ?_); rintro e w9 ⟨rfl, g9⟩)))
  have G9 := G8.trans g9
  have e1 : (0 : Int) < (n2 : Int) := by omega
  have e0 : 0 < n2 := k1
  by_cases hc : c ≤ 40
  · have e3 : valOk u = true := by rw [K3.out]; simp [hc]
    rw [K4.out e3, e3]
    go_region_held3 (fun w' => w'.cell? ⟨w9.heap.size, 0, none⟩ = some (.int .i64 (ratioOf P Q).n) ∧ w'.cell? ⟨w9.heap.size, 1, none⟩ = some (.int .i64 (ratioOf P Q).d) ∧ Ge w9 w') (first | exact ⟨hb.keep (‹_ ∧ _ ∧ _›).1, hb.keep (‹_ ∧ _ ∧ _›).2.1, Ge.trans (‹_ ∧ _ ∧ _›).2.2 hb⟩ | ((refine ⟨?_, ?_, ?_⟩ <;> (repeat (first | assumption | with_reducible exact Ge.refl _ | with_reducible refine cv_drew ?_ | with_reducible refine cv_alloc ?_ | with_reducible refine cv_set ?_ | with_reducible refine cell_drew ?_ | ((with_reducible refine cell_new ?_ ?_); (focus (simp; done)); rfl) | ((with_reducible refine froz_new (v := undef) ?_ ?_); (focus (simp; done)); rfl) | with_reducible refine cell_drewN ?_ | with_reducible refine cell_alloc ?_ | ((with_reducible refine cell_set ?_ ?_); rotate_left; focus (simp; done)) | with_reducible refine froz_drew ?_ | with_reducible refine froz_set ?_ | with_reducible refine froz_alloc (by assumption) ?_ | with_reducible refine Ge.drew ?_ | with_reducible refine Ge.drewN ?_ _ | with_reducible refine Ge.alloc ?_ _ | ((with_reducible refine Ge.setCell ?_ ?_ _); rotate_left; focus (first | (simp; done) | omega | (simp; omega))) | with_reducible refine Ge.trans ?_ (by assumption)))); done) | ((obtain ⟨s0, s1, s2⟩ := ‹_ ∧ _ ∧ _›); refine ⟨?_, ?_, ?_⟩ <;> (repeat (first | assumption | with_reducible exact Ge.refl _ | with_reducible refine cv_drew ?_ | with_reducible refine cv_alloc ?_ | with_reducible refine cv_set ?_ | with_reducible refine cell_drew ?_ | ((with_reducible refine cell_new ?_ ?_); (focus (simp; done)); rfl) | ((with_reducible refine froz_new (v := undef) ?_ ?_); (focus (simp; done)); rfl) | with_reducible refine cell_drewN ?_ | with_reducible refine cell_alloc ?_ | ((with_reducible refine cell_set ?_ ?_); rotate_left; focus (simp; done)) | with_reducible refine froz_drew ?_ | with_reducible refine froz_set ?_ | with_reducible refine froz_alloc (by assumption) ?_ | with_reducible refine Ge.drew ?_ | with_reducible refine Ge.drewN ?_ _ | with_reducible refine Ge.alloc ?_ _ | ((with_reducible refine Ge.setCell ?_ ?_ _); rotate_left; focus (first | (simp; done) | omega | (simp; omega))) | with_reducible refine Ge.trans ?_ (by assumption))))) (first | (go_at_call 53; ((with_reducible refine (iRatioOf P Q _ (mid (by omega) (by omega)) (mid (by omega) (by omega))).mono ?_); rintro e w' ⟨rfl, hb⟩)) | fail); (rename_i hHeldX; obtain ⟨c0_0, c0_1, G10⟩ := hHeldX)
    go_wp2_with fail
    go_ret
    exact ⟨rfl, Ge.trans G9 (by assumption)⟩
  · have e3 : valOk u = false := by rw [K3.out]; simp [hc]
    have e4 : decide (c ≤ 40) = false := by simp [hc]
    rw [e3]
    go_quiet (fail)
    go_wp2_with fail
    go_ret
    exact ⟨rfl, by (repeat (first | with_reducible exact Ge.refl _ | assumption | with_reducible refine Ge.drew ?_ | with_reducible refine Ge.drewN ?_ _ | with_reducible refine Ge.alloc ?_ _ | (with_reducible refine Ge.setCell ?_ (by first | (simp; done) | omega | (simp; omega)) _) | with_reducible refine Ge.trans ?_ (by assumption)))⟩
end Go.Proofs.Ytndbdbcbnipmaaa
