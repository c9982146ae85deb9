/- NetOk of spec. No condition. -/
import Derived.Test.YtahicfpnmjofhaaWReach
import Derived.Test.YtahicfpnmjofhaaWIn
namespace Go.Proofs.Ytahicfpnmjofhaa
set_option maxRecDepth 100000
open Go.ChangeShapes Go.WideShapes Go.ChangeAt Go.RowKit Go.Joins

theorem good_nextWS {N : Int} {xs : List Int} {k : Nat} (h : Hid (∀ i, i < k → goodW N xs i)) (hk : goodW N xs k) : Hid (∀ i, i < k + 1 → goodW N xs i) := fun i hi => by
  by_cases e : i = k
  · subst e; exact hk
  · exact h.out i (by omega)

set_option maxHeartbeats 6400000 in
theorem sNetOk (N E S : Int) (s : Value) (m : Nat) (xs : List Int) (w : World) (hs : SlF w s m 3 xs) (hm : m ≤ 9223372036854775807) :
    Calls Try.prog 18 #[.agg #[.int .i64 N, .int .i64 E, .int .i64 S, s]] w fun e w' => e = .returned (.bool (netB N E S m xs)) ∧ Ge w w' := by
  obtain ⟨p, cap, rfl, hc⟩ := hs.open
  have HV := Lib.hid hs
  have HC := Lib.hid hc
  clear hs hc
  by_cases a1 : ¬ (1 ≤ N ∧ N ≤ 5)
  · have HF : Hid (netB N E S m xs = false) := netB_false (fun h => a1 h.1)
    have i1 : inB N 1 5 = false := inB_false (by omega)
    clear a1
    go_enter Try.func18, Try.ntmps18
    go_wp2_with (go_at_call 29; ((with_reducible refine (sL01In _ _ _ _).mono ?_); rintro e w' ⟨rfl, rfl⟩))
    go_ret
    exact ⟨ret_bool HF.out.symm, by (repeat (first | with_reducible exact Ge.refl _ | assumption | with_reducible refine Ge.drew ?_ | with_reducible refine Ge.drewN ?_ _ | with_reducible refine Ge.alloc ?_ _ | (with_reducible refine Ge.setCell ?_ (by first | (simp; done) | omega | (simp; omega)) _) | with_reducible refine Ge.trans ?_ (by assumption)))⟩
  replace a1 := Classical.not_not.1 a1
  have i1 : inB N 1 5 = true := inB_true a1.1 a1.2
  by_cases a2 : ¬ (1 ≤ E ∧ E ≤ N)
  · have HF : Hid (netB N E S m xs = false) := netB_false (fun h => a2 h.2.1)
    have i2 : inB E 1 N = false := inB_false (by omega)
    clear a2
    go_enter Try.func18, Try.ntmps18
    go_wp2_with (go_at_call 29; ((with_reducible refine (sL01In _ _ _ _).mono ?_); rintro e w' ⟨rfl, rfl⟩))
    go_ret
    exact ⟨ret_bool HF.out.symm, by (repeat (first | with_reducible exact Ge.refl _ | assumption | with_reducible refine Ge.drew ?_ | with_reducible refine Ge.drewN ?_ _ | with_reducible refine Ge.alloc ?_ _ | (with_reducible refine Ge.setCell ?_ (by first | (simp; done) | omega | (simp; omega)) _) | with_reducible refine Ge.trans ?_ (by assumption)))⟩
  replace a2 := Classical.not_not.1 a2
  have i2 : inB E 1 N = true := inB_true a2.1 a2.2
  by_cases a3 : ¬ (1 ≤ S ∧ S ≤ 1000)
  · have HF : Hid (netB N E S m xs = false) := netB_false (fun h => a3 h.2.2.1)
    have i3 : inB S 1 1000 = false := inB_false (by omega)
    clear a3
    go_enter Try.func18, Try.ntmps18
    go_wp2_with (go_at_call 29; ((with_reducible refine (sL01In _ _ _ _).mono ?_); rintro e w' ⟨rfl, rfl⟩))
    go_ret
    exact ⟨ret_bool HF.out.symm, by (repeat (first | with_reducible exact Ge.refl _ | assumption | with_reducible refine Ge.drew ?_ | with_reducible refine Ge.drewN ?_ _ | with_reducible refine Ge.alloc ?_ _ | (with_reducible refine Ge.setCell ?_ (by first | (simp; done) | omega | (simp; omega)) _) | with_reducible refine Ge.trans ?_ (by assumption)))⟩
  replace a3 := Classical.not_not.1 a3
  have i3 : inB S 1 1000 = true := inB_true a3.1 a3.2
  obtain ⟨n, rfl⟩ : ∃ n : Nat, N = (n : Int) := ⟨N.toNat, by omega⟩
  have n1 : 1 ≤ n := by omega
  have n5 : n ≤ 5 := by omega
  go_enter Try.func18, Try.ntmps18
  go_wp2_with (go_at_call 29; ((with_reducible refine (sL01In _ _ _ _).mono ?_); rintro e w' ⟨rfl, rfl⟩))
  go_loopw [26] (fun i wr => ∃ k : Nat, k ≤ m ∧ i = .int .i64 k ∧ Hid (∀ j, j < k → goodW n xs j) ∧ Ge (w.alloc (.cells #[.int .i64 (n : Int), .int .i64 E, .int .i64 S, .slice p m cap] 29)) wr) (fun i _ => m - (intOf i).toNat)
  case atStart => exact ⟨0, Nat.zero_le _, rfl, fun j hj => by omega, Ge.refl _⟩
  case round =>
    obtain ⟨k, hk, rfl, HK, hg⟩ := hrel
    have G : Ge w wr := Ge.trans ((Ge.refl w).alloc _) hg
    have c0 := hg.keep (cell_new (i := 0) rfl rfl)
    have c1 := hg.keep (cell_new (i := 1) rfl rfl)
    have c2 := hg.keep (cell_new (i := 2) rfl rfl)
    have c3 := hg.keep (cell_new (i := 3) rfl rfl)
    have zw := hg.size
    simp at c0 c1 c2 c3 zw
    have zl : w.heap.size < wr.heap.size := by omega
    by_cases hlt : k < m
    · obtain ⟨b, o, rfl, x0, x1, x2⟩ := three_cells HC.out hlt
      have y0 := G.keep x0
      have y1 := G.keep x1
      have y2 := G.keep x2
      have lb := World.block_lt_of_cell? w _ x0
      simp at lb
      clear x0 x1 x2
      change wr.cell? _ = some (.int .i64 (wa xs k)) at y0
      change wr.cell? _ = some (.int .i64 (wb xs k)) at y1
      change wr.cell? _ = some (.int .i64 (ww xs k)) at y2
      by_cases t1 : ¬ (0 ≤ wa xs k ∧ wa xs k ≤ (n : Int) - 1)
      · have HF : Hid (netB n E S m xs = false) := netB_false (fun h => by have q := (h.2.2.2.1 k hlt).1; unfold okW at q; exact t1 ⟨by omega, by omega⟩)
        have j1 : inB (wa xs k) (0) ((n : Int) - 1) = false := inB_false (by omega)
        clear t1
        go_wp2_with (go_at_call 29; ((with_reducible refine (sL01In _ _ _ _).mono ?_); rintro e w' ⟨rfl, rfl⟩))
        go_ret
        exact ⟨ret_bool HF.out.symm, by (repeat (first | with_reducible exact Ge.refl _ | assumption | with_reducible refine Ge.drew ?_ | with_reducible refine Ge.drewN ?_ _ | with_reducible refine Ge.alloc ?_ _ | (with_reducible refine Ge.setCell ?_ (by first | (simp; done) | omega | (simp; omega)) _) | with_reducible refine Ge.trans ?_ (by assumption)))⟩
      replace t1 := Classical.not_not.1 t1
      have j1 : inB (wa xs k) (0) ((n : Int) - 1) = true := inB_true t1.1 t1.2
      by_cases t2 : ¬ (wa xs k + 1 ≤ wb xs k ∧ wb xs k ≤ (n : Int) - 1)
      · have HF : Hid (netB n E S m xs = false) := netB_false (fun h => by have q := (h.2.2.2.1 k hlt).1; unfold okW at q; exact t2 ⟨by omega, by omega⟩)
        have j2 : inB (wb xs k) (wa xs k + 1) ((n : Int) - 1) = false := inB_false (by omega)
        clear t2
        go_wp2_with (go_at_call 29; ((with_reducible refine (sL01In _ _ _ _).mono ?_); rintro e w' ⟨rfl, rfl⟩))
        go_ret
        exact ⟨ret_bool HF.out.symm, by (repeat (first | with_reducible exact Ge.refl _ | assumption | with_reducible refine Ge.drew ?_ | with_reducible refine Ge.drewN ?_ _ | with_reducible refine Ge.alloc ?_ _ | (with_reducible refine Ge.setCell ?_ (by first | (simp; done) | omega | (simp; omega)) _) | with_reducible refine Ge.trans ?_ (by assumption)))⟩
      replace t2 := Classical.not_not.1 t2
      have j2 : inB (wb xs k) (wa xs k + 1) ((n : Int) - 1) = true := inB_true t2.1 t2.2
      by_cases t3 : ¬ (1 ≤ ww xs k ∧ ww xs k ≤ 200)
      · have HF : Hid (netB n E S m xs = false) := netB_false (fun h => by have q := (h.2.2.2.1 k hlt).1; unfold okW at q; exact t3 ⟨by omega, by omega⟩)
        have j3 : inB (ww xs k) (1) (200) = false := inB_false (by omega)
        clear t3
        go_wp2_with (go_at_call 29; ((with_reducible refine (sL01In _ _ _ _).mono ?_); rintro e w' ⟨rfl, rfl⟩))
        go_ret
        exact ⟨ret_bool HF.out.symm, by (repeat (first | with_reducible exact Ge.refl _ | assumption | with_reducible refine Ge.drew ?_ | with_reducible refine Ge.drewN ?_ _ | with_reducible refine Ge.alloc ?_ _ | (with_reducible refine Ge.setCell ?_ (by first | (simp; done) | omega | (simp; omega)) _) | with_reducible refine Ge.trans ?_ (by assumption)))⟩
      replace t3 := Classical.not_not.1 t3
      have j3 : inB (ww xs k) (1) (200) = true := inB_true t3.1 t3.2
      have OK : Hid (okW n xs k) := ⟨by omega, by omega, by omega, by omega, by omega⟩
      obtain ⟨bad, hbad⟩ : ∃ bad : Bool, bad = true ↔ (0 < k ∧ ¬ ordW xs (k - 1) k) := ⟨@decide (0 < k ∧ ¬ ordW xs (k - 1) k) (Classical.propDecidable _), by simp⟩
      have HBad := Lib.hid hbad
      clear hbad
      go_upto_region 8 with (go_at_call 29; ((with_reducible refine (sL01In _ _ _ _).mono ?_); rintro e w' ⟨rfl, rfl⟩))
      go_cut [93] (fun s wx => s = .bool bad ∧ Ge wr wx)
      case first =>
        by_cases hp : 0 < k
        · obtain ⟨j, rfl⟩ : ∃ j, k = j + 1 := ⟨k - 1, by omega⟩
          obtain ⟨b', o', e', x0, x1, x2⟩ := three_cells HC.out (show j < m by omega)
          simp only [Option.some.injEq, Addr.mk.injEq, and_true] at e'
          obtain ⟨rfl, rfl⟩ := e'
          have z0 := G.keep x0
          have z1 := G.keep x1
          have z2 := G.keep x2
          clear x0 x1 x2
          change wr.cell? _ = some (.int .i64 (wa xs j)) at z0
          change wr.cell? _ = some (.int .i64 (wb xs j)) at z1
          change wr.cell? _ = some (.int .i64 (ww xs j)) at z2
          have w1 : IntKind.i64.wrap (((j + 1 : Nat) : Int) - 1) = (j : Int) := IntWalk.i64_in _ (by omega) |>.trans (by omega)
          have w2 : IntKind.i64.wrap (j : Int) = (j : Int) := IntWalk.i64_in _ (by omega)
          have j0 : (0 : Int) ≤ (j : Int) := by omega
          have j1 : (j : Int) < (m : Int) := by omega
          have w3 : ((j : Int) + 1 - 1) = (j : Int) := by omega
          have lbr : b < wr.heap.size := by omega
          have h1 := HBad.out
          simp only [Nat.add_sub_cancel, ordW] at h1
          by_cases c4 : wa xs (j + 1) < wa xs j
          · have hb0 : bad = true := h1.2 ⟨by omega, by omega⟩
            subst hb0
            clear h1
            go_quiet (fail)
            go_wp2_with fail
            go_meet
            exact ⟨rfl, by (repeat (first | with_reducible exact Ge.refl _ | assumption | with_reducible refine Ge.drew ?_ | with_reducible refine Ge.drewN ?_ _ | with_reducible refine Ge.alloc ?_ _ | (with_reducible refine Ge.setCell ?_ (by first | (simp; done) | omega | (simp; omega)) _) | with_reducible refine Ge.trans ?_ (by assumption)))⟩
          · by_cases c5 : wa xs (j + 1) = wa xs j
            · have c5b : (wa xs (j + 1) == wa xs j) = true := by simp [c5]
              by_cases c6 : wb xs (j + 1) ≤ wb xs j
              · have hb0 : bad = true := h1.2 ⟨by omega, by omega⟩
                subst hb0
                clear h1 c5
                go_quiet (fail)
                go_wp2_with fail
                go_meet
                exact ⟨rfl, by (repeat (first | with_reducible exact Ge.refl _ | assumption | with_reducible refine Ge.drew ?_ | with_reducible refine Ge.drewN ?_ _ | with_reducible refine Ge.alloc ?_ _ | (with_reducible refine Ge.setCell ?_ (by first | (simp; done) | omega | (simp; omega)) _) | with_reducible refine Ge.trans ?_ (by assumption)))⟩
              · have hb0 : bad = false := by
                  cases bad with
                  | false => rfl
                  | true => have := (h1.1 rfl).2; omega
                subst hb0
                clear h1 c5
                go_quiet (fail)
                go_wp2_with fail
                go_meet
                exact ⟨rfl, by (repeat (first | with_reducible exact Ge.refl _ | assumption | with_reducible refine Ge.drew ?_ | with_reducible refine Ge.drewN ?_ _ | with_reducible refine Ge.alloc ?_ _ | (with_reducible refine Ge.setCell ?_ (by first | (simp; done) | omega | (simp; omega)) _) | with_reducible refine Ge.trans ?_ (by assumption)))⟩
            · have c5b : (wa xs (j + 1) == wa xs j) = false := by simp [c5]
              have hb0 : bad = false := by
                cases bad with
                | false => rfl
                | true => have := (h1.1 rfl).2; omega
              subst hb0
              clear h1 c5
              go_quiet (fail)
              go_wp2_with fail
              go_meet
              exact ⟨rfl, by (repeat (first | with_reducible exact Ge.refl _ | assumption | with_reducible refine Ge.drew ?_ | with_reducible refine Ge.drewN ?_ _ | with_reducible refine Ge.alloc ?_ _ | (with_reducible refine Ge.setCell ?_ (by first | (simp; done) | omega | (simp; omega)) _) | with_reducible refine Ge.trans ?_ (by assumption)))⟩
        · have hk0 : k = 0 := by omega
          subst hk0
          have hb0 : bad = false := by
            cases bad with
            | true => have := (HBad.out.1 rfl).1; omega
            | false => rfl
          subst hb0
          go_quiet (fail)
          go_wp2_with fail
          go_meet
          exact ⟨rfl, by (repeat (first | with_reducible exact Ge.refl _ | assumption | with_reducible refine Ge.drew ?_ | with_reducible refine Ge.drewN ?_ _ | with_reducible refine Ge.alloc ?_ _ | (with_reducible refine Ge.setCell ?_ (by first | (simp; done) | omega | (simp; omega)) _) | with_reducible refine Ge.trans ?_ (by assumption)))⟩
      case rest =>
        obtain ⟨rfl, G7⟩ := hcut
        cases bad with
        | true =>
          have HF : Hid (netB n E S m xs = false) := netB_false (fun h => by
            obtain ⟨e1, e2⟩ := HBad.out.1 rfl
            exact e2 ((h.2.2.2.1 k hlt).2 e1))
          go_wp2_with fail
          go_ret
          exact ⟨ret_bool HF.out.symm, by (repeat (first | with_reducible exact Ge.refl _ | assumption | with_reducible refine Ge.drew ?_ | with_reducible refine Ge.drewN ?_ _ | with_reducible refine Ge.alloc ?_ _ | (with_reducible refine Ge.setCell ?_ (by first | (simp; done) | omega | (simp; omega)) _) | with_reducible refine Ge.trans ?_ (by assumption)))⟩
        | false =>
          have HG : Hid (∀ i, i < k + 1 → goodW n xs i) := good_nextWS HK ⟨OK.out, fun h0 => Classical.byContradiction fun h => by have := HBad.out.2 ⟨h0, h⟩; simp at this⟩
          go_wp2_with fail
          go_roundw
          case rel => exact ⟨k + 1, by omega, by go_num, HG.out, by (repeat (first | with_reducible exact Ge.refl _ | assumption | with_reducible refine Ge.drew ?_ | with_reducible refine Ge.drewN ?_ _ | with_reducible refine Ge.alloc ?_ _ | (with_reducible refine Ge.setCell ?_ (by first | (simp; done) | omega | (simp; omega)) _) | with_reducible refine Ge.trans ?_ (by assumption)))⟩
          case measure => simp [intOf]; omega
    · have hkm : k = m := by omega
      subst hkm
      have hchk := check_net n1 n5 (by have := prs_sub (N := (n : Int)) (by omega) HK.out; simpa using this)
      have HM : Hid (netB n E S k xs = mconn n (prs xs k)) := by
        show _ = _
        cases hcn : mconn n (prs xs k) with
        | false => exact netB_false (fun h => by have := h.2.2.2.2; simp only [Int.toNat_natCast, hcn] at this; cases this)
        | true => exact netB_true ⟨a1, a2, a3, HK.out, by simp only [Int.toNat_natCast, hcn]⟩
      have HE : mconn n (prs xs k) = decide ((qs (iprs (prs xs k)) 5).length = n) := by
        simp only [checkNet, Bool.and_eq_true, beq_iff_eq] at hchk
        exact hchk.1
      have HQ5 : (qs (iprs (prs xs k)) 5).length ≤ 5 := by
        simp only [checkNet, Bool.and_eq_true, List.all_eq_true, decide_eq_true_eq] at hchk
        exact hchk.2 5 (by simp)
      have HR := Lib.hid (fun w' (g : Ge w w') => sL03Reach n (.slice p k cap) k xs w' (HV.out.ge g) n1 n5 HK.out)
      have te : (((qs (iprs (prs xs k)) 5).length : Int) == (n : Int)) = mconn n (prs xs k) := by
        rw [HE]
        by_cases e : (qs (iprs (prs xs k)) 5).length = n
        · simp [e]
        · simp [e]; omega
      clear hchk HE
      generalize hq : qs (iprs (prs xs k)) 5 = Q at *
      clear hq
      go_wp2_with fail
      have hS : ∀ w', Ge wr w' → (w'.cell? ⟨w.heap.size, 0, none⟩ = some (.int .i64 (n : Int)) ∧ w'.cell? ⟨w.heap.size, 3, none⟩ = some (.slice p k cap) ∧ Ge wr w') := fun w' g => ⟨g.keep (by (repeat (first | assumption | with_reducible exact Ge.refl _ | with_reducible refine cv_drew ?_ | with_reducible refine cv_alloc ?_ | with_reducible refine cv_set ?_ | (with_reducible apply cv_some; assumption) | with_reducible refine cell_drew ?_ | with_reducible refine cell_drewN ?_ | ((with_reducible refine cell_new ?_ ?_); (focus (simp; done)); rfl) | with_reducible refine cell_alloc ?_ | with_reducible refine cell_same2 ?_ | ((with_reducible refine cell_set2 ?_ ?_); focus (first | (simp; done) | (intro hE; simp at hE; done) | (intro hE; simp at hE; omega))) | with_reducible refine Ge.drew ?_ | with_reducible refine Ge.drewN ?_ _ | with_reducible refine Ge.alloc ?_ _ | ((with_reducible refine Ge.setCell ?_ ?_ _); rotate_left; focus (first | (simp; done) | omega | (simp; omega))) | with_reducible refine Ge.trans ?_ (by assumption) | with_reducible refine Ge.keep (by assumption) ?_))), g.keep (by (repeat (first | assumption | with_reducible exact Ge.refl _ | with_reducible refine cv_drew ?_ | with_reducible refine cv_alloc ?_ | with_reducible refine cv_set ?_ | (with_reducible apply cv_some; assumption) | with_reducible refine cell_drew ?_ | with_reducible refine cell_drewN ?_ | ((with_reducible refine cell_new ?_ ?_); (focus (simp; done)); rfl) | with_reducible refine cell_alloc ?_ | with_reducible refine cell_same2 ?_ | ((with_reducible refine cell_set2 ?_ ?_); focus (first | (simp; done) | (intro hE; simp at hE; done) | (intro hE; simp at hE; omega))) | with_reducible refine Ge.drew ?_ | with_reducible refine Ge.drewN ?_ _ | with_reducible refine Ge.alloc ?_ _ | ((with_reducible refine Ge.setCell ?_ ?_ _); rotate_left; focus (first | (simp; done) | omega | (simp; omega))) | with_reducible refine Ge.trans ?_ (by assumption) | with_reducible refine Ge.keep (by assumption) ?_))), Ge.trans (by (repeat (first | assumption | with_reducible exact Ge.refl _ | with_reducible refine cv_drew ?_ | with_reducible refine cv_alloc ?_ | with_reducible refine cv_set ?_ | (with_reducible apply cv_some; assumption) | with_reducible refine cell_drew ?_ | with_reducible refine cell_drewN ?_ | ((with_reducible refine cell_new ?_ ?_); (focus (simp; done)); rfl) | with_reducible refine cell_alloc ?_ | with_reducible refine cell_same2 ?_ | ((with_reducible refine cell_set2 ?_ ?_); focus (first | (simp; done) | (intro hE; simp at hE; done) | (intro hE; simp at hE; omega))) | with_reducible refine Ge.drew ?_ | with_reducible refine Ge.drewN ?_ _ | with_reducible refine Ge.alloc ?_ _ | ((with_reducible refine Ge.setCell ?_ ?_ _); rotate_left; focus (first | (simp; done) | omega | (simp; omega))) | with_reducible refine Ge.trans ?_ (by assumption) | with_reducible refine Ge.keep (by assumption) ?_))) g⟩
      go_region_held3 (fun w' => w'.cell? ⟨w.heap.size, 0, none⟩ = some (.int .i64 (n : Int)) ∧ w'.cell? ⟨w.heap.size, 3, none⟩ = some (.slice p k cap) ∧ Ge wr w') (first | ((with_reducible refine hS _ ?_); (repeat (first | assumption | with_reducible exact Ge.refl _ | with_reducible refine cv_drew ?_ | with_reducible refine cv_alloc ?_ | with_reducible refine cv_set ?_ | (with_reducible apply cv_some; assumption) | with_reducible refine cell_drew ?_ | with_reducible refine cell_drewN ?_ | ((with_reducible refine cell_new ?_ ?_); (focus (simp; done)); rfl) | with_reducible refine cell_alloc ?_ | with_reducible refine cell_same2 ?_ | ((with_reducible refine cell_set2 ?_ ?_); focus (first | (simp; done) | (intro hE; simp at hE; done) | (intro hE; simp at hE; omega))) | with_reducible refine Ge.drew ?_ | with_reducible refine Ge.drewN ?_ _ | with_reducible refine Ge.alloc ?_ _ | ((with_reducible refine Ge.setCell ?_ ?_ _); rotate_left; focus (first | (simp; done) | omega | (simp; omega))) | with_reducible refine Ge.trans ?_ (by assumption) | with_reducible refine Ge.keep (by assumption) ?_)); done) | fail) (first | (go_at_call 30; ((with_reducible refine (HR.out _ (Ge.trans G ‹_ ∧ _ ∧ Ge _ _›.2.2)).mono ?_); rintro e w' ⟨v, rfl, hown, hb⟩); obtain ⟨p3, c3, rfl⟩ := owns_form hown; have hz := Ge.size hb; (try simp at hz)) | fail)
      rename_i hHeldX
      obtain ⟨q0, q1, G2⟩ := hHeldX
      clear hS
      go_wp2_with fail
      go_ret
      exact ⟨ret_bool (by rw [HM.out]), by (repeat (first | with_reducible exact Ge.refl _ | assumption | with_reducible refine Ge.drew ?_ | with_reducible refine Ge.drewN ?_ _ | with_reducible refine Ge.alloc ?_ _ | (with_reducible refine Ge.setCell ?_ (by first | (simp; done) | omega | (simp; omega)) _) | with_reducible refine Ge.trans ?_ (by assumption)))⟩
end Go.Proofs.Ytahicfpnmjofhaa
