/- l03Find, WeightBetween of spec. No condition. -/
import Derived.Test.YtahicfpnmjofhaaWWeight
namespace Go.Proofs.Ytahicfpnmjofhaa
set_option maxRecDepth 100000
open Go.ChangeShapes Go.WideShapes Go.ChangeAt Go.RowKit Go.Joins

theorem no_wire2 {xs : List Int} {a b : Int} {k : Nat} (h : Hid (∀ j, j < k → ¬ isW xs a b j)) (hk : ¬ isW xs a b k) : Hid (∀ j, j < k + 1 → ¬ isW xs a b j) := fun j hj => by
  by_cases e : j = k
  · subst e; exact hk
  · exact h.out j (by omega)

set_option maxHeartbeats 1600000 in
theorem sL03Find (n : Nat) (s : Value) (m : Nat) (xs : List Int) (a b : Int) (w : World) (hs : SlF w s m 3 xs) (hm : m ≤ 10) (hok : ∀ k, k < m → goodW n xs k) :
    Calls Try.prog 56 #[s, .int .i64 a, .int .i64 b] w fun e w' => e = .returned (.int .i64 (widx xs m a b)) ∧ Ge w w' := by
  obtain ⟨p, cap, rfl, hc⟩ := hs.open
  have HC := Lib.hid hc
  have HK := Lib.hid hok
  clear hs hc hok
  by_cases hab : a < b
  · have hmin : min a b = a := by omega
    have hmax : max a b = b := by omega
    go_enter Try.func56, Try.ntmps56
    go_wp2_with fail
    go_loopw [11] (fun i wr => ∃ k : Nat, k ≤ m ∧ i = .int .i64 k ∧ Hid (∀ j, j < k → ¬ isW xs a b j) ∧ Ge w wr) (fun i _ => m - (intOf i).toNat)
    case atStart => exact ⟨0, Nat.zero_le _, rfl, fun j hj => by omega, by (repeat (first | with_reducible exact Ge.refl _ | assumption | with_reducible refine Ge.drew ?_ | with_reducible refine Ge.drewN ?_ _ | with_reducible refine Ge.alloc ?_ _ | (with_reducible refine Ge.setCell ?_ (by first | (simp; done) | omega | (simp; omega)) _) | with_reducible refine Ge.trans ?_ (by assumption)))⟩
    case round =>
      obtain ⟨k, hk, rfl, HN, hg⟩ := hrel
      by_cases hlt : k < m
      · obtain ⟨bb, o, rfl, x0, x1, x2⟩ := three_cells HC.out hlt
        have y0 := hg.keep x0
        have y1 := hg.keep x1
        have y2 := hg.keep x2
        clear x0 x1 x2
        change wr.cell? _ = some (.int .i64 (wa xs k)) at y0
        change wr.cell? _ = some (.int .i64 (wb xs k)) at y1
        change wr.cell? _ = some (.int .i64 (ww xs k)) at y2
        obtain ⟨q0, q1, q2, q3, q4⟩ := (HK.out k hlt).1
        by_cases e1 : wa xs k = a
        · have f1 : (wa xs k == a) = true := by simp [e1]
          by_cases e2 : wb xs k = b
          · have f2 : (wb xs k == b) = true := by simp [e2]
            have HF : Hid (widx xs m a b = k) := widx_some (wfind_some HN.out (by unfold isW; omega) hlt)
            clear e1 e2 hmin hmax
            go_wp2_with fail
            go_ret
            exact ⟨ret_int HF.out.symm, by (repeat (first | with_reducible exact Ge.refl _ | assumption | with_reducible refine Ge.drew ?_ | with_reducible refine Ge.drewN ?_ _ | with_reducible refine Ge.alloc ?_ _ | (with_reducible refine Ge.setCell ?_ (by first | (simp; done) | omega | (simp; omega)) _) | with_reducible refine Ge.trans ?_ (by assumption)))⟩
          · have f2 : (wb xs k == b) = false := by simp [e2]
            have HN2 := no_wire2 HN (show ¬ isW xs a b k by unfold isW; omega)
            clear e1 e2 hmin hmax
            go_wp2_with fail
            go_roundw
            case rel => exact ⟨k + 1, by omega, by go_num, HN2.out, by (repeat (first | with_reducible exact Ge.refl _ | assumption | with_reducible refine Ge.drew ?_ | with_reducible refine Ge.drewN ?_ _ | with_reducible refine Ge.alloc ?_ _ | (with_reducible refine Ge.setCell ?_ (by first | (simp; done) | omega | (simp; omega)) _) | with_reducible refine Ge.trans ?_ (by assumption)))⟩
            case measure => simp [intOf]; omega
        · have f1 : (wa xs k == a) = false := by simp [e1]
          have HN2 := no_wire2 HN (show ¬ isW xs a b k by unfold isW; omega)
          clear e1 hmin hmax
          go_wp2_with fail
          go_roundw
          case rel => exact ⟨k + 1, by omega, by go_num, HN2.out, by (repeat (first | with_reducible exact Ge.refl _ | assumption | with_reducible refine Ge.drew ?_ | with_reducible refine Ge.drewN ?_ _ | with_reducible refine Ge.alloc ?_ _ | (with_reducible refine Ge.setCell ?_ (by first | (simp; done) | omega | (simp; omega)) _) | with_reducible refine Ge.trans ?_ (by assumption)))⟩
          case measure => simp [intOf]; omega
      · have hkm : k = m := by omega
        subst hkm
        have HF : Hid (widx xs k a b = -1) := widx_none (wfind_none HN.out)
        go_wp2_with fail
        go_ret
        exact ⟨ret_int HF.out.symm, by (repeat (first | with_reducible exact Ge.refl _ | assumption | with_reducible refine Ge.drew ?_ | with_reducible refine Ge.drewN ?_ _ | with_reducible refine Ge.alloc ?_ _ | (with_reducible refine Ge.setCell ?_ (by first | (simp; done) | omega | (simp; omega)) _) | with_reducible refine Ge.trans ?_ (by assumption)))⟩
  by_cases hba : b < a
  · have hmin : min a b = b := by omega
    have hmax : max a b = a := by omega
    go_enter Try.func56, Try.ntmps56
    go_wp2_with fail
    go_loopw [11] (fun i wr => ∃ k : Nat, k ≤ m ∧ i = .int .i64 k ∧ Hid (∀ j, j < k → ¬ isW xs a b j) ∧ Ge w wr) (fun i _ => m - (intOf i).toNat)
    case atStart => exact ⟨0, Nat.zero_le _, rfl, fun j hj => by omega, by (repeat (first | with_reducible exact Ge.refl _ | assumption | with_reducible refine Ge.drew ?_ | with_reducible refine Ge.drewN ?_ _ | with_reducible refine Ge.alloc ?_ _ | (with_reducible refine Ge.setCell ?_ (by first | (simp; done) | omega | (simp; omega)) _) | with_reducible refine Ge.trans ?_ (by assumption)))⟩
    case round =>
      obtain ⟨k, hk, rfl, HN, hg⟩ := hrel
      by_cases hlt : k < m
      · obtain ⟨bb, o, rfl, x0, x1, x2⟩ := three_cells HC.out hlt
        have y0 := hg.keep x0
        have y1 := hg.keep x1
        have y2 := hg.keep x2
        clear x0 x1 x2
        change wr.cell? _ = some (.int .i64 (wa xs k)) at y0
        change wr.cell? _ = some (.int .i64 (wb xs k)) at y1
        change wr.cell? _ = some (.int .i64 (ww xs k)) at y2
        obtain ⟨q0, q1, q2, q3, q4⟩ := (HK.out k hlt).1
        by_cases e1 : wa xs k = b
        · have f1 : (wa xs k == b) = true := by simp [e1]
          by_cases e2 : wb xs k = a
          · have f2 : (wb xs k == a) = true := by simp [e2]
            have HF : Hid (widx xs m a b = k) := widx_some (wfind_some HN.out (by unfold isW; omega) hlt)
            clear e1 e2 hmin hmax
            go_wp2_with fail
            go_ret
            exact ⟨ret_int HF.out.symm, by (repeat (first | with_reducible exact Ge.refl _ | assumption | with_reducible refine Ge.drew ?_ | with_reducible refine Ge.drewN ?_ _ | with_reducible refine Ge.alloc ?_ _ | (with_reducible refine Ge.setCell ?_ (by first | (simp; done) | omega | (simp; omega)) _) | with_reducible refine Ge.trans ?_ (by assumption)))⟩
          · have f2 : (wb xs k == a) = false := by simp [e2]
            have HN2 := no_wire2 HN (show ¬ isW xs a b k by unfold isW; omega)
            clear e1 e2 hmin hmax
            go_wp2_with fail
            go_roundw
            case rel => exact ⟨k + 1, by omega, by go_num, HN2.out, by (repeat (first | with_reducible exact Ge.refl _ | assumption | with_reducible refine Ge.drew ?_ | with_reducible refine Ge.drewN ?_ _ | with_reducible refine Ge.alloc ?_ _ | (with_reducible refine Ge.setCell ?_ (by first | (simp; done) | omega | (simp; omega)) _) | with_reducible refine Ge.trans ?_ (by assumption)))⟩
            case measure => simp [intOf]; omega
        · have f1 : (wa xs k == b) = false := by simp [e1]
          have HN2 := no_wire2 HN (show ¬ isW xs a b k by unfold isW; omega)
          clear e1 hmin hmax
          go_wp2_with fail
          go_roundw
          case rel => exact ⟨k + 1, by omega, by go_num, HN2.out, by (repeat (first | with_reducible exact Ge.refl _ | assumption | with_reducible refine Ge.drew ?_ | with_reducible refine Ge.drewN ?_ _ | with_reducible refine Ge.alloc ?_ _ | (with_reducible refine Ge.setCell ?_ (by first | (simp; done) | omega | (simp; omega)) _) | with_reducible refine Ge.trans ?_ (by assumption)))⟩
          case measure => simp [intOf]; omega
      · have hkm : k = m := by omega
        subst hkm
        have HF : Hid (widx xs k a b = -1) := widx_none (wfind_none HN.out)
        go_wp2_with fail
        go_ret
        exact ⟨ret_int HF.out.symm, by (repeat (first | with_reducible exact Ge.refl _ | assumption | with_reducible refine Ge.drew ?_ | with_reducible refine Ge.drewN ?_ _ | with_reducible refine Ge.alloc ?_ _ | (with_reducible refine Ge.setCell ?_ (by first | (simp; done) | omega | (simp; omega)) _) | with_reducible refine Ge.trans ?_ (by assumption)))⟩
  · obtain rfl : a = b := by omega
    have hmin : min a a = a := by omega
    have hmax : max a a = a := by omega
    go_enter Try.func56, Try.ntmps56
    go_wp2_with fail
    go_loopw [11] (fun i wr => ∃ k : Nat, k ≤ m ∧ i = .int .i64 k ∧ Hid (∀ j, j < k → ¬ isW xs a a j) ∧ Ge w wr) (fun i _ => m - (intOf i).toNat)
    case atStart => exact ⟨0, Nat.zero_le _, rfl, fun j hj => by omega, by (repeat (first | with_reducible exact Ge.refl _ | assumption | with_reducible refine Ge.drew ?_ | with_reducible refine Ge.drewN ?_ _ | with_reducible refine Ge.alloc ?_ _ | (with_reducible refine Ge.setCell ?_ (by first | (simp; done) | omega | (simp; omega)) _) | with_reducible refine Ge.trans ?_ (by assumption)))⟩
    case round =>
      obtain ⟨k, hk, rfl, HN, hg⟩ := hrel
      by_cases hlt : k < m
      · obtain ⟨bb, o, rfl, x0, x1, x2⟩ := three_cells HC.out hlt
        have y0 := hg.keep x0
        have y1 := hg.keep x1
        have y2 := hg.keep x2
        clear x0 x1 x2
        change wr.cell? _ = some (.int .i64 (wa xs k)) at y0
        change wr.cell? _ = some (.int .i64 (wb xs k)) at y1
        change wr.cell? _ = some (.int .i64 (ww xs k)) at y2
        obtain ⟨q0, q1, q2, q3, q4⟩ := (HK.out k hlt).1
        by_cases e1 : wa xs k = a
        · have f1 : (wa xs k == a) = true := by simp [e1]
          by_cases e2 : wb xs k = a
          · have f2 : (wb xs k == a) = true := by simp [e2]
            have HF : Hid (widx xs m a a = k) := widx_some (wfind_some HN.out (by unfold isW; omega) hlt)
            clear e1 e2 hmin hmax
            go_wp2_with fail
            go_ret
            exact ⟨ret_int HF.out.symm, by (repeat (first | with_reducible exact Ge.refl _ | assumption | with_reducible refine Ge.drew ?_ | with_reducible refine Ge.drewN ?_ _ | with_reducible refine Ge.alloc ?_ _ | (with_reducible refine Ge.setCell ?_ (by first | (simp; done) | omega | (simp; omega)) _) | with_reducible refine Ge.trans ?_ (by assumption)))⟩
          · have f2 : (wb xs k == a) = false := by simp [e2]
            have HN2 := no_wire2 HN (show ¬ isW xs a a k by unfold isW; omega)
            clear e1 e2 hmin hmax
            go_wp2_with fail
            go_roundw
            case rel => exact ⟨k + 1, by omega, by go_num, HN2.out, by (repeat (first | with_reducible exact Ge.refl _ | assumption | with_reducible refine Ge.drew ?_ | with_reducible refine Ge.drewN ?_ _ | with_reducible refine Ge.alloc ?_ _ | (with_reducible refine Ge.setCell ?_ (by first | (simp; done) | omega | (simp; omega)) _) | with_reducible refine Ge.trans ?_ (by assumption)))⟩
            case measure => simp [intOf]; omega
        · have f1 : (wa xs k == a) = false := by simp [e1]
          have HN2 := no_wire2 HN (show ¬ isW xs a a k by unfold isW; omega)
          clear e1 hmin hmax
          go_wp2_with fail
          go_roundw
          case rel => exact ⟨k + 1, by omega, by go_num, HN2.out, by (repeat (first | with_reducible exact Ge.refl _ | assumption | with_reducible refine Ge.drew ?_ | with_reducible refine Ge.drewN ?_ _ | with_reducible refine Ge.alloc ?_ _ | (with_reducible refine Ge.setCell ?_ (by first | (simp; done) | omega | (simp; omega)) _) | with_reducible refine Ge.trans ?_ (by assumption)))⟩
          case measure => simp [intOf]; omega
      · have hkm : k = m := by omega
        subst hkm
        have HF : Hid (widx xs k a a = -1) := widx_none (wfind_none HN.out)
        go_wp2_with fail
        go_ret
        exact ⟨ret_int HF.out.symm, by (repeat (first | with_reducible exact Ge.refl _ | assumption | with_reducible refine Ge.drew ?_ | with_reducible refine Ge.drewN ?_ _ | with_reducible refine Ge.alloc ?_ _ | (with_reducible refine Ge.setCell ?_ (by first | (simp; done) | omega | (simp; omega)) _) | with_reducible refine Ge.trans ?_ (by assumption)))⟩

set_option maxHeartbeats 1600000 in
theorem sWeightBetween (n : Nat) (E S : Int) (s : Value) (m : Nat) (xs : List Int) (a b : Int) (w : World) (hs : SlF w s m 3 xs) (hm : m ≤ 10) (hok : ∀ k, k < m → goodW n xs k) :
    Calls Try.prog 41 #[.agg #[.int .i64 (n : Int), .int .i64 E, .int .i64 S, s], .int .i64 a, .int .i64 b] w fun e w' => e = .returned (.int .i64 (wbet xs m a b)) ∧ Ge w w' := by
  obtain ⟨p, cap, rfl, hc⟩ := hs.open
  have HV := Lib.hid hs
  have HC := Lib.hid hc
  have HK := Lib.hid hok
  clear hs hc hok
  cases hf : wfind xs a b m with
  | none =>
    have hi := widx_none hf
    have HF := Lib.hid (wbet_none hf)
    go_enter Try.func41, Try.ntmps41
    go_wp2_with ((go_at_call 56; ((with_reducible refine (sL03Find n _ m xs a b _ (HV.out.ge (Ge.alloc (Ge.refl w) _)) hm HK.out).mono ?_); rintro e w1 ⟨rfl, gw1⟩); have Gw1 : Ge w w1 := (Ge.trans (by (repeat (first | with_reducible exact Ge.refl _ | assumption | with_reducible refine Ge.drew ?_ | with_reducible refine Ge.drewN ?_ _ | with_reducible refine Ge.alloc ?_ _ | (with_reducible refine Ge.setCell ?_ (by first | (simp; done) | omega | (simp; omega)) _) | with_reducible refine Ge.trans ?_ (by assumption)))) gw1); have c0_0 : World.cell? w1 ⟨w.heap.size, 0, none⟩ = some (.int .i64 (n : Int)) := Ge.keep gw1 (by repeat (first | assumption | exact (own_new (by simp) rfl).1 | with_reducible refine cell_drew ?_ | with_reducible refine cell_drewN ?_ | with_reducible refine cell_alloc ?_ | (simp [*]; done))); have c0_1 : World.cell? w1 ⟨w.heap.size, 1, none⟩ = some (.int .i64 E) := Ge.keep gw1 (by repeat (first | assumption | exact (own_new (by simp) rfl).1 | with_reducible refine cell_drew ?_ | with_reducible refine cell_drewN ?_ | with_reducible refine cell_alloc ?_ | (simp [*]; done))); have c0_2 : World.cell? w1 ⟨w.heap.size, 2, none⟩ = some (.int .i64 S) := Ge.keep gw1 (by repeat (first | assumption | exact (own_new (by simp) rfl).1 | with_reducible refine cell_drew ?_ | with_reducible refine cell_drewN ?_ | with_reducible refine cell_alloc ?_ | (simp [*]; done))); have c0_3 : World.cell? w1 ⟨w.heap.size, 3, none⟩ = some (.slice p m cap) := Ge.keep gw1 (by repeat (first | assumption | exact (own_new (by simp) rfl).1 | with_reducible refine cell_drew ?_ | with_reducible refine cell_drewN ?_ | with_reducible refine cell_alloc ?_ | (simp [*]; done))); have zw1 : w.heap.size + 1 ≤ w1.heap.size := (by have := Ge.size gw1; (try simp at this); omega)); rw [hi])
    go_ret
    exact ⟨ret_int HF.out.symm, by (repeat (first | with_reducible exact Ge.refl _ | assumption | with_reducible refine Ge.drew ?_ | with_reducible refine Ge.drewN ?_ _ | with_reducible refine Ge.alloc ?_ _ | (with_reducible refine Ge.setCell ?_ (by first | (simp; done) | omega | (simp; omega)) _) | with_reducible refine Ge.trans ?_ (by assumption)))⟩
  | some k =>
    have hi := widx_some hf
    have HF := Lib.hid (wbet_some hf)
    obtain ⟨hk, hw⟩ := wfind_lt hf
    obtain ⟨q0, q1, q2, q3, q4⟩ := (HK.out k hk).1
    have hab : (a == b) = false := by simp; unfold isW at hw; omega
    obtain ⟨bb, o, rfl, x0, x1, x2⟩ := three_cells HC.out hk
    change w.cell? _ = some (.int .i64 (ww xs k)) at x2
    clear x0 x1 hw
    have k0 : (0 : Int) ≤ (k : Int) := by omega
    have k1 : (k : Int) < (m : Int) := by omega
    go_enter Try.func41, Try.ntmps41
    go_wp2_with ((go_at_call 56; ((with_reducible refine (sL03Find n _ m xs a b _ (HV.out.ge (Ge.alloc (Ge.refl w) _)) hm HK.out).mono ?_); rintro e w1 ⟨rfl, gw1⟩); have Gw1 : Ge w w1 := (Ge.trans (by (repeat (first | with_reducible exact Ge.refl _ | assumption | with_reducible refine Ge.drew ?_ | with_reducible refine Ge.drewN ?_ _ | with_reducible refine Ge.alloc ?_ _ | (with_reducible refine Ge.setCell ?_ (by first | (simp; done) | omega | (simp; omega)) _) | with_reducible refine Ge.trans ?_ (by assumption)))) gw1); have c0_0 : World.cell? w1 ⟨w.heap.size, 0, none⟩ = some (.int .i64 (n : Int)) := Ge.keep gw1 (by repeat (first | assumption | exact (own_new (by simp) rfl).1 | with_reducible refine cell_drew ?_ | with_reducible refine cell_drewN ?_ | with_reducible refine cell_alloc ?_ | (simp [*]; done))); have c0_1 : World.cell? w1 ⟨w.heap.size, 1, none⟩ = some (.int .i64 E) := Ge.keep gw1 (by repeat (first | assumption | exact (own_new (by simp) rfl).1 | with_reducible refine cell_drew ?_ | with_reducible refine cell_drewN ?_ | with_reducible refine cell_alloc ?_ | (simp [*]; done))); have c0_2 : World.cell? w1 ⟨w.heap.size, 2, none⟩ = some (.int .i64 S) := Ge.keep gw1 (by repeat (first | assumption | exact (own_new (by simp) rfl).1 | with_reducible refine cell_drew ?_ | with_reducible refine cell_drewN ?_ | with_reducible refine cell_alloc ?_ | (simp [*]; done))); have c0_3 : World.cell? w1 ⟨w.heap.size, 3, none⟩ = some (.slice (some ⟨bb, o, none⟩) m cap) := Ge.keep gw1 (by repeat (first | assumption | exact (own_new (by simp) rfl).1 | with_reducible refine cell_drew ?_ | with_reducible refine cell_drewN ?_ | with_reducible refine cell_alloc ?_ | (simp [*]; done))); have zw1 : w.heap.size + 1 ≤ w1.heap.size := (by have := Ge.size gw1; (try simp at this); omega)); rw [hi]; have x3 := Gw1.keep x2)
    go_ret
    exact ⟨ret_int HF.out.symm, by (repeat (first | with_reducible exact Ge.refl _ | assumption | with_reducible refine Ge.drew ?_ | with_reducible refine Ge.drewN ?_ _ | with_reducible refine Ge.alloc ?_ _ | (with_reducible refine Ge.setCell ?_ (by first | (simp; done) | omega | (simp; omega)) _) | with_reducible refine Ge.trans ?_ (by assumption)))⟩
end Go.Proofs.Ytahicfpnmjofhaa
