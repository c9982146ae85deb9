/- RatioCmp of impl: what it computes, and that it only lays blocks and draws. Fractions in lowest terms, positive, up to 1000000. -/
import Derived.Test.YtmcnfhpjjmbdmaaWCmp
import Derived.Test.YtmcnfhpjjmbdmaaWSum
import Derived.Sort.Grow
namespace Go.Proofs.Ytmcnfhpjjmbdmaa
set_option maxRecDepth 100000
open Go.ChangeShapes Go.WideShapes Go.ChangeAt Go.RowKit Go.Joins

/-- Nothing has turned, and no draw was taken back. -/
def Gd (w w' : World) : Prop := Ge w w' ∧ w.drawn ≤ w'.drawn
theorem Gd.grow {w w' : World} (h : Gd w w') : ∃ q os, w' = Go.Sort.grow (w.drewN q) os := by
  obtain ⟨hg, hd⟩ := h
  refine ⟨w'.drawn - w.drawn, w'.heap.extract w.heap.size w'.heap.size, ?_⟩
  have h1 := hg.os
  have h2 := hg.tape
  have h3 := hg.output
  have h4 := hg.size
  have h5 := hg.block
  have hh : w'.heap = w.heap ++ w'.heap.extract w.heap.size w'.heap.size := by
    apply Array.ext
    · simp; omega
    · intro i hi1 hi2
      by_cases c : i < w.heap.size
      · rw [Array.getElem_append_left c]
        have := h5 i c
        rw [Array.getElem?_eq_getElem hi1, Array.getElem?_eq_getElem c] at this
        exact Option.some.inj this
      · rw [Array.getElem_append_right (by omega)]
        simp
        congr 1
        omega
  cases w' with | mk H T D O P =>
  cases w with | mk H0 T0 D0 O0 P0 =>
  simp only at h1 h2 h3 hd hh
  subst h1 h2 h3
  unfold Go.Sort.grow World.drewN
  simp only [World.mk.injEq, and_true, true_and]
  exact ⟨hh, by omega⟩

set_option maxHeartbeats 400000 in
theorem iCommonD (a b : Nat) (w : World) (ha : a ≤ 9223372036854775808) (hb : b ≤ 9223372036854775808) :
    Calls Try.prog 29 #[.int .u64 a, .int .u64 b] w fun e w' => e = .returned (.int .u64 (Nat.gcd a b : Nat)) ∧ Ge w w' ∧ w.drawn ≤ w'.drawn := by
  go_enter Try.func29, Try.ntmps29
  go_wp2_with fail
  go_loopw [0, 1] (fun x y wr => ∃ p q : Nat, x = .int .u64 p ∧ y = .int .u64 q ∧ p ≤ 9223372036854775808 ∧ q ≤ 9223372036854775808 ∧ Hid (Nat.gcd a b = Nat.gcd p q) ∧ Hid (w.drawn ≤ wr.drawn) ∧ Ge w wr) (fun _ y _ => (intOf y).toNat)
  case atStart => exact ⟨a, b, rfl, rfl, ha, hb, rfl, Nat.le_refl _, Ge.refl _⟩
  case round =>
    obtain ⟨p, q, rfl, rfl, hp, hq, H, hd, hg⟩ := hrel
    by_cases h0 : q = 0
    · subst h0
      go_wp2_with fail
      go_ret
      exact ⟨ret_int (by rw [H.out, Nat.gcd_zero_right]), hg, hd.out⟩
    · have t : ((q : Int) != 0) = true := by simp [h0]
      have t' : ((q : Int) == 0) = false := by simp [h0]
      have hq0 : 0 < q := by omega
      have hm := Nat.mod_lt p hq0
      have H2 : Hid (Nat.gcd a b = Nat.gcd q (p % q)) := by rw [H.out, Nat.gcd_comm p q, Nat.gcd_rec q p, Nat.gcd_comm]; exact rfl
      clear h0 H
      go_wp2_with fail
      go_quiet (fail)
      go_wp2_with fail
      go_roundw
      case rel => exact ⟨q, p % q, by go_num, by go_num, hq, by omega, H2, Nat.le_trans hd.out (by simp [World.drew, World.drewN]), by (repeat (first | with_reducible exact Ge.refl _ | assumption | with_reducible refine Ge.drew ?_ | with_reducible refine Ge.drewN ?_ _ | with_reducible refine Ge.alloc ?_ _ | (with_reducible refine Ge.setCell ?_ (by first | (simp; done) | omega | (simp; omega)) _) | with_reducible refine Ge.trans ?_ (by assumption)))⟩
      case measure => simp [intOf]; omega

set_option maxHeartbeats 400000 in
theorem iGcdOfD (a b : Nat) (w : World) (ha : a ≤ 1000000) (hb : b ≤ 1000000) :
    Calls Try.prog 43 #[.int .i64 (a : Int), .int .i64 (b : Int)] w fun e w' => e = .returned (.int .i64 (gcdN a b : Nat)) ∧ Ge w w' ∧ w.drawn ≤ w'.drawn := by
  have t1 : ((a : Int) == -9223372036854775808) = false := by simp
  have t2 : ((b : Int) == -9223372036854775808) = false := by simp
  have hg : Nat.gcd a b ≤ 9223372036854775807 := by
    by_cases h : a = 0
    · rw [h, Nat.gcd_zero_left]; omega
    · have := Nat.gcd_le_left b (show 0 < a by omega); omega
  obtain ⟨g, hg'⟩ : ∃ g, Nat.gcd a b = g := ⟨_, rfl⟩
  rw [hg'] at hg
  have HG := Lib.hid hg'
  clear hg'
  have HC := Lib.hid (fun w => by have := iCommonD a b w (by omega) (by omega); rwa [HG.out] at this : ∀ w, Calls Try.prog 29 #[.int .u64 (a : Int), .int .u64 (b : Int)] w fun e w' => e = .returned (.int .u64 (g : Int)) ∧ Ge w w' ∧ w.drawn ≤ w'.drawn)
  have e1 : IntKind.i64.wrap (g : Int) = g := IntWalk.i64_in _ (by omega)
  have HS1 : Hid (∀ w0, Calls Try.prog 30 #[.int .i64 (a : Int)] w0 fun e w' => e = .returned (.int .u64 (a : Int)) ∧ w0 = w') := fun w0 => iSize (a : Int) w0 (by omega) (by omega)
  have HS2 : Hid (∀ w0, Calls Try.prog 30 #[.int .i64 (b : Int)] w0 fun e w' => e = .returned (.int .u64 (b : Int)) ∧ w0 = w') := fun w0 => iSize (b : Int) w0 (by omega) (by omega)
  go_enter Try.func43, Try.ntmps43
  go_wp2_with (first | (go_at_call 30; ((with_reducible refine (HS1.out _).mono ?_); rintro e w' ⟨rfl, rfl⟩)) | (go_at_call 30; ((with_reducible refine (HS2.out _).mono ?_); rintro e w' ⟨rfl, rfl⟩)) | ((go_at_call 29; ((with_reducible refine (HC.out _).mono ?_); rintro e w' ⟨rfl, hb, hd⟩)); have HD := Lib.hid hd; clear hd))
  go_ret
  exact ⟨ret_int (by rw [← HG.out]; exact rfl), by (repeat (first | with_reducible exact Ge.refl _ | assumption | with_reducible refine Ge.drew ?_ | with_reducible refine Ge.drewN ?_ _ | with_reducible refine Ge.alloc ?_ _ | (with_reducible refine Ge.setCell ?_ (by first | (simp; done) | omega | (simp; omega)) _) | with_reducible refine Ge.trans ?_ (by assumption))), HD.out⟩

set_option maxHeartbeats 400000 in
theorem iRatioOkD (n d : Nat) (w : World) (hd : 1 ≤ d) (hd2 : d ≤ 1000000) (hn : n ≤ 1000000) (hc : gcdN n d = 1) :
    Calls Try.prog 31 #[.agg #[.int .i64 (n : Int), .int .i64 (d : Int)]] w fun e w' => e = .returned (.bool true) ∧ Ge w w' ∧ w.drawn ≤ w'.drawn := by
  have t : (((gcdN n d : Nat) : Int) == 1) = true := by simp [hc]
  have HG := Lib.hid (fun w' => iGcdOfD n d w' hn hd2)
  clear hc
  go_enter Try.func31, Try.ntmps31
  go_wp2_with ((go_at_call 43; ((with_reducible refine (HG.out _).mono ?_); rintro e w' ⟨rfl, hb, hdr⟩)); have HD := Lib.hid hdr; clear hdr)
  go_ret
  exact ⟨ret_bool (by simp), by (repeat (first | with_reducible exact Ge.refl _ | assumption | with_reducible refine Ge.drew ?_ | with_reducible refine Ge.drewN ?_ _ | with_reducible refine Ge.alloc ?_ _ | (with_reducible refine Ge.setCell ?_ (by first | (simp; done) | omega | (simp; omega)) _) | with_reducible refine Ge.trans ?_ (by assumption))), HD.out⟩

set_option maxHeartbeats 800000 in
theorem iRatioCmpD (a b c d : Nat) (w : World) (hb : 1 ≤ b) (hd : 1 ≤ d) (ha2 : a ≤ 1000000) (hb2 : b ≤ 1000000) (hc2 : c ≤ 1000000) (hd2 : d ≤ 1000000) (h1 : gcdN a b = 1) (h2 : gcdN c d = 1) :
    Calls Try.prog 16 #[.agg #[.int .i64 (a : Int), .int .i64 (b : Int)], .agg #[.int .i64 (c : Int), .int .i64 (d : Int)]] w fun e w' => e = .returned (.int .i64 (cmpQ a b c d)) ∧ Gd w w' := by
  have HA := Lib.hid (fun w' => iRatioOkD a b w' hb hb2 ha2 h1)
  have HB := Lib.hid (fun w' => iRatioOkD c d w' hd hd2 hc2 h2)
  have HC := Lib.hid (fun w' => iCompare (b + d) a b c d w' (Nat.le_refl _) hb hd (by omega) (by omega) (by omega) (by omega))
  clear h1 h2 ha2 hb2 hc2 hd2 hb hd
  generalize cmpQ a b c d = CQ at *
  go_enter Try.func16, Try.ntmps16
  go_wp2_with (first | (go_at_call 31; ((with_reducible refine (HA.out _).mono ?_); rintro e w1 ⟨rfl, gw1, dw1⟩); have D1 := Lib.hid dw1; clear dw1; have Gw1 : Ge w w1 := (Ge.trans (by (repeat (first | with_reducible exact Ge.refl _ | assumption | with_reducible refine Ge.drew ?_ | with_reducible refine Ge.drewN ?_ _ | with_reducible refine Ge.alloc ?_ _ | (with_reducible refine Ge.setCell ?_ (by first | (simp; done) | omega | (simp; omega)) _) | with_reducible refine Ge.trans ?_ (by assumption)))) gw1); have c0_0 : World.cell? w1 ⟨w.heap.size, 0, none⟩ = some (.int .i64 (a : Int)) := Ge.keep gw1 (by repeat (first | assumption | exact (own_new (by simp) rfl).1 | with_reducible refine cell_drew ?_ | with_reducible refine cell_drewN ?_ | with_reducible refine cell_alloc ?_ | (simp [*]; done))); have c0_1 : World.cell? w1 ⟨w.heap.size, 1, none⟩ = some (.int .i64 (b : Int)) := Ge.keep gw1 (by repeat (first | assumption | exact (own_new (by simp) rfl).1 | with_reducible refine cell_drew ?_ | with_reducible refine cell_drewN ?_ | with_reducible refine cell_alloc ?_ | (simp [*]; done))); have c1_0 : World.cell? w1 ⟨w.heap.size + 1, 0, none⟩ = some (.int .i64 (c : Int)) := Ge.keep gw1 (by repeat (first | assumption | exact (own_new (by simp) rfl).1 | with_reducible refine cell_drew ?_ | with_reducible refine cell_drewN ?_ | with_reducible refine cell_alloc ?_ | (simp [*]; done))); have c1_1 : World.cell? w1 ⟨w.heap.size + 1, 1, none⟩ = some (.int .i64 (d : Int)) := Ge.keep gw1 (by repeat (first | assumption | exact (own_new (by simp) rfl).1 | with_reducible refine cell_drew ?_ | with_reducible refine cell_drewN ?_ | with_reducible refine cell_alloc ?_ | (simp [*]; done))); have zw1 : w.heap.size + 2 ≤ w1.heap.size := (by have := Ge.size gw1; (try simp at this); omega)) | (go_at_call 31; ((with_reducible refine (HB.out _).mono ?_); rintro e w2 ⟨rfl, gw2, dw2⟩); have D2 := Lib.hid dw2; clear dw2; have Gw2 : Ge w w2 := (Ge.trans (by (repeat (first | with_reducible exact Ge.refl _ | assumption | with_reducible refine Ge.drew ?_ | with_reducible refine Ge.drewN ?_ _ | with_reducible refine Ge.alloc ?_ _ | (with_reducible refine Ge.setCell ?_ (by first | (simp; done) | omega | (simp; omega)) _) | with_reducible refine Ge.trans ?_ (by assumption)))) gw2); have c0_0 : World.cell? w2 ⟨w.heap.size, 0, none⟩ = some (.int .i64 (a : Int)) := Ge.keep gw2 (by repeat (first | assumption | exact (own_new (by simp) rfl).1 | with_reducible refine cell_drew ?_ | with_reducible refine cell_drewN ?_ | with_reducible refine cell_alloc ?_ | (simp [*]; done))); have c0_1 : World.cell? w2 ⟨w.heap.size, 1, none⟩ = some (.int .i64 (b : Int)) := Ge.keep gw2 (by repeat (first | assumption | exact (own_new (by simp) rfl).1 | with_reducible refine cell_drew ?_ | with_reducible refine cell_drewN ?_ | with_reducible refine cell_alloc ?_ | (simp [*]; done))); have c1_0 : World.cell? w2 ⟨w.heap.size + 1, 0, none⟩ = some (.int .i64 (c : Int)) := Ge.keep gw2 (by repeat (first | assumption | exact (own_new (by simp) rfl).1 | with_reducible refine cell_drew ?_ | with_reducible refine cell_drewN ?_ | with_reducible refine cell_alloc ?_ | (simp [*]; done))); have c1_1 : World.cell? w2 ⟨w.heap.size + 1, 1, none⟩ = some (.int .i64 (d : Int)) := Ge.keep gw2 (by repeat (first | assumption | exact (own_new (by simp) rfl).1 | with_reducible refine cell_drew ?_ | with_reducible refine cell_drewN ?_ | with_reducible refine cell_alloc ?_ | (simp [*]; done))); have zw2 : w.heap.size + 2 ≤ w2.heap.size := (by have := Ge.size gw2; (try simp at this); omega)) | ((go_at_call 32; ((with_reducible refine (HC.out _).mono ?_); rintro e w0 ⟨rfl, rfl⟩))))
  go_ret
  exact ⟨rfl, by (repeat (first | with_reducible exact Ge.refl _ | assumption | with_reducible refine Ge.drew ?_ | with_reducible refine Ge.drewN ?_ _ | with_reducible refine Ge.alloc ?_ _ | (with_reducible refine Ge.setCell ?_ (by first | (simp; done) | omega | (simp; omega)) _) | with_reducible refine Ge.trans ?_ (by assumption))), Nat.le_trans D1.out D2.out⟩
end Go.Proofs.Ytmcnfhpjjmbdmaa
