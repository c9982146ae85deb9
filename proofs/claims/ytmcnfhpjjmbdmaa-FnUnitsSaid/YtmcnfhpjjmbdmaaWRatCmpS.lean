/- RatioCmp of the reference, for fractions in lowest terms that are not negative. -/
import Derived.Test.YtmcnfhpjjmbdmaaWCmp
import Derived.Test.YtmcnfhpjjmbdmaaWRatio
namespace Go.Proofs.Ytmcnfhpjjmbdmaa
set_option maxRecDepth 100000
open Go.ChangeShapes Go.WideShapes Go.ChangeAt Go.RowKit

theorem sgnI_negate (x : Int) : sgnI (-x) = -sgnI x := by
  unfold sgnI
  split <;> split <;> (try split) <;> (try split) <;> omega
theorem cmpQ_anti (a b c d : Nat) : cmpQ c d a b = -cmpQ a b c d := by
  unfold cmpQ
  rw [← sgnI_negate]
  congr 1
  omega
theorem cmpQ_flip {a b c d : Nat} (hb : 1 ≤ b) (hd : 1 ≤ d) (h : a / b = c / d) : cmpQ a b c d = -cmpQ b (a % b) d (c % d) := by
  rw [cmpQ_same hb hd h, cmpQ_anti]

set_option maxHeartbeats 3200000 in
theorem sRatioCmp (a b c d : Nat) (w : World) (hb : 1 ≤ b) (hd : 1 ≤ d) (ha2 : a ≤ 1000000) (hb2 : b ≤ 1000000) (hc2 : c ≤ 1000000) (hd2 : d ≤ 1000000) (h1 : gcdN a b = 1) (h2 : gcdN c d = 1) :
    Calls Try.prog 35 #[.agg #[.int .i64 (a : Int), .int .i64 (b : Int)], .agg #[.int .i64 (c : Int), .int .i64 (d : Int)]] w fun e w' => e = .returned (.int .i64 (cmpQ a b c d)) ∧ Ge w w' := by
  have e1 : ratioOk (a : Int) (b : Int) = true := ratioOk_iff.2 ⟨by omega, by omega, by omega, by omega, h1⟩
  have e2 : ratioOk (c : Int) (d : Int) = true := ratioOk_iff.2 ⟨by omega, by omega, by omega, by omega, h2⟩
  have HA := Lib.hid (fun w' => by have := sRatioOk (a : Int) (b : Int) w'; rwa [e1] at this : ∀ w', Calls Try.prog 46 #[.agg #[.int .i64 (a : Int), .int .i64 (b : Int)]] w' fun e w2 => e = .returned (.bool true) ∧ Ge w' w2)
  have HB := Lib.hid (fun w' => by have := sRatioOk (c : Int) (d : Int) w'; rwa [e2] at this : ∀ w', Calls Try.prog 46 #[.agg #[.int .i64 (c : Int), .int .i64 (d : Int)]] w' fun e w2 => e = .returned (.bool true) ∧ Ge w' w2)
  obtain ⟨CQ, hCQ⟩ : ∃ CQ, cmpQ a b c d = CQ := ⟨_, rfl⟩
  rw [hCQ]
  have HCQ := Lib.hid hCQ
  clear h1 h2 e1 e2 hCQ
  go_enter Try.func35, Try.ntmps35
  go_wp2_with (first | (go_at_call 46; ((with_reducible refine (HA.out _).mono ?_); rintro e w1 ⟨rfl, gw1⟩); have Gw1 : Ge w w1 := (Ge.trans (by (repeat (first | with_reducible exact Ge.refl _ | assumption | with_reducible refine Ge.drew ?_ | with_reducible refine Ge.drewN ?_ _ | with_reducible refine Ge.alloc ?_ _ | (with_reducible refine Ge.setCell ?_ (by first | (simp; done) | omega | (simp; omega)) _) | with_reducible refine Ge.trans ?_ (by assumption)))) gw1); have c0_0 : World.cell? w1 ⟨w.heap.size, 0, none⟩ = some (.int .i64 (a : Int)) := Ge.keep gw1 (by repeat (first | assumption | exact (own_new (by simp) rfl).1 | with_reducible refine cell_drew ?_ | with_reducible refine cell_drewN ?_ | with_reducible refine cell_alloc ?_ | (simp [*]; done))); have c0_1 : World.cell? w1 ⟨w.heap.size, 1, none⟩ = some (.int .i64 (b : Int)) := Ge.keep gw1 (by repeat (first | assumption | exact (own_new (by simp) rfl).1 | with_reducible refine cell_drew ?_ | with_reducible refine cell_drewN ?_ | with_reducible refine cell_alloc ?_ | (simp [*]; done))); have c1_0 : World.cell? w1 ⟨w.heap.size + 1, 0, none⟩ = some (.int .i64 (c : Int)) := Ge.keep gw1 (by repeat (first | assumption | exact (own_new (by simp) rfl).1 | with_reducible refine cell_drew ?_ | with_reducible refine cell_drewN ?_ | with_reducible refine cell_alloc ?_ | (simp [*]; done))); have c1_1 : World.cell? w1 ⟨w.heap.size + 1, 1, none⟩ = some (.int .i64 (d : Int)) := Ge.keep gw1 (by repeat (first | assumption | exact (own_new (by simp) rfl).1 | with_reducible refine cell_drew ?_ | with_reducible refine cell_drewN ?_ | with_reducible refine cell_alloc ?_ | (simp [*]; done))); have zw1 : w.heap.size + 2 ≤ w1.heap.size := (by have := Ge.size gw1; (try simp at this); omega)) | (go_at_call 46; ((with_reducible refine (HB.out _).mono ?_); rintro e w2 ⟨rfl, gw2⟩); have Gw2 : Ge w w2 := (Ge.trans (by (repeat (first | with_reducible exact Ge.refl _ | assumption | with_reducible refine Ge.drew ?_ | with_reducible refine Ge.drewN ?_ _ | with_reducible refine Ge.alloc ?_ _ | (with_reducible refine Ge.setCell ?_ (by first | (simp; done) | omega | (simp; omega)) _) | with_reducible refine Ge.trans ?_ (by assumption)))) gw2); have c0_0 : World.cell? w2 ⟨w.heap.size, 0, none⟩ = some (.int .i64 (a : Int)) := Ge.keep gw2 (by repeat (first | assumption | exact (own_new (by simp) rfl).1 | with_reducible refine cell_drew ?_ | with_reducible refine cell_drewN ?_ | with_reducible refine cell_alloc ?_ | (simp [*]; done))); have c0_1 : World.cell? w2 ⟨w.heap.size, 1, none⟩ = some (.int .i64 (b : Int)) := Ge.keep gw2 (by repeat (first | assumption | exact (own_new (by simp) rfl).1 | with_reducible refine cell_drew ?_ | with_reducible refine cell_drewN ?_ | with_reducible refine cell_alloc ?_ | (simp [*]; done))); have c1_0 : World.cell? w2 ⟨w.heap.size + 1, 0, none⟩ = some (.int .i64 (c : Int)) := Ge.keep gw2 (by repeat (first | assumption | exact (own_new (by simp) rfl).1 | with_reducible refine cell_drew ?_ | with_reducible refine cell_drewN ?_ | with_reducible refine cell_alloc ?_ | (simp [*]; done))); have c1_1 : World.cell? w2 ⟨w.heap.size + 1, 1, none⟩ = some (.int .i64 (d : Int)) := Ge.keep gw2 (by repeat (first | assumption | exact (own_new (by simp) rfl).1 | with_reducible refine cell_drew ?_ | with_reducible refine cell_drewN ?_ | with_reducible refine cell_alloc ?_ | (simp [*]; done))); have zw2 : w.heap.size + 2 ≤ w2.heap.size := (by have := Ge.size gw2; (try simp at this); omega)))
  go_loopw [5, 6, 7, 8, 9] (fun ra rb rc rd rs wr => ∃ (a' b' c' d' : Nat) (s : Int), ra = .int .i64 (a' : Int) ∧ rb = .int .i64 (b' : Int) ∧ rc = .int .i64 (c' : Int) ∧ rd = .int .i64 (d' : Int) ∧ rs = .int .i64 s ∧
    1 ≤ b' ∧ 1 ≤ d' ∧ a' ≤ 1000000 ∧ b' ≤ 1000000 ∧ c' ≤ 1000000 ∧ d' ≤ 1000000 ∧ -1 ≤ s ∧ s ≤ 1 ∧ Hid (CQ = s * cmpQ a' b' c' d') ∧ Ge w wr) (fun _ rb _ rd _ _ => (intOf rb).toNat + (intOf rd).toNat)
  case atStart => exact ⟨a, b, c, d, 1, rfl, rfl, rfl, rfl, rfl, hb, hd, ha2, hb2, hc2, hd2, by omega, by omega, (by show _ = _; rw [HCQ.out, Int.one_mul]), by (repeat (first | with_reducible exact Ge.refl _ | assumption | with_reducible refine Ge.drew ?_ | with_reducible refine Ge.drewN ?_ _ | with_reducible refine Ge.alloc ?_ _ | (with_reducible refine Ge.setCell ?_ (by first | (simp; done) | omega | (simp; omega)) _) | with_reducible refine Ge.trans ?_ (by assumption)))⟩
  case round =>
    clear HA HB HCQ
    obtain ⟨a, b, c, d, s, rfl, rfl, rfl, rfl, rfl, hb, hd, ha, hb2, hc, hd2, hs1, hs2, HC, hg⟩ := hrel
    have HF1 := Lib.hid (fun w' => sFloor a b w' hb (by omega) (by omega))
    have HF2 := Lib.hid (fun w' => sFloor c d w' hd (by omega) (by omega))
    have hm1 : a % b < b := Nat.mod_lt _ (by omega)
    have hm2 : c % d < d := Nat.mod_lt _ (by omega)
    have e1 : (a : Int) - ((a / b : Nat) : Int) * (b : Int) = ((a % b : Nat) : Int) := by
      have := Nat.div_add_mod a b
      have h2 : (b : Int) * ((a / b : Nat) : Int) + ((a % b : Nat) : Int) = (a : Int) := by exact_mod_cast this
      rw [Int.mul_comm] at h2
      omega
    have e2 : (c : Int) - ((c / d : Nat) : Int) * (d : Int) = ((c % d : Nat) : Int) := by
      have := Nat.div_add_mod c d
      have h2 : (d : Int) * ((c / d : Nat) : Int) + ((c % d : Nat) : Int) = (c : Int) := by exact_mod_cast this
      rw [Int.mul_comm] at h2
      omega
    have HL := Lib.hid (fun h => cmpQ_less (a := a) (c := c) hb hd h)
    have HM := Lib.hid (fun h => cmpQ_more (a := a) (c := c) hb hd h)
    have HS := Lib.hid (fun h => cmpQ_flip (a := a) (c := c) hb hd h)
    have H00 := Lib.hid (fun h h1 h2 => cmpQ_00 (a := a) (c := c) hb hd h h1 h2)
    have H0 := Lib.hid (fun h h1 h2 => cmpQ_0 (a := a) (c := c) hb hd h h1 h2)
    have H1 := Lib.hid (fun h h1 h2 => cmpQ_1 (a := a) (c := c) hb hd h h1 h2)
    have hq1 : a / b ≤ a := Nat.div_le_self a b
    have hq2 : c / d ≤ c := Nat.div_le_self c d
    have wn : IntKind.i64.wrap (-s) = -s := IntWalk.i64_in _ (by omega)
    generalize cmpQ a b c d = CV at *
    generalize a / b = x at *
    generalize c / d = y at *
    generalize a % b = p at *
    generalize c % d = q at *
    generalize hX : (x : Int) * (b : Int) = X at *
    generalize hY : (y : Int) * (d : Int) = Y at *
    have wX : IntKind.i64.wrap X = X := IntWalk.i64_in _ (by omega)
    have wY : IntKind.i64.wrap Y = Y := IntWalk.i64_in _ (by omega)
    have wX2 : IntKind.i64.wrap ((x : Int) * (b : Int)) = X := by rw [hX]; exact wX
    have wY2 : IntKind.i64.wrap ((y : Int) * (d : Int)) = Y := by rw [hY]; exact wY
    have wp : IntKind.i64.wrap ((a : Int) - X) = (p : Int) := by rw [e1]; exact IntWalk.i64_in _ (by omega)
    have wq : IntKind.i64.wrap ((c : Int) - Y) = (q : Int) := by rw [e2]; exact IntWalk.i64_in _ (by omega)
    clear hX hY
    by_cases c1 : x < y
    · have HF : Hid (CQ = -s) := by show _ = _; rw [HC.out, HL.out c1]; omega
      have i1 : (x : Int) < (y : Int) := by omega
      have n1 : ((x : Int) != (y : Int)) = true := by simp; omega
      have n2 : ((x : Int) == (y : Int)) = false := by simp; omega
      clear HL HM HS H00 H0 H1 HC
      go_wp2_with (first | ((go_at_call 47; ((with_reducible refine (HF1.out _).mono ?_); rintro e w0 ⟨rfl, rfl⟩))) | ((go_at_call 47; ((with_reducible refine (HF2.out _).mono ?_); rintro e w0 ⟨rfl, rfl⟩))))
      go_ret
      exact ⟨ret_int HF.out.symm, hg⟩
    · by_cases c2 : y < x
      · have HF : Hid (CQ = s) := by show _ = _; rw [HC.out, HM.out c2]; omega
        have i1 : (y : Int) < (x : Int) := by omega
        have i2 : ¬ (x : Int) < (y : Int) := by omega
        have n1 : ((x : Int) != (y : Int)) = true := by simp; omega
        have n2 : ((x : Int) == (y : Int)) = false := by simp; omega
        clear HL HM HS H00 H0 H1 HC
        go_wp2_with (first | ((go_at_call 47; ((with_reducible refine (HF1.out _).mono ?_); rintro e w0 ⟨rfl, rfl⟩))) | ((go_at_call 47; ((with_reducible refine (HF2.out _).mono ?_); rintro e w0 ⟨rfl, rfl⟩))))
        go_ret
        exact ⟨ret_int HF.out.symm, hg⟩
      · have hxy : x = y := by omega
        by_cases hp : p = 0
        · have tp : ((p : Int) == 0) = true := by simp [hp]
          by_cases hq : q = 0
          · have HF : Hid (CQ = 0) := by show _ = _; rw [HC.out, H00.out hxy hp hq]; omega
            have tq : ((q : Int) == 0) = true := by simp [hq]
            clear HL HM HS H00 H0 H1 hp hq e1 e2 HC
            subst hxy
            go_wp2_with (first | ((go_at_call 47; ((with_reducible refine (HF1.out _).mono ?_); rintro e w0 ⟨rfl, rfl⟩))) | ((go_at_call 47; ((with_reducible refine (HF2.out _).mono ?_); rintro e w0 ⟨rfl, rfl⟩))))
            go_ret
            exact ⟨ret_int HF.out.symm, hg⟩
          · have HF : Hid (CQ = -s) := by show _ = _; rw [HC.out, H0.out hxy hp (by omega)]; omega
            have tq : ((q : Int) == 0) = false := by simp; omega
            clear HL HM HS H00 H0 H1 hp hq e1 e2 HC
            subst hxy
            go_wp2_with (first | ((go_at_call 47; ((with_reducible refine (HF1.out _).mono ?_); rintro e w0 ⟨rfl, rfl⟩))) | ((go_at_call 47; ((with_reducible refine (HF2.out _).mono ?_); rintro e w0 ⟨rfl, rfl⟩))))
            go_ret
            exact ⟨ret_int HF.out.symm, hg⟩
        · have tp : ((p : Int) == 0) = false := by simp; omega
          by_cases hq : q = 0
          · have HF : Hid (CQ = s) := by show _ = _; rw [HC.out, H1.out hxy (by omega) hq]; omega
            have tq : ((q : Int) == 0) = true := by simp [hq]
            clear HL HM HS H00 H0 H1 hp hq e1 e2 HC
            subst hxy
            go_wp2_with (first | ((go_at_call 47; ((with_reducible refine (HF1.out _).mono ?_); rintro e w0 ⟨rfl, rfl⟩))) | ((go_at_call 47; ((with_reducible refine (HF2.out _).mono ?_); rintro e w0 ⟨rfl, rfl⟩))))
            go_ret
            exact ⟨ret_int HF.out.symm, hg⟩
          · have HF : Hid (CQ = -s * cmpQ b p d q) := by show _ = _; rw [HC.out, HS.out hxy, Int.mul_neg, Int.neg_mul]
            have tq : ((q : Int) == 0) = false := by simp; omega
            have hp1 : 1 ≤ p := by omega
            have hq1 : 1 ≤ q := by omega
            clear HL HM HS H00 H0 H1 hp hq e1 e2 HC
            subst hxy
            go_wp2_with (first | ((go_at_call 47; ((with_reducible refine (HF1.out _).mono ?_); rintro e w0 ⟨rfl, rfl⟩))) | ((go_at_call 47; ((with_reducible refine (HF2.out _).mono ?_); rintro e w0 ⟨rfl, rfl⟩))))
            go_roundw
            case rel => exact ⟨b, p, d, q, -s, rfl, rfl, rfl, rfl, rfl, hp1, hq1, by omega, by omega, by omega, by omega, by omega, by omega, HF, hg⟩
            case measure => simp [intOf]; omega
end Go.Proofs.Ytmcnfhpjjmbdmaa
