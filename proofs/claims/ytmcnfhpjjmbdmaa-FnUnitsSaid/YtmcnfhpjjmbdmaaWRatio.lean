/- GcdOf, RatioOk, RatioOf, in the program and in the reference. -/
import Derived.Test.YtmcnfhpjjmbdmaaWIn
import Derived.Test.YtmcnfhpjjmbdmaaPlRatio
namespace Go.Proofs.Ytmcnfhpjjmbdmaa

open Go.RowKit

theorem iSize (n : Int) (w : World) (h0 : -9223372036854775808 ≤ n) (h1 : n ≤ 9223372036854775807) :
    Calls Try.prog 30 #[.int .i64 n] w fun e w' => e = .returned (.int .u64 (n.natAbs : Int)) ∧ w = w' := by
  by_cases h : n < 0
  · have e1 : IntKind.u64.wrap n = n + 18446744073709551616 := by simp [IntKind.wrap, IntKind.signed, IntKind.bits]; omega
    have e2 : IntKind.u64.wrap (-(n + 18446744073709551616)) = -n := by simp [IntKind.wrap, IntKind.signed, IntKind.bits]; omega
    go_enter Try.func30, Try.ntmps30
    go_wp2_with fail
    go_ret
    exact ⟨ret_int (by omega), rfl⟩
  · go_enter Try.func30, Try.ntmps30
    go_wp2_with fail
    go_ret
    exact ⟨ret_int (by omega), rfl⟩

set_option maxHeartbeats 400000 in
theorem iCommon (a b : Nat) (w : World) (ha : a ≤ 9223372036854775808) (hb : b ≤ 9223372036854775808) :
    Calls Try.prog 29 #[.int .u64 a, .int .u64 b] w fun e w' => e = .returned (.int .u64 (Nat.gcd a b : Nat)) ∧ Ge w w' := by
  go_enter Try.func29, Try.ntmps29
  go_wp2_with fail
  go_loopw [0, 1] (fun x y wr => ∃ p q : Nat, x = .int .u64 p ∧ y = .int .u64 q ∧ p ≤ 9223372036854775808 ∧ q ≤ 9223372036854775808 ∧ Hid (Nat.gcd a b = Nat.gcd p q) ∧ Ge w wr) (fun _ y _ => (intOf y).toNat)
  case atStart => exact ⟨a, b, rfl, rfl, ha, hb, rfl, Ge.refl _⟩
  case round =>
    obtain ⟨p, q, rfl, rfl, hp, hq, H, hg⟩ := hrel
    by_cases h0 : q = 0
    · subst h0
      go_wp2_with fail
      go_ret
      exact ⟨ret_int (by rw [H.out, Nat.gcd_zero_right]), hg⟩
    · have t : ((q : Int) != 0) = true := by simp [h0]
      have t' : ((q : Int) == 0) = false := by simp [h0]
      have hq0 : 0 < q := by omega
      have hm := Nat.mod_lt p hq0
      have H2 : Hid (Nat.gcd a b = Nat.gcd q (p % q)) := by rw [H.out, Nat.gcd_comm p q, Nat.gcd_rec q p, Nat.gcd_comm]; exact rfl
      clear h0 H
      go_wp2_with fail
      go_quiet (fail)
      go_wp2_with fail
      go_roundw
      case rel => exact ⟨q, p % q, by go_num, by go_num, hq, by omega, H2, by (repeat (first | with_reducible exact Ge.refl _ | assumption | with_reducible refine Ge.drew ?_ | with_reducible refine Ge.drewN ?_ _ | with_reducible refine Ge.alloc ?_ _ | (with_reducible refine Ge.setCell ?_ (by first | (simp; done) | omega | (simp; omega)) _) | with_reducible refine Ge.trans ?_ (by assumption)))⟩
      case measure => simp [intOf]; omega

/-- An int that is not the least one. -/
def Mid (n : Int) : Prop := -9223372036854775807 ≤ n ∧ n ≤ 9223372036854775807
theorem mid {n : Int} (h0 : -9223372036854775807 ≤ n) (h1 : n ≤ 9223372036854775807) : Mid n := ⟨h0, h1⟩

set_option maxHeartbeats 400000 in
theorem iGcdOf (a b : Int) (w : World) (ha : Mid a) (hb : Mid b) :
    Calls Try.prog 43 #[.int .i64 a, .int .i64 b] w fun e w' => e = .returned (.int .i64 (gcdN a b : Nat)) ∧ Ge w w' := by
  obtain ⟨a0, a1⟩ := ha
  obtain ⟨b0, b1⟩ := hb
  have t1 : (a == -9223372036854775808) = false := by simp; omega
  have t2 : (b == -9223372036854775808) = false := by simp; omega
  have hg : Nat.gcd a.natAbs b.natAbs ≤ 9223372036854775807 := by
    by_cases h : a.natAbs = 0
    · rw [h, Nat.gcd_zero_left]; omega
    · have := Nat.gcd_le_left b.natAbs (show 0 < a.natAbs by omega); omega
  obtain ⟨g, hg'⟩ : ∃ g, Nat.gcd a.natAbs b.natAbs = g := ⟨_, rfl⟩
  rw [hg'] at hg
  have HG := Lib.hid hg'
  clear hg'
  have HC := Lib.hid (fun w => by have := iCommon a.natAbs b.natAbs w (by omega) (by omega); rwa [HG.out] at this : ∀ w, Calls Try.prog 29 #[.int .u64 (a.natAbs : Int), .int .u64 (b.natAbs : Int)] w fun e w' => e = .returned (.int .u64 (g : Int)) ∧ Ge w w')
  have e1 : IntKind.i64.wrap (g : Int) = g := IntWalk.i64_in _ (by omega)
  go_enter Try.func43, Try.ntmps43
  go_wp2_with (first | (go_at_call 30; ((with_reducible refine (iSize _ _ (by omega) (by omega)).mono ?_); rintro e w' ⟨rfl, rfl⟩)) | (go_at_call 29; ((with_reducible refine (HC.out _).mono ?_); rintro e w' ⟨rfl, hb⟩)))
  go_ret
  exact ⟨ret_int (by rw [← HG.out]; exact rfl), by (repeat (first | with_reducible exact Ge.refl _ | assumption | with_reducible refine Ge.drew ?_ | with_reducible refine Ge.drewN ?_ _ | with_reducible refine Ge.alloc ?_ _ | (with_reducible refine Ge.setCell ?_ (by first | (simp; done) | omega | (simp; omega)) _) | with_reducible refine Ge.trans ?_ (by assumption)))⟩

theorem sL02Turn (a b : Int) (w : World) (h : 0 ≤ a) (hb : 0 < b) (ha : a ≤ 9223372036854775807) (hb' : b ≤ 9223372036854775807) : Calls Try.prog 65 #[.int .i64 a, .int .i64 b] w fun e w' => e = .returned (.tuple #[.int .i64 b, .int .i64 (a % b)]) ∧ Ge w w' := by
  have t' : (b == 0) = false := by simp; omega
  go_enter Try.func65, Try.ntmps65
  go_wp2_with fail
  go_quiet (fail)
  go_wp2_with fail
  go_ret2
  exact ⟨rfl, by (repeat (first | with_reducible exact Ge.refl _ | assumption | with_reducible refine Ge.drew ?_ | with_reducible refine Ge.drewN ?_ _ | with_reducible refine Ge.alloc ?_ _ | (with_reducible refine Ge.setCell ?_ (by first | (simp; done) | omega | (simp; omega)) _) | with_reducible refine Ge.trans ?_ (by assumption)))⟩

set_option maxHeartbeats 400000 in
theorem sGcdOf (a b : Int) (w : World) (ha : Mid a) (hb : Mid b) :
    Calls Try.prog 53 #[.int .i64 a, .int .i64 b] w fun e w' => e = .returned (.int .i64 (gcdN a b : Nat)) ∧ Ge w w' := by
  obtain ⟨a0, a1⟩ := ha
  obtain ⟨b0, b1⟩ := hb
  have e1 : max a (-a) = a.natAbs := by omega
  have e2 : max b (-b) = b.natAbs := by omega
  obtain ⟨x, hx⟩ : ∃ x, a.natAbs = x := ⟨_, rfl⟩
  obtain ⟨y, hy⟩ : ∃ y, b.natAbs = y := ⟨_, rfl⟩
  have HG : Hid (gcdN a b = Nat.gcd x y) := by rw [← hx, ← hy]; exact rfl
  have x1 : x ≤ 9223372036854775807 := by omega
  have y1 : y ≤ 9223372036854775807 := by omega
  rw [hx] at e1
  rw [hy] at e2
  clear hx hy
  go_enter Try.func53, Try.ntmps53
  go_wp2_with fail
  all_goals
    go_loopw [0, 1] (fun u v wr => ∃ p q : Nat, u = .int .i64 p ∧ v = .int .i64 q ∧ p ≤ 9223372036854775807 ∧ q ≤ 9223372036854775807 ∧ Hid (Nat.gcd x y = Nat.gcd p q) ∧ Ge w wr) (fun _ v _ => (intOf v).toNat)
    case atStart => exact ⟨x, y, by go_num, by go_num, x1, y1, rfl, Ge.refl _⟩
    case round =>
      obtain ⟨p, q, rfl, rfl, hp, hq, H, hg⟩ := hrel
      by_cases h0 : q = 0
      · subst h0
        go_wp2_with fail
        go_ret
        exact ⟨ret_int (by rw [HG.out, H.out, Nat.gcd_zero_right]), hg⟩
      · have t : ((q : Int) != 0) = true := by simp [h0]
        have t' : ((q : Int) == 0) = false := by simp [h0]
        have hq0 : 0 < q := by omega
        have hm := Nat.mod_lt p hq0
        have H2 : Hid (Nat.gcd x y = Nat.gcd q (p % q)) := by rw [H.out, Nat.gcd_comm p q, Nat.gcd_rec q p, Nat.gcd_comm]; exact rfl
        clear h0 H e1 e2
        go_wp2_with (go_at_call 65; ((with_reducible refine (sL02Turn _ _ _ (by omega) (by omega) (by omega) (by omega)).mono ?_); rintro e w' ⟨rfl, hb⟩))
        go_roundw
        case rel => exact ⟨q, p % q, by go_num, by go_num, hq, by omega, H2, by (repeat (first | with_reducible exact Ge.refl _ | assumption | with_reducible refine Ge.drew ?_ | with_reducible refine Ge.drewN ?_ _ | with_reducible refine Ge.alloc ?_ _ | (with_reducible refine Ge.setCell ?_ (by first | (simp; done) | omega | (simp; omega)) _) | with_reducible refine Ge.trans ?_ (by assumption)))⟩
        case measure => simp [intOf]; omega

set_option maxHeartbeats 400000 in
theorem sRatioOk (n d : Int) (w : World) :
    Calls Try.prog 46 #[.agg #[.int .i64 n, .int .i64 d]] w fun e w' => e = .returned (.bool (ratioOk n d)) ∧ Ge w w' := by
  by_cases h1 : 1 ≤ d ∧ d ≤ 1000000000000000
  · obtain ⟨h1, h2⟩ := h1
    have i1 := inB_true h1 h2
    by_cases h3 : -1000000000000000000 ≤ n ∧ n ≤ 1000000000000000000
    · obtain ⟨h3, h4⟩ := h3
      have i2 := inB_true h3 h4
      by_cases h5 : gcdN n d = 1
      · have t : (((gcdN n d : Nat) : Int) == 1) = true := by simp [h5]
        have H5 := Lib.hid h5
        clear h5
        go_enter Try.func46, Try.ntmps46
        go_wp2_with (first | (go_at_call 20; ((with_reducible refine (sL01In _ _ _ _).mono ?_); rintro e w' ⟨rfl, rfl⟩)) | (go_at_call 53; ((with_reducible refine (sGcdOf _ _ _ (mid (by omega) (by omega)) (mid (by omega) (by omega))).mono ?_); rintro e w' ⟨rfl, hb⟩)))
        go_ret
        exact ⟨ret_bool (by simp [ratioOk, h1, h2, h3, h4, H5.out]), by (repeat (first | with_reducible exact Ge.refl _ | assumption | with_reducible refine Ge.drew ?_ | with_reducible refine Ge.drewN ?_ _ | with_reducible refine Ge.alloc ?_ _ | (with_reducible refine Ge.setCell ?_ (by first | (simp; done) | omega | (simp; omega)) _) | with_reducible refine Ge.trans ?_ (by assumption)))⟩
      · have t : (((gcdN n d : Nat) : Int) == 1) = false := by simp; omega
        have H5 := Lib.hid h5
        clear h5
        go_enter Try.func46, Try.ntmps46
        go_wp2_with (first | (go_at_call 20; ((with_reducible refine (sL01In _ _ _ _).mono ?_); rintro e w' ⟨rfl, rfl⟩)) | (go_at_call 53; ((with_reducible refine (sGcdOf _ _ _ (mid (by omega) (by omega)) (mid (by omega) (by omega))).mono ?_); rintro e w' ⟨rfl, hb⟩)))
        go_ret
        exact ⟨ret_bool (by simp [ratioOk, h1, h2, h3, h4, H5.out]), by (repeat (first | with_reducible exact Ge.refl _ | assumption | with_reducible refine Ge.drew ?_ | with_reducible refine Ge.drewN ?_ _ | with_reducible refine Ge.alloc ?_ _ | (with_reducible refine Ge.setCell ?_ (by first | (simp; done) | omega | (simp; omega)) _) | with_reducible refine Ge.trans ?_ (by assumption)))⟩
    · have i2 : inB n (-1000000000000000000) 1000000000000000000 = false := inB_false (by omega)
      have H3 := Lib.hid h3
      clear h3
      go_enter Try.func46, Try.ntmps46
      go_wp2_with (go_at_call 20; ((with_reducible refine (sL01In _ _ _ _).mono ?_); rintro e w' ⟨rfl, rfl⟩))
      go_ret
      exact ⟨ret_bool (by have := H3.out; simp [ratioOk]; omega), by (repeat (first | with_reducible exact Ge.refl _ | assumption | with_reducible refine Ge.drew ?_ | with_reducible refine Ge.drewN ?_ _ | with_reducible refine Ge.alloc ?_ _ | (with_reducible refine Ge.setCell ?_ (by first | (simp; done) | omega | (simp; omega)) _) | with_reducible refine Ge.trans ?_ (by assumption)))⟩
  · have i1 : inB d 1 1000000000000000 = false := inB_false (by omega)
    have H3 := Lib.hid h1
    clear h1
    go_enter Try.func46, Try.ntmps46
    go_wp2_with (go_at_call 20; ((with_reducible refine (sL01In _ _ _ _).mono ?_); rintro e w' ⟨rfl, rfl⟩))
    go_ret
    exact ⟨ret_bool (by have := H3.out; simp [ratioOk]; omega), by (repeat (first | with_reducible exact Ge.refl _ | assumption | with_reducible refine Ge.drew ?_ | with_reducible refine Ge.drewN ?_ _ | with_reducible refine Ge.alloc ?_ _ | (with_reducible refine Ge.setCell ?_ (by first | (simp; done) | omega | (simp; omega)) _) | with_reducible refine Ge.trans ?_ (by assumption)))⟩

set_option maxHeartbeats 400000 in
theorem iRatioOk (n d : Int) (w : World) :
    Calls Try.prog 31 #[.agg #[.int .i64 n, .int .i64 d]] w fun e w' => e = .returned (.bool (ratioOk n d)) ∧ Ge w w' := by
  by_cases h1 : 1 ≤ d
  · by_cases h2 : d ≤ 1000000000000000
    · by_cases h3 : -1000000000000000000 ≤ n
      · by_cases h4 : n ≤ 1000000000000000000
        · by_cases h5 : gcdN n d = 1
          · have t : (((gcdN n d : Nat) : Int) == 1) = true := by simp [h5]
            have H5 := Lib.hid h5
            clear h5
            go_enter Try.func31, Try.ntmps31
            go_wp2_with (go_at_call 43; ((with_reducible refine (iGcdOf _ _ _ (mid (by omega) (by omega)) (mid (by omega) (by omega))).mono ?_); rintro e w' ⟨rfl, hb⟩))
            go_ret
            exact ⟨ret_bool (by simp [ratioOk, h1, h2, h3, h4, H5.out]), by (repeat (first | with_reducible exact Ge.refl _ | assumption | with_reducible refine Ge.drew ?_ | with_reducible refine Ge.drewN ?_ _ | with_reducible refine Ge.alloc ?_ _ | (with_reducible refine Ge.setCell ?_ (by first | (simp; done) | omega | (simp; omega)) _) | with_reducible refine Ge.trans ?_ (by assumption)))⟩
          · have t : (((gcdN n d : Nat) : Int) == 1) = false := by simp; omega
            have H5 := Lib.hid h5
            clear h5
            go_enter Try.func31, Try.ntmps31
            go_wp2_with (go_at_call 43; ((with_reducible refine (iGcdOf _ _ _ (mid (by omega) (by omega)) (mid (by omega) (by omega))).mono ?_); rintro e w' ⟨rfl, hb⟩))
            go_ret
            exact ⟨ret_bool (by simp [ratioOk, h1, h2, h3, h4, H5.out]), by (repeat (first | with_reducible exact Ge.refl _ | assumption | with_reducible refine Ge.drew ?_ | with_reducible refine Ge.drewN ?_ _ | with_reducible refine Ge.alloc ?_ _ | (with_reducible refine Ge.setCell ?_ (by first | (simp; done) | omega | (simp; omega)) _) | with_reducible refine Ge.trans ?_ (by assumption)))⟩
        · go_enter Try.func31, Try.ntmps31
          go_wp2_with fail
          go_ret
          exact ⟨ret_bool (by simp [ratioOk]; omega), by (repeat (first | with_reducible exact Ge.refl _ | assumption | with_reducible refine Ge.drew ?_ | with_reducible refine Ge.drewN ?_ _ | with_reducible refine Ge.alloc ?_ _ | (with_reducible refine Ge.setCell ?_ (by first | (simp; done) | omega | (simp; omega)) _) | with_reducible refine Ge.trans ?_ (by assumption)))⟩
      · go_enter Try.func31, Try.ntmps31
        go_wp2_with fail
        go_ret
        exact ⟨ret_bool (by simp [ratioOk]; omega), by (repeat (first | with_reducible exact Ge.refl _ | assumption | with_reducible refine Ge.drew ?_ | with_reducible refine Ge.drewN ?_ _ | with_reducible refine Ge.alloc ?_ _ | (with_reducible refine Ge.setCell ?_ (by first | (simp; done) | omega | (simp; omega)) _) | with_reducible refine Ge.trans ?_ (by assumption)))⟩
    · go_enter Try.func31, Try.ntmps31
      go_wp2_with fail
      go_ret
      exact ⟨ret_bool (by simp [ratioOk]; omega), by (repeat (first | with_reducible exact Ge.refl _ | assumption | with_reducible refine Ge.drew ?_ | with_reducible refine Ge.drewN ?_ _ | with_reducible refine Ge.alloc ?_ _ | (with_reducible refine Ge.setCell ?_ (by first | (simp; done) | omega | (simp; omega)) _) | with_reducible refine Ge.trans ?_ (by assumption)))⟩
  · go_enter Try.func31, Try.ntmps31
    go_wp2_with fail
    go_ret
    exact ⟨ret_bool (by simp [ratioOk]; omega), by (repeat (first | with_reducible exact Ge.refl _ | assumption | with_reducible refine Ge.drew ?_ | with_reducible refine Ge.drewN ?_ _ | with_reducible refine Ge.alloc ?_ _ | (with_reducible refine Ge.setCell ?_ (by first | (simp; done) | omega | (simp; omega)) _) | with_reducible refine Ge.trans ?_ (by assumption)))⟩

/-- A fraction as a value. -/
def rv (r : Rt) : Value := .agg #[.int .i64 r.n, .int .i64 r.d]
theorem rv_def (r : Rt) : rv r = .agg #[.int .i64 r.n, .int .i64 r.d] := rfl

set_option maxHeartbeats 800000 in
theorem iRatioOf (n d : Int) (w : World) (hn : Mid n) (hd : Mid d) :
    Calls Try.prog 15 #[.int .i64 n, .int .i64 d] w fun e w' => e = .returned (.agg #[.int .i64 (ratioOf n d).n, .int .i64 (ratioOf n d).d]) ∧ Ge w w' := by
  obtain ⟨n0, n1⟩ := hn
  obtain ⟨d0, d1⟩ := hd
  by_cases h0 : d = 0
  · subst h0
    have HR : Hid (ratioOf n 0 = ⟨0, 0⟩) := by simp [ratioOf, zeroR]; exact trivial
    go_enter Try.func15, Try.ntmps15
    go_wp2_with fail
    refine bodyPost_ret (v := .agg #[.int .i64 0, .int .i64 0]) (by simp [results, Try.results15, go_sem]) rfl ⟨by rw [HR.out], by (repeat (first | with_reducible exact Ge.refl _ | assumption | with_reducible refine Ge.drew ?_ | with_reducible refine Ge.drewN ?_ _ | with_reducible refine Ge.alloc ?_ _ | (with_reducible refine Ge.setCell ?_ (by first | (simp; done) | omega | (simp; omega)) _) | with_reducible refine Ge.trans ?_ (by assumption)))⟩
  · have t0 : (d == 0) = false := by simp [h0]
    have hg := gcdN_pos (n := n) h0
    have hgl := gcdN_le n d h0
    obtain ⟨a, ha⟩ := gcdN_dvd_left n d
    obtain ⟨b, hb⟩ := gcdN_dvd_right n d
    have ea : n.natAbs / gcdN n d = a := by rw [ha]; exact Nat.mul_div_cancel_left a hg
    have eb : d.natAbs / gcdN n d = b := by rw [hb]; exact Nat.mul_div_cancel_left b hg
    have la : a ≤ n.natAbs := by rw [← ea]; exact Nat.div_le_self _ _
    have lb : b ≤ d.natAbs := by rw [← eb]; exact Nat.div_le_self _ _
    obtain ⟨x, hx⟩ : ∃ x, n.natAbs = x := ⟨_, rfl⟩
    obtain ⟨y, hy⟩ : ∃ y, d.natAbs = y := ⟨_, rfl⟩
    obtain ⟨g, hg'⟩ : ∃ g, gcdN n d = g := ⟨_, rfl⟩
    have HR : Hid (ratioOf n d = if 1000000000000000000 < a ∨ 1000000000000000 < b then zeroR else ⟨if (n < 0) ↔ (d < 0) then (a : Int) else -(a : Int), (b : Int)⟩) := by
      unfold ratioOf; rw [if_neg h0]; simp only [ea, eb]; exact trivial
    have HC := Lib.hid (fun w => by have := iCommon x y w (by omega) (by omega); rwa [show Nat.gcd x y = g by rw [← hg', ← hx, ← hy]; rfl] at this : ∀ w, Calls Try.prog 29 #[.int .u64 (x : Int), .int .u64 (y : Int)] w fun e w' => e = .returned (.int .u64 (g : Int)) ∧ Ge w w')
    have HSn := Lib.hid (fun w => by have := iSize n w (by omega) (by omega); rwa [hx] at this : ∀ w, Calls Try.prog 30 #[.int .i64 n] w fun e w' => e = .returned (.int .u64 (x : Int)) ∧ w = w')
    have HSd := Lib.hid (fun w => by have := iSize d w (by omega) (by omega); rwa [hy] at this : ∀ w, Calls Try.prog 30 #[.int .i64 d] w fun e w' => e = .returned (.int .u64 (y : Int)) ∧ w = w')
    rw [hx, hg'] at ea
    rw [hy, hg'] at eb
    rw [hg'] at hg hgl
    rw [hy] at hgl
    have ea' : (x : Int) / (g : Int) = (a : Int) := by rw [← ea]; exact rfl
    have eb' : (y : Int) / (g : Int) = (b : Int) := by rw [← eb]; exact rfl
    have tg : ((g : Int) == 0) = false := by simp; omega
    have xb : x ≤ 9223372036854775807 := by omega
    have yb : y ≤ 9223372036854775807 := by omega
    have gb : g ≤ 9223372036854775807 := by omega
    have ab : a ≤ 9223372036854775807 := by omega
    have bb : b ≤ 9223372036854775807 := by omega
    clear ha hb ea eb la lb hx hy hg' hgl h0
    by_cases c1 : 1000000000000000000 < a ∨ 1000000000000000 < b
    · have HZ : Hid (ratioOf n d = ⟨0, 0⟩) := by rw [HR.out, if_pos c1]; exact rfl
      clear HR
      go_enter Try.func15, Try.ntmps15
      go_wp2_with (first | (go_at_call 29; ((with_reducible refine (HC.out _).mono ?_); rintro e w' ⟨rfl, hGe⟩); obtain ⟨hCe, hFr, hSz⟩ := Ge.rules hGe; (try simp at hSz); have hL0 : w.heap.size < w'.heap.size := (by omega)) | (go_at_call 30; ((with_reducible refine (HSn.out _).mono ?_); rintro e w' ⟨rfl, rfl⟩)) | (go_at_call 30; ((with_reducible refine (HSd.out _).mono ?_); rintro e w' ⟨rfl, rfl⟩)))
      all_goals exact bodyPost_ret (v := .agg #[.int .i64 0, .int .i64 0]) (by simp [results, Try.results15, go_sem, *]) rfl ⟨by rw [HZ.out], by (repeat (first | with_reducible exact Ge.refl _ | assumption | with_reducible refine Ge.drew ?_ | with_reducible refine Ge.drewN ?_ _ | with_reducible refine Ge.alloc ?_ _ | (with_reducible refine Ge.setCell ?_ (by first | (simp; done) | omega | (simp; omega)) _) | with_reducible refine Ge.trans ?_ (by assumption)))⟩
    · obtain ⟨c2, c3⟩ : a ≤ 1000000000000000000 ∧ b ≤ 1000000000000000 := by omega
      have HZ : Hid (ratioOf n d = ⟨if (n < 0) ↔ (d < 0) then (a : Int) else -(a : Int), (b : Int)⟩) := by rw [HR.out, if_neg c1]; exact rfl
      clear HR c1
      have e3 : IntKind.i64.wrap (a : Int) = a := IntWalk.i64_in _ (by omega)
      have e4 : IntKind.i64.wrap (b : Int) = b := IntWalk.i64_in _ (by omega)
      by_cases s1 : n < 0
      · by_cases s2 : d < 0
        · have HZ2 : Hid (ratioOf n d = ⟨(a : Int), (b : Int)⟩) := by rw [HZ.out, if_pos (by simp [s1, s2])]; exact rfl
          clear HZ
          have q1 : decide (n < 0) = true := by simp; omega
          have q2 : decide (d < 0) = true := by simp; omega
          go_enter Try.func15, Try.ntmps15
          go_wp2_with (first | (go_at_call 29; ((with_reducible refine (HC.out _).mono ?_); rintro e w' ⟨rfl, hGe⟩); obtain ⟨hCe, hFr, hSz⟩ := Ge.rules hGe; (try simp at hSz); have hL0 : w.heap.size < w'.heap.size := (by omega)) | (go_at_call 30; ((with_reducible refine (HSn.out _).mono ?_); rintro e w' ⟨rfl, rfl⟩)) | (go_at_call 30; ((with_reducible refine (HSd.out _).mono ?_); rintro e w' ⟨rfl, rfl⟩)))
          exact bodyPost_ret (v := .agg #[.int .i64 ((a : Int)), .int .i64 (b : Int)]) (by simp [results, Try.results15, go_sem, *]) rfl ⟨by rw [HZ2.out], by (repeat (first | with_reducible exact Ge.refl _ | assumption | with_reducible refine Ge.drew ?_ | with_reducible refine Ge.drewN ?_ _ | with_reducible refine Ge.alloc ?_ _ | (with_reducible refine Ge.setCell ?_ (by first | (simp; done) | omega | (simp; omega)) _) | with_reducible refine Ge.trans ?_ (by assumption)))⟩
        · have HZ2 : Hid (ratioOf n d = ⟨-(a : Int), (b : Int)⟩) := by rw [HZ.out, if_neg (by simp [s1, s2])]; exact rfl
          clear HZ
          have q1 : decide (n < 0) = true := by simp; omega
          have q2 : decide (d < 0) = false := by simp; omega
          go_enter Try.func15, Try.ntmps15
          go_wp2_with (first | (go_at_call 29; ((with_reducible refine (HC.out _).mono ?_); rintro e w' ⟨rfl, hGe⟩); obtain ⟨hCe, hFr, hSz⟩ := Ge.rules hGe; (try simp at hSz); have hL0 : w.heap.size < w'.heap.size := (by omega)) | (go_at_call 30; ((with_reducible refine (HSn.out _).mono ?_); rintro e w' ⟨rfl, rfl⟩)) | (go_at_call 30; ((with_reducible refine (HSd.out _).mono ?_); rintro e w' ⟨rfl, rfl⟩)))
          exact bodyPost_ret (v := .agg #[.int .i64 (-(a : Int)), .int .i64 (b : Int)]) (by simp [results, Try.results15, go_sem, *]) rfl ⟨by rw [HZ2.out], by (repeat (first | with_reducible exact Ge.refl _ | assumption | with_reducible refine Ge.drew ?_ | with_reducible refine Ge.drewN ?_ _ | with_reducible refine Ge.alloc ?_ _ | (with_reducible refine Ge.setCell ?_ (by first | (simp; done) | omega | (simp; omega)) _) | with_reducible refine Ge.trans ?_ (by assumption)))⟩
      · by_cases s2 : d < 0
        · have HZ2 : Hid (ratioOf n d = ⟨-(a : Int), (b : Int)⟩) := by rw [HZ.out, if_neg (by simp [s1, s2])]; exact rfl
          clear HZ
          have q1 : decide (n < 0) = false := by simp; omega
          have q2 : decide (d < 0) = true := by simp; omega
          go_enter Try.func15, Try.ntmps15
          go_wp2_with (first | (go_at_call 29; ((with_reducible refine (HC.out _).mono ?_); rintro e w' ⟨rfl, hGe⟩); obtain ⟨hCe, hFr, hSz⟩ := Ge.rules hGe; (try simp at hSz); have hL0 : w.heap.size < w'.heap.size := (by omega)) | (go_at_call 30; ((with_reducible refine (HSn.out _).mono ?_); rintro e w' ⟨rfl, rfl⟩)) | (go_at_call 30; ((with_reducible refine (HSd.out _).mono ?_); rintro e w' ⟨rfl, rfl⟩)))
          exact bodyPost_ret (v := .agg #[.int .i64 (-(a : Int)), .int .i64 (b : Int)]) (by simp [results, Try.results15, go_sem, *]) rfl ⟨by rw [HZ2.out], by (repeat (first | with_reducible exact Ge.refl _ | assumption | with_reducible refine Ge.drew ?_ | with_reducible refine Ge.drewN ?_ _ | with_reducible refine Ge.alloc ?_ _ | (with_reducible refine Ge.setCell ?_ (by first | (simp; done) | omega | (simp; omega)) _) | with_reducible refine Ge.trans ?_ (by assumption)))⟩
        · have HZ2 : Hid (ratioOf n d = ⟨(a : Int), (b : Int)⟩) := by rw [HZ.out, if_pos (by simp [s1, s2])]; exact rfl
          clear HZ
          have q1 : decide (n < 0) = false := by simp; omega
          have q2 : decide (d < 0) = false := by simp; omega
          go_enter Try.func15, Try.ntmps15
          go_wp2_with (first | (go_at_call 29; ((with_reducible refine (HC.out _).mono ?_); rintro e w' ⟨rfl, hGe⟩); obtain ⟨hCe, hFr, hSz⟩ := Ge.rules hGe; (try simp at hSz); have hL0 : w.heap.size < w'.heap.size := (by omega)) | (go_at_call 30; ((with_reducible refine (HSn.out _).mono ?_); rintro e w' ⟨rfl, rfl⟩)) | (go_at_call 30; ((with_reducible refine (HSd.out _).mono ?_); rintro e w' ⟨rfl, rfl⟩)))
          exact bodyPost_ret (v := .agg #[.int .i64 ((a : Int)), .int .i64 (b : Int)]) (by simp [results, Try.results15, go_sem, *]) rfl ⟨by rw [HZ2.out], by (repeat (first | with_reducible exact Ge.refl _ | assumption | with_reducible refine Ge.drew ?_ | with_reducible refine Ge.drewN ?_ _ | with_reducible refine Ge.alloc ?_ _ | (with_reducible refine Ge.setCell ?_ (by first | (simp; done) | omega | (simp; omega)) _) | with_reducible refine Ge.trans ?_ (by assumption)))⟩


theorem ratioOf_alt (n d : Int) (a b : Nat) (h0 : d ≠ 0) (ea : n.natAbs / gcdN n d = a) (eb : d.natAbs / gcdN n d = b) :
    ratioOf n d = if ratioOk (if (n < 0) ↔ (d < 0) then (a : Int) else -(a : Int)) (b : Int) = true then ⟨if (n < 0) ↔ (d < 0) then (a : Int) else -(a : Int), (b : Int)⟩ else ⟨0, 0⟩ := by
  have h := ratioOf_ok n d
  have hr : ratioOf n d = if 1000000000000000000 < a ∨ 1000000000000000 < b then zeroR else ⟨if (n < 0) ↔ (d < 0) then (a : Int) else -(a : Int), (b : Int)⟩ := by
    unfold ratioOf; rw [if_neg h0]; simp only [ea, eb]
  rw [hr] at h ⊢
  by_cases c : 1000000000000000000 < a ∨ 1000000000000000 < b
  · rw [if_pos c, if_neg]
    · rfl
    · rw [ratioOk_iff]
      rintro ⟨_, h2, h3, h4, _⟩
      split at h3 <;> split at h4 <;> omega
  · rw [if_neg c] at h ⊢
    have hb0 : b ≠ 0 := by
      intro e
      have hg := gcdN_pos (n := n) h0
      have hl := gcdN_le n d h0
      rw [e] at eb
      have := (Nat.div_eq_zero_iff.1 eb)
      omega
    rcases h with h | h
    · exfalso
      have := congrArg Rt.d h
      simp [zeroR] at this
      omega
    · rw [if_pos h]

set_option maxHeartbeats 1600000 in
theorem sRatioOf (n d : Int) (w : World) (hn : Mid n) (hd : Mid d) :
    Calls Try.prog 49 #[.int .i64 n, .int .i64 d] w fun e w' => e = .returned (.agg #[.int .i64 (ratioOf n d).n, .int .i64 (ratioOf n d).d]) ∧ Ge w w' := by
  have hC := fun w => sGcdOf n d w hn hd
  obtain ⟨n0, n1⟩ := hn
  obtain ⟨d0, d1⟩ := hd
  by_cases h0 : d = 0
  · subst h0
    have HR : Hid (ratioOf n 0 = ⟨0, 0⟩) := by simp [ratioOf, zeroR]; exact trivial
    have HC := Lib.hid hC
    clear hC
    have ht : ((((gcdN n 0 : Nat) : Int) == 0) || true) = true := by simp
    go_enter Try.func49, Try.ntmps49
    go_wp2_with (go_at_call 53; ((with_reducible refine (HC.out _).mono ?_); rintro e w' ⟨rfl, hGe⟩); obtain ⟨hCe, hFr, hSz⟩ := Ge.rules hGe; (try simp at hSz); have hL0 : w.heap.size < w'.heap.size := (by omega))
    all_goals exact bodyPost_ret (v := .agg #[.int .i64 0, .int .i64 0]) (by simp [results, Try.results49, go_sem, *]) rfl ⟨by rw [HR.out], by (repeat (first | with_reducible exact Ge.refl _ | assumption | with_reducible refine Ge.drew ?_ | with_reducible refine Ge.drewN ?_ _ | with_reducible refine Ge.alloc ?_ _ | (with_reducible refine Ge.setCell ?_ (by first | (simp; done) | omega | (simp; omega)) _) | with_reducible refine Ge.trans ?_ (by assumption)))⟩
  · have t0 : (d == 0) = false := by simp [h0]
    have hg := gcdN_pos (n := n) h0
    have hgl := gcdN_le n d h0
    obtain ⟨a, ha⟩ := gcdN_dvd_left n d
    obtain ⟨b, hb⟩ := gcdN_dvd_right n d
    have ea : n.natAbs / gcdN n d = a := by rw [ha]; exact Nat.mul_div_cancel_left a hg
    have eb : d.natAbs / gcdN n d = b := by rw [hb]; exact Nat.mul_div_cancel_left b hg
    have la : a ≤ n.natAbs := by rw [← ea]; exact Nat.div_le_self _ _
    have lb : b ≤ d.natAbs := by rw [← eb]; exact Nat.div_le_self _ _
    have HR := Lib.hid (ratioOf_alt n d a b h0 ea eb)
    obtain ⟨g, hg'⟩ : ∃ g, gcdN n d = g := ⟨_, rfl⟩
    rw [hg'] at hg hgl ha hb
    have HC := Lib.hid (fun w => by have := hC w; rwa [hg'] at this : ∀ w, Calls Try.prog 53 #[.int .i64 n, .int .i64 d] w fun e w' => e = .returned (.int .i64 (g : Int)) ∧ Ge w w')
    have tg : ((g : Int) == 0) = false := by simp; omega
    have k1 : ¬ g = 0 := by omega
    have ab : a ≤ 9223372036854775807 := by omega
    have bb : b ≤ 9223372036854775807 := by omega
    have gb : g ≤ 9223372036854775807 := by omega
    clear hC ea eb la lb hg' hgl h0
    by_cases s1 : n < 0
    · by_cases s2 : d < 0
      · have HV : Hid ((if (n < 0) ↔ (d < 0) then (a : Int) else -(a : Int)) = (a : Int)) := by rw [if_pos (by simp [s1, s2])]; exact rfl
        have q1 : n.tdiv (g : Int) = -(a : Int) := by rw [tdiv_exact n g a ha hg, if_pos s1]
        have q2 : d.tdiv (g : Int) = -(b : Int) := by rw [tdiv_exact d g b hb hg, if_pos s2]
        have r1 : n.tdiv (-(g : Int)) = (a : Int) := by rw [Int.tdiv_neg, q1]; try simp
        have r2 : d.tdiv (-(g : Int)) = (b : Int) := by rw [Int.tdiv_neg, q2]; try simp
        have e1 : IntKind.i64.wrap ((a : Int)) = (a : Int) := IntWalk.i64_in _ (by omega)
        have e2 : IntKind.i64.wrap (b : Int) = b := IntWalk.i64_in _ (by omega)
        have tg2 : (-(g : Int) == 0) = false := by simp; omega
        have k0 : (-(g : Int)) ≠ 0 := by omega
        cases c : ratioOk ((a : Int)) (b : Int) with
        | true =>
          have HF : Hid (ratioOf n d = ⟨(a : Int), (b : Int)⟩) := by rw [HR.out, HV.out, c]; exact rfl
          clear HR HV q1 q2 ha hb
          go_enter Try.func49, Try.ntmps49
          go_wp2_with (go_at_call 53; ((with_reducible refine (HC.out _).mono ?_); rintro e w' ⟨rfl, hGe⟩); obtain ⟨hCe, hFr, hSz⟩ := Ge.rules hGe; (try simp at hSz); have hL0 : w.heap.size < w'.heap.size := (by omega))
          go_region_held3 (fun w' => Ge w w') (first | exact Ge.trans ‹Ge w _› hb | exact (by (repeat (first | with_reducible exact Ge.refl _ | assumption | with_reducible refine Ge.drew ?_ | with_reducible refine Ge.drewN ?_ _ | with_reducible refine Ge.alloc ?_ _ | (with_reducible refine Ge.setCell ?_ (by first | (simp; done) | omega | (simp; omega)) _) | with_reducible refine Ge.trans ?_ (by assumption))))) (first | fail | fail)
          go_wp2_with ((go_at_call 46; ((with_reducible refine (sRatioOk _ _ _).mono ?_); rintro e w2 ⟨rfl, hg2⟩)); obtain ⟨hC2, hF2, hS2⟩ := Ge.rules hg2; (try simp at hS2); have hM0 : w.heap.size < w2.heap.size := (by omega); have hM1 : w'.heap.size < w2.heap.size := (by omega); have R0 := Ge.keep ((Ge.trans hGe (by (repeat (first | with_reducible exact Ge.refl _ | assumption | with_reducible refine Ge.drew ?_ | with_reducible refine Ge.drewN ?_ _ | with_reducible refine Ge.alloc ?_ _ | (with_reducible refine Ge.setCell ?_ (by first | (simp; done) | omega | (simp; omega)) _) | with_reducible refine Ge.trans ?_ (by assumption))))).trans hg2) (a := ⟨w.heap.size, 0, none⟩) (v := .int .i64 0) (by simp); have R1 := Ge.keep ((Ge.trans hGe (by (repeat (first | with_reducible exact Ge.refl _ | assumption | with_reducible refine Ge.drew ?_ | with_reducible refine Ge.drewN ?_ _ | with_reducible refine Ge.alloc ?_ _ | (with_reducible refine Ge.setCell ?_ (by first | (simp; done) | omega | (simp; omega)) _) | with_reducible refine Ge.trans ?_ (by assumption))))).trans hg2) (a := ⟨w.heap.size, 1, none⟩) (v := .int .i64 0) (by simp))
          exact bodyPost_ret (v := .agg #[.int .i64 ((a : Int)), .int .i64 ((b : Int))]) (by simp [results, Try.results49, go_sem, *]) rfl ⟨by rw [HF.out], by (repeat (first | with_reducible exact Ge.refl _ | assumption | with_reducible refine Ge.drew ?_ | with_reducible refine Ge.drewN ?_ _ | with_reducible refine Ge.alloc ?_ _ | (with_reducible refine Ge.setCell ?_ (by first | (simp; done) | omega | (simp; omega)) _) | with_reducible refine Ge.trans ?_ (by assumption)))⟩
        | false =>
          have HF : Hid (ratioOf n d = ⟨0, 0⟩) := by rw [HR.out, HV.out, c]; exact rfl
          clear HR HV q1 q2 ha hb
          go_enter Try.func49, Try.ntmps49
          go_wp2_with (go_at_call 53; ((with_reducible refine (HC.out _).mono ?_); rintro e w' ⟨rfl, hGe⟩); obtain ⟨hCe, hFr, hSz⟩ := Ge.rules hGe; (try simp at hSz); have hL0 : w.heap.size < w'.heap.size := (by omega))
          go_region_held3 (fun w' => Ge w w') (first | exact Ge.trans ‹Ge w _› hb | exact (by (repeat (first | with_reducible exact Ge.refl _ | assumption | with_reducible refine Ge.drew ?_ | with_reducible refine Ge.drewN ?_ _ | with_reducible refine Ge.alloc ?_ _ | (with_reducible refine Ge.setCell ?_ (by first | (simp; done) | omega | (simp; omega)) _) | with_reducible refine Ge.trans ?_ (by assumption))))) (first | fail | fail)
          go_wp2_with ((go_at_call 46; ((with_reducible refine (sRatioOk _ _ _).mono ?_); rintro e w2 ⟨rfl, hg2⟩)); obtain ⟨hC2, hF2, hS2⟩ := Ge.rules hg2; (try simp at hS2); have hM0 : w.heap.size < w2.heap.size := (by omega); have hM1 : w'.heap.size < w2.heap.size := (by omega); have R0 := Ge.keep ((Ge.trans hGe (by (repeat (first | with_reducible exact Ge.refl _ | assumption | with_reducible refine Ge.drew ?_ | with_reducible refine Ge.drewN ?_ _ | with_reducible refine Ge.alloc ?_ _ | (with_reducible refine Ge.setCell ?_ (by first | (simp; done) | omega | (simp; omega)) _) | with_reducible refine Ge.trans ?_ (by assumption))))).trans hg2) (a := ⟨w.heap.size, 0, none⟩) (v := .int .i64 0) (by simp); have R1 := Ge.keep ((Ge.trans hGe (by (repeat (first | with_reducible exact Ge.refl _ | assumption | with_reducible refine Ge.drew ?_ | with_reducible refine Ge.drewN ?_ _ | with_reducible refine Ge.alloc ?_ _ | (with_reducible refine Ge.setCell ?_ (by first | (simp; done) | omega | (simp; omega)) _) | with_reducible refine Ge.trans ?_ (by assumption))))).trans hg2) (a := ⟨w.heap.size, 1, none⟩) (v := .int .i64 0) (by simp))
          exact bodyPost_ret (v := .agg #[.int .i64 (0), .int .i64 (0)]) (by simp [results, Try.results49, go_sem, *]) rfl ⟨by rw [HF.out], by (repeat (first | with_reducible exact Ge.refl _ | assumption | with_reducible refine Ge.drew ?_ | with_reducible refine Ge.drewN ?_ _ | with_reducible refine Ge.alloc ?_ _ | (with_reducible refine Ge.setCell ?_ (by first | (simp; done) | omega | (simp; omega)) _) | with_reducible refine Ge.trans ?_ (by assumption)))⟩
      · have HV : Hid ((if (n < 0) ↔ (d < 0) then (a : Int) else -(a : Int)) = -(a : Int)) := by rw [if_neg (by simp [s1, s2])]; exact rfl
        have q1 : n.tdiv (g : Int) = -(a : Int) := by rw [tdiv_exact n g a ha hg, if_pos s1]
        have q2 : d.tdiv (g : Int) = (b : Int) := by rw [tdiv_exact d g b hb hg, if_neg s2]
        have r1 : n.tdiv ((g : Int)) = -(a : Int) := by exact q1
        have r2 : d.tdiv ((g : Int)) = (b : Int) := by exact q2
        have e1 : IntKind.i64.wrap (-(a : Int)) = -(a : Int) := IntWalk.i64_in _ (by omega)
        have e2 : IntKind.i64.wrap (b : Int) = b := IntWalk.i64_in _ (by omega)
        have tg2 : ((g : Int) == 0) = false := by simp; omega
        have k0 : ((g : Int)) ≠ 0 := by omega
        cases c : ratioOk (-(a : Int)) (b : Int) with
        | true =>
          have HF : Hid (ratioOf n d = ⟨-(a : Int), (b : Int)⟩) := by rw [HR.out, HV.out, c]; exact rfl
          clear HR HV q1 q2 ha hb
          go_enter Try.func49, Try.ntmps49
          go_wp2_with (go_at_call 53; ((with_reducible refine (HC.out _).mono ?_); rintro e w' ⟨rfl, hGe⟩); obtain ⟨hCe, hFr, hSz⟩ := Ge.rules hGe; (try simp at hSz); have hL0 : w.heap.size < w'.heap.size := (by omega))
          go_region_held3 (fun w' => Ge w w') (first | exact Ge.trans ‹Ge w _› hb | exact (by (repeat (first | with_reducible exact Ge.refl _ | assumption | with_reducible refine Ge.drew ?_ | with_reducible refine Ge.drewN ?_ _ | with_reducible refine Ge.alloc ?_ _ | (with_reducible refine Ge.setCell ?_ (by first | (simp; done) | omega | (simp; omega)) _) | with_reducible refine Ge.trans ?_ (by assumption))))) (first | fail | fail)
          go_wp2_with ((go_at_call 46; ((with_reducible refine (sRatioOk _ _ _).mono ?_); rintro e w2 ⟨rfl, hg2⟩)); obtain ⟨hC2, hF2, hS2⟩ := Ge.rules hg2; (try simp at hS2); have hM0 : w.heap.size < w2.heap.size := (by omega); have hM1 : w'.heap.size < w2.heap.size := (by omega); have R0 := Ge.keep ((Ge.trans hGe (by (repeat (first | with_reducible exact Ge.refl _ | assumption | with_reducible refine Ge.drew ?_ | with_reducible refine Ge.drewN ?_ _ | with_reducible refine Ge.alloc ?_ _ | (with_reducible refine Ge.setCell ?_ (by first | (simp; done) | omega | (simp; omega)) _) | with_reducible refine Ge.trans ?_ (by assumption))))).trans hg2) (a := ⟨w.heap.size, 0, none⟩) (v := .int .i64 0) (by simp); have R1 := Ge.keep ((Ge.trans hGe (by (repeat (first | with_reducible exact Ge.refl _ | assumption | with_reducible refine Ge.drew ?_ | with_reducible refine Ge.drewN ?_ _ | with_reducible refine Ge.alloc ?_ _ | (with_reducible refine Ge.setCell ?_ (by first | (simp; done) | omega | (simp; omega)) _) | with_reducible refine Ge.trans ?_ (by assumption))))).trans hg2) (a := ⟨w.heap.size, 1, none⟩) (v := .int .i64 0) (by simp))
          exact bodyPost_ret (v := .agg #[.int .i64 (-(a : Int)), .int .i64 ((b : Int))]) (by simp [results, Try.results49, go_sem, *]) rfl ⟨by rw [HF.out], by (repeat (first | with_reducible exact Ge.refl _ | assumption | with_reducible refine Ge.drew ?_ | with_reducible refine Ge.drewN ?_ _ | with_reducible refine Ge.alloc ?_ _ | (with_reducible refine Ge.setCell ?_ (by first | (simp; done) | omega | (simp; omega)) _) | with_reducible refine Ge.trans ?_ (by assumption)))⟩
        | false =>
          have HF : Hid (ratioOf n d = ⟨0, 0⟩) := by rw [HR.out, HV.out, c]; exact rfl
          clear HR HV q1 q2 ha hb
          go_enter Try.func49, Try.ntmps49
          go_wp2_with (go_at_call 53; ((with_reducible refine (HC.out _).mono ?_); rintro e w' ⟨rfl, hGe⟩); obtain ⟨hCe, hFr, hSz⟩ := Ge.rules hGe; (try simp at hSz); have hL0 : w.heap.size < w'.heap.size := (by omega))
          go_region_held3 (fun w' => Ge w w') (first | exact Ge.trans ‹Ge w _› hb | exact (by (repeat (first | with_reducible exact Ge.refl _ | assumption | with_reducible refine Ge.drew ?_ | with_reducible refine Ge.drewN ?_ _ | with_reducible refine Ge.alloc ?_ _ | (with_reducible refine Ge.setCell ?_ (by first | (simp; done) | omega | (simp; omega)) _) | with_reducible refine Ge.trans ?_ (by assumption))))) (first | fail | fail)
          go_wp2_with ((go_at_call 46; ((with_reducible refine (sRatioOk _ _ _).mono ?_); rintro e w2 ⟨rfl, hg2⟩)); obtain ⟨hC2, hF2, hS2⟩ := Ge.rules hg2; (try simp at hS2); have hM0 : w.heap.size < w2.heap.size := (by omega); have hM1 : w'.heap.size < w2.heap.size := (by omega); have R0 := Ge.keep ((Ge.trans hGe (by (repeat (first | with_reducible exact Ge.refl _ | assumption | with_reducible refine Ge.drew ?_ | with_reducible refine Ge.drewN ?_ _ | with_reducible refine Ge.alloc ?_ _ | (with_reducible refine Ge.setCell ?_ (by first | (simp; done) | omega | (simp; omega)) _) | with_reducible refine Ge.trans ?_ (by assumption))))).trans hg2) (a := ⟨w.heap.size, 0, none⟩) (v := .int .i64 0) (by simp); have R1 := Ge.keep ((Ge.trans hGe (by (repeat (first | with_reducible exact Ge.refl _ | assumption | with_reducible refine Ge.drew ?_ | with_reducible refine Ge.drewN ?_ _ | with_reducible refine Ge.alloc ?_ _ | (with_reducible refine Ge.setCell ?_ (by first | (simp; done) | omega | (simp; omega)) _) | with_reducible refine Ge.trans ?_ (by assumption))))).trans hg2) (a := ⟨w.heap.size, 1, none⟩) (v := .int .i64 0) (by simp))
          exact bodyPost_ret (v := .agg #[.int .i64 (0), .int .i64 (0)]) (by simp [results, Try.results49, go_sem, *]) rfl ⟨by rw [HF.out], by (repeat (first | with_reducible exact Ge.refl _ | assumption | with_reducible refine Ge.drew ?_ | with_reducible refine Ge.drewN ?_ _ | with_reducible refine Ge.alloc ?_ _ | (with_reducible refine Ge.setCell ?_ (by first | (simp; done) | omega | (simp; omega)) _) | with_reducible refine Ge.trans ?_ (by assumption)))⟩
    · by_cases s2 : d < 0
      · have HV : Hid ((if (n < 0) ↔ (d < 0) then (a : Int) else -(a : Int)) = -(a : Int)) := by rw [if_neg (by simp [s1, s2])]; exact rfl
        have q1 : n.tdiv (g : Int) = (a : Int) := by rw [tdiv_exact n g a ha hg, if_neg s1]
        have q2 : d.tdiv (g : Int) = -(b : Int) := by rw [tdiv_exact d g b hb hg, if_pos s2]
        have r1 : n.tdiv (-(g : Int)) = -(a : Int) := by rw [Int.tdiv_neg, q1]; try simp
        have r2 : d.tdiv (-(g : Int)) = (b : Int) := by rw [Int.tdiv_neg, q2]; try simp
        have e1 : IntKind.i64.wrap (-(a : Int)) = -(a : Int) := IntWalk.i64_in _ (by omega)
        have e2 : IntKind.i64.wrap (b : Int) = b := IntWalk.i64_in _ (by omega)
        have tg2 : (-(g : Int) == 0) = false := by simp; omega
        have k0 : (-(g : Int)) ≠ 0 := by omega
        cases c : ratioOk (-(a : Int)) (b : Int) with
        | true =>
          have HF : Hid (ratioOf n d = ⟨-(a : Int), (b : Int)⟩) := by rw [HR.out, HV.out, c]; exact rfl
          clear HR HV q1 q2 ha hb
          go_enter Try.func49, Try.ntmps49
          go_wp2_with (go_at_call 53; ((with_reducible refine (HC.out _).mono ?_); rintro e w' ⟨rfl, hGe⟩); obtain ⟨hCe, hFr, hSz⟩ := Ge.rules hGe; (try simp at hSz); have hL0 : w.heap.size < w'.heap.size := (by omega))
          go_region_held3 (fun w' => Ge w w') (first | exact Ge.trans ‹Ge w _› hb | exact (by (repeat (first | with_reducible exact Ge.refl _ | assumption | with_reducible refine Ge.drew ?_ | with_reducible refine Ge.drewN ?_ _ | with_reducible refine Ge.alloc ?_ _ | (with_reducible refine Ge.setCell ?_ (by first | (simp; done) | omega | (simp; omega)) _) | with_reducible refine Ge.trans ?_ (by assumption))))) (first | fail | fail)
          go_wp2_with ((go_at_call 46; ((with_reducible refine (sRatioOk _ _ _).mono ?_); rintro e w2 ⟨rfl, hg2⟩)); obtain ⟨hC2, hF2, hS2⟩ := Ge.rules hg2; (try simp at hS2); have hM0 : w.heap.size < w2.heap.size := (by omega); have hM1 : w'.heap.size < w2.heap.size := (by omega); have R0 := Ge.keep ((Ge.trans hGe (by (repeat (first | with_reducible exact Ge.refl _ | assumption | with_reducible refine Ge.drew ?_ | with_reducible refine Ge.drewN ?_ _ | with_reducible refine Ge.alloc ?_ _ | (with_reducible refine Ge.setCell ?_ (by first | (simp; done) | omega | (simp; omega)) _) | with_reducible refine Ge.trans ?_ (by assumption))))).trans hg2) (a := ⟨w.heap.size, 0, none⟩) (v := .int .i64 0) (by simp); have R1 := Ge.keep ((Ge.trans hGe (by (repeat (first | with_reducible exact Ge.refl _ | assumption | with_reducible refine Ge.drew ?_ | with_reducible refine Ge.drewN ?_ _ | with_reducible refine Ge.alloc ?_ _ | (with_reducible refine Ge.setCell ?_ (by first | (simp; done) | omega | (simp; omega)) _) | with_reducible refine Ge.trans ?_ (by assumption))))).trans hg2) (a := ⟨w.heap.size, 1, none⟩) (v := .int .i64 0) (by simp))
          exact bodyPost_ret (v := .agg #[.int .i64 (-(a : Int)), .int .i64 ((b : Int))]) (by simp [results, Try.results49, go_sem, *]) rfl ⟨by rw [HF.out], by (repeat (first | with_reducible exact Ge.refl _ | assumption | with_reducible refine Ge.drew ?_ | with_reducible refine Ge.drewN ?_ _ | with_reducible refine Ge.alloc ?_ _ | (with_reducible refine Ge.setCell ?_ (by first | (simp; done) | omega | (simp; omega)) _) | with_reducible refine Ge.trans ?_ (by assumption)))⟩
        | false =>
          have HF : Hid (ratioOf n d = ⟨0, 0⟩) := by rw [HR.out, HV.out, c]; exact rfl
          clear HR HV q1 q2 ha hb
          go_enter Try.func49, Try.ntmps49
          go_wp2_with (go_at_call 53; ((with_reducible refine (HC.out _).mono ?_); rintro e w' ⟨rfl, hGe⟩); obtain ⟨hCe, hFr, hSz⟩ := Ge.rules hGe; (try simp at hSz); have hL0 : w.heap.size < w'.heap.size := (by omega))
          go_region_held3 (fun w' => Ge w w') (first | exact Ge.trans ‹Ge w _› hb | exact (by (repeat (first | with_reducible exact Ge.refl _ | assumption | with_reducible refine Ge.drew ?_ | with_reducible refine Ge.drewN ?_ _ | with_reducible refine Ge.alloc ?_ _ | (with_reducible refine Ge.setCell ?_ (by first | (simp; done) | omega | (simp; omega)) _) | with_reducible refine Ge.trans ?_ (by assumption))))) (first | fail | fail)
          go_wp2_with ((go_at_call 46; ((with_reducible refine (sRatioOk _ _ _).mono ?_); rintro e w2 ⟨rfl, hg2⟩)); obtain ⟨hC2, hF2, hS2⟩ := Ge.rules hg2; (try simp at hS2); have hM0 : w.heap.size < w2.heap.size := (by omega); have hM1 : w'.heap.size < w2.heap.size := (by omega); have R0 := Ge.keep ((Ge.trans hGe (by (repeat (first | with_reducible exact Ge.refl _ | assumption | with_reducible refine Ge.drew ?_ | with_reducible refine Ge.drewN ?_ _ | with_reducible refine Ge.alloc ?_ _ | (with_reducible refine Ge.setCell ?_ (by first | (simp; done) | omega | (simp; omega)) _) | with_reducible refine Ge.trans ?_ (by assumption))))).trans hg2) (a := ⟨w.heap.size, 0, none⟩) (v := .int .i64 0) (by simp); have R1 := Ge.keep ((Ge.trans hGe (by (repeat (first | with_reducible exact Ge.refl _ | assumption | with_reducible refine Ge.drew ?_ | with_reducible refine Ge.drewN ?_ _ | with_reducible refine Ge.alloc ?_ _ | (with_reducible refine Ge.setCell ?_ (by first | (simp; done) | omega | (simp; omega)) _) | with_reducible refine Ge.trans ?_ (by assumption))))).trans hg2) (a := ⟨w.heap.size, 1, none⟩) (v := .int .i64 0) (by simp))
          exact bodyPost_ret (v := .agg #[.int .i64 (0), .int .i64 (0)]) (by simp [results, Try.results49, go_sem, *]) rfl ⟨by rw [HF.out], by (repeat (first | with_reducible exact Ge.refl _ | assumption | with_reducible refine Ge.drew ?_ | with_reducible refine Ge.drewN ?_ _ | with_reducible refine Ge.alloc ?_ _ | (with_reducible refine Ge.setCell ?_ (by first | (simp; done) | omega | (simp; omega)) _) | with_reducible refine Ge.trans ?_ (by assumption)))⟩
      · have HV : Hid ((if (n < 0) ↔ (d < 0) then (a : Int) else -(a : Int)) = (a : Int)) := by rw [if_pos (by simp [s1, s2])]; exact rfl
        have q1 : n.tdiv (g : Int) = (a : Int) := by rw [tdiv_exact n g a ha hg, if_neg s1]
        have q2 : d.tdiv (g : Int) = (b : Int) := by rw [tdiv_exact d g b hb hg, if_neg s2]
        have r1 : n.tdiv ((g : Int)) = (a : Int) := by exact q1
        have r2 : d.tdiv ((g : Int)) = (b : Int) := by exact q2
        have e1 : IntKind.i64.wrap ((a : Int)) = (a : Int) := IntWalk.i64_in _ (by omega)
        have e2 : IntKind.i64.wrap (b : Int) = b := IntWalk.i64_in _ (by omega)
        have tg2 : ((g : Int) == 0) = false := by simp; omega
        have k0 : ((g : Int)) ≠ 0 := by omega
        cases c : ratioOk ((a : Int)) (b : Int) with
        | true =>
          have HF : Hid (ratioOf n d = ⟨(a : Int), (b : Int)⟩) := by rw [HR.out, HV.out, c]; exact rfl
          clear HR HV q1 q2 ha hb
          go_enter Try.func49, Try.ntmps49
          go_wp2_with (go_at_call 53; ((with_reducible refine (HC.out _).mono ?_); rintro e w' ⟨rfl, hGe⟩); obtain ⟨hCe, hFr, hSz⟩ := Ge.rules hGe; (try simp at hSz); have hL0 : w.heap.size < w'.heap.size := (by omega))
          go_region_held3 (fun w' => Ge w w') (first | exact Ge.trans ‹Ge w _› hb | exact (by (repeat (first | with_reducible exact Ge.refl _ | assumption | with_reducible refine Ge.drew ?_ | with_reducible refine Ge.drewN ?_ _ | with_reducible refine Ge.alloc ?_ _ | (with_reducible refine Ge.setCell ?_ (by first | (simp; done) | omega | (simp; omega)) _) | with_reducible refine Ge.trans ?_ (by assumption))))) (first | fail | fail)
          go_wp2_with ((go_at_call 46; ((with_reducible refine (sRatioOk _ _ _).mono ?_); rintro e w2 ⟨rfl, hg2⟩)); obtain ⟨hC2, hF2, hS2⟩ := Ge.rules hg2; (try simp at hS2); have hM0 : w.heap.size < w2.heap.size := (by omega); have hM1 : w'.heap.size < w2.heap.size := (by omega); have R0 := Ge.keep ((Ge.trans hGe (by (repeat (first | with_reducible exact Ge.refl _ | assumption | with_reducible refine Ge.drew ?_ | with_reducible refine Ge.drewN ?_ _ | with_reducible refine Ge.alloc ?_ _ | (with_reducible refine Ge.setCell ?_ (by first | (simp; done) | omega | (simp; omega)) _) | with_reducible refine Ge.trans ?_ (by assumption))))).trans hg2) (a := ⟨w.heap.size, 0, none⟩) (v := .int .i64 0) (by simp); have R1 := Ge.keep ((Ge.trans hGe (by (repeat (first | with_reducible exact Ge.refl _ | assumption | with_reducible refine Ge.drew ?_ | with_reducible refine Ge.drewN ?_ _ | with_reducible refine Ge.alloc ?_ _ | (with_reducible refine Ge.setCell ?_ (by first | (simp; done) | omega | (simp; omega)) _) | with_reducible refine Ge.trans ?_ (by assumption))))).trans hg2) (a := ⟨w.heap.size, 1, none⟩) (v := .int .i64 0) (by simp))
          exact bodyPost_ret (v := .agg #[.int .i64 ((a : Int)), .int .i64 ((b : Int))]) (by simp [results, Try.results49, go_sem, *]) rfl ⟨by rw [HF.out], by (repeat (first | with_reducible exact Ge.refl _ | assumption | with_reducible refine Ge.drew ?_ | with_reducible refine Ge.drewN ?_ _ | with_reducible refine Ge.alloc ?_ _ | (with_reducible refine Ge.setCell ?_ (by first | (simp; done) | omega | (simp; omega)) _) | with_reducible refine Ge.trans ?_ (by assumption)))⟩
        | false =>
          have HF : Hid (ratioOf n d = ⟨0, 0⟩) := by rw [HR.out, HV.out, c]; exact rfl
          clear HR HV q1 q2 ha hb
          go_enter Try.func49, Try.ntmps49
          go_wp2_with (go_at_call 53; ((with_reducible refine (HC.out _).mono ?_); rintro e w' ⟨rfl, hGe⟩); obtain ⟨hCe, hFr, hSz⟩ := Ge.rules hGe; (try simp at hSz); have hL0 : w.heap.size < w'.heap.size := (by omega))
          go_region_held3 (fun w' => Ge w w') (first | exact Ge.trans ‹Ge w _› hb | exact (by (repeat (first | with_reducible exact Ge.refl _ | assumption | with_reducible refine Ge.drew ?_ | with_reducible refine Ge.drewN ?_ _ | with_reducible refine Ge.alloc ?_ _ | (with_reducible refine Ge.setCell ?_ (by first | (simp; done) | omega | (simp; omega)) _) | with_reducible refine Ge.trans ?_ (by assumption))))) (first | fail | fail)
          go_wp2_with ((go_at_call 46; ((with_reducible refine (sRatioOk _ _ _).mono ?_); rintro e w2 ⟨rfl, hg2⟩)); obtain ⟨hC2, hF2, hS2⟩ := Ge.rules hg2; (try simp at hS2); have hM0 : w.heap.size < w2.heap.size := (by omega); have hM1 : w'.heap.size < w2.heap.size := (by omega); have R0 := Ge.keep ((Ge.trans hGe (by (repeat (first | with_reducible exact Ge.refl _ | assumption | with_reducible refine Ge.drew ?_ | with_reducible refine Ge.drewN ?_ _ | with_reducible refine Ge.alloc ?_ _ | (with_reducible refine Ge.setCell ?_ (by first | (simp; done) | omega | (simp; omega)) _) | with_reducible refine Ge.trans ?_ (by assumption))))).trans hg2) (a := ⟨w.heap.size, 0, none⟩) (v := .int .i64 0) (by simp); have R1 := Ge.keep ((Ge.trans hGe (by (repeat (first | with_reducible exact Ge.refl _ | assumption | with_reducible refine Ge.drew ?_ | with_reducible refine Ge.drewN ?_ _ | with_reducible refine Ge.alloc ?_ _ | (with_reducible refine Ge.setCell ?_ (by first | (simp; done) | omega | (simp; omega)) _) | with_reducible refine Ge.trans ?_ (by assumption))))).trans hg2) (a := ⟨w.heap.size, 1, none⟩) (v := .int .i64 0) (by simp))
          exact bodyPost_ret (v := .agg #[.int .i64 (0), .int .i64 (0)]) (by simp [results, Try.results49, go_sem, *]) rfl ⟨by rw [HF.out], by (repeat (first | with_reducible exact Ge.refl _ | assumption | with_reducible refine Ge.drew ?_ | with_reducible refine Ge.drewN ?_ _ | with_reducible refine Ge.alloc ?_ _ | (with_reducible refine Ge.setCell ?_ (by first | (simp; done) | omega | (simp; omega)) _) | with_reducible refine Ge.trans ?_ (by assumption)))⟩

end Go.Proofs.Ytmcnfhpjjmbdmaa
