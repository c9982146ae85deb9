/- GcdOf, RatioOk, RatioOf, in the program and in the reference. l03Drop, l03Canon of the reference. No condition. Plain law: tilings as flat lists of integers (x, y, size). No condition. Tilings: byPlace, sides, TilingOk of both sides. No condition. NetOk of impl. No condition. NetOk of impl: the walk. No condition. -/
import Derived.Test.YtipiiimemmkdgaaWIn
import Derived.Test.YtipiiimemmkdgaaPlRatio
import Derived.Test.YtipiiimemmkdgaaWNetAt
import Derived.Test.YtipiiimemmkdgaaWGeY
import Derived.Test.YtipiiimemmkdgaaWFlat
import Derived.Test.YtipiiimemmkdgaaWLaw
import Derived.Test.YtipiiimemmkdgaaWSl
import Derived.Test.YtipiiimemmkdgaaPlNetOk
import Derived.Test.YtipiiimemmkdgaaWToInt
import Derived.Deep.DeepCutAuto
namespace Go.Proofs.Ytipiiimemmkdgaa

open Go.RowKit

theorem iSize (n : Int) (w : World) (h0 : -9223372036854775808 ≤ n) (h1 : n ≤ 9223372036854775807) :
    Calls Try.prog 36 #[.int .i64 n] w fun e w' => e = .returned (.int .u64 (n.natAbs : Int)) ∧ w = w' := by
  by_cases h : n < 0
  · have e1 : IntKind.u64.wrap n = n + 18446744073709551616 := by simp [IntKind.wrap, IntKind.signed, IntKind.bits]; omega
    have e2 : IntKind.u64.wrap (-(n + 18446744073709551616)) = -n := by simp [IntKind.wrap, IntKind.signed, IntKind.bits]; omega
    go_enter Try.func36, Try.ntmps36
    go_wp2_with fail
    go_ret
    exact ⟨ret_int (by omega), rfl⟩
  · go_enter Try.func36, Try.ntmps36
    go_wp2_with fail
    go_ret
    exact ⟨ret_int (by omega), rfl⟩

set_option maxHeartbeats 400000 in
theorem iCommon (a b : Nat) (w : World) (ha : a ≤ 9223372036854775808) (hb : b ≤ 9223372036854775808) :
    Calls Try.prog 35 #[.int .u64 a, .int .u64 b] w fun e w' => e = .returned (.int .u64 (Nat.gcd a b : Nat)) ∧ Ge w w' := by
  go_enter Try.func35, Try.ntmps35
  go_wp2_with fail
  go_loopw [0, 1] (fun x y wr => ∃ p q : Nat, x = .int .u64 p ∧ y = .int .u64 q ∧ p ≤ 9223372036854775808 ∧ q ≤ 9223372036854775808 ∧ Hid (Nat.gcd a b = Nat.gcd p q) ∧ Ge w wr) (fun _ y _ => (intOf y).toNat)
  case atStart => exact ⟨a, b, rfl, rfl, ha, hb, rfl, Ge.refl _⟩
  case round =>
    obtain ⟨p, q, rfl, rfl, hp, hq, H, hg⟩ := hrel
    by_cases h0 : q = 0
    · subst h0
      go_wp2_with fail
      go_ret
      exact ⟨ret_int (by rw [H.out, Nat.gcd_zero_right]), hg⟩
    · have t : ((q : Int) != 0) = true := by simp [h0]
      have t' : ((q : Int) == 0) = false := by simp [h0]
      have hq0 : 0 < q := by omega
      have hm := Nat.mod_lt p hq0
      have H2 : Hid (Nat.gcd a b = Nat.gcd q (p % q)) := by rw [H.out, Nat.gcd_comm p q, Nat.gcd_rec q p, Nat.gcd_comm]; exact rfl
      clear h0 H
      go_wp2_with fail
      go_quiet (fail)
      go_wp2_with fail
      go_roundw
      case rel => exact ⟨q, p % q, by go_num, by go_num, hq, by omega, H2, by (repeat (first | with_reducible exact Ge.refl _ | assumption | with_reducible refine Ge.drew ?_ | with_reducible refine Ge.drewN ?_ _ | with_reducible refine Ge.alloc ?_ _ | (with_reducible refine Ge.setCell ?_ (by first | (simp; done) | omega | (simp; omega)) _) | with_reducible refine Ge.trans ?_ (by assumption)))⟩
      case measure => simp [intOf]; omega

/-- An int that is not the least one. -/
def Mid (n : Int) : Prop := -9223372036854775807 ≤ n ∧ n ≤ 9223372036854775807
theorem mid {n : Int} (h0 : -9223372036854775807 ≤ n) (h1 : n ≤ 9223372036854775807) : Mid n := ⟨h0, h1⟩

set_option maxHeartbeats 400000 in
theorem iGcdOf (a b : Int) (w : World) (ha : Mid a) (hb : Mid b) :
    Calls Try.prog 38 #[.int .i64 a, .int .i64 b] w fun e w' => e = .returned (.int .i64 (gcdN a b : Nat)) ∧ Ge w w' := by
  obtain ⟨a0, a1⟩ := ha
  obtain ⟨b0, b1⟩ := hb
  have t1 : (a == -9223372036854775808) = false := by simp; omega
  have t2 : (b == -9223372036854775808) = false := by simp; omega
  have hg : Nat.gcd a.natAbs b.natAbs ≤ 9223372036854775807 := by
    by_cases h : a.natAbs = 0
    · rw [h, Nat.gcd_zero_left]; omega
    · have := Nat.gcd_le_left b.natAbs (show 0 < a.natAbs by omega); omega
  obtain ⟨g, hg'⟩ : ∃ g, Nat.gcd a.natAbs b.natAbs = g := ⟨_, rfl⟩
  rw [hg'] at hg
  have HG := Lib.hid hg'
  clear hg'
  have HC := Lib.hid (fun w => by have := iCommon a.natAbs b.natAbs w (by omega) (by omega); rwa [HG.out] at this : ∀ w, Calls Try.prog 35 #[.int .u64 (a.natAbs : Int), .int .u64 (b.natAbs : Int)] w fun e w' => e = .returned (.int .u64 (g : Int)) ∧ Ge w w')
  have e1 : IntKind.i64.wrap (g : Int) = g := IntWalk.i64_in _ (by omega)
  go_enter Try.func38, Try.ntmps38
  go_wp2_with (first | (go_at_call 36; ((with_reducible refine (iSize _ _ (by omega) (by omega)).mono ?_); rintro e w' ⟨rfl, rfl⟩)) | (go_at_call 35; ((with_reducible refine (HC.out _).mono ?_); rintro e w' ⟨rfl, hb⟩)))
  go_ret
  exact ⟨ret_int (by rw [← HG.out]; exact rfl), by (repeat (first | with_reducible exact Ge.refl _ | assumption | with_reducible refine Ge.drew ?_ | with_reducible refine Ge.drewN ?_ _ | with_reducible refine Ge.alloc ?_ _ | (with_reducible refine Ge.setCell ?_ (by first | (simp; done) | omega | (simp; omega)) _) | with_reducible refine Ge.trans ?_ (by assumption)))⟩

set_option maxHeartbeats 400000 in
theorem iRatioOk (n d : Int) (w : World) :
    Calls Try.prog 26 #[.agg #[.int .i64 n, .int .i64 d]] w fun e w' => e = .returned (.bool (ratioOk n d)) ∧ Ge w w' := by
  by_cases h1 : 1 ≤ d
  · by_cases h2 : d ≤ 1000000000000000
    · by_cases h3 : -1000000000000000000 ≤ n
      · by_cases h4 : n ≤ 1000000000000000000
        · by_cases h5 : gcdN n d = 1
          · have t : (((gcdN n d : Nat) : Int) == 1) = true := by simp [h5]
            have H5 := Lib.hid h5
            clear h5
            go_enter Try.func26, Try.ntmps26
            go_wp2_with (go_at_call 38; ((with_reducible refine (iGcdOf _ _ _ (mid (by omega) (by omega)) (mid (by omega) (by omega))).mono ?_); rintro e w' ⟨rfl, hb⟩))
            go_ret
            exact ⟨ret_bool (by simp [ratioOk, h1, h2, h3, h4, H5.out]), by (repeat (first | with_reducible exact Ge.refl _ | assumption | with_reducible refine Ge.drew ?_ | with_reducible refine Ge.drewN ?_ _ | with_reducible refine Ge.alloc ?_ _ | (with_reducible refine Ge.setCell ?_ (by first | (simp; done) | omega | (simp; omega)) _) | with_reducible refine Ge.trans ?_ (by assumption)))⟩
          · have t : (((gcdN n d : Nat) : Int) == 1) = false := by simp; omega
            have H5 := Lib.hid h5
            clear h5
            go_enter Try.func26, Try.ntmps26
            go_wp2_with (go_at_call 38; ((with_reducible refine (iGcdOf _ _ _ (mid (by omega) (by omega)) (mid (by omega) (by omega))).mono ?_); rintro e w' ⟨rfl, hb⟩))
            go_ret
            exact ⟨ret_bool (by simp [ratioOk, h1, h2, h3, h4, H5.out]), by (repeat (first | with_reducible exact Ge.refl _ | assumption | with_reducible refine Ge.drew ?_ | with_reducible refine Ge.drewN ?_ _ | with_reducible refine Ge.alloc ?_ _ | (with_reducible refine Ge.setCell ?_ (by first | (simp; done) | omega | (simp; omega)) _) | with_reducible refine Ge.trans ?_ (by assumption)))⟩
        · go_enter Try.func26, Try.ntmps26
          go_wp2_with fail
          go_ret
          exact ⟨ret_bool (by simp [ratioOk]; omega), by (repeat (first | with_reducible exact Ge.refl _ | assumption | with_reducible refine Ge.drew ?_ | with_reducible refine Ge.drewN ?_ _ | with_reducible refine Ge.alloc ?_ _ | (with_reducible refine Ge.setCell ?_ (by first | (simp; done) | omega | (simp; omega)) _) | with_reducible refine Ge.trans ?_ (by assumption)))⟩
      · go_enter Try.func26, Try.ntmps26
        go_wp2_with fail
        go_ret
        exact ⟨ret_bool (by simp [ratioOk]; omega), by (repeat (first | with_reducible exact Ge.refl _ | assumption | with_reducible refine Ge.drew ?_ | with_reducible refine Ge.drewN ?_ _ | with_reducible refine Ge.alloc ?_ _ | (with_reducible refine Ge.setCell ?_ (by first | (simp; done) | omega | (simp; omega)) _) | with_reducible refine Ge.trans ?_ (by assumption)))⟩
    · go_enter Try.func26, Try.ntmps26
      go_wp2_with fail
      go_ret
      exact ⟨ret_bool (by simp [ratioOk]; omega), by (repeat (first | with_reducible exact Ge.refl _ | assumption | with_reducible refine Ge.drew ?_ | with_reducible refine Ge.drewN ?_ _ | with_reducible refine Ge.alloc ?_ _ | (with_reducible refine Ge.setCell ?_ (by first | (simp; done) | omega | (simp; omega)) _) | with_reducible refine Ge.trans ?_ (by assumption)))⟩
  · go_enter Try.func26, Try.ntmps26
    go_wp2_with fail
    go_ret
    exact ⟨ret_bool (by simp [ratioOk]; omega), by (repeat (first | with_reducible exact Ge.refl _ | assumption | with_reducible refine Ge.drew ?_ | with_reducible refine Ge.drewN ?_ _ | with_reducible refine Ge.alloc ?_ _ | (with_reducible refine Ge.setCell ?_ (by first | (simp; done) | omega | (simp; omega)) _) | with_reducible refine Ge.trans ?_ (by assumption)))⟩

/-- A fraction as a value. -/
def rv (r : Rt) : Value := .agg #[.int .i64 r.n, .int .i64 r.d]
theorem rv_def (r : Rt) : rv r = .agg #[.int .i64 r.n, .int .i64 r.d] := rfl

set_option maxHeartbeats 800000 in
theorem iRatioOf (n d : Int) (w : World) (hn : Mid n) (hd : Mid d) :
    Calls Try.prog 22 #[.int .i64 n, .int .i64 d] w fun e w' => e = .returned (.agg #[.int .i64 (ratioOf n d).n, .int .i64 (ratioOf n d).d]) ∧ Ge w w' := by
  obtain ⟨n0, n1⟩ := hn
  obtain ⟨d0, d1⟩ := hd
  by_cases h0 : d = 0
  · subst h0
    have HR : Hid (ratioOf n 0 = ⟨0, 0⟩) := by simp [ratioOf, zeroR]; exact trivial
    go_enter Try.func22, Try.ntmps22
    go_wp2_with fail
    refine bodyPost_ret (v := .agg #[.int .i64 0, .int .i64 0]) (by simp [results, Try.results22, go_sem]) rfl ⟨by rw [HR.out], by (repeat (first | with_reducible exact Ge.refl _ | assumption | with_reducible refine Ge.drew ?_ | with_reducible refine Ge.drewN ?_ _ | with_reducible refine Ge.alloc ?_ _ | (with_reducible refine Ge.setCell ?_ (by first | (simp; done) | omega | (simp; omega)) _) | with_reducible refine Ge.trans ?_ (by assumption)))⟩
  · have t0 : (d == 0) = false := by simp [h0]
    have hg := gcdN_pos (n := n) h0
    have hgl := gcdN_le n d h0
    obtain ⟨a, ha⟩ := gcdN_dvd_left n d
    obtain ⟨b, hb⟩ := gcdN_dvd_right n d
    have ea : n.natAbs / gcdN n d = a := by rw [ha]; exact Nat.mul_div_cancel_left a hg
    have eb : d.natAbs / gcdN n d = b := by rw [hb]; exact Nat.mul_div_cancel_left b hg
    have la : a ≤ n.natAbs := by rw [← ea]; exact Nat.div_le_self _ _
    have lb : b ≤ d.natAbs := by rw [← eb]; exact Nat.div_le_self _ _
    obtain ⟨x, hx⟩ : ∃ x, n.natAbs = x := ⟨_, rfl⟩
    obtain ⟨y, hy⟩ : ∃ y, d.natAbs = y := ⟨_, rfl⟩
    obtain ⟨g, hg'⟩ : ∃ g, gcdN n d = g := ⟨_, rfl⟩
    have HR : Hid (ratioOf n d = if 1000000000000000000 < a ∨ 1000000000000000 < b then zeroR else ⟨if (n < 0) ↔ (d < 0) then (a : Int) else -(a : Int), (b : Int)⟩) := by
      unfold ratioOf; rw [if_neg h0]; simp only [ea, eb]; exact trivial
    have HC := Lib.hid (fun w => by have := iCommon x y w (by omega) (by omega); rwa [show Nat.gcd x y = g by rw [← hg', ← hx, ← hy]; rfl] at this : ∀ w, Calls Try.prog 35 #[.int .u64 (x : Int), .int .u64 (y : Int)] w fun e w' => e = .returned (.int .u64 (g : Int)) ∧ Ge w w')
    have HSn := Lib.hid (fun w => by have := iSize n w (by omega) (by omega); rwa [hx] at this : ∀ w, Calls Try.prog 36 #[.int .i64 n] w fun e w' => e = .returned (.int .u64 (x : Int)) ∧ w = w')
    have HSd := Lib.hid (fun w => by have := iSize d w (by omega) (by omega); rwa [hy] at this : ∀ w, Calls Try.prog 36 #[.int .i64 d] w fun e w' => e = .returned (.int .u64 (y : Int)) ∧ w = w')
    rw [hx, hg'] at ea
    rw [hy, hg'] at eb
    rw [hg'] at hg hgl
    rw [hy] at hgl
    have ea' : (x : Int) / (g : Int) = (a : Int) := by rw [← ea]; exact rfl
    have eb' : (y : Int) / (g : Int) = (b : Int) := by rw [← eb]; exact rfl
    have tg : ((g : Int) == 0) = false := by simp; omega
    have xb : x ≤ 9223372036854775807 := by omega
    have yb : y ≤ 9223372036854775807 := by omega
    have gb : g ≤ 9223372036854775807 := by omega
    have ab : a ≤ 9223372036854775807 := by omega
    have bb : b ≤ 9223372036854775807 := by omega
    clear ha hb ea eb la lb hx hy hg' hgl h0
    by_cases c1 : 1000000000000000000 < a ∨ 1000000000000000 < b
    · have HZ : Hid (ratioOf n d = ⟨0, 0⟩) := by rw [HR.out, if_pos c1]; exact rfl
      clear HR
      go_enter Try.func22, Try.ntmps22
      go_wp2_with (first | (go_at_call 35; ((with_reducible refine (HC.out _).mono ?_); rintro e w' ⟨rfl, hGe⟩); obtain ⟨hCe, hFr, hSz⟩ := Ge.rules hGe; (try simp at hSz); have hL0 : w.heap.size < w'.heap.size := (by omega)) | (go_at_call 36; ((with_reducible refine (HSn.out _).mono ?_); rintro e w' ⟨rfl, rfl⟩)) | (go_at_call 36; ((with_reducible refine (HSd.out _).mono ?_); rintro e w' ⟨rfl, rfl⟩)))
      all_goals exact bodyPost_ret (v := .agg #[.int .i64 0, .int .i64 0]) (by simp [results, Try.results22, go_sem, *]) rfl ⟨by rw [HZ.out], by (repeat (first | with_reducible exact Ge.refl _ | assumption | with_reducible refine Ge.drew ?_ | with_reducible refine Ge.drewN ?_ _ | with_reducible refine Ge.alloc ?_ _ | (with_reducible refine Ge.setCell ?_ (by first | (simp; done) | omega | (simp; omega)) _) | with_reducible refine Ge.trans ?_ (by assumption)))⟩
    · obtain ⟨c2, c3⟩ : a ≤ 1000000000000000000 ∧ b ≤ 1000000000000000 := by omega
      have HZ : Hid (ratioOf n d = ⟨if (n < 0) ↔ (d < 0) then (a : Int) else -(a : Int), (b : Int)⟩) := by rw [HR.out, if_neg c1]; exact rfl
      clear HR c1
      have e3 : IntKind.i64.wrap (a : Int) = a := IntWalk.i64_in _ (by omega)
      have e4 : IntKind.i64.wrap (b : Int) = b := IntWalk.i64_in _ (by omega)
      by_cases s1 : n < 0
      · by_cases s2 : d < 0
        · have HZ2 : Hid (ratioOf n d = ⟨(a : Int), (b : Int)⟩) := by rw [HZ.out, if_pos (by simp [s1, s2])]; exact rfl
          clear HZ
          have q1 : decide (n < 0) = true := by simp; omega
          have q2 : decide (d < 0) = true := by simp; omega
          go_enter Try.func22, Try.ntmps22
          go_wp2_with (first | (go_at_call 35; ((with_reducible refine (HC.out _).mono ?_); rintro e w' ⟨rfl, hGe⟩); obtain ⟨hCe, hFr, hSz⟩ := Ge.rules hGe; (try simp at hSz); have hL0 : w.heap.size < w'.heap.size := (by omega)) | (go_at_call 36; ((with_reducible refine (HSn.out _).mono ?_); rintro e w' ⟨rfl, rfl⟩)) | (go_at_call 36; ((with_reducible refine (HSd.out _).mono ?_); rintro e w' ⟨rfl, rfl⟩)))
          exact bodyPost_ret (v := .agg #[.int .i64 ((a : Int)), .int .i64 (b : Int)]) (by simp [results, Try.results22, go_sem, *]) rfl ⟨by rw [HZ2.out], by (repeat (first | with_reducible exact Ge.refl _ | assumption | with_reducible refine Ge.drew ?_ | with_reducible refine Ge.drewN ?_ _ | with_reducible refine Ge.alloc ?_ _ | (with_reducible refine Ge.setCell ?_ (by first | (simp; done) | omega | (simp; omega)) _) | with_reducible refine Ge.trans ?_ (by assumption)))⟩
        · have HZ2 : Hid (ratioOf n d = ⟨-(a : Int), (b : Int)⟩) := by rw [HZ.out, if_neg (by simp [s1, s2])]; exact rfl
          clear HZ
          have q1 : decide (n < 0) = true := by simp; omega
          have q2 : decide (d < 0) = false := by simp; omega
          go_enter Try.func22, Try.ntmps22
          go_wp2_with (first | (go_at_call 35; ((with_reducible refine (HC.out _).mono ?_); rintro e w' ⟨rfl, hGe⟩); obtain ⟨hCe, hFr, hSz⟩ := Ge.rules hGe; (try simp at hSz); have hL0 : w.heap.size < w'.heap.size := (by omega)) | (go_at_call 36; ((with_reducible refine (HSn.out _).mono ?_); rintro e w' ⟨rfl, rfl⟩)) | (go_at_call 36; ((with_reducible refine (HSd.out _).mono ?_); rintro e w' ⟨rfl, rfl⟩)))
          exact bodyPost_ret (v := .agg #[.int .i64 (-(a : Int)), .int .i64 (b : Int)]) (by simp [results, Try.results22, go_sem, *]) rfl ⟨by rw [HZ2.out], by (repeat (first | with_reducible exact Ge.refl _ | assumption | with_reducible refine Ge.drew ?_ | with_reducible refine Ge.drewN ?_ _ | with_reducible refine Ge.alloc ?_ _ | (with_reducible refine Ge.setCell ?_ (by first | (simp; done) | omega | (simp; omega)) _) | with_reducible refine Ge.trans ?_ (by assumption)))⟩
      · by_cases s2 : d < 0
        · have HZ2 : Hid (ratioOf n d = ⟨-(a : Int), (b : Int)⟩) := by rw [HZ.out, if_neg (by simp [s1, s2])]; exact rfl
          clear HZ
          have q1 : decide (n < 0) = false := by simp; omega
          have q2 : decide (d < 0) = true := by simp; omega
          go_enter Try.func22, Try.ntmps22
          go_wp2_with (first | (go_at_call 35; ((with_reducible refine (HC.out _).mono ?_); rintro e w' ⟨rfl, hGe⟩); obtain ⟨hCe, hFr, hSz⟩ := Ge.rules hGe; (try simp at hSz); have hL0 : w.heap.size < w'.heap.size := (by omega)) | (go_at_call 36; ((with_reducible refine (HSn.out _).mono ?_); rintro e w' ⟨rfl, rfl⟩)) | (go_at_call 36; ((with_reducible refine (HSd.out _).mono ?_); rintro e w' ⟨rfl, rfl⟩)))
          exact bodyPost_ret (v := .agg #[.int .i64 (-(a : Int)), .int .i64 (b : Int)]) (by simp [results, Try.results22, go_sem, *]) rfl ⟨by rw [HZ2.out], by (repeat (first | with_reducible exact Ge.refl _ | assumption | with_reducible refine Ge.drew ?_ | with_reducible refine Ge.drewN ?_ _ | with_reducible refine Ge.alloc ?_ _ | (with_reducible refine Ge.setCell ?_ (by first | (simp; done) | omega | (simp; omega)) _) | with_reducible refine Ge.trans ?_ (by assumption)))⟩
        · have HZ2 : Hid (ratioOf n d = ⟨(a : Int), (b : Int)⟩) := by rw [HZ.out, if_pos (by simp [s1, s2])]; exact rfl
          clear HZ
          have q1 : decide (n < 0) = false := by simp; omega
          have q2 : decide (d < 0) = false := by simp; omega
          go_enter Try.func22, Try.ntmps22
          go_wp2_with (first | (go_at_call 35; ((with_reducible refine (HC.out _).mono ?_); rintro e w' ⟨rfl, hGe⟩); obtain ⟨hCe, hFr, hSz⟩ := Ge.rules hGe; (try simp at hSz); have hL0 : w.heap.size < w'.heap.size := (by omega)) | (go_at_call 36; ((with_reducible refine (HSn.out _).mono ?_); rintro e w' ⟨rfl, rfl⟩)) | (go_at_call 36; ((with_reducible refine (HSd.out _).mono ?_); rintro e w' ⟨rfl, rfl⟩)))
          exact bodyPost_ret (v := .agg #[.int .i64 ((a : Int)), .int .i64 (b : Int)]) (by simp [results, Try.results22, go_sem, *]) rfl ⟨by rw [HZ2.out], by (repeat (first | with_reducible exact Ge.refl _ | assumption | with_reducible refine Ge.drew ?_ | with_reducible refine Ge.drewN ?_ _ | with_reducible refine Ge.alloc ?_ _ | (with_reducible refine Ge.setCell ?_ (by first | (simp; done) | omega | (simp; omega)) _) | with_reducible refine Ge.trans ?_ (by assumption)))⟩


theorem ratioOf_alt (n d : Int) (a b : Nat) (h0 : d ≠ 0) (ea : n.natAbs / gcdN n d = a) (eb : d.natAbs / gcdN n d = b) :
    ratioOf n d = if ratioOk (if (n < 0) ↔ (d < 0) then (a : Int) else -(a : Int)) (b : Int) = true then ⟨if (n < 0) ↔ (d < 0) then (a : Int) else -(a : Int), (b : Int)⟩ else ⟨0, 0⟩ := by
  have h := ratioOf_ok n d
  have hr : ratioOf n d = if 1000000000000000000 < a ∨ 1000000000000000 < b then zeroR else ⟨if (n < 0) ↔ (d < 0) then (a : Int) else -(a : Int), (b : Int)⟩ := by
    unfold ratioOf; rw [if_neg h0]; simp only [ea, eb]
  rw [hr] at h ⊢
  by_cases c : 1000000000000000000 < a ∨ 1000000000000000 < b
  · rw [if_pos c, if_neg]
    · rfl
    · rw [ratioOk_iff]
      rintro ⟨_, h2, h3, h4, _⟩
      split at h3 <;> split at h4 <;> omega
  · rw [if_neg c] at h ⊢
    have hb0 : b ≠ 0 := by
      intro e
      have hg := gcdN_pos (n := n) h0
      have hl := gcdN_le n d h0
      rw [e] at eb
      have := (Nat.div_eq_zero_iff.1 eb)
      omega
    rcases h with h | h
    · exfalso
      have := congrArg Rt.d h
      simp [zeroR] at this
      omega
    · rw [if_pos h]

end Go.Proofs.Ytipiiimemmkdgaa

namespace Go.Proofs.Ytipiiimemmkdgaa
set_option maxRecDepth 100000
open Go.ChangeShapes Go.WideShapes Go.ChangeAt Go.RowKit Go.Joins

/-- The cells of wire k, in every later world. -/
theorem wires_at {w : World} {v : Value} {L : List Wr} {n : Nat} (hs : SlF w v n 3 (flatW L)) (hn : L.length = n) : ∃ p cap, v = .slice p n cap ∧ ∀ wr, Ge w wr → ∀ k, k < n → ∃ b o, p = some ⟨b, o, none⟩ ∧ wr.cell? ⟨b, o + k * 3, none⟩ = some (.int .i64 (nthW L k).a) ∧ wr.cell? ⟨b, o + k * 3 + 1, none⟩ = some (.int .i64 (nthW L k).b) ∧ wr.cell? ⟨b, o + k * 3 + 2, none⟩ = some (.int .i64 (nthW L k).w) := by
  obtain ⟨p, cap, rfl, hc⟩ := hs.open
  refine ⟨p, cap, rfl, fun wr g k hk => ?_⟩
  obtain ⟨b, o, hp, c0, c1, c2⟩ := wire_cells hc hn hk
  exact ⟨b, o, hp, g.keep c0, g.keep c1, g.keep c2⟩

/-- The greatest common divisor of a scale and weights. -/
def gcdF (S : Int) (L : List Wr) : Int := L.foldl (fun g e => (gcdN g e.w : Int)) S
theorem gcdF_snoc (S : Int) (L : List Wr) (e : Wr) : gcdF S (L ++ [e]) = (gcdN (gcdF S L) e.w : Int) := by simp [gcdF]
theorem gcdN_le_left {a b : Int} (h : 0 < a) : (0 : Int) < (gcdN a b : Int) ∧ (gcdN a b : Int) ≤ a := by
  have h1 := gcdN_dvd_left a b
  have h2 : 0 < gcdN a b := Nat.pos_of_ne_zero (fun e => by rw [e] at h1; have := Nat.eq_zero_of_zero_dvd h1; omega)
  have h3 := Nat.le_of_dvd (by omega) h1
  omega
theorem gcdF_bd : ∀ (L : List Wr) {S : Int}, 0 < S → 0 < gcdF S L ∧ gcdF S L ≤ S
  | [], S, h => ⟨h, Int.le_refl _⟩
  | e :: l, S, h => by
    have h1 := gcdN_le_left (b := e.w) h
    have h2 := gcdF_bd l (S := (gcdN S e.w : Int)) h1.1
    have h3 : gcdF S (e :: l) = gcdF (gcdN S e.w : Int) l := rfl
    rw [h3]
    omega
theorem tdiv_in {x g : Int} (hx : 0 ≤ x) (hg : 0 < g) : 0 ≤ x.tdiv g ∧ x.tdiv g ≤ x := by
  rw [Int.tdiv_eq_ediv_of_nonneg hx]
  exact ⟨Int.ediv_nonneg hx (by omega), Int.ediv_le_self _ hx⟩
/-- The weights divided. -/
def cutW (g : Int) (L : List Wr) : List Wr := L.map fun e => ⟨e.a, e.b, e.w.tdiv g⟩
theorem cutW_length (g : Int) (L : List Wr) : (cutW g L).length = L.length := by simp [cutW]
theorem cutW_snoc (g : Int) (L : List Wr) (e : Wr) : cutW g (L ++ [e]) = cutW g L ++ [⟨e.a, e.b, e.w.tdiv g⟩] := by simp [cutW]

end Go.Proofs.Ytipiiimemmkdgaa

namespace Go.Proofs.Ytipiiimemmkdgaa

open Go.RowKit

def sx (xs : List Int) (k : Nat) : Int := nth xs (k * 3)
def sy (xs : List Int) (k : Nat) : Int := nth xs (k * 3 + 1)
def ss (xs : List Int) (k : Nat) : Int := nth xs (k * 3 + 2)
def ordSq (xs : List Int) (j k : Nat) : Prop := sy xs j < sy xs k ∨ sy xs j = sy xs k ∧ sx xs j < sx xs k
def overSq (xs : List Int) (a b : Nat) : Prop := sx xs a < sx xs b + ss xs b ∧ sx xs b < sx xs a + ss xs a ∧ sy xs a < sy xs b + ss xs b ∧ sy xs b < sy xs a + ss xs a
def okSq (xs : List Int) (k : Nat) : Prop := 0 ≤ sx xs k ∧ sx xs k ≤ 200 ∧ 0 ≤ sy xs k ∧ sy xs k ≤ 200 ∧ 1 ≤ ss xs k ∧ ss xs k ≤ 200
def goodSq (xs : List Int) (k : Nat) : Prop := okSq xs k ∧ (0 < k → ordSq xs (k - 1) k) ∧ ∀ j, j < k → ¬ overSq xs k j
def areaSq (xs : List Int) : Nat → Int
  | 0 => 0
  | k + 1 => areaSq xs k + ss xs k * ss xs k
def minX (xs : List Int) : Nat → Int
  | 0 => 200
  | k + 1 => min (minX xs k) (sx xs k)
def minY (xs : List Int) : Nat → Int
  | 0 => 200
  | k + 1 => min (minY xs k) (sy xs k)
def rightSq (xs : List Int) : Nat → Int
  | 0 => 0
  | k + 1 => max (rightSq xs k) (sx xs k + ss xs k)
def lowSq (xs : List Int) : Nat → Int
  | 0 => 0
  | k + 1 => max (lowSq xs k) (sy xs k + ss xs k)
def tileP (n : Nat) (xs : List Int) : Prop := 1 ≤ n ∧ n ≤ 12 ∧ (∀ k, k < n → goodSq xs k) ∧ minX xs n = 0 ∧ minY xs n = 0 ∧ areaSq xs n = rightSq xs n * lowSq xs n
open Classical in

noncomputable def tileB (n : Nat) (xs : List Int) : Bool := if tileP n xs then true else false
theorem tileB_true {n : Nat} {xs : List Int} (h : tileP n xs) : tileB n xs = true := by simp [tileB, h]
theorem tileB_false {n : Nat} {xs : List Int} (h : ¬ tileP n xs) : tileB n xs = false := by simp [tileB, h]

theorem area_bd {xs : List Int} : ∀ (k : Nat), (∀ j, j < k → okSq xs j) → 0 ≤ areaSq xs k ∧ areaSq xs k ≤ 40000 * k
  | 0, _ => by simp [areaSq]
  | k + 1, h => by
    obtain ⟨a, b⟩ := area_bd k (fun j hj => h j (by omega))
    obtain ⟨_, _, _, _, c, d⟩ := h k (by omega)
    have e : ss xs k * ss xs k ≤ 200 * 200 := Int.mul_le_mul d d (by omega) (by omega)
    have f : 0 ≤ ss xs k * ss xs k := Int.mul_nonneg (by omega) (by omega)
    simp only [areaSq]
    omega
theorem right_bd {xs : List Int} : ∀ (k : Nat), (∀ j, j < k → okSq xs j) → 0 ≤ rightSq xs k ∧ rightSq xs k ≤ 400
  | 0, _ => by simp [rightSq]
  | k + 1, h => by
    obtain ⟨a, b⟩ := right_bd k (fun j hj => h j (by omega))
    obtain ⟨_, _, _, _, c, d⟩ := h k (by omega)
    simp only [rightSq]
    omega
theorem low_bd {xs : List Int} : ∀ (k : Nat), (∀ j, j < k → okSq xs j) → 0 ≤ lowSq xs k ∧ lowSq xs k ≤ 400
  | 0, _ => by simp [lowSq]
  | k + 1, h => by
    obtain ⟨a, b⟩ := low_bd k (fun j hj => h j (by omega))
    obtain ⟨_, _, _, _, c, d⟩ := h k (by omega)
    simp only [lowSq]
    omega
theorem minX_bd {xs : List Int} : ∀ (k : Nat), (∀ j, j < k → okSq xs j) → 0 ≤ minX xs k ∧ minX xs k ≤ 200
  | 0, _ => by simp [minX]
  | k + 1, h => by
    obtain ⟨a, b⟩ := minX_bd k (fun j hj => h j (by omega))
    obtain ⟨_, _, _, _, c, d⟩ := h k (by omega)
    simp only [minX]
    omega
theorem minY_bd {xs : List Int} : ∀ (k : Nat), (∀ j, j < k → okSq xs j) → 0 ≤ minY xs k ∧ minY xs k ≤ 200
  | 0, _ => by simp [minY]
  | k + 1, h => by
    obtain ⟨a, b⟩ := minY_bd k (fun j hj => h j (by omega))
    obtain ⟨_, _, _, _, c, d⟩ := h k (by omega)
    simp only [minY]
    omega
/-- In order, the first has the least y. -/
theorem minY_first {xs : List Int} : ∀ (k : Nat), (∀ j, j < k + 1 → goodSq xs j) → minY xs (k + 1) = sy xs 0 ∧ sy xs 0 ≤ sy xs k
  | 0, h => by
    obtain ⟨⟨_, _, _, a, _⟩, _⟩ := h 0 (by omega)
    simp only [minY]; omega
  | k + 1, h => by
    obtain ⟨a, b⟩ := minY_first k (fun j hj => h j (by omega))
    have c := (h (k + 1) (by omega)).2.1 (by omega)
    simp only [Nat.add_sub_cancel] at c
    have d : minY xs (k + 1 + 1) = min (minY xs (k + 1)) (sy xs (k + 1)) := rfl
    rw [d, a]
    unfold ordSq at c
    omega
/-- The least x, from the first on. -/
def minX1 (xs : List Int) : Nat → Int
  | 0 => sx xs 0
  | k + 1 => min (minX1 xs k) (sx xs k)
theorem minX1_eq {xs : List Int} : ∀ (k : Nat), (∀ j, j < k + 1 → okSq xs j) → minX1 xs (k + 1) = minX xs (k + 1)
  | 0, h => by
    obtain ⟨_, b, _⟩ := h 0 (by omega)
    simp only [minX1, minX]; omega
  | k + 1, h => by
    have a := minX1_eq k (fun j hj => h j (by omega))
    show min (minX1 xs (k + 1)) _ = min (minX xs (k + 1)) _
    rw [a]

/-- -1, 0 or 1 -/
def cmpI (x y : Int) : Int := if x < y then -1 else if y < x then 1 else 0
def cmpSq (x1 y1 x2 y2 : Int) : Int := if cmpI y1 y2 ≠ 0 then cmpI y1 y2 else cmpI x1 x2
theorem cmpSq_lt {x1 y1 x2 y2 : Int} : cmpSq x1 y1 x2 y2 < 0 ↔ y1 < y2 ∨ y1 = y2 ∧ x1 < x2 := by
  unfold cmpSq cmpI
  repeat' split
  all_goals omega
end Go.Proofs.Ytipiiimemmkdgaa

namespace Go.Proofs.Ytipiiimemmkdgaa
set_option maxRecDepth 100000
open Go.ChangeShapes Go.WideShapes Go.ChangeAt Go.RowKit Go.Joins

theorem isNaNInt (x : Int) (w : World) : Calls Try.prog 63 #[.int .i64 x] w fun e w' => e = .returned (.bool false) ∧ w = w' := by
  have h : (x != x) = false := by simp
  go_enter Try.func63, Try.ntmps63
  go_wp2_with fail
  go_ret
  exact ⟨rfl, rfl⟩

theorem compareInt (x y : Int) (w : World) : Calls Try.prog 48 #[.int .i64 x, .int .i64 y] w fun e w' => e = .returned (.int .i64 (cmpI x y)) ∧ w = w' := by
  by_cases h1 : x < y
  · go_enter Try.func48, Try.ntmps48
    go_wp2_with (go_at_call 63; ((with_reducible refine (isNaNInt _ _).mono ?_); rintro e w' ⟨rfl, rfl⟩))
    go_ret
    exact ⟨ret_int (by simp [cmpI, h1]), rfl⟩
  · by_cases h2 : y < x
    · go_enter Try.func48, Try.ntmps48
      go_wp2_with (go_at_call 63; ((with_reducible refine (isNaNInt _ _).mono ?_); rintro e w' ⟨rfl, rfl⟩))
      go_ret
      exact ⟨ret_int (by simp [cmpI, h1, h2]), rfl⟩
    · have h3 : cmpI x y = 0 := by unfold cmpI; rw [if_neg h1, if_neg h2]
      go_enter Try.func48, Try.ntmps48
      go_wp2_with (go_at_call 63; ((with_reducible refine (isNaNInt _ _).mono ?_); rintro e w' ⟨rfl, rfl⟩))
      go_ret
      exact ⟨ret_int h3.symm, rfl⟩

def orI (x y : Int) : Int := if x ≠ 0 then x else y
theorem orI_ne {x y : Int} (h : ¬ x = 0) : orI x y = x := by simp [orI, h]
theorem orI_eq {x y : Int} (h : x = 0) : orI x y = y := by simp [orI, h]
set_option maxHeartbeats 400000 in
theorem orInt (x y : Int) (b : Nat) (w : World) (h0 : w.cell? ⟨b, 0, none⟩ = some (.int .i64 x)) (h1 : w.cell? ⟨b, 1, none⟩ = some (.int .i64 y)) :
    Calls Try.prog 47 #[.slice (some ⟨b, 0, none⟩) 2 2] w fun e w' => e = .returned (.int .i64 (orI x y)) ∧ w = w' := by
  go_enter Try.func47, Try.ntmps47
  go_wp2_with fail
  go_loop [8] (fun i => i = .int .i64 0 ∨ i = .int .i64 1 ∧ Hid (x = 0) ∨ i = .int .i64 2 ∧ Hid (x = 0) ∧ Hid (y = 0)) (fun i => 2 - (intOf i).toNat)
  case atStart => exact .inl rfl
  case round =>
    rcases hrel with rfl | ⟨rfl, HX⟩ | ⟨rfl, HX, HY⟩
    · by_cases hx : x = 0
      · have ex : (x != 0) = false := by simp [hx]
        have HX := Lib.hid hx
        clear hx
        go_wp2_with fail
        go_round
        case rel => exact .inr (.inl ⟨rfl, HX⟩)
        case measure => simp [intOf]
      · have ex : (x != 0) = true := by simp [hx]
        go_wp2_with fail
        go_ret
        exact ⟨ret_int (orI_ne hx).symm, rfl⟩
    · by_cases hy : y = 0
      · have ey : (y != 0) = false := by simp [hy]
        have HY := Lib.hid hy
        clear hy
        go_wp2_with fail
        go_round
        case rel => exact .inr (.inr ⟨rfl, HX, HY⟩)
        case measure => simp [intOf]
      · have ey : (y != 0) = true := by simp [hy]
        go_wp2_with fail
        go_ret
        exact ⟨ret_int (orI_eq HX.out).symm, rfl⟩
    · go_wp2_with fail
      go_ret
      exact ⟨ret_int (by rw [orI_eq HX.out, HY.out]), rfl⟩

end Go.Proofs.Ytipiiimemmkdgaa

namespace Go.Proofs.Ytipiiimemmkdgaa
set_option maxRecDepth 100000
open Go.ChangeShapes Go.WideShapes Go.ChangeAt Go.RowKit Go.Joins

set_option maxHeartbeats 800000 in
theorem iByEnds (a1 b1 s1 a2 b2 s2 : Int) (w : World) :
    Calls Try.prog 33 #[.agg #[.int .i64 a1, .int .i64 b1, .int .i64 s1], .agg #[.int .i64 a2, .int .i64 b2, .int .i64 s2]] w fun e w' => e = .returned (.int .i64 (cmpSq b1 a1 b2 a2)) ∧ Ge w w' := by
  go_enter Try.func33, Try.ntmps33
  go_wp2_with fail
  go_region_held3 (fun w' => w'.cell? ⟨w.heap.size, 0, none⟩ = some (.int .i64 a1) ∧ w'.cell? ⟨w.heap.size, 1, none⟩ = some (.int .i64 b1) ∧ w'.cell? ⟨w.heap.size, 2, none⟩ = some (.int .i64 s1) ∧ w'.cell? ⟨w.heap.size + 1, 0, none⟩ = some (.int .i64 a2) ∧ w'.cell? ⟨w.heap.size + 1, 1, none⟩ = some (.int .i64 b2) ∧ w'.cell? ⟨w.heap.size + 1, 2, none⟩ = some (.int .i64 s2) ∧ Ge w w') (first | exact ⟨hb.keep (‹_ ∧ _ ∧ _ ∧ _ ∧ _ ∧ _ ∧ _›).1, hb.keep (‹_ ∧ _ ∧ _ ∧ _ ∧ _ ∧ _ ∧ _›).2.1, hb.keep (‹_ ∧ _ ∧ _ ∧ _ ∧ _ ∧ _ ∧ _›).2.2.1, hb.keep (‹_ ∧ _ ∧ _ ∧ _ ∧ _ ∧ _ ∧ _›).2.2.2.1, hb.keep (‹_ ∧ _ ∧ _ ∧ _ ∧ _ ∧ _ ∧ _›).2.2.2.2.1, hb.keep (‹_ ∧ _ ∧ _ ∧ _ ∧ _ ∧ _ ∧ _›).2.2.2.2.2.1, Ge.trans (‹_ ∧ _ ∧ _ ∧ _ ∧ _ ∧ _ ∧ _›).2.2.2.2.2.2 hb⟩ | ((refine ⟨?_, ?_, ?_, ?_, ?_, ?_, ?_⟩ <;> (repeat (first | assumption | with_reducible exact Ge.refl _ | with_reducible refine cv_drew ?_ | with_reducible refine cv_alloc ?_ | with_reducible refine cv_set ?_ | with_reducible refine cell_drew ?_ | ((with_reducible refine cell_new ?_ ?_); (focus (simp; done)); rfl) | ((with_reducible refine froz_new (v := undef) ?_ ?_); (focus (simp; done)); rfl) | with_reducible refine cell_drewN ?_ | with_reducible refine cell_alloc ?_ | ((with_reducible refine cell_set ?_ ?_); rotate_left; focus (simp; done)) | with_reducible refine froz_drew ?_ | with_reducible refine froz_set ?_ | with_reducible refine froz_alloc (by assumption) ?_ | with_reducible refine Ge.drew ?_ | with_reducible refine Ge.drewN ?_ _ | with_reducible refine Ge.alloc ?_ _ | ((with_reducible refine Ge.setCell ?_ ?_ _); rotate_left; focus (first | (simp; done) | omega | (simp; omega))) | with_reducible refine Ge.trans ?_ (by assumption)))); done) | ((obtain ⟨s0, s1, s2, s3, s4, s5, s6⟩ := ‹_ ∧ _ ∧ _ ∧ _ ∧ _ ∧ _ ∧ _›); refine ⟨?_, ?_, ?_, ?_, ?_, ?_, ?_⟩ <;> (repeat (first | assumption | with_reducible exact Ge.refl _ | with_reducible refine cv_drew ?_ | with_reducible refine cv_alloc ?_ | with_reducible refine cv_set ?_ | with_reducible refine cell_drew ?_ | ((with_reducible refine cell_new ?_ ?_); (focus (simp; done)); rfl) | ((with_reducible refine froz_new (v := undef) ?_ ?_); (focus (simp; done)); rfl) | with_reducible refine cell_drewN ?_ | with_reducible refine cell_alloc ?_ | ((with_reducible refine cell_set ?_ ?_); rotate_left; focus (simp; done)) | with_reducible refine froz_drew ?_ | with_reducible refine froz_set ?_ | with_reducible refine froz_alloc (by assumption) ?_ | with_reducible refine Ge.drew ?_ | with_reducible refine Ge.drewN ?_ _ | with_reducible refine Ge.alloc ?_ _ | ((with_reducible refine Ge.setCell ?_ ?_ _); rotate_left; focus (first | (simp; done) | omega | (simp; omega))) | with_reducible refine Ge.trans ?_ (by assumption))))) (first | (go_at_call 48; ((with_reducible refine (compareInt _ _ _).mono ?_); rintro e w' ⟨rfl, rfl⟩)) | (go_at_call 47; ((with_reducible refine (orInt (cmpI a1 a2) (cmpI b1 b2) _ _ (cell_drew (cell_new (by simp) rfl)) (cell_drew (cell_new (by simp) rfl))).mono ?_); rintro e w' ⟨rfl, rfl⟩)) | fail); (rename_i hHeldX; obtain ⟨c0_0, c0_1, c0_2, c1_0, c1_1, c1_2, G2⟩ := hHeldX)
  go_wp2_with fail
  go_ret
  exact ⟨rfl, by (repeat (first | with_reducible exact Ge.refl _ | assumption | with_reducible refine Ge.drew ?_ | with_reducible refine Ge.drewN ?_ _ | with_reducible refine Ge.alloc ?_ _ | (with_reducible refine Ge.setCell ?_ (by first | (simp; done) | omega | (simp; omega)) _) | with_reducible refine Ge.trans ?_ (by assumption)))⟩

/-- Truth values as cells. -/
def bcells (l : List Bool) : List Value := l.map Value.bool
theorem bcells_length (l : List Bool) : (bcells l).length = l.length := by simp [bcells]
theorem bcells_set (l : List Bool) (j : Nat) (x : Bool) : (bcells l).set j (.bool x) = bcells (l.set j x) := by simp [bcells, List.map_set]
def mget (l : List Bool) (j : Nat) : Bool := l.getD j false
theorem own_bool {w : World} {base g n cap : Nat} {e : TypeId} {l : List Bool} (h : w.ownsRow base e 1 (.slice (some ⟨g, 0, none⟩) n cap) n (bcells l)) {j : Nat} (hj : j < n) : w.cell? ⟨g, j, none⟩ = some (.bool (mget l j)) := by
  have hl : l.length = n := by have := h.1; rw [bcells_length] at this; omega
  rw [h.cellAt j (by omega)]
  simp [bcells, mget, hl, hj]
theorem inf_bool : (Try.prog.info? 4).map (fun i => (i.zero, i.size, i.bytes)) = some (some (Value.bool false), 1, 1) := by kernel_rfl
theorem made_bools (n : Nat) : (madeCells (Value.bool false).cells (n * 1)).toList = bcells (List.replicate n false) := by
  simp [madeCells, bcells, Value.cells, Nat.mod_one]
  rw [List.eq_replicate_iff]; simp

theorem indexFalse (v : Value) (l : List Bool) (w : World) (h : Sl w v l.length 1 (bcells l)) (hm : l.length ≤ 1000000) :
    Calls Try.prog 49 #[v, .bool false] w fun e w' => (∃ i : Int, e = .returned (.int .i64 i) ∧ (0 ≤ i ↔ l.contains false = true)) ∧ w = w' := by
  obtain ⟨_, p, cap, rfl, hc⟩ := h
  obtain ⟨n, hn⟩ : ∃ n, l.length = n := ⟨_, rfl⟩
  have hc' : ∀ i, i < n → ∃ b o, p = some ⟨b, o, none⟩ ∧ w.cell? ⟨b, o + i, none⟩ = some (.bool (mget l i)) := fun i hi => hc i _ (by simp [bcells, mget, hn, hi])
  have HC := Lib.hid hc'
  have HN := Lib.hid hn
  rw [hn] at hm ⊢
  clear hc hc' hn
  go_enter Try.func49, Try.ntmps49
  go_wp2_with fail
  go_loop [8] (fun i => ∃ k : Nat, k ≤ n ∧ i = .int .i64 k ∧ Hid (∀ j, j < k → mget l j = true)) (fun i => n - (intOf i).toNat)
  case atStart => exact ⟨0, Nat.zero_le _, rfl, fun j hj => by omega⟩
  case round =>
    obtain ⟨k, hk, rfl, HA⟩ := hrel
    by_cases hlt : k < n
    · obtain ⟨b, o, rfl, x0⟩ := HC.out k hlt
      cases c : mget l k with
      | true =>
        have HA2 : Hid (∀ j, j < k + 1 → mget l j = true) := fun j hj => by
          by_cases e : j = k
          · subst e; exact c
          · exact HA.out j (by omega)
        rw [c] at x0
        go_wp2_with fail
        go_round
        case rel => exact ⟨k + 1, by omega, by go_num, HA2.out⟩
        case measure => simp [intOf]; omega
      | false =>
        have HF : Hid (l.contains false = true) := by
          show _ = _
          have hk' : k < l.length := by rw [HN.out]; exact hlt
          rw [List.contains_iff_mem]
          have : l[k] = false := by simpa [mget, hk'] using c
          rw [← this]; exact List.getElem_mem _
        rw [c] at x0
        go_wp2_with fail
        go_ret
        exact ⟨⟨_, rfl, ⟨fun _ => by simpa using HF.out, fun _ => by omega⟩⟩, rfl⟩
    · have hkn : k = n := by omega
      subst hkn
      have HF : Hid (¬ l.contains false = true) := by
        intro h
        rw [List.contains_iff_mem] at h
        obtain ⟨j, hj, e⟩ := List.getElem_of_mem h
        have := HA.out j (by rw [← HN.out]; exact hj)
        rw [show mget l j = l[j] by simp [mget, hj], e] at this
        cases this
      go_wp2_with fail
      go_ret
      exact ⟨⟨_, rfl, ⟨fun h => by omega, fun h => absurd h (by simpa using HF.out)⟩⟩, rfl⟩

theorem containsFalse (v : Value) (l : List Bool) (w : World) (h : Sl w v l.length 1 (bcells l)) (hm : l.length ≤ 1000000) :
    Calls Try.prog 34 #[v, .bool false] w fun e w' => e = .returned (.bool (l.contains false)) ∧ w = w' := by
  have hI := indexFalse v l w h hm
  cases c : l.contains false with
  | true =>
    rw [c] at hI
    go_enter Try.func34, Try.ntmps34
    go_wp2_with (go_at_call 49; ((with_reducible refine hI.mono ?_); rintro e w' ⟨⟨i, rfl, hi⟩, rfl⟩); have hi2 : 0 ≤ i := hi.2 rfl)
    go_ret
    exact ⟨rfl, rfl⟩
  | false =>
    rw [c] at hI
    go_enter Try.func34, Try.ntmps34
    go_wp2_with (go_at_call 49; ((with_reducible refine hI.mono ?_); rintro e w' ⟨⟨i, rfl, hi⟩, rfl⟩); have hi2 : ¬ (0 ≤ i) := fun h => by simp at hi; omega)
    go_ret
    exact ⟨rfl, rfl⟩
end Go.Proofs.Ytipiiimemmkdgaa

namespace Go.Proofs.Ytipiiimemmkdgaa
set_option maxRecDepth 100000
open Go.ChangeShapes Go.WideShapes Go.ChangeAt Go.RowKit Go.Joins

theorem good_nextW {N : Int} {xs : List Int} {k : Nat} (h : Hid (∀ i, i < k → goodW N xs i)) (hk : goodW N xs k) : Hid (∀ i, i < k + 1 → goodW N xs i) := fun i hi => by
  by_cases e : i = k
  · subst e; exact hk
  · exact h.out i (by omega)
theorem own_two_bool {w w0 : World} {base g n cap : Nat} {e : TypeId} {l : List Bool} (h : w.ownsRow base e 1 (.slice (some ⟨g, 0, none⟩) n cap) n (bcells l)) (hg : Ge w0 w) (h0 : w0.heap.size ≤ g) (i j : Nat) :
    ((w.setCell ⟨g, i, none⟩ (.bool true)).setCell ⟨g, j, none⟩ (.bool true)).ownsRow base e 1 (.slice (some ⟨g, 0, none⟩) n cap) n (bcells ((l.set i true).set j true)) ∧
    Ge w0 ((w.setCell ⟨g, i, none⟩ (.bool true)).setCell ⟨g, j, none⟩ (.bool true)) := by
  have h1 := h.stored i (.bool true)
  have h2 := h1.1.stored j (.bool true)
  refine ⟨by have := h2.1; rwa [bcells_set, bcells_set] at this, ?_⟩
  have k : ∀ k, some g = some k → w0.heap.size ≤ k := fun k hk => by simp at hk; omega
  exact (hg.grown h1.2 k).grown h2.2 k
theorem mstep_t {met : List Bool} {a b : Nat} (h : mget met a = true ∨ mget met b = true) : mstep met (a, b) = (met.set a true).set b true := by
  unfold mstep mget at *
  rcases h with h | h <;> rw [h] <;> simp
theorem mstep_f {met : List Bool} {a b : Nat} (h : mget met a = false) (k : mget met b = false) : mstep met (a, b) = met := by
  unfold mstep mget at *
  rw [h, k]; rfl

set_option maxHeartbeats 6400000 in
theorem iNetOk (N E S : Int) (s : Value) (m : Nat) (xs : List Int) (w : World) (hs : SlF w s m 3 xs) (hm : m ≤ 9223372036854775807) :
    Calls Try.prog 20 #[.agg #[.int .i64 N, .int .i64 E, .int .i64 S, s]] w fun e w' => e = .returned (.bool (netB N E S m xs)) ∧ Ge w w' := by
  obtain ⟨p, cap, rfl, hc⟩ := hs.open
  have HC := Lib.hid hc
  clear hs hc
  by_cases a1 : N < 1
  · have HF : Hid (netB N E S m xs = false) := netB_false (fun h => by have := h.1.1; omega)
    go_enter Try.func20, Try.ntmps20
    go_wp2_with fail
    go_ret
    exact ⟨ret_bool HF.out.symm, by (repeat (first | with_reducible exact Ge.refl _ | assumption | with_reducible refine Ge.drew ?_ | with_reducible refine Ge.drewN ?_ _ | with_reducible refine Ge.alloc ?_ _ | (with_reducible refine Ge.setCell ?_ (by first | (simp; done) | omega | (simp; omega)) _) | with_reducible refine Ge.trans ?_ (by assumption)))⟩
  by_cases a2 : 5 < N
  · have HF : Hid (netB N E S m xs = false) := netB_false (fun h => by have := h.1.2; omega)
    go_enter Try.func20, Try.ntmps20
    go_wp2_with fail
    go_ret
    exact ⟨ret_bool HF.out.symm, by (repeat (first | with_reducible exact Ge.refl _ | assumption | with_reducible refine Ge.drew ?_ | with_reducible refine Ge.drewN ?_ _ | with_reducible refine Ge.alloc ?_ _ | (with_reducible refine Ge.setCell ?_ (by first | (simp; done) | omega | (simp; omega)) _) | with_reducible refine Ge.trans ?_ (by assumption)))⟩
  by_cases a3 : E < 1
  · have HF : Hid (netB N E S m xs = false) := netB_false (fun h => by have := h.2.1.1; omega)
    go_enter Try.func20, Try.ntmps20
    go_wp2_with fail
    go_ret
    exact ⟨ret_bool HF.out.symm, by (repeat (first | with_reducible exact Ge.refl _ | assumption | with_reducible refine Ge.drew ?_ | with_reducible refine Ge.drewN ?_ _ | with_reducible refine Ge.alloc ?_ _ | (with_reducible refine Ge.setCell ?_ (by first | (simp; done) | omega | (simp; omega)) _) | with_reducible refine Ge.trans ?_ (by assumption)))⟩
  by_cases a4 : N < E
  · have HF : Hid (netB N E S m xs = false) := netB_false (fun h => by have := h.2.1.2; omega)
    go_enter Try.func20, Try.ntmps20
    go_wp2_with fail
    go_ret
    exact ⟨ret_bool HF.out.symm, by (repeat (first | with_reducible exact Ge.refl _ | assumption | with_reducible refine Ge.drew ?_ | with_reducible refine Ge.drewN ?_ _ | with_reducible refine Ge.alloc ?_ _ | (with_reducible refine Ge.setCell ?_ (by first | (simp; done) | omega | (simp; omega)) _) | with_reducible refine Ge.trans ?_ (by assumption)))⟩
  by_cases a5 : S < 1
  · have HF : Hid (netB N E S m xs = false) := netB_false (fun h => by have := h.2.2.1.1; omega)
    go_enter Try.func20, Try.ntmps20
    go_wp2_with fail
    go_ret
    exact ⟨ret_bool HF.out.symm, by (repeat (first | with_reducible exact Ge.refl _ | assumption | with_reducible refine Ge.drew ?_ | with_reducible refine Ge.drewN ?_ _ | with_reducible refine Ge.alloc ?_ _ | (with_reducible refine Ge.setCell ?_ (by first | (simp; done) | omega | (simp; omega)) _) | with_reducible refine Ge.trans ?_ (by assumption)))⟩
  by_cases a6 : 1000 < S
  · have HF : Hid (netB N E S m xs = false) := netB_false (fun h => by have := h.2.2.1.2; omega)
    go_enter Try.func20, Try.ntmps20
    go_wp2_with fail
    go_ret
    exact ⟨ret_bool HF.out.symm, by (repeat (first | with_reducible exact Ge.refl _ | assumption | with_reducible refine Ge.drew ?_ | with_reducible refine Ge.drewN ?_ _ | with_reducible refine Ge.alloc ?_ _ | (with_reducible refine Ge.setCell ?_ (by first | (simp; done) | omega | (simp; omega)) _) | with_reducible refine Ge.trans ?_ (by assumption)))⟩
  obtain ⟨n, rfl⟩ : ∃ n : Nat, N = (n : Int) := ⟨N.toNat, by omega⟩
  have n1 : 1 ≤ n := by omega
  have n5 : n ≤ 5 := by omega
  go_enter Try.func20, Try.ntmps20
  go_wp2_with fail
  go_loopw [41] (fun i wr => ∃ k : Nat, k ≤ m ∧ i = .int .i64 k ∧ Hid (∀ j, j < k → goodW n xs j) ∧ Ge (w.alloc (.cells #[.int .i64 (n : Int), .int .i64 E, .int .i64 S, .slice p m cap] 25)) wr) (fun i _ => m - (intOf i).toNat)
  case atStart => exact ⟨0, Nat.zero_le _, rfl, fun j hj => by omega, Ge.refl _⟩
  case round =>
    obtain ⟨k, hk, rfl, HK, hg⟩ := hrel
    have G : Ge w wr := Ge.trans ((Ge.refl w).alloc _) hg
    have c0 := hg.keep (cell_new (i := 0) rfl rfl)
    have c1 := hg.keep (cell_new (i := 1) rfl rfl)
    have c2 := hg.keep (cell_new (i := 2) rfl rfl)
    have c3 := hg.keep (cell_new (i := 3) rfl rfl)
    have zw := hg.size
    simp at c0 c1 c2 c3 zw
    have zl : w.heap.size < wr.heap.size := by omega
    by_cases hlt : k < m
    · obtain ⟨b, o, rfl, x0, x1, x2⟩ := three_cells HC.out hlt
      have y0 := G.keep x0
      have y1 := G.keep x1
      have y2 := G.keep x2
      have lb := World.block_lt_of_cell? w _ x0
      simp at lb
      clear x0 x1 x2
      change wr.cell? _ = some (.int .i64 (wa xs k)) at y0
      change wr.cell? _ = some (.int .i64 (wb xs k)) at y1
      change wr.cell? _ = some (.int .i64 (ww xs k)) at y2
      by_cases t1 : wa xs k < 0
      · have HF : Hid (netB n E S m xs = false) := netB_false (fun h => by have q := (h.2.2.2.1 k hlt).1; unfold okW at q; omega)
        go_upto_region 6 with (fail)
        go_quiet (fail)
        go_wp2_with fail
        go_ret
        exact ⟨ret_bool HF.out.symm, by (repeat (first | with_reducible exact Ge.refl _ | assumption | with_reducible refine Ge.drew ?_ | with_reducible refine Ge.drewN ?_ _ | with_reducible refine Ge.alloc ?_ _ | (with_reducible refine Ge.setCell ?_ (by first | (simp; done) | omega | (simp; omega)) _) | with_reducible refine Ge.trans ?_ (by assumption)))⟩
      by_cases t2 : wb xs k ≤ wa xs k
      · have HF : Hid (netB n E S m xs = false) := netB_false (fun h => by have q := (h.2.2.2.1 k hlt).1; unfold okW at q; omega)
        go_upto_region 6 with (fail)
        go_quiet (fail)
        go_wp2_with fail
        go_ret
        exact ⟨ret_bool HF.out.symm, by (repeat (first | with_reducible exact Ge.refl _ | assumption | with_reducible refine Ge.drew ?_ | with_reducible refine Ge.drewN ?_ _ | with_reducible refine Ge.alloc ?_ _ | (with_reducible refine Ge.setCell ?_ (by first | (simp; done) | omega | (simp; omega)) _) | with_reducible refine Ge.trans ?_ (by assumption)))⟩
      by_cases t3 : (n : Int) ≤ wb xs k
      · have HF : Hid (netB n E S m xs = false) := netB_false (fun h => by have q := (h.2.2.2.1 k hlt).1; unfold okW at q; omega)
        go_upto_region 6 with (fail)
        go_quiet (fail)
        go_wp2_with fail
        go_ret
        exact ⟨ret_bool HF.out.symm, by (repeat (first | with_reducible exact Ge.refl _ | assumption | with_reducible refine Ge.drew ?_ | with_reducible refine Ge.drewN ?_ _ | with_reducible refine Ge.alloc ?_ _ | (with_reducible refine Ge.setCell ?_ (by first | (simp; done) | omega | (simp; omega)) _) | with_reducible refine Ge.trans ?_ (by assumption)))⟩
      by_cases t4 : ww xs k < 1
      · have HF : Hid (netB n E S m xs = false) := netB_false (fun h => by have q := (h.2.2.2.1 k hlt).1; unfold okW at q; omega)
        go_upto_region 6 with (fail)
        go_quiet (fail)
        go_wp2_with fail
        go_ret
        exact ⟨ret_bool HF.out.symm, by (repeat (first | with_reducible exact Ge.refl _ | assumption | with_reducible refine Ge.drew ?_ | with_reducible refine Ge.drewN ?_ _ | with_reducible refine Ge.alloc ?_ _ | (with_reducible refine Ge.setCell ?_ (by first | (simp; done) | omega | (simp; omega)) _) | with_reducible refine Ge.trans ?_ (by assumption)))⟩
      by_cases t5 : 200 < ww xs k
      · have HF : Hid (netB n E S m xs = false) := netB_false (fun h => by have q := (h.2.2.2.1 k hlt).1; unfold okW at q; omega)
        go_upto_region 6 with (fail)
        go_quiet (fail)
        go_wp2_with fail
        go_ret
        exact ⟨ret_bool HF.out.symm, by (repeat (first | with_reducible exact Ge.refl _ | assumption | with_reducible refine Ge.drew ?_ | with_reducible refine Ge.drewN ?_ _ | with_reducible refine Ge.alloc ?_ _ | (with_reducible refine Ge.setCell ?_ (by first | (simp; done) | omega | (simp; omega)) _) | with_reducible refine Ge.trans ?_ (by assumption)))⟩
      have OK : Hid (okW n xs k) := ⟨by omega, by omega, by omega, by omega, by omega⟩
      obtain ⟨bad, hbad⟩ : ∃ bad : Bool, bad = true ↔ (0 < k ∧ ¬ ordW xs (k - 1) k) := ⟨@decide (0 < k ∧ ¬ ordW xs (k - 1) k) (Classical.propDecidable _), by simp⟩
      have HBad := Lib.hid hbad
      clear hbad
      go_upto_region 6 with (fail)
      go_cut [87] (fun s wx => s = .bool bad ∧ Ge wr wx)
      case first =>
        by_cases hp : 0 < k
        · obtain ⟨j, rfl⟩ : ∃ j, k = j + 1 := ⟨k - 1, by omega⟩
          obtain ⟨b', o', e', x0, x1, x2⟩ := three_cells HC.out (show j < m by omega)
          simp only [Option.some.injEq, Addr.mk.injEq, and_true] at e'
          obtain ⟨rfl, rfl⟩ := e'
          have z0 := G.keep x0
          have z1 := G.keep x1
          have z2 := G.keep x2
          clear x0 x1 x2
          change wr.cell? _ = some (.int .i64 (wa xs j)) at z0
          change wr.cell? _ = some (.int .i64 (wb xs j)) at z1
          change wr.cell? _ = some (.int .i64 (ww xs j)) at z2
          have w1 : IntKind.i64.wrap (((j + 1 : Nat) : Int) - 1) = (j : Int) := IntWalk.i64_in _ (by omega) |>.trans (by omega)
          have w2 : IntKind.i64.wrap (j : Int) = (j : Int) := IntWalk.i64_in _ (by omega)
          have j0 : (0 : Int) ≤ (j : Int) := by omega
          have j1 : (j : Int) < (m : Int) := by omega
          have w3 : ((j : Int) + 1 - 1) = (j : Int) := by omega
          have c4 : decide (0 ≤ cmpSq (wb xs j) (wa xs j) (wb xs (j + 1)) (wa xs (j + 1))) = bad := by
            have h1 := HBad.out
            have h2 := @cmpSq_lt (wb xs j) (wa xs j) (wb xs (j + 1)) (wa xs (j + 1))
            have h3 : ordW xs j (j + 1) ↔ cmpSq (wb xs j) (wa xs j) (wb xs (j + 1)) (wa xs (j + 1)) < 0 := h2.symm
            simp only [Nat.add_sub_cancel, h3] at h1
            cases bad with
            | true => have := h1.1 rfl; simp; omega
            | false =>
              simp
              by_cases h4 : cmpSq (wb xs j) (wa xs j) (wb xs (j + 1)) (wa xs (j + 1)) < 0
              · exact h4
              · exact absurd (h1.2 ⟨by omega, h4⟩) (by simp)
          have hS : ∀ w', Ge (wr.alloc (.cells #[.int .i64 (wa xs (j + 1)), .int .i64 (wb xs (j + 1)), .int .i64 (ww xs (j + 1))] 49)) w' → (w'.cell? ⟨wr.heap.size, 0, none⟩ = some (.int .i64 (wa xs (j + 1))) ∧ w'.cell? ⟨wr.heap.size, 1, none⟩ = some (.int .i64 (wb xs (j + 1))) ∧ w'.cell? ⟨wr.heap.size, 2, none⟩ = some (.int .i64 (ww xs (j + 1))) ∧ w'.cell? ⟨w.heap.size, 0, none⟩ = some (.int .i64 (n : Int)) ∧ w'.cell? ⟨w.heap.size, 3, none⟩ = some (.slice (some ⟨b, o, none⟩) m cap) ∧ w'.cell? ⟨b, o + j * 3, none⟩ = some (.int .i64 (wa xs j)) ∧ w'.cell? ⟨b, o + j * 3 + 1, none⟩ = some (.int .i64 (wb xs j)) ∧ w'.cell? ⟨b, o + j * 3 + 2, none⟩ = some (.int .i64 (ww xs j)) ∧ Ge wr w') := fun w' g => ⟨g.keep (by (repeat (first | assumption | with_reducible exact Ge.refl _ | with_reducible refine cv_drew ?_ | with_reducible refine cv_alloc ?_ | with_reducible refine cv_set ?_ | (with_reducible apply cv_some; assumption) | with_reducible refine cell_drew ?_ | with_reducible refine cell_drewN ?_ | ((with_reducible refine cell_new ?_ ?_); (focus (simp; done)); rfl) | with_reducible refine cell_alloc ?_ | with_reducible refine cell_same2 ?_ | ((with_reducible refine cell_set2 ?_ ?_); focus (first | (simp; done) | (intro hE; simp at hE; done) | (intro hE; simp at hE; omega))) | with_reducible refine Ge.drew ?_ | with_reducible refine Ge.drewN ?_ _ | with_reducible refine Ge.alloc ?_ _ | ((with_reducible refine Ge.setCell ?_ ?_ _); rotate_left; focus (first | (simp; done) | omega | (simp; omega))) | with_reducible refine Ge.trans ?_ (by assumption) | with_reducible refine Ge.keep (by assumption) ?_))), g.keep (by (repeat (first | assumption | with_reducible exact Ge.refl _ | with_reducible refine cv_drew ?_ | with_reducible refine cv_alloc ?_ | with_reducible refine cv_set ?_ | (with_reducible apply cv_some; assumption) | with_reducible refine cell_drew ?_ | with_reducible refine cell_drewN ?_ | ((with_reducible refine cell_new ?_ ?_); (focus (simp; done)); rfl) | with_reducible refine cell_alloc ?_ | with_reducible refine cell_same2 ?_ | ((with_reducible refine cell_set2 ?_ ?_); focus (first | (simp; done) | (intro hE; simp at hE; done) | (intro hE; simp at hE; omega))) | with_reducible refine Ge.drew ?_ | with_reducible refine Ge.drewN ?_ _ | with_reducible refine Ge.alloc ?_ _ | ((with_reducible refine Ge.setCell ?_ ?_ _); rotate_left; focus (first | (simp; done) | omega | (simp; omega))) | with_reducible refine Ge.trans ?_ (by assumption) | with_reducible refine Ge.keep (by assumption) ?_))), g.keep (by (repeat (first | assumption | with_reducible exact Ge.refl _ | with_reducible refine cv_drew ?_ | with_reducible refine cv_alloc ?_ | with_reducible refine cv_set ?_ | (with_reducible apply cv_some; assumption) | with_reducible refine cell_drew ?_ | with_reducible refine cell_drewN ?_ | ((with_reducible refine cell_new ?_ ?_); (focus (simp; done)); rfl) | with_reducible refine cell_alloc ?_ | with_reducible refine cell_same2 ?_ | ((with_reducible refine cell_set2 ?_ ?_); focus (first | (simp; done) | (intro hE; simp at hE; done) | (intro hE; simp at hE; omega))) | with_reducible refine Ge.drew ?_ | with_reducible refine Ge.drewN ?_ _ | with_reducible refine Ge.alloc ?_ _ | ((with_reducible refine Ge.setCell ?_ ?_ _); rotate_left; focus (first | (simp; done) | omega | (simp; omega))) | with_reducible refine Ge.trans ?_ (by assumption) | with_reducible refine Ge.keep (by assumption) ?_))), g.keep (by (repeat (first | assumption | with_reducible exact Ge.refl _ | with_reducible refine cv_drew ?_ | with_reducible refine cv_alloc ?_ | with_reducible refine cv_set ?_ | (with_reducible apply cv_some; assumption) | with_reducible refine cell_drew ?_ | with_reducible refine cell_drewN ?_ | ((with_reducible refine cell_new ?_ ?_); (focus (simp; done)); rfl) | with_reducible refine cell_alloc ?_ | with_reducible refine cell_same2 ?_ | ((with_reducible refine cell_set2 ?_ ?_); focus (first | (simp; done) | (intro hE; simp at hE; done) | (intro hE; simp at hE; omega))) | with_reducible refine Ge.drew ?_ | with_reducible refine Ge.drewN ?_ _ | with_reducible refine Ge.alloc ?_ _ | ((with_reducible refine Ge.setCell ?_ ?_ _); rotate_left; focus (first | (simp; done) | omega | (simp; omega))) | with_reducible refine Ge.trans ?_ (by assumption) | with_reducible refine Ge.keep (by assumption) ?_))), g.keep (by (repeat (first | assumption | with_reducible exact Ge.refl _ | with_reducible refine cv_drew ?_ | with_reducible refine cv_alloc ?_ | with_reducible refine cv_set ?_ | (with_reducible apply cv_some; assumption) | with_reducible refine cell_drew ?_ | with_reducible refine cell_drewN ?_ | ((with_reducible refine cell_new ?_ ?_); (focus (simp; done)); rfl) | with_reducible refine cell_alloc ?_ | with_reducible refine cell_same2 ?_ | ((with_reducible refine cell_set2 ?_ ?_); focus (first | (simp; done) | (intro hE; simp at hE; done) | (intro hE; simp at hE; omega))) | with_reducible refine Ge.drew ?_ | with_reducible refine Ge.drewN ?_ _ | with_reducible refine Ge.alloc ?_ _ | ((with_reducible refine Ge.setCell ?_ ?_ _); rotate_left; focus (first | (simp; done) | omega | (simp; omega))) | with_reducible refine Ge.trans ?_ (by assumption) | with_reducible refine Ge.keep (by assumption) ?_))), g.keep (by (repeat (first | assumption | with_reducible exact Ge.refl _ | with_reducible refine cv_drew ?_ | with_reducible refine cv_alloc ?_ | with_reducible refine cv_set ?_ | (with_reducible apply cv_some; assumption) | with_reducible refine cell_drew ?_ | with_reducible refine cell_drewN ?_ | ((with_reducible refine cell_new ?_ ?_); (focus (simp; done)); rfl) | with_reducible refine cell_alloc ?_ | with_reducible refine cell_same2 ?_ | ((with_reducible refine cell_set2 ?_ ?_); focus (first | (simp; done) | (intro hE; simp at hE; done) | (intro hE; simp at hE; omega))) | with_reducible refine Ge.drew ?_ | with_reducible refine Ge.drewN ?_ _ | with_reducible refine Ge.alloc ?_ _ | ((with_reducible refine Ge.setCell ?_ ?_ _); rotate_left; focus (first | (simp; done) | omega | (simp; omega))) | with_reducible refine Ge.trans ?_ (by assumption) | with_reducible refine Ge.keep (by assumption) ?_))), g.keep (by (repeat (first | assumption | with_reducible exact Ge.refl _ | with_reducible refine cv_drew ?_ | with_reducible refine cv_alloc ?_ | with_reducible refine cv_set ?_ | (with_reducible apply cv_some; assumption) | with_reducible refine cell_drew ?_ | with_reducible refine cell_drewN ?_ | ((with_reducible refine cell_new ?_ ?_); (focus (simp; done)); rfl) | with_reducible refine cell_alloc ?_ | with_reducible refine cell_same2 ?_ | ((with_reducible refine cell_set2 ?_ ?_); focus (first | (simp; done) | (intro hE; simp at hE; done) | (intro hE; simp at hE; omega))) | with_reducible refine Ge.drew ?_ | with_reducible refine Ge.drewN ?_ _ | with_reducible refine Ge.alloc ?_ _ | ((with_reducible refine Ge.setCell ?_ ?_ _); rotate_left; focus (first | (simp; done) | omega | (simp; omega))) | with_reducible refine Ge.trans ?_ (by assumption) | with_reducible refine Ge.keep (by assumption) ?_))), g.keep (by (repeat (first | assumption | with_reducible exact Ge.refl _ | with_reducible refine cv_drew ?_ | with_reducible refine cv_alloc ?_ | with_reducible refine cv_set ?_ | (with_reducible apply cv_some; assumption) | with_reducible refine cell_drew ?_ | with_reducible refine cell_drewN ?_ | ((with_reducible refine cell_new ?_ ?_); (focus (simp; done)); rfl) | with_reducible refine cell_alloc ?_ | with_reducible refine cell_same2 ?_ | ((with_reducible refine cell_set2 ?_ ?_); focus (first | (simp; done) | (intro hE; simp at hE; done) | (intro hE; simp at hE; omega))) | with_reducible refine Ge.drew ?_ | with_reducible refine Ge.drewN ?_ _ | with_reducible refine Ge.alloc ?_ _ | ((with_reducible refine Ge.setCell ?_ ?_ _); rotate_left; focus (first | (simp; done) | omega | (simp; omega))) | with_reducible refine Ge.trans ?_ (by assumption) | with_reducible refine Ge.keep (by assumption) ?_))), Ge.trans (by (repeat (first | assumption | with_reducible exact Ge.refl _ | with_reducible refine cv_drew ?_ | with_reducible refine cv_alloc ?_ | with_reducible refine cv_set ?_ | (with_reducible apply cv_some; assumption) | with_reducible refine cell_drew ?_ | with_reducible refine cell_drewN ?_ | ((with_reducible refine cell_new ?_ ?_); (focus (simp; done)); rfl) | with_reducible refine cell_alloc ?_ | with_reducible refine cell_same2 ?_ | ((with_reducible refine cell_set2 ?_ ?_); focus (first | (simp; done) | (intro hE; simp at hE; done) | (intro hE; simp at hE; omega))) | with_reducible refine Ge.drew ?_ | with_reducible refine Ge.drewN ?_ _ | with_reducible refine Ge.alloc ?_ _ | ((with_reducible refine Ge.setCell ?_ ?_ _); rotate_left; focus (first | (simp; done) | omega | (simp; omega))) | with_reducible refine Ge.trans ?_ (by assumption) | with_reducible refine Ge.keep (by assumption) ?_))) g⟩
          go_region_held3 (fun w' => w'.cell? ⟨wr.heap.size, 0, none⟩ = some (.int .i64 (wa xs (j + 1))) ∧ w'.cell? ⟨wr.heap.size, 1, none⟩ = some (.int .i64 (wb xs (j + 1))) ∧ w'.cell? ⟨wr.heap.size, 2, none⟩ = some (.int .i64 (ww xs (j + 1))) ∧ w'.cell? ⟨w.heap.size, 0, none⟩ = some (.int .i64 (n : Int)) ∧ w'.cell? ⟨w.heap.size, 3, none⟩ = some (.slice (some ⟨b, o, none⟩) m cap) ∧ w'.cell? ⟨b, o + j * 3, none⟩ = some (.int .i64 (wa xs j)) ∧ w'.cell? ⟨b, o + j * 3 + 1, none⟩ = some (.int .i64 (wb xs j)) ∧ w'.cell? ⟨b, o + j * 3 + 2, none⟩ = some (.int .i64 (ww xs j)) ∧ Ge wr w') (first | ((with_reducible refine hS _ ?_); (repeat (first | assumption | with_reducible exact Ge.refl _ | with_reducible refine cv_drew ?_ | with_reducible refine cv_alloc ?_ | with_reducible refine cv_set ?_ | (with_reducible apply cv_some; assumption) | with_reducible refine cell_drew ?_ | with_reducible refine cell_drewN ?_ | ((with_reducible refine cell_new ?_ ?_); (focus (simp; done)); rfl) | with_reducible refine cell_alloc ?_ | with_reducible refine cell_same2 ?_ | ((with_reducible refine cell_set2 ?_ ?_); focus (first | (simp; done) | (intro hE; simp at hE; done) | (intro hE; simp at hE; omega))) | with_reducible refine Ge.drew ?_ | with_reducible refine Ge.drewN ?_ _ | with_reducible refine Ge.alloc ?_ _ | ((with_reducible refine Ge.setCell ?_ ?_ _); rotate_left; focus (first | (simp; done) | omega | (simp; omega))) | with_reducible refine Ge.trans ?_ (by assumption) | with_reducible refine Ge.keep (by assumption) ?_)); done) | fail) (first | (go_at_call 33; ((with_reducible refine (iByEnds _ _ _ _ _ _ _).mono ?_); rintro e w' ⟨rfl, hb⟩); have hz := Ge.size hb; (try simp at hz)) | fail)
          rename_i hHeldX
          obtain ⟨q0, q1, q2, q3, q4, q5, q6, q7, G7⟩ := hHeldX
          clear hS
          go_wp2_with fail
          go_meet
          exact ⟨rfl, G7⟩
        · have hk0 : k = 0 := by omega
          subst hk0
          have hb0 : bad = false := by
            cases bad with
            | true => have := (HBad.out.1 rfl).1; omega
            | false => rfl
          subst hb0
          go_quiet (fail)
          go_wp2_with fail
          go_meet
          exact ⟨rfl, by (repeat (first | with_reducible exact Ge.refl _ | assumption | with_reducible refine Ge.drew ?_ | with_reducible refine Ge.drewN ?_ _ | with_reducible refine Ge.alloc ?_ _ | (with_reducible refine Ge.setCell ?_ (by first | (simp; done) | omega | (simp; omega)) _) | with_reducible refine Ge.trans ?_ (by assumption)))⟩
      case rest =>
        obtain ⟨rfl, G7⟩ := hcut
        cases bad with
        | true =>
          have HF : Hid (netB n E S m xs = false) := netB_false (fun h => by
            obtain ⟨e1, e2⟩ := HBad.out.1 rfl
            exact e2 ((h.2.2.2.1 k hlt).2 e1))
          go_wp2_with fail
          go_ret
          exact ⟨ret_bool HF.out.symm, by (repeat (first | with_reducible exact Ge.refl _ | assumption | with_reducible refine Ge.drew ?_ | with_reducible refine Ge.drewN ?_ _ | with_reducible refine Ge.alloc ?_ _ | (with_reducible refine Ge.setCell ?_ (by first | (simp; done) | omega | (simp; omega)) _) | with_reducible refine Ge.trans ?_ (by assumption)))⟩
        | false =>
          have HG : Hid (∀ i, i < k + 1 → goodW n xs i) := good_nextW HK ⟨OK.out, fun h0 => Classical.byContradiction fun h => by have := HBad.out.2 ⟨h0, h⟩; simp at this⟩
          go_wp2_with fail
          go_roundw
          case rel => exact ⟨k + 1, by omega, by go_num, HG.out, by (repeat (first | with_reducible exact Ge.refl _ | assumption | with_reducible refine Ge.drew ?_ | with_reducible refine Ge.drewN ?_ _ | with_reducible refine Ge.alloc ?_ _ | (with_reducible refine Ge.setCell ?_ (by first | (simp; done) | omega | (simp; omega)) _) | with_reducible refine Ge.trans ?_ (by assumption)))⟩
          case measure => simp [intOf]; omega
    · have hkm : k = m := by omega
      subst hkm
      have hk10 : k ≤ 10 := prs_len (N := n) (by omega) HK.out
      have n0 : 0 < n := by omega
      go_wp2_with (at_make; refine mk1 rfl _ _ _ rfl 4 _ 1 1 Try.underlying73 inf_bool (by decide) n rfl rfl (by omega) ?_; intro w1 own1 g1; rw [made_bools] at own1; have f0 := own1.frozenAt 0; have d0 := own_bool own1 n0; have st := own1.stored 0 (.bool true); rw [bcells_set] at st; have ST := Lib.hid st; clear st own1; have d1 := Ge.keep g1 c0; have d3 := Ge.keep g1 c3)
      have h0 := ST.out.1
      have h1 := g1.grown ST.out.2 (fun q hq => by simp at hq; omega)
      rw [show (List.replicate n false).set 0 true = minit n from rfl] at h0
      clear ST f0 d0 d1 d3
      obtain ⟨w0, hw0⟩ : ∃ w0, w0 = wr := ⟨_, rfl⟩
      subst hw0
      generalize hgg : w0.heap.size = g at *
      have hg0 : w0.heap.size ≤ g := by omega
      generalize w1.setCell ⟨g, 0, none⟩ (.bool true) = w2 at *
      go_loopw [96] (fun i wi => ∃ r : Nat, r ≤ n ∧ i = .int .i64 r ∧ wi.ownsRow g 4 1 (.slice (some ⟨g, 0, none⟩) n n) n (bcells (mrounds (prs xs k) (minit n) r)) ∧ Ge w0 wi) (fun i _ => n - (intOf i).toNat)
      case atStart => exact ⟨0, Nat.zero_le _, rfl, h0, h1⟩
      case round =>
        obtain ⟨r, hr, rfl, hown, hgr⟩ := hrel
        have c0r := hgr.keep c0
        have c3r := hgr.keep c3
        have lg := (hown.lt g rfl).2
        by_cases hrn : r < n
        · go_wp2_with fail
          go_loopw [101] (fun i wi => ∃ j : Nat, j ≤ k ∧ i = .int .i64 j ∧ wi.ownsRow g 4 1 (.slice (some ⟨g, 0, none⟩) n n) n (bcells (msweep (mrounds (prs xs k) (minit n) r) (prs xs j))) ∧ Ge w0 wi) (fun i _ => k - (intOf i).toNat)
          case atStart => exact ⟨0, Nat.zero_le _, rfl, hown, hgr⟩
          case round =>
            obtain ⟨j, hj, rfl, hownj, hgj⟩ := hrel
            by_cases hjk : j < k
            · obtain ⟨b, o, rfl, x0, x1, x2⟩ := three_cells HC.out hjk
              have y0 := hgj.keep (G.keep x0)
              have y1 := hgj.keep (G.keep x1)
              have y2 := hgj.keep (G.keep x2)
              clear x0 x1 x2
              change wr.cell? _ = some (.int .i64 (wa xs j)) at y0
              change wr.cell? _ = some (.int .i64 (wb xs j)) at y1
              change wr.cell? _ = some (.int .i64 (ww xs j)) at y2
              obtain ⟨q0, q1, q2, q3, q4⟩ := (HK.out j hjk).1
              have hp := prs_succ xs j
              obtain ⟨a, ha⟩ : ∃ a : Nat, wa xs j = a := ⟨(wa xs j).toNat, by omega⟩
              obtain ⟨c, hb⟩ : ∃ c : Nat, wb xs j = c := ⟨(wb xs j).toNat, by omega⟩
              rw [ha, hb] at hp
              simp only [Int.toNat_natCast] at hp
              have HS : Hid (msweep (mrounds (prs xs k) (minit n) r) (prs xs (j + 1)) = mstep (msweep (mrounds (prs xs k) (minit n) r) (prs xs j)) (a, c)) := by
                show _ = _
                rw [hp, msweep_snoc]
              clear hp
              rw [ha] at y0 q0 q1
              rw [hb] at y1 q1 q2
              have an : a < n := by omega
              have cn : c < n := by omega
              have da := own_bool hownj an
              have dc := own_bool hownj cn
              have fa := hownj.frozenAt a
              have fc := hownj.frozenAt c
              have lgj := (hownj.lt g rfl).2
              generalize msweep (mrounds (prs xs k) (minit n) r) (prs xs j) = met at *
              have O2 := Lib.hid (own_two_bool hownj hgj hg0 a c)
              cases hma : mget met a with
              | true =>
                rw [hma] at da
                have HE := Lib.hid (mstep_t (b := c) (Or.inl hma))
                go_wp2_with fail
                go_roundw
                case rel => exact ⟨j + 1, by omega, by go_num, by rw [HS.out, HE.out]; exact O2.out.1.alloc _, O2.out.2.alloc _⟩
                case measure => simp [intOf]; omega
              | false =>
                rw [hma] at da
                cases hmc : mget met c with
                | true =>
                  rw [hmc] at dc
                  have HE := Lib.hid (mstep_t (a := a) (Or.inr hmc))
                  go_wp2_with fail
                  go_roundw
                  case rel => exact ⟨j + 1, by omega, by go_num, by rw [HS.out, HE.out]; exact O2.out.1.alloc _, O2.out.2.alloc _⟩
                  case measure => simp [intOf]; omega
                | false =>
                  rw [hmc] at dc
                  have HE := Lib.hid (mstep_f hma hmc)
                  go_wp2_with fail
                  go_roundw
                  case rel => exact ⟨j + 1, by omega, by go_num, by rw [HS.out, HE.out]; exact hownj.alloc _, hgj.alloc _⟩
                  case measure => simp [intOf]; omega
            · have hjk2 : j = k := by omega
              subst hjk2
              go_wp2_with fail
              go_roundw
              case rel => exact ⟨r + 1, by omega, by go_num, hownj, hgj⟩
              case measure => simp [intOf]; omega
        · have hrn2 : r = n := by omega
          subst hrn2
          have hlen : (mrounds (prs xs k) (minit r) r).length = r := by rw [mrounds_length, minit_length]
          have hsl : Sl wr (.slice (some ⟨g, 0, none⟩) r r) (mrounds (prs xs k) (minit r) r).length 1 (bcells (mrounds (prs xs k) (minit r) r)) := by
            rw [hlen]; exact Sl.of_owns hown
          have HL : Hid (netB r E S k xs = !(mrounds (prs xs k) (minit r) r).contains false) := by
            show _ = _
            cases hcn : (mrounds (prs xs k) (minit r) r).contains false with
            | true => exact netB_false (fun h => by have := h.2.2.2.2; simp only [mconn, Int.toNat_natCast, hcn] at this; cases this)
            | false => exact netB_true ⟨⟨by omega, by omega⟩, ⟨by omega, by omega⟩, ⟨by omega, by omega⟩, HK.out, by simp only [mconn, Int.toNat_natCast, hcn]; rfl⟩
          have HC2 := Lib.hid (containsFalse _ _ _ hsl (by omega))
          clear hlen hsl
          generalize mrounds (prs xs k) (minit r) r = met at *
          cases hct : met.contains false with
          | true =>
            go_wp2_with (go_at_call 34; ((with_reducible refine HC2.out.mono ?_); rintro e w' ⟨rfl, rfl⟩); rw [hct])
            go_ret
            exact ⟨ret_bool (by rw [HL.out, hct]; rfl), by (repeat (first | with_reducible exact Ge.refl _ | assumption | with_reducible refine Ge.drew ?_ | with_reducible refine Ge.drewN ?_ _ | with_reducible refine Ge.alloc ?_ _ | (with_reducible refine Ge.setCell ?_ (by first | (simp; done) | omega | (simp; omega)) _) | with_reducible refine Ge.trans ?_ (by assumption)))⟩
          | false =>
            go_wp2_with (go_at_call 34; ((with_reducible refine HC2.out.mono ?_); rintro e w' ⟨rfl, rfl⟩); rw [hct])
            go_ret
            exact ⟨ret_bool (by rw [HL.out, hct]; rfl), by (repeat (first | with_reducible exact Ge.refl _ | assumption | with_reducible refine Ge.drew ?_ | with_reducible refine Ge.drewN ?_ _ | with_reducible refine Ge.alloc ?_ _ | (with_reducible refine Ge.setCell ?_ (by first | (simp; done) | omega | (simp; omega)) _) | with_reducible refine Ge.trans ?_ (by assumption)))⟩
end Go.Proofs.Ytipiiimemmkdgaa
