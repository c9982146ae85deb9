/- GcdOf, RatioOk, RatioOf, in the program and in the reference. -/
import Derived.Test.YtenfkpdbfmeebaaWIn
import Derived.Test.YtenfkpdbfmeebaaPlRatio
namespace Go.Proofs.Ytenfkpdbfmeebaa

open Go.RowKit

theorem iSize (n : Int) (w : World) (h0 : -9223372036854775808 ≤ n) (h1 : n ≤ 9223372036854775807) :
    Calls Try.prog 67 #[.int .i64 n] w fun e w' => e = .returned (.int .u64 (n.natAbs : Int)) ∧ w = w' := by
  by_cases h : n < 0
  · have e1 : IntKind.u64.wrap n = n + 18446744073709551616 := by simp [IntKind.wrap, IntKind.signed, IntKind.bits]; omega
    have e2 : IntKind.u64.wrap (-(n + 18446744073709551616)) = -n := by simp [IntKind.wrap, IntKind.signed, IntKind.bits]; omega
    go_enter Try.func67, Try.ntmps67
    go_wp2_with fail
    go_ret
    exact ⟨ret_int (by omega), rfl⟩
  · go_enter Try.func67, Try.ntmps67
    go_wp2_with fail
    go_ret
    exact ⟨ret_int (by omega), rfl⟩

set_option maxHeartbeats 400000 in
theorem iCommon (a b : Nat) (w : World) (ha : a ≤ 9223372036854775808) (hb : b ≤ 9223372036854775808) :
    Calls Try.prog 66 #[.int .u64 a, .int .u64 b] w fun e w' => e = .returned (.int .u64 (Nat.gcd a b : Nat)) ∧ Ge w w' := by
  go_enter Try.func66, Try.ntmps66
  go_wp2_with fail
  go_loopw [0, 1] (fun x y wr => ∃ p q : Nat, x = .int .u64 p ∧ y = .int .u64 q ∧ p ≤ 9223372036854775808 ∧ q ≤ 9223372036854775808 ∧ Hid (Nat.gcd a b = Nat.gcd p q) ∧ Ge w wr) (fun _ y _ => (intOf y).toNat)
  case atStart => exact ⟨a, b, rfl, rfl, ha, hb, rfl, Ge.refl _⟩
  case round =>
    obtain ⟨p, q, rfl, rfl, hp, hq, H, hg⟩ := hrel
    by_cases h0 : q = 0
    · subst h0
      go_wp2_with fail
      go_ret
      exact ⟨ret_int (by rw [H.out, Nat.gcd_zero_right]), hg⟩
    · have t : ((q : Int) != 0) = true := by simp [h0]
      have t' : ((q : Int) == 0) = false := by simp [h0]
      have hq0 : 0 < q := by omega
      have hm := Nat.mod_lt p hq0
      have H2 : Hid (Nat.gcd a b = Nat.gcd q (p % q)) := by rw [H.out, Nat.gcd_comm p q, Nat.gcd_rec q p, Nat.gcd_comm]; exact rfl
      clear h0 H
      go_wp2_with fail
      go_quiet (fail)
      go_wp2_with fail
      go_roundw
      case rel => exact ⟨q, p % q, by go_num, by go_num, hq, by omega, H2, by (repeat (first | with_reducible exact Ge.refl _ | assumption | with_reducible refine Ge.drew ?_ | with_reducible refine Ge.drewN ?_ _ | with_reducible refine Ge.alloc ?_ _ | (with_reducible refine Ge.setCell ?_ (by first | (simp; done) | omega | (simp; omega)) _) | with_reducible refine Ge.trans ?_ (by assumption)))⟩
      case measure => simp [intOf]; omega

/-- An int that is not the least one. -/
def Mid (n : Int) : Prop := -9223372036854775807 ≤ n ∧ n ≤ 9223372036854775807
theorem mid {n : Int} (h0 : -9223372036854775807 ≤ n) (h1 : n ≤ 9223372036854775807) : Mid n := ⟨h0, h1⟩

set_option maxHeartbeats 400000 in
theorem iGcdOf (a b : Int) (w : World) (ha : Mid a) (hb : Mid b) :
    Calls Try.prog 49 #[.int .i64 a, .int .i64 b] w fun e w' => e = .returned (.int .i64 (gcdN a b : Nat)) ∧ Ge w w' := by
  obtain ⟨a0, a1⟩ := ha
  obtain ⟨b0, b1⟩ := hb
  have t1 : (a == -9223372036854775808) = false := by simp; omega
  have t2 : (b == -9223372036854775808) = false := by simp; omega
  have hg : Nat.gcd a.natAbs b.natAbs ≤ 9223372036854775807 := by
    by_cases h : a.natAbs = 0
    · rw [h, Nat.gcd_zero_left]; omega
    · have := Nat.gcd_le_left b.natAbs (show 0 < a.natAbs by omega); omega
  obtain ⟨g, hg'⟩ : ∃ g, Nat.gcd a.natAbs b.natAbs = g := ⟨_, rfl⟩
  rw [hg'] at hg
  have HG := Lib.hid hg'
  clear hg'
  have HC := Lib.hid (fun w => by have := iCommon a.natAbs b.natAbs w (by omega) (by omega); rwa [HG.out] at this : ∀ w, Calls Try.prog 66 #[.int .u64 (a.natAbs : Int), .int .u64 (b.natAbs : Int)] w fun e w' => e = .returned (.int .u64 (g : Int)) ∧ Ge w w')
  have e1 : IntKind.i64.wrap (g : Int) = g := IntWalk.i64_in _ (by omega)
  go_enter Try.func49, Try.ntmps49
  go_wp2_with (first | (go_at_call 67; ((with_reducible refine (iSize _ _ (by omega) (by omega)).mono ?_); rintro e w' ⟨rfl, rfl⟩)) | (go_at_call 66; ((with_reducible refine (HC.out _).mono ?_); rintro e w' ⟨rfl, hb⟩)))
  go_ret
  exact ⟨ret_int (by rw [← HG.out]; exact rfl), by (repeat (first | with_reducible exact Ge.refl _ | assumption | with_reducible refine Ge.drew ?_ | with_reducible refine Ge.drewN ?_ _ | with_reducible refine Ge.alloc ?_ _ | (with_reducible refine Ge.setCell ?_ (by first | (simp; done) | omega | (simp; omega)) _) | with_reducible refine Ge.trans ?_ (by assumption)))⟩

/-- A fraction as a value. -/
def rv (r : Rt) : Value := .agg #[.int .i64 r.n, .int .i64 r.d]
theorem rv_def (r : Rt) : rv r = .agg #[.int .i64 r.n, .int .i64 r.d] := rfl

theorem ratioOf_alt (n d : Int) (a b : Nat) (h0 : d ≠ 0) (ea : n.natAbs / gcdN n d = a) (eb : d.natAbs / gcdN n d = b) :
    ratioOf n d = if ratioOk (if (n < 0) ↔ (d < 0) then (a : Int) else -(a : Int)) (b : Int) = true then ⟨if (n < 0) ↔ (d < 0) then (a : Int) else -(a : Int), (b : Int)⟩ else ⟨0, 0⟩ := by
  have h := ratioOf_ok n d
  have hr : ratioOf n d = if 1000000000000000000 < a ∨ 1000000000000000 < b then zeroR else ⟨if (n < 0) ↔ (d < 0) then (a : Int) else -(a : Int), (b : Int)⟩ := by
    unfold ratioOf; rw [if_neg h0]; simp only [ea, eb]
  rw [hr] at h ⊢
  by_cases c : 1000000000000000000 < a ∨ 1000000000000000 < b
  · rw [if_pos c, if_neg]
    · rfl
    · rw [ratioOk_iff]
      rintro ⟨_, h2, h3, h4, _⟩
      split at h3 <;> split at h4 <;> omega
  · rw [if_neg c] at h ⊢
    have hb0 : b ≠ 0 := by
      intro e
      have hg := gcdN_pos (n := n) h0
      have hl := gcdN_le n d h0
      rw [e] at eb
      have := (Nat.div_eq_zero_iff.1 eb)
      omega
    rcases h with h | h
    · exfalso
      have := congrArg Rt.d h
      simp [zeroR] at this
      omega
    · rw [if_pos h]

end Go.Proofs.Ytenfkpdbfmeebaa
