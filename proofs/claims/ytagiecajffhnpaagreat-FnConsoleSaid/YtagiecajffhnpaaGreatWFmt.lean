/- The contracts of FormatInt, in the program and in the reference. -/
import Derived.Test.YtagiecajffhnpaaGreatWBase
import Derived.Test.YtagiecajffhnpaaGreatPlText
namespace Go.Proofs.YtagiecajffhnpaaGreat

open Go.RowKit

theorem ten_cases (n : Int) (h0 : 0 ≤ n) (h : n < 10) : n = 0 ∨ n = 1 ∨ n = 2 ∨ n = 3 ∨ n = 4 ∨ n = 5 ∨ n = 6 ∨ n = 7 ∨ n = 8 ∨ n = 9 := by omega

theorem enc_digit (n : Int) (h0 : 0 ≤ n) (h : n < 10) : Utf8.encode (48 + n) = bstr (fmtInt n) := by
  rcases ten_cases n h0 h with rfl | rfl | rfl | rfl | rfl | rfl | rfl | rfl | rfl | rfl <;> decide

theorem minus_digit (n : Int) (h : n < 0) : (⟨#[45]⟩ : ByteArray) ++ bstr (fmtInt (-n)) = bstr (fmtInt n) := by
  rw [fmtInt_neg_one n h]
  exact bstr_append [45] _

theorem tdiv_bd (n : Int) (h : n ≤ -10) (hb : -9223372036854775808 ≤ n) : n < n.tdiv 10 ∧ n.tdiv 10 ≤ -1 ∧ -9 ≤ n.tmod 10 ∧ n.tmod 10 ≤ 0 := by
  obtain ⟨m, rfl⟩ : ∃ m : Int, n = -m := ⟨-n, by omega⟩
  rw [Int.neg_tdiv, Int.tdiv_eq_ediv_of_nonneg (by omega), Int.neg_tmod, Int.tmod_eq_emod_of_nonneg (by omega)]
  omega

set_option maxHeartbeats 400000 in
theorem iFormatInt_pos (k : Nat) : ∀ (n : Int) (w : World), n.toNat ≤ k → 0 ≤ n → n ≤ 9223372036854775807 →
    Calls Tryz.prog 6 #[.int .i64 n] w fun e w' => e = .returned (.string (bstr (fmtInt n))) ∧ w = w' := by
  induction k with
  | zero =>
    intro n w hk _ _
    have hn : n = 0 := by omega
    subst hn
    go_enter Tryz.func6, Tryz.ntmps6
    go_wp2_with fail
    go_ret
    exact ⟨ret_str (by decide), rfl⟩
  | succ k ih =>
    intro n w hk h1 hhi
    by_cases h2 : n < 10
    · go_enter Tryz.func6, Tryz.ntmps6
      go_wp2_with fail
      go_ret
      exact ⟨ret_str (enc_digit n h1 h2), rfl⟩
    · have z1 : (bstr (fmtInt (n / 10))).size + (bstr (fmtInt (n % 10))).size ≤ 9223372036854775807 := by
        have := fmtInt_length (n / 10); have := fmtInt_length (n % 10); rw [bstr_size, bstr_size]; omega
      go_enter Tryz.func6, Tryz.ntmps6
      go_wp2_with (go_at_call 6; ((with_reducible refine (ih _ _ (by omega) (by omega) (by omega)).mono ?_); rintro e w' ⟨rfl, rfl⟩))
      go_ret
      exact ⟨ret_str (by rw [bstr_append, fmtInt_pos_step n (by omega) hhi]), rfl⟩

set_option maxHeartbeats 400000 in
theorem iFormatInt_neg (k : Nat) : ∀ (n : Int) (w : World), (-n).toNat ≤ k → n < 0 → -9223372036854775808 ≤ n →
    Calls Tryz.prog 6 #[.int .i64 n] w fun e w' => e = .returned (.string (bstr (fmtInt n))) ∧ w = w' := by
  induction k with
  | zero => intro n w hk _ _; omega
  | succ k ih =>
    intro n w hk h1 hlo
    by_cases h2 : -10 < n
    · have z1 : (1 : Nat) + (bstr (fmtInt (-n))).size ≤ 9223372036854775807 := by
        have := fmtInt_length (-n); rw [bstr_size]; omega
      go_enter Tryz.func6, Tryz.ntmps6
      go_wp2_with (go_at_call 6; ((with_reducible refine (iFormatInt_pos 10 _ _ (by omega) (by omega) (by omega)).mono ?_); rintro e w' ⟨rfl, rfl⟩))
      go_ret
      exact ⟨ret_str (minus_digit n h1), rfl⟩
    · obtain ⟨q1, q2, r1, r2⟩ := tdiv_bd n (by omega) hlo
      have HS := fmtInt_neg_step n (by omega) hlo
      obtain ⟨q, hq⟩ : ∃ q, n.tdiv 10 = q := ⟨_, rfl⟩
      obtain ⟨r, hr⟩ : ∃ r, n.tmod 10 = r := ⟨_, rfl⟩
      rw [hq] at q1 q2 HS
      rw [hr] at r1 r2 HS
      have H : Hid (fmtInt n = fmtInt q ++ fmtInt (-r)) := HS
      clear HS
      have z1 : (bstr (fmtInt q)).size + (bstr (fmtInt (-r))).size ≤ 9223372036854775807 := by
        have := fmtInt_length q; have := fmtInt_length (-r); rw [bstr_size, bstr_size]; omega
      go_enter Tryz.func6, Tryz.ntmps6
      go_wp2_with (first | (go_at_call 6; ((with_reducible refine (ih q _ (by omega) (by omega) (by omega)).mono ?_); rintro e w' ⟨rfl, rfl⟩)) | (go_at_call 6; ((with_reducible refine (iFormatInt_pos 10 (-r) _ (by omega) (by omega) (by omega)).mono ?_); rintro e w' ⟨rfl, rfl⟩)))
      go_ret
      exact ⟨ret_str (by rw [bstr_append, H.out]), rfl⟩

theorem iFormatInt (n : Int) (w : World) (h0 : -9223372036854775808 ≤ n) (h1 : n ≤ 9223372036854775807) :
    Calls Tryz.prog 6 #[.int .i64 n] w fun e w' => e = .returned (.string (bstr (fmtInt n))) ∧ w = w' := by
  by_cases h : 0 ≤ n
  · exact iFormatInt_pos _ n w (Nat.le_refl _) h h1
  · exact iFormatInt_neg _ n w (Nat.le_refl _) (by omega) h0

end Go.Proofs.YtagiecajffhnpaaGreat
