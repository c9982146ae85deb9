/- l04Det of the reference, up to five rows. No condition. Plain Lean: decimal texts of integers as lists of bytes. No program in sight. The contracts of FormatInt, in the program and in the reference. FormatRatio of impl and of spec. No condition. Slices of strings; Join. No condition. Join of spec. No condition. -/
import Derived.Test.YtipiiimemmkdgaaWDetS
import Derived.Test.YtipiiimemmkdgaaJAb
import Derived.Test.YtipiiimemmkdgaaWBase
import Derived.Test.YtipiiimemmkdgaaJAa
import Derived.Test.YtipiiimemmkdgaaWSl
import Derived.Test.YtipiiimemmkdgaaShelf
import Derived.Test.YtipiiimemmkdgaaWEqInt
import Derived.Test.YtipiiimemmkdgaaWLaw
import Derived.Lib.Join
namespace Go.Proofs.Ytipiiimemmkdgaa
set_option maxRecDepth 100000
open Go.ChangeShapes Go.WideShapes Go.ChangeAt Go.RowKit Go.Joins

end Go.Proofs.Ytipiiimemmkdgaa

namespace Go.Proofs.Ytipiiimemmkdgaa

/-- Decimal digits by fuel. -/
def fmtF : Nat → Nat → List UInt8
  | 0, n => [(48 + n % 10).toUInt8]
  | f + 1, n => if n < 10 then [(48 + n).toUInt8] else fmtF f (n / 10) ++ [(48 + n % 10).toUInt8]

/-- The decimal digits of a number below 10^20. -/
def fmtNat (n : Nat) : List UInt8 := fmtF 20 n

/-- FormatInt. -/
def fmtInt (n : Int) : List UInt8 := if n < 0 then 45 :: fmtNat n.natAbs else fmtNat n.natAbs

/-- A list of bytes as a string's bytes. -/
def bstr (l : List UInt8) : ByteArray := ⟨l.toArray⟩

theorem bstr_append (a b : List UInt8) : bstr a ++ bstr b = bstr (a ++ b) := by
  apply ByteArray.ext
  simp [bstr]

theorem bstr_size (a : List UInt8) : (bstr a).size = a.length := by
  simp [bstr, ByteArray.size]

theorem bstr_toList (s : ByteArray) : bstr s.data.toList = s := by
  apply ByteArray.ext
  simp [bstr]

theorem bstr_data (a : List UInt8) : (bstr a).data.toList = a := by simp [bstr]

theorem bstr_inj {a b : List UInt8} (h : bstr a = bstr b) : a = b := by
  have := congrArg (fun s => s.data.toList) h
  simpa [bstr] using this

theorem fmtF_fuel : ∀ (f g n : Nat), n < 10 ^ (f + 1) → f ≤ g → fmtF g n = fmtF f n := by
  intro f
  induction f with
  | zero =>
    intro g n hn hg
    simp at hn
    cases g with
    | zero => rfl
    | succ g => simp [fmtF, hn, Nat.mod_eq_of_lt hn]
  | succ f ih =>
    intro g n hn hg
    cases g with
    | zero => omega
    | succ g =>
      simp only [fmtF]
      split
      · rfl
      · rw [ih g (n / 10) (by rw [Nat.div_lt_iff_lt_mul (by omega)]; rw [Nat.pow_succ] at hn; exact hn) (by omega)]

theorem fmtNat_small (n : Nat) (h : n < 10) : fmtNat n = [(48 + n).toUInt8] := by simp [fmtNat, fmtF, h]

theorem fmtNat_step (n : Nat) (h : 10 ≤ n) (hb : n < 10 ^ 20) : fmtNat n = fmtNat (n / 10) ++ [(48 + n % 10).toUInt8] := by
  show fmtF 20 n = fmtF 20 (n / 10) ++ _
  rw [fmtF_fuel 19 20 (n / 10) (by omega) (by omega)]
  simp [fmtF, show ¬ n < 10 by omega]

theorem fmtF_length : ∀ f n, (fmtF f n).length ≤ f + 1 := by
  intro f
  induction f with
  | zero => intro n; simp [fmtF]
  | succ f ih =>
    intro n
    simp only [fmtF]
    split
    · simp
    · have := ih (n / 10); simp; omega

theorem fmtF_pos : ∀ f n, 0 < (fmtF f n).length := by
  intro f n
  cases f with
  | zero => simp [fmtF]
  | succ f => simp only [fmtF]; split <;> simp

theorem fmtInt_length (n : Int) : (fmtInt n).length ≤ 22 := by
  unfold fmtInt fmtNat
  have := fmtF_length 20 n.natAbs
  split <;> simp <;> omega

theorem fmtInt_pos (n : Int) : 0 < (fmtInt n).length := by
  unfold fmtInt fmtNat
  have := fmtF_pos 20 n.natAbs
  split <;> simp; omega

/-- The two ways in which the program comes to the digits of a negative number. -/
theorem fmtInt_neg_step (n : Int) (h : n ≤ -10) (hb : -9223372036854775808 ≤ n) : fmtInt n = fmtInt (n.tdiv 10) ++ fmtInt (-(n.tmod 10)) := by
  have e1 : (n.tdiv 10).natAbs = n.natAbs / 10 := Int.natAbs_tdiv n 10
  have e2 : (-(n.tmod 10)).natAbs = n.natAbs % 10 := by rw [Int.natAbs_neg]; exact Int.natAbs_tmod n 10
  obtain ⟨m, rfl⟩ : ∃ m : Int, n = -m := ⟨-n, by omega⟩
  have d1 : (-m).tdiv 10 = -(m / 10) := by rw [Int.neg_tdiv, Int.tdiv_eq_ediv_of_nonneg (by omega)]
  have d2 : (-m).tmod 10 = -(m % 10) := by rw [Int.neg_tmod, Int.tmod_eq_emod_of_nonneg (by omega)]
  have h1 : -m < 0 := by omega
  have h2 : (-m).tdiv 10 < 0 := by omega
  have h3 : ¬ (-((-m).tmod 10) < 0) := by omega
  unfold fmtInt
  rw [if_pos h1, if_pos h2, if_neg h3, e1, e2, fmtNat_step (-m).natAbs (by omega) (by omega), fmtNat_small ((-m).natAbs % 10) (by omega)]
  rfl

theorem fmtInt_pos_step (n : Int) (h : 10 ≤ n) (hb : n ≤ 9223372036854775807) : fmtInt n = fmtInt (n / 10) ++ fmtInt (n % 10) := by
  have e1 : (n / 10).natAbs = n.natAbs / 10 := by omega
  have e2 : (n % 10).natAbs = n.natAbs % 10 := by omega
  unfold fmtInt
  rw [if_neg (by omega), if_neg (by omega), if_neg (by omega), e1, e2, fmtNat_step n.natAbs (by omega) (by omega), fmtNat_small (n.natAbs % 10) (by omega)]

theorem fmtInt_neg_one (n : Int) (h : n < 0) : fmtInt n = 45 :: fmtInt (-n) := by
  unfold fmtInt
  rw [if_pos h, if_neg (by omega)]
  congr 2
  omega

theorem fmtInt_digit (n : Int) (h0 : 0 ≤ n) (h : n < 10) : fmtInt n = [(48 + n.toNat).toUInt8] := by
  unfold fmtInt
  rw [if_neg (by omega), fmtNat_small _ (by omega)]
  congr 2
  omega

end Go.Proofs.Ytipiiimemmkdgaa

namespace Go.Proofs.Ytipiiimemmkdgaa

open Go.RowKit

theorem ten_cases (n : Int) (h0 : 0 ≤ n) (h : n < 10) : n = 0 ∨ n = 1 ∨ n = 2 ∨ n = 3 ∨ n = 4 ∨ n = 5 ∨ n = 6 ∨ n = 7 ∨ n = 8 ∨ n = 9 := by omega

theorem enc_digit (n : Int) (h0 : 0 ≤ n) (h : n < 10) : Utf8.encode (48 + n) = bstr (fmtInt n) := by
  rcases ten_cases n h0 h with rfl | rfl | rfl | rfl | rfl | rfl | rfl | rfl | rfl | rfl <;> decide

theorem minus_digit (n : Int) (h : n < 0) : (⟨#[45]⟩ : ByteArray) ++ bstr (fmtInt (-n)) = bstr (fmtInt n) := by
  rw [fmtInt_neg_one n h]
  exact bstr_append [45] _

theorem tdiv_bd (n : Int) (h : n ≤ -10) (hb : -9223372036854775808 ≤ n) : n < n.tdiv 10 ∧ n.tdiv 10 ≤ -1 ∧ -9 ≤ n.tmod 10 ∧ n.tmod 10 ≤ 0 := by
  obtain ⟨m, rfl⟩ : ∃ m : Int, n = -m := ⟨-n, by omega⟩
  rw [Int.neg_tdiv, Int.tdiv_eq_ediv_of_nonneg (by omega), Int.neg_tmod, Int.tmod_eq_emod_of_nonneg (by omega)]
  omega

set_option maxHeartbeats 400000 in
theorem iFormatInt_pos (k : Nat) : ∀ (n : Int) (w : World), n.toNat ≤ k → 0 ≤ n → n ≤ 9223372036854775807 →
    Calls Try.prog 11 #[.int .i64 n] w fun e w' => e = .returned (.string (bstr (fmtInt n))) ∧ w = w' := by
  induction k with
  | zero =>
    intro n w hk _ _
    have hn : n = 0 := by omega
    subst hn
    go_enter Try.func11, Try.ntmps11
    go_wp2_with fail
    go_ret
    exact ⟨ret_str (by decide), rfl⟩
  | succ k ih =>
    intro n w hk h1 hhi
    by_cases h2 : n < 10
    · go_enter Try.func11, Try.ntmps11
      go_wp2_with fail
      go_ret
      exact ⟨ret_str (enc_digit n h1 h2), rfl⟩
    · have z1 : (bstr (fmtInt (n / 10))).size + (bstr (fmtInt (n % 10))).size ≤ 9223372036854775807 := by
        have := fmtInt_length (n / 10); have := fmtInt_length (n % 10); rw [bstr_size, bstr_size]; omega
      go_enter Try.func11, Try.ntmps11
      go_wp2_with (go_at_call 11; ((with_reducible refine (ih _ _ (by omega) (by omega) (by omega)).mono ?_); rintro e w' ⟨rfl, rfl⟩))
      go_ret
      exact ⟨ret_str (by rw [bstr_append, fmtInt_pos_step n (by omega) hhi]), rfl⟩

set_option maxHeartbeats 400000 in
theorem iFormatInt_neg (k : Nat) : ∀ (n : Int) (w : World), (-n).toNat ≤ k → n < 0 → -9223372036854775808 ≤ n →
    Calls Try.prog 11 #[.int .i64 n] w fun e w' => e = .returned (.string (bstr (fmtInt n))) ∧ w = w' := by
  induction k with
  | zero => intro n w hk _ _; omega
  | succ k ih =>
    intro n w hk h1 hlo
    by_cases h2 : -10 < n
    · have z1 : (1 : Nat) + (bstr (fmtInt (-n))).size ≤ 9223372036854775807 := by
        have := fmtInt_length (-n); rw [bstr_size]; omega
      go_enter Try.func11, Try.ntmps11
      go_wp2_with (go_at_call 11; ((with_reducible refine (iFormatInt_pos 10 _ _ (by omega) (by omega) (by omega)).mono ?_); rintro e w' ⟨rfl, rfl⟩))
      go_ret
      exact ⟨ret_str (minus_digit n h1), rfl⟩
    · obtain ⟨q1, q2, r1, r2⟩ := tdiv_bd n (by omega) hlo
      have HS := fmtInt_neg_step n (by omega) hlo
      obtain ⟨q, hq⟩ : ∃ q, n.tdiv 10 = q := ⟨_, rfl⟩
      obtain ⟨r, hr⟩ : ∃ r, n.tmod 10 = r := ⟨_, rfl⟩
      rw [hq] at q1 q2 HS
      rw [hr] at r1 r2 HS
      have H : Hid (fmtInt n = fmtInt q ++ fmtInt (-r)) := HS
      clear HS
      have z1 : (bstr (fmtInt q)).size + (bstr (fmtInt (-r))).size ≤ 9223372036854775807 := by
        have := fmtInt_length q; have := fmtInt_length (-r); rw [bstr_size, bstr_size]; omega
      go_enter Try.func11, Try.ntmps11
      go_wp2_with (first | (go_at_call 11; ((with_reducible refine (ih q _ (by omega) (by omega) (by omega)).mono ?_); rintro e w' ⟨rfl, rfl⟩)) | (go_at_call 11; ((with_reducible refine (iFormatInt_pos 10 (-r) _ (by omega) (by omega) (by omega)).mono ?_); rintro e w' ⟨rfl, rfl⟩)))
      go_ret
      exact ⟨ret_str (by rw [bstr_append, H.out]), rfl⟩

theorem iFormatInt (n : Int) (w : World) (h0 : -9223372036854775808 ≤ n) (h1 : n ≤ 9223372036854775807) :
    Calls Try.prog 11 #[.int .i64 n] w fun e w' => e = .returned (.string (bstr (fmtInt n))) ∧ w = w' := by
  by_cases h : 0 ≤ n
  · exact iFormatInt_pos _ n w (Nat.le_refl _) h h1
  · exact iFormatInt_neg _ n w (Nat.le_refl _) (by omega) h0

theorem sub_digit (n : Int) (h0 : -9 ≤ n) (h : n ≤ 0) : IntKind.u8.wrap (48 - n) = 48 - n := by
  have : n = 0 ∨ n = -1 ∨ n = -2 ∨ n = -3 ∨ n = -4 ∨ n = -5 ∨ n = -6 ∨ n = -7 ∨ n = -8 ∨ n = -9 := by omega
  rcases this with rfl | rfl | rfl | rfl | rfl | rfl | rfl | rfl | rfl | rfl <;> decide

/-- A slice of one byte as a string. -/
theorem conv1 {P : Program} (w : World) (src dst e : TypeId) (a : Addr) (m : Int)
    (hs : P.underlying src = some (.slice e)) (he : P.underlying e = some (.int .u8)) (hd : P.underlying dst = some .string)
    (hc : w.cell? a = some (.int .u8 m)) : (convert src dst (.slice (some a) 1 1)).run P w = .ok (.string (bstr [UInt8.ofNat m.toNat])) w := by
  rw [run_convert_bytes_string w src dst e _ _ _ hs he hd, run_bytesToString w a 1 1 [m] ?_]
  · rfl
  · simp [loadCells, loadCellsFrom, hc, go_sem]

theorem one_digit (n : Int) (h0 : -9 ≤ n) (h : n ≤ 0) : [UInt8.ofNat (48 - n).toNat] = fmtInt (-n) := by
  have : n = 0 ∨ n = -1 ∨ n = -2 ∨ n = -3 ∨ n = -4 ∨ n = -5 ∨ n = -6 ∨ n = -7 ∨ n = -8 ∨ n = -9 := by omega
  rcases this with rfl | rfl | rfl | rfl | rfl | rfl | rfl | rfl | rfl | rfl <;> decide

theorem sFmt_conv (m : Int) : ∀ (wx : World) (b : Nat), wx.cell? ⟨b, 0, none⟩ = some (.int .u8 m) →
    (convert 22 9 (.slice (some ⟨b, 0, none⟩) 1 1)).run Try.prog wx = .ok (.string (bstr [UInt8.ofNat m.toNat])) wx :=
  fun wx _ hc => conv1 wx _ _ 5 _ m Try.underlying22 Try.underlying5 Try.underlying9 hc

/-- The digits that are still to be written, ahead of those that are. -/
theorem fmt_step_pos (n : Int) (h0 : 9 < n) (h : n ≤ 9223372036854775807) (t : List UInt8) : fmtInt (n / 10) ++ ([UInt8.ofNat (48 + n % 10).toNat] ++ t) = fmtInt n ++ t := by
  rw [fmtInt_pos_step n (by omega) h, fmtInt_digit (n % 10) (by omega) (by omega), ← List.append_assoc]
  congr 3
  show UInt8.ofNat _ = UInt8.ofNat _
  congr 1
  omega

theorem add_digit (n : Int) (h0 : 0 ≤ n) (h : n < 10) : IntKind.u8.wrap (48 + n) = 48 + n := by
  rcases ten_cases n h0 h with rfl | rfl | rfl | rfl | rfl | rfl | rfl | rfl | rfl | rfl <;> decide

theorem left_len {n k : Int} {t : List UInt8} (H : Hid (fmtInt n = fmtInt k ++ t)) : t.length ≤ 22 := by
  have := congrArg List.length H.out
  have := fmtInt_length n
  simp at *
  omega

theorem last_digit (k : Int) (k0 : 0 ≤ k) (h9 : ¬ 9 < k) : [UInt8.ofNat (48 + k).toNat] = fmtInt k := by
  rcases ten_cases k k0 (by omega) with rfl | rfl | rfl | rfl | rfl | rfl | rfl | rfl | rfl | rfl <;> decide

end Go.Proofs.Ytipiiimemmkdgaa

namespace Go.Proofs.Ytipiiimemmkdgaa
set_option maxRecDepth 100000
open Go.ChangeShapes Go.WideShapes Go.ChangeAt Go.RowKit Go.Joins

def ratioTxt (n d : Int) : List UInt8 := if ratioOk n d = true then (if d = 1 then fmtInt n else fmtInt n ++ [47] ++ fmtInt d) else []
theorem ratioTxt_le (n d : Int) : (ratioTxt n d).length ≤ 45 := by
  have := fmtInt_length n; have := fmtInt_length d
  unfold ratioTxt
  repeat' split
  all_goals simp
  all_goals omega
theorem ratioTxt_1 {n d : Int} (h : ratioOk n d = true) (h1 : d = 1) : bstr (fmtInt n) = bstr (ratioTxt n d) := by simp [ratioTxt, h, h1]; rw [h1] at h; simp [h]
theorem ratioTxt_2 {n d : Int} (h : ratioOk n d = true) (h1 : ¬ d = 1) : bstr (fmtInt n) ++ (⟨#[47]⟩ : ByteArray) ++ bstr (fmtInt d) = bstr (ratioTxt n d) := by
  rw [show (⟨#[47]⟩ : ByteArray) = bstr [47] from rfl, bstr_append, bstr_append]; simp [ratioTxt, h, h1]
theorem ratioTxt_0 {n d : Int} (h : ratioOk n d = false) : (⟨#[]⟩ : ByteArray) = bstr (ratioTxt n d) := by simp [ratioTxt, h, bstr]
theorem ratio_sm {n d : Int} (h : ratioOk n d = true) : (-9223372036854775808 ≤ n ∧ n ≤ 9223372036854775807) ∧ (-9223372036854775808 ≤ d ∧ d ≤ 9223372036854775807) := by
  have := ratioOk_iff.1 h; omega

set_option maxHeartbeats 1600000 in
theorem iFormatRatio (n d : Int) (w : World) :
    Calls Try.prog 10 #[.agg #[.int .i64 n, .int .i64 d]] w fun e w' => e = .returned (.string (bstr (ratioTxt n d))) ∧ Ge w w' := by
  cases c : ratioOk n d with
  | false =>
    have HF := Lib.hid (ratioTxt_0 c)
    go_enter Try.func10, Try.ntmps10
    go_wp2_with (go_at_call 26; ((with_reducible refine (iRatioOk _ _ _).mono ?_); rintro e w1 ⟨rfl, gw1⟩); have Gw1 : Ge w w1 := (Ge.trans (by (repeat (first | with_reducible exact Ge.refl _ | assumption | with_reducible refine Ge.drew ?_ | with_reducible refine Ge.drewN ?_ _ | with_reducible refine Ge.alloc ?_ _ | (with_reducible refine Ge.setCell ?_ (by first | (simp; done) | omega | (simp; omega)) _) | with_reducible refine Ge.trans ?_ (by assumption)))) gw1); have c0_0 : World.cell? w1 ⟨w.heap.size, 0, none⟩ = some (.int .i64 n) := Ge.keep gw1 (by repeat (first | assumption | exact (own_new (by simp) rfl).1 | with_reducible refine cell_drew ?_ | with_reducible refine cell_drewN ?_ | with_reducible refine cell_alloc ?_ | (simp [*]; done))); have c0_1 : World.cell? w1 ⟨w.heap.size, 1, none⟩ = some (.int .i64 d) := Ge.keep gw1 (by repeat (first | assumption | exact (own_new (by simp) rfl).1 | with_reducible refine cell_drew ?_ | with_reducible refine cell_drewN ?_ | with_reducible refine cell_alloc ?_ | (simp [*]; done))); have zw1 : w.heap.size + 1 ≤ w1.heap.size := (by have := Ge.size gw1; (try simp at this); omega))
    go_ret
    exact ⟨ret_str HF.out, by (repeat (first | with_reducible exact Ge.refl _ | assumption | with_reducible refine Ge.drew ?_ | with_reducible refine Ge.drewN ?_ _ | with_reducible refine Ge.alloc ?_ _ | (with_reducible refine Ge.setCell ?_ (by first | (simp; done) | omega | (simp; omega)) _) | with_reducible refine Ge.trans ?_ (by assumption)))⟩
  | true =>
    have hs := ratio_sm c
    have H0 := Lib.hid hs.1
    have H1 := Lib.hid hs.2
    clear hs
    have z1 : ¬ (9223372036854775807 < (bstr (fmtInt n)).size + 1) := by rw [bstr_size]; have := fmtInt_length n; omega
    have z2 : ¬ (9223372036854775807 < (bstr (fmtInt n)).size + 1 + (bstr (fmtInt d)).size) := by rw [bstr_size, bstr_size]; have := fmtInt_length n; have := fmtInt_length d; omega
    by_cases h1 : d = 1
    · have HF := Lib.hid (ratioTxt_1 c h1)
      have t1 : (d == 1) = true := by simp [h1]
      clear h1
      go_enter Try.func10, Try.ntmps10
      go_wp2_with (first | (go_at_call 26; ((with_reducible refine (iRatioOk _ _ _).mono ?_); rintro e w1 ⟨rfl, gw1⟩); have Gw1 : Ge w w1 := (Ge.trans (by (repeat (first | with_reducible exact Ge.refl _ | assumption | with_reducible refine Ge.drew ?_ | with_reducible refine Ge.drewN ?_ _ | with_reducible refine Ge.alloc ?_ _ | (with_reducible refine Ge.setCell ?_ (by first | (simp; done) | omega | (simp; omega)) _) | with_reducible refine Ge.trans ?_ (by assumption)))) gw1); have c0_0 : World.cell? w1 ⟨w.heap.size, 0, none⟩ = some (.int .i64 n) := Ge.keep gw1 (by repeat (first | assumption | exact (own_new (by simp) rfl).1 | with_reducible refine cell_drew ?_ | with_reducible refine cell_drewN ?_ | with_reducible refine cell_alloc ?_ | (simp [*]; done))); have c0_1 : World.cell? w1 ⟨w.heap.size, 1, none⟩ = some (.int .i64 d) := Ge.keep gw1 (by repeat (first | assumption | exact (own_new (by simp) rfl).1 | with_reducible refine cell_drew ?_ | with_reducible refine cell_drewN ?_ | with_reducible refine cell_alloc ?_ | (simp [*]; done))); have zw1 : w.heap.size + 1 ≤ w1.heap.size := (by have := Ge.size gw1; (try simp at this); omega)) | (go_at_call 11; ((with_reducible refine (iFormatInt _ _ H0.out.1 H0.out.2).mono ?_); rintro e w' ⟨rfl, rfl⟩)))
      go_ret
      exact ⟨ret_str HF.out, by (repeat (first | with_reducible exact Ge.refl _ | assumption | with_reducible refine Ge.drew ?_ | with_reducible refine Ge.drewN ?_ _ | with_reducible refine Ge.alloc ?_ _ | (with_reducible refine Ge.setCell ?_ (by first | (simp; done) | omega | (simp; omega)) _) | with_reducible refine Ge.trans ?_ (by assumption)))⟩
    · have HF := Lib.hid (ratioTxt_2 c h1)
      have t1 : (d == 1) = false := by simp [h1]
      clear h1
      go_enter Try.func10, Try.ntmps10
      go_wp2_with ((go_at_call 26; ((with_reducible refine (iRatioOk _ _ _).mono ?_); rintro e w1 ⟨rfl, gw1⟩); have Gw1 : Ge w w1 := (Ge.trans (by (repeat (first | with_reducible exact Ge.refl _ | assumption | with_reducible refine Ge.drew ?_ | with_reducible refine Ge.drewN ?_ _ | with_reducible refine Ge.alloc ?_ _ | (with_reducible refine Ge.setCell ?_ (by first | (simp; done) | omega | (simp; omega)) _) | with_reducible refine Ge.trans ?_ (by assumption)))) gw1); have c0_0 : World.cell? w1 ⟨w.heap.size, 0, none⟩ = some (.int .i64 n) := Ge.keep gw1 (by repeat (first | assumption | exact (own_new (by simp) rfl).1 | with_reducible refine cell_drew ?_ | with_reducible refine cell_drewN ?_ | with_reducible refine cell_alloc ?_ | (simp [*]; done))); have c0_1 : World.cell? w1 ⟨w.heap.size, 1, none⟩ = some (.int .i64 d) := Ge.keep gw1 (by repeat (first | assumption | exact (own_new (by simp) rfl).1 | with_reducible refine cell_drew ?_ | with_reducible refine cell_drewN ?_ | with_reducible refine cell_alloc ?_ | (simp [*]; done))); have zw1 : w.heap.size + 1 ≤ w1.heap.size := (by have := Ge.size gw1; (try simp at this); omega)))
      have hS : ∀ w', Ge w1 w' → (w'.cell? ⟨w.heap.size, 0, none⟩ = some (.int .i64 n) ∧ w'.cell? ⟨w.heap.size, 1, none⟩ = some (.int .i64 d) ∧ Ge w1 w') := fun w' g => ⟨g.keep (by (repeat (first | assumption | with_reducible exact Ge.refl _ | with_reducible refine cv_drew ?_ | with_reducible refine cv_alloc ?_ | with_reducible refine cv_set ?_ | (with_reducible apply cv_some; assumption) | with_reducible refine cell_drew ?_ | with_reducible refine cell_drewN ?_ | ((with_reducible refine cell_new ?_ ?_); (focus (simp; done)); rfl) | with_reducible refine cell_alloc ?_ | with_reducible refine cell_same2 ?_ | ((with_reducible refine cell_set2 ?_ ?_); focus (first | (simp; done) | (intro hE; simp at hE; done) | (intro hE; simp at hE; omega))) | with_reducible refine Ge.drew ?_ | with_reducible refine Ge.drewN ?_ _ | with_reducible refine Ge.alloc ?_ _ | ((with_reducible refine Ge.setCell ?_ ?_ _); rotate_left; focus (first | (simp; done) | omega | (simp; omega))) | with_reducible refine Ge.trans ?_ (by assumption) | with_reducible refine Ge.keep (by assumption) ?_))), g.keep (by (repeat (first | assumption | with_reducible exact Ge.refl _ | with_reducible refine cv_drew ?_ | with_reducible refine cv_alloc ?_ | with_reducible refine cv_set ?_ | (with_reducible apply cv_some; assumption) | with_reducible refine cell_drew ?_ | with_reducible refine cell_drewN ?_ | ((with_reducible refine cell_new ?_ ?_); (focus (simp; done)); rfl) | with_reducible refine cell_alloc ?_ | with_reducible refine cell_same2 ?_ | ((with_reducible refine cell_set2 ?_ ?_); focus (first | (simp; done) | (intro hE; simp at hE; done) | (intro hE; simp at hE; omega))) | with_reducible refine Ge.drew ?_ | with_reducible refine Ge.drewN ?_ _ | with_reducible refine Ge.alloc ?_ _ | ((with_reducible refine Ge.setCell ?_ ?_ _); rotate_left; focus (first | (simp; done) | omega | (simp; omega))) | with_reducible refine Ge.trans ?_ (by assumption) | with_reducible refine Ge.keep (by assumption) ?_))), Ge.trans (by (repeat (first | assumption | with_reducible exact Ge.refl _ | with_reducible refine cv_drew ?_ | with_reducible refine cv_alloc ?_ | with_reducible refine cv_set ?_ | (with_reducible apply cv_some; assumption) | with_reducible refine cell_drew ?_ | with_reducible refine cell_drewN ?_ | ((with_reducible refine cell_new ?_ ?_); (focus (simp; done)); rfl) | with_reducible refine cell_alloc ?_ | with_reducible refine cell_same2 ?_ | ((with_reducible refine cell_set2 ?_ ?_); focus (first | (simp; done) | (intro hE; simp at hE; done) | (intro hE; simp at hE; omega))) | with_reducible refine Ge.drew ?_ | with_reducible refine Ge.drewN ?_ _ | with_reducible refine Ge.alloc ?_ _ | ((with_reducible refine Ge.setCell ?_ ?_ _); rotate_left; focus (first | (simp; done) | omega | (simp; omega))) | with_reducible refine Ge.trans ?_ (by assumption) | with_reducible refine Ge.keep (by assumption) ?_))) g⟩
      go_region_held3 (fun w' => w'.cell? ⟨w.heap.size, 0, none⟩ = some (.int .i64 n) ∧ w'.cell? ⟨w.heap.size, 1, none⟩ = some (.int .i64 d) ∧ Ge w1 w') (first | ((with_reducible refine hS _ ?_); (repeat (first | assumption | with_reducible exact Ge.refl _ | with_reducible refine cv_drew ?_ | with_reducible refine cv_alloc ?_ | with_reducible refine cv_set ?_ | (with_reducible apply cv_some; assumption) | with_reducible refine cell_drew ?_ | with_reducible refine cell_drewN ?_ | ((with_reducible refine cell_new ?_ ?_); (focus (simp; done)); rfl) | with_reducible refine cell_alloc ?_ | with_reducible refine cell_same2 ?_ | ((with_reducible refine cell_set2 ?_ ?_); focus (first | (simp; done) | (intro hE; simp at hE; done) | (intro hE; simp at hE; omega))) | with_reducible refine Ge.drew ?_ | with_reducible refine Ge.drewN ?_ _ | with_reducible refine Ge.alloc ?_ _ | ((with_reducible refine Ge.setCell ?_ ?_ _); rotate_left; focus (first | (simp; done) | omega | (simp; omega))) | with_reducible refine Ge.trans ?_ (by assumption) | with_reducible refine Ge.keep (by assumption) ?_)); done) | fail) (first | (go_at_call 11; ((with_reducible refine (iFormatInt _ _ (by first | exact H0.out.1 | exact H1.out.1) (by first | exact H0.out.2 | exact H1.out.2)).mono ?_); rintro e w' ⟨rfl, rfl⟩)) | fail)
      rename_i hHeldX
      obtain ⟨q0, q1, G2⟩ := hHeldX
      clear hS
      go_wp2_with fail
      go_ret
      exact ⟨ret_str HF.out, by (repeat (first | with_reducible exact Ge.refl _ | assumption | with_reducible refine Ge.drew ?_ | with_reducible refine Ge.drewN ?_ _ | with_reducible refine Ge.alloc ?_ _ | (with_reducible refine Ge.setCell ?_ (by first | (simp; done) | omega | (simp; omega)) _) | with_reducible refine Ge.trans ?_ (by assumption)))⟩

end Go.Proofs.Ytipiiimemmkdgaa

namespace Go.Proofs.Ytipiiimemmkdgaa

open Go.RowKit

/-- Texts as cells. -/
def scells (l : List (List UInt8)) : List Value := l.map fun s => .string (bstr s)
theorem scells_length (l : List (List UInt8)) : (scells l).length = l.length := by simp [scells]
/-- A slice of strings that reads as l. -/
def SlS (w : World) (v : Value) (l : List (List UInt8)) : Prop := Sl w v l.length 1 (scells l)
theorem SlS.ge {w w' : World} {v : Value} {l : List (List UInt8)} (h : SlS w v l) (hg : Ge w w') : SlS w' v l := Sl.ge h hg
theorem SlS.of_owns {w : World} {base : Nat} {e : TypeId} {v : Value} {l : List (List UInt8)} (h : w.ownsRow base e 1 v l.length (scells l)) : SlS w v l := Sl.of_owns h
def tnth (l : List (List UInt8)) (i : Nat) : List UInt8 := l.getD i []
theorem tnth_eq (l : List (List UInt8)) (i : Nat) (h : i < l.length) : tnth l i = l[i] := by simp [tnth, List.getD, h]
theorem SlS.openN {w : World} {v : Value} {l : List (List UInt8)} {n : Nat} (h : SlS w v l) (hn : l.length = n) : ∃ p cap, v = .slice p n cap ∧ ∀ i, i < n → ∃ b o, p = some ⟨b, o, none⟩ ∧ w.cell? ⟨b, o + i, none⟩ = some (.string (bstr (tnth l i))) := by
  subst hn
  obtain ⟨_, p, cap, hv, hc⟩ := h
  refine ⟨p, cap, hv, fun i hi => ?_⟩
  exact hc i (.string (bstr (tnth l i))) (by simp [scells, hi, tnth_eq])

theorem inf_str : (Try.prog.info? 9).map (fun i => (i.zero, i.size, i.bytes)) = some (some (.string ⟨#[]⟩), 1, 16) := by kernel_rfl
theorem ap_str {w : World} {ops : Array Oper} {rest : List Oper} {o : Oper} {a : Act} {Q : Exit → Act → World → Prop} (hgd : o.guard = none) (s x : Operand)
    (ho : o.op = .call { callee := .builtin .append, args := #[s, x], argTypes := #[34, 34] })
    (base : Nat) (v : Value) (l : List (List UInt8)) (hs : a.eval s = v) (hown : w.ownsRow base 9 1 v l.length (scells l))
    (y : List UInt8) (hx : a.eval x = .slice (some ⟨w.heap.size, 0, none⟩) 1 1) (hn : l.length < 1099511627776) (hbase : base ≤ w.heap.size)
    (h : ∀ v' w', w'.ownsRow base 9 1 v' (l ++ [y]).length (scells (l ++ [y])) → Mine w w' v → wpList Try.prog ops Q rest (a.put o.dst v') w') :
    wpList Try.prog ops Q (o :: rest) a (w.alloc (.cells #[.string (bstr y)] 9)) :=
  ap1 hgd s x 34 ho 9 _ 1 16 Try.underlying34 inf_str rfl (by decide) (by decide) base v _ _ hs hown #[.string (bstr y)] hx rfl (by simp [Value.oneCell']) hn hbase
    (fun v' w' h2 h3 => h v' w' (by simpa [scells] using h2) h3)

theorem lens_le (l : List (List UInt8)) (B : Nat) (h : ∀ x ∈ l, x.length ≤ B) : Lib.lens l ≤ B * l.length := by
  induction l with
  | nil => simp [Lib.lens]
  | cons x r ih =>
    have h1 := ih (fun y hy => h y (List.mem_cons_of_mem _ hy))
    have h2 := h x (by simp)
    simp only [Lib.lens, List.map_cons, List.sum_cons, List.length_cons] at h1 ⊢
    rw [Nat.mul_succ]
    omega
theorem joinTail_le (sep : List UInt8) (l : List (List UInt8)) (B : Nat) (h : ∀ x ∈ l, x.length ≤ B) : (Lib.joinTail sep l).length ≤ (sep.length + B) * l.length := by
  rw [Lib.joinTail_length, Nat.add_mul]
  have := lens_le l B h
  omega
theorem join_le (sep : List UInt8) (l : List (List UInt8)) (B : Nat) (h : ∀ x ∈ l, x.length ≤ B) : (Lib.join l sep).length ≤ (sep.length + B) * l.length := by
  cases l with
  | nil => simp [Lib.join_nil]
  | cons x r =>
    rw [Lib.join_cons, List.length_append]
    have h1 := joinTail_le sep r B (fun y hy => h y (List.mem_cons_of_mem _ hy))
    have h2 := h x (by simp)
    simp only [List.length_cons, Nat.mul_succ]
    omega
theorem joinTail_snoc (sep : List UInt8) (l : List (List UInt8)) (y : List UInt8) : Lib.joinTail sep (l ++ [y]) = Lib.joinTail sep l ++ (sep ++ y) := by
  simp [Lib.joinTail]

theorem iJoin (base : Nat) (e : TypeId) (v : Value) (l : List (List UInt8)) (sep : List UInt8) (w : World) (h : w.ownsRow base e 1 v l.length (scells l)) (hn : l.length ≤ 140737488355328) (hlen : (Lib.join l sep).length ≤ 140737488355328) :
    Calls Try.prog 28 #[v, .string (bstr sep)] w fun en w' => en = .returned (.string (bstr (Lib.join l sep))) ∧ Ge w w' := by
  have key : ∃ f : World → Prop, (∀ w', f w' → Ge w w') ∧ Calls Try.prog 42 #[v, .string (bstr sep)] w fun en w' => en = .returned (.string (bstr (Lib.join l sep))) ∧ f w' := by
    by_cases h0 : l = []
    · subst h0
      rcases owns_cases h with ⟨rfl, _⟩ | ⟨g, cap, rfl⟩
      · exact ⟨fun w' => w' = w, fun w' h => h ▸ Ge.refl _, Try.strings_Join_none none 0 (bstr sep) w⟩
      · exact ⟨fun w' => w' = w, fun w' h => h ▸ Ge.refl _, Try.strings_Join_none (some ⟨g, 0, none⟩) cap (bstr sep) w⟩
    · have hp : 0 < l.length := List.length_pos_iff.2 h0
      obtain ⟨g, cap, rfl⟩ := Go.Joins.ownsRow_form h hp
      refine ⟨fun w' => Below w.heap.size w w', fun w' h => h, ?_⟩
      have hc : l.length ≤ cap := by
        rcases h.2 with ⟨h', _⟩ | ⟨g', cap', cur, h', _, _, hnc, _⟩
        · simp at h'
        · simp at h'; omega
      have hxs : (l.map bstr).map (·.data.toList) = l := by
        rw [List.map_map]
        conv => rhs; rw [← List.map_id l]
        exact List.map_congr_left fun x _ => bstr_data x
      have hbk : g < w.heap.size := (h.lt g rfl).2
      have := Try.strings_Join g 0 cap (l.map bstr) (bstr sep) w (fun j x hx => by
        have hj : j < l.length := by have := (List.getElem?_eq_some_iff.1 hx).1; simpa using this
        rw [Nat.zero_add, h.cellAt j (by omega)]
        rw [List.getElem?_map] at hx
        simp only [scells, List.getElem?_map]
        cases hy : l[j]? with
        | none => rw [hy] at hx; simp at hx
        | some y => rw [hy] at hx; simp at hx; simp [hx]) hbk (by simpa using hn) (by simpa using hc) (by rw [hxs, bstr_data]; exact hlen)
      rw [hxs, bstr_data, List.length_map] at this
      exact this
  obtain ⟨f, hf, hc⟩ := key
  obtain ⟨p, cap, rfl⟩ := owns_form h
  have HF := Lib.hid hf
  clear hf h
  go_enter Try.func28, Try.ntmps28
  go_wp2_with (go_at_call 42; ((with_reducible refine hc.mono ?_); rintro e' w' ⟨rfl, hw⟩))
  go_ret
  exact ⟨rfl, HF.out _ hw⟩
end Go.Proofs.Ytipiiimemmkdgaa

namespace Go.Proofs.Ytipiiimemmkdgaa
set_option maxRecDepth 100000
open Go.ChangeShapes Go.WideShapes Go.ChangeAt Go.RowKit Go.Joins

theorem join_step (l : List (List UInt8)) (sep : List UInt8) (k : Nat) (h : k < l.length) : Lib.join (l.take (k + 1)) sep = Lib.join (l.take k) sep ++ (if k = 0 then [] else sep) ++ tnth l k := by
  cases l with
  | nil => simp at h
  | cons x r =>
    cases k with
    | zero => simp [Lib.join_one, Lib.join_nil, tnth]
    | succ k =>
      have hk : k < r.length := by simpa using h
      have e : r[k]? = some r[k] := List.getElem?_eq_getElem hk
      simp only [List.take_succ_cons, Lib.join_cons]
      rw [Lib.joinTail_take_succ sep r k _ e]
      simp [tnth, hk]
theorem join_take_le (l : List (List UInt8)) (sep : List UInt8) (k : Nat) : (Lib.join (l.take k) sep).length ≤ (Lib.join l sep).length := by
  cases l with
  | nil => simp
  | cons x r =>
    cases k with
    | zero => simp [Lib.join_nil]
    | succ k =>
      simp only [List.take_succ_cons, Lib.join_cons, List.length_append]
      have := Lib.joinTail_take_le sep r k
      omega

end Go.Proofs.Ytipiiimemmkdgaa
