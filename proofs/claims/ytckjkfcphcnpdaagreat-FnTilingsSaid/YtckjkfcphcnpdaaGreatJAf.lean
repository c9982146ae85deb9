/- Plain Lean: decimal texts of integers as lists of bytes. No program in sight. The contracts of FormatInt, in the program and in the reference. FormatNet of impl and of spec. No condition. FormatRatio of impl and of spec. No condition. ResistanceOf, l05Scaled, ResistLine. No condition. What FnTilings asks of a tiling, by a test that can be run. No condition. The tilings that MakeTiling draws, one by one. No condition. -/
import Derived.Test.YtckjkfcphcnpdaaGreatWBase
import Derived.Test.YtckjkfcphcnpdaaGreatJAb
import Derived.Test.YtckjkfcphcnpdaaGreatJAe
import Derived.Test.YtckjkfcphcnpdaaGreatPlTileC
import Derived.Test.YtckjkfcphcnpdaaGreatPlCut
import Derived.Test.YtckjkfcphcnpdaaGreatPlSizes
import Derived.Test.YtckjkfcphcnpdaaGreatWTile5
import Derived.Test.YtckjkfcphcnpdaaGreatJAd
namespace Go.Proofs.YtckjkfcphcnpdaaGreat

/-- Decimal digits by fuel. -/
def fmtF : Nat → Nat → List UInt8
  | 0, n => [(48 + n % 10).toUInt8]
  | f + 1, n => if n < 10 then [(48 + n).toUInt8] else fmtF f (n / 10) ++ [(48 + n % 10).toUInt8]

/-- The decimal digits of a number below 10^20. -/
def fmtNat (n : Nat) : List UInt8 := fmtF 20 n

/-- FormatInt. -/
def fmtInt (n : Int) : List UInt8 := if n < 0 then 45 :: fmtNat n.natAbs else fmtNat n.natAbs

/-- A list of bytes as a string's bytes. -/
def bstr (l : List UInt8) : ByteArray := ⟨l.toArray⟩

theorem bstr_append (a b : List UInt8) : bstr a ++ bstr b = bstr (a ++ b) := by
  apply ByteArray.ext
  simp [bstr]

theorem bstr_size (a : List UInt8) : (bstr a).size = a.length := by
  simp [bstr, ByteArray.size]

theorem bstr_toList (s : ByteArray) : bstr s.data.toList = s := by
  apply ByteArray.ext
  simp [bstr]

theorem bstr_data (a : List UInt8) : (bstr a).data.toList = a := by simp [bstr]

theorem bstr_inj {a b : List UInt8} (h : bstr a = bstr b) : a = b := by
  have := congrArg (fun s => s.data.toList) h
  simpa [bstr] using this

theorem fmtF_fuel : ∀ (f g n : Nat), n < 10 ^ (f + 1) → f ≤ g → fmtF g n = fmtF f n := by
  intro f
  induction f with
  | zero =>
    intro g n hn hg
    simp at hn
    cases g with
    | zero => rfl
    | succ g => simp [fmtF, hn, Nat.mod_eq_of_lt hn]
  | succ f ih =>
    intro g n hn hg
    cases g with
    | zero => omega
    | succ g =>
      simp only [fmtF]
      split
      · rfl
      · rw [ih g (n / 10) (by rw [Nat.div_lt_iff_lt_mul (by omega)]; rw [Nat.pow_succ] at hn; exact hn) (by omega)]

theorem fmtNat_small (n : Nat) (h : n < 10) : fmtNat n = [(48 + n).toUInt8] := by simp [fmtNat, fmtF, h]

theorem fmtNat_step (n : Nat) (h : 10 ≤ n) (hb : n < 10 ^ 20) : fmtNat n = fmtNat (n / 10) ++ [(48 + n % 10).toUInt8] := by
  show fmtF 20 n = fmtF 20 (n / 10) ++ _
  rw [fmtF_fuel 19 20 (n / 10) (by omega) (by omega)]
  simp [fmtF, show ¬ n < 10 by omega]

theorem fmtF_length : ∀ f n, (fmtF f n).length ≤ f + 1 := by
  intro f
  induction f with
  | zero => intro n; simp [fmtF]
  | succ f ih =>
    intro n
    simp only [fmtF]
    split
    · simp
    · have := ih (n / 10); simp; omega

theorem fmtF_pos : ∀ f n, 0 < (fmtF f n).length := by
  intro f n
  cases f with
  | zero => simp [fmtF]
  | succ f => simp only [fmtF]; split <;> simp

theorem fmtInt_length (n : Int) : (fmtInt n).length ≤ 22 := by
  unfold fmtInt fmtNat
  have := fmtF_length 20 n.natAbs
  split <;> simp <;> omega

theorem fmtInt_pos (n : Int) : 0 < (fmtInt n).length := by
  unfold fmtInt fmtNat
  have := fmtF_pos 20 n.natAbs
  split <;> simp; omega

/-- The two ways in which the program comes to the digits of a negative number. -/
theorem fmtInt_neg_step (n : Int) (h : n ≤ -10) (hb : -9223372036854775808 ≤ n) : fmtInt n = fmtInt (n.tdiv 10) ++ fmtInt (-(n.tmod 10)) := by
  have e1 : (n.tdiv 10).natAbs = n.natAbs / 10 := Int.natAbs_tdiv n 10
  have e2 : (-(n.tmod 10)).natAbs = n.natAbs % 10 := by rw [Int.natAbs_neg]; exact Int.natAbs_tmod n 10
  obtain ⟨m, rfl⟩ : ∃ m : Int, n = -m := ⟨-n, by omega⟩
  have d1 : (-m).tdiv 10 = -(m / 10) := by rw [Int.neg_tdiv, Int.tdiv_eq_ediv_of_nonneg (by omega)]
  have d2 : (-m).tmod 10 = -(m % 10) := by rw [Int.neg_tmod, Int.tmod_eq_emod_of_nonneg (by omega)]
  have h1 : -m < 0 := by omega
  have h2 : (-m).tdiv 10 < 0 := by omega
  have h3 : ¬ (-((-m).tmod 10) < 0) := by omega
  unfold fmtInt
  rw [if_pos h1, if_pos h2, if_neg h3, e1, e2, fmtNat_step (-m).natAbs (by omega) (by omega), fmtNat_small ((-m).natAbs % 10) (by omega)]
  rfl

theorem fmtInt_pos_step (n : Int) (h : 10 ≤ n) (hb : n ≤ 9223372036854775807) : fmtInt n = fmtInt (n / 10) ++ fmtInt (n % 10) := by
  have e1 : (n / 10).natAbs = n.natAbs / 10 := by omega
  have e2 : (n % 10).natAbs = n.natAbs % 10 := by omega
  unfold fmtInt
  rw [if_neg (by omega), if_neg (by omega), if_neg (by omega), e1, e2, fmtNat_step n.natAbs (by omega) (by omega), fmtNat_small (n.natAbs % 10) (by omega)]

theorem fmtInt_neg_one (n : Int) (h : n < 0) : fmtInt n = 45 :: fmtInt (-n) := by
  unfold fmtInt
  rw [if_pos h, if_neg (by omega)]
  congr 2
  omega

theorem fmtInt_digit (n : Int) (h0 : 0 ≤ n) (h : n < 10) : fmtInt n = [(48 + n.toNat).toUInt8] := by
  unfold fmtInt
  rw [if_neg (by omega), fmtNat_small _ (by omega)]
  congr 2
  omega

end Go.Proofs.YtckjkfcphcnpdaaGreat

namespace Go.Proofs.YtckjkfcphcnpdaaGreat

open Go.RowKit

theorem ten_cases (n : Int) (h0 : 0 ≤ n) (h : n < 10) : n = 0 ∨ n = 1 ∨ n = 2 ∨ n = 3 ∨ n = 4 ∨ n = 5 ∨ n = 6 ∨ n = 7 ∨ n = 8 ∨ n = 9 := by omega

theorem enc_digit (n : Int) (h0 : 0 ≤ n) (h : n < 10) : Utf8.encode (48 + n) = bstr (fmtInt n) := by
  rcases ten_cases n h0 h with rfl | rfl | rfl | rfl | rfl | rfl | rfl | rfl | rfl | rfl <;> decide

theorem minus_digit (n : Int) (h : n < 0) : (⟨#[45]⟩ : ByteArray) ++ bstr (fmtInt (-n)) = bstr (fmtInt n) := by
  rw [fmtInt_neg_one n h]
  exact bstr_append [45] _

theorem tdiv_bd (n : Int) (h : n ≤ -10) (hb : -9223372036854775808 ≤ n) : n < n.tdiv 10 ∧ n.tdiv 10 ≤ -1 ∧ -9 ≤ n.tmod 10 ∧ n.tmod 10 ≤ 0 := by
  obtain ⟨m, rfl⟩ : ∃ m : Int, n = -m := ⟨-n, by omega⟩
  rw [Int.neg_tdiv, Int.tdiv_eq_ediv_of_nonneg (by omega), Int.neg_tmod, Int.tmod_eq_emod_of_nonneg (by omega)]
  omega

set_option maxHeartbeats 400000 in
theorem iFormatInt_pos (k : Nat) : ∀ (n : Int) (w : World), n.toNat ≤ k → 0 ≤ n → n ≤ 9223372036854775807 →
    Calls Tryz.prog 32 #[.int .i64 n] w fun e w' => e = .returned (.string (bstr (fmtInt n))) ∧ w = w' := by
  induction k with
  | zero =>
    intro n w hk _ _
    have hn : n = 0 := by omega
    subst hn
    go_enter Tryz.func32, Tryz.ntmps32
    go_wp2_with fail
    go_ret
    exact ⟨ret_str (by decide), rfl⟩
  | succ k ih =>
    intro n w hk h1 hhi
    by_cases h2 : n < 10
    · go_enter Tryz.func32, Tryz.ntmps32
      go_wp2_with fail
      go_ret
      exact ⟨ret_str (enc_digit n h1 h2), rfl⟩
    · have z1 : (bstr (fmtInt (n / 10))).size + (bstr (fmtInt (n % 10))).size ≤ 9223372036854775807 := by
        have := fmtInt_length (n / 10); have := fmtInt_length (n % 10); rw [bstr_size, bstr_size]; omega
      go_enter Tryz.func32, Tryz.ntmps32
      go_wp2_with (go_at_call 32; ((with_reducible refine (ih _ _ (by omega) (by omega) (by omega)).mono ?_); rintro e w' ⟨rfl, rfl⟩))
      go_ret
      exact ⟨ret_str (by rw [bstr_append, fmtInt_pos_step n (by omega) hhi]), rfl⟩

set_option maxHeartbeats 400000 in
theorem iFormatInt_neg (k : Nat) : ∀ (n : Int) (w : World), (-n).toNat ≤ k → n < 0 → -9223372036854775808 ≤ n →
    Calls Tryz.prog 32 #[.int .i64 n] w fun e w' => e = .returned (.string (bstr (fmtInt n))) ∧ w = w' := by
  induction k with
  | zero => intro n w hk _ _; omega
  | succ k ih =>
    intro n w hk h1 hlo
    by_cases h2 : -10 < n
    · have z1 : (1 : Nat) + (bstr (fmtInt (-n))).size ≤ 9223372036854775807 := by
        have := fmtInt_length (-n); rw [bstr_size]; omega
      go_enter Tryz.func32, Tryz.ntmps32
      go_wp2_with (go_at_call 32; ((with_reducible refine (iFormatInt_pos 10 _ _ (by omega) (by omega) (by omega)).mono ?_); rintro e w' ⟨rfl, rfl⟩))
      go_ret
      exact ⟨ret_str (minus_digit n h1), rfl⟩
    · obtain ⟨q1, q2, r1, r2⟩ := tdiv_bd n (by omega) hlo
      have HS := fmtInt_neg_step n (by omega) hlo
      obtain ⟨q, hq⟩ : ∃ q, n.tdiv 10 = q := ⟨_, rfl⟩
      obtain ⟨r, hr⟩ : ∃ r, n.tmod 10 = r := ⟨_, rfl⟩
      rw [hq] at q1 q2 HS
      rw [hr] at r1 r2 HS
      have H : Hid (fmtInt n = fmtInt q ++ fmtInt (-r)) := HS
      clear HS
      have z1 : (bstr (fmtInt q)).size + (bstr (fmtInt (-r))).size ≤ 9223372036854775807 := by
        have := fmtInt_length q; have := fmtInt_length (-r); rw [bstr_size, bstr_size]; omega
      go_enter Tryz.func32, Tryz.ntmps32
      go_wp2_with (first | (go_at_call 32; ((with_reducible refine (ih q _ (by omega) (by omega) (by omega)).mono ?_); rintro e w' ⟨rfl, rfl⟩)) | (go_at_call 32; ((with_reducible refine (iFormatInt_pos 10 (-r) _ (by omega) (by omega) (by omega)).mono ?_); rintro e w' ⟨rfl, rfl⟩)))
      go_ret
      exact ⟨ret_str (by rw [bstr_append, H.out]), rfl⟩

theorem iFormatInt (n : Int) (w : World) (h0 : -9223372036854775808 ≤ n) (h1 : n ≤ 9223372036854775807) :
    Calls Tryz.prog 32 #[.int .i64 n] w fun e w' => e = .returned (.string (bstr (fmtInt n))) ∧ w = w' := by
  by_cases h : 0 ≤ n
  · exact iFormatInt_pos _ n w (Nat.le_refl _) h h1
  · exact iFormatInt_neg _ n w (Nat.le_refl _) (by omega) h0

theorem sub_digit (n : Int) (h0 : -9 ≤ n) (h : n ≤ 0) : IntKind.u8.wrap (48 - n) = 48 - n := by
  have : n = 0 ∨ n = -1 ∨ n = -2 ∨ n = -3 ∨ n = -4 ∨ n = -5 ∨ n = -6 ∨ n = -7 ∨ n = -8 ∨ n = -9 := by omega
  rcases this with rfl | rfl | rfl | rfl | rfl | rfl | rfl | rfl | rfl | rfl <;> decide

/-- A slice of one byte as a string. -/
theorem conv1 {P : Program} (w : World) (src dst e : TypeId) (a : Addr) (m : Int)
    (hs : P.underlying src = some (.slice e)) (he : P.underlying e = some (.int .u8)) (hd : P.underlying dst = some .string)
    (hc : w.cell? a = some (.int .u8 m)) : (convert src dst (.slice (some a) 1 1)).run P w = .ok (.string (bstr [UInt8.ofNat m.toNat])) w := by
  rw [run_convert_bytes_string w src dst e _ _ _ hs he hd, run_bytesToString w a 1 1 [m] ?_]
  · rfl
  · simp [loadCells, loadCellsFrom, hc, go_sem]

theorem one_digit (n : Int) (h0 : -9 ≤ n) (h : n ≤ 0) : [UInt8.ofNat (48 - n).toNat] = fmtInt (-n) := by
  have : n = 0 ∨ n = -1 ∨ n = -2 ∨ n = -3 ∨ n = -4 ∨ n = -5 ∨ n = -6 ∨ n = -7 ∨ n = -8 ∨ n = -9 := by omega
  rcases this with rfl | rfl | rfl | rfl | rfl | rfl | rfl | rfl | rfl | rfl <;> decide

theorem sFmt_conv (m : Int) : ∀ (wx : World) (b : Nat), wx.cell? ⟨b, 0, none⟩ = some (.int .u8 m) →
    (convert 22 9 (.slice (some ⟨b, 0, none⟩) 1 1)).run Tryz.prog wx = .ok (.string (bstr [UInt8.ofNat m.toNat])) wx :=
  fun wx _ hc => conv1 wx _ _ 5 _ m Tryz.underlying22 Tryz.underlying5 Tryz.underlying9 hc

/-- The digits that are still to be written, ahead of those that are. -/
theorem fmt_step_pos (n : Int) (h0 : 9 < n) (h : n ≤ 9223372036854775807) (t : List UInt8) : fmtInt (n / 10) ++ ([UInt8.ofNat (48 + n % 10).toNat] ++ t) = fmtInt n ++ t := by
  rw [fmtInt_pos_step n (by omega) h, fmtInt_digit (n % 10) (by omega) (by omega), ← List.append_assoc]
  congr 3
  show UInt8.ofNat _ = UInt8.ofNat _
  congr 1
  omega

theorem add_digit (n : Int) (h0 : 0 ≤ n) (h : n < 10) : IntKind.u8.wrap (48 + n) = 48 + n := by
  rcases ten_cases n h0 h with rfl | rfl | rfl | rfl | rfl | rfl | rfl | rfl | rfl | rfl <;> decide

theorem left_len {n k : Int} {t : List UInt8} (H : Hid (fmtInt n = fmtInt k ++ t)) : t.length ≤ 22 := by
  have := congrArg List.length H.out
  have := fmtInt_length n
  simp at *
  omega

theorem last_digit (k : Int) (k0 : 0 ≤ k) (h9 : ¬ 9 < k) : [UInt8.ofNat (48 + k).toNat] = fmtInt k := by
  rcases ten_cases k k0 (by omega) with rfl | rfl | rfl | rfl | rfl | rfl | rfl | rfl | rfl | rfl <;> decide

end Go.Proofs.YtckjkfcphcnpdaaGreat

namespace Go.Proofs.YtckjkfcphcnpdaaGreat
set_option maxRecDepth 100000
open Go.ChangeShapes Go.WideShapes Go.ChangeAt Go.RowKit Go.Joins

def wireTxt (xs : List Int) (k : Nat) : List UInt8 := [32] ++ fmtInt (wa xs k) ++ [45] ++ fmtInt (wb xs k) ++ [61] ++ fmtInt (ww xs k)
def netHead (N E S : Int) : List UInt8 := fmtInt N ++ [47] ++ fmtInt E ++ [47] ++ fmtInt S ++ [58]
def netPart (N E S : Int) (xs : List Int) : Nat → List UInt8
  | 0 => netHead N E S
  | k + 1 => netPart N E S xs k ++ wireTxt xs k
theorem netPart_le (N E S : Int) (xs : List Int) : ∀ k, (netPart N E S xs k).length ≤ 69 + 69 * k
  | 0 => by have := fmtInt_length N; have := fmtInt_length E; have := fmtInt_length S; simp [netPart, netHead]; omega
  | k + 1 => by
    have := netPart_le N E S xs k
    have := fmtInt_length (wa xs k); have := fmtInt_length (wb xs k); have := fmtInt_length (ww xs k)
    simp [netPart, wireTxt]; omega
noncomputable def netTxt (N E S : Int) (m : Nat) (xs : List Int) : List UInt8 := if netB N E S m xs = true then netPart N E S xs m else []
theorem netTxt_t {N E S : Int} {m : Nat} {xs : List Int} (h : netB N E S m xs = true) : bstr (netTxt N E S m xs) = bstr (netPart N E S xs m) := by simp [netTxt, h]
theorem netTxt_f {N E S : Int} {m : Nat} {xs : List Int} (h : netB N E S m xs = false) : bstr (netTxt N E S m xs) = ⟨#[]⟩ := by simp [netTxt, h, bstr]
theorem head_eq (N E S : Int) (xs : List Int) : bstr (fmtInt N) ++ (⟨#[47]⟩ : ByteArray) ++ bstr (fmtInt E) ++ (⟨#[47]⟩ : ByteArray) ++ bstr (fmtInt S) ++ (⟨#[58]⟩ : ByteArray) = bstr (netPart N E S xs 0) := by
  rw [show (⟨#[47]⟩ : ByteArray) = bstr [47] from rfl, show (⟨#[58]⟩ : ByteArray) = bstr [58] from rfl]
  simp only [bstr_append, netPart, netHead]
theorem wire_eq_s (N E S : Int) (xs : List Int) (k : Nat) : bstr (netPart N E S xs k) ++ (⟨#[32]⟩ : ByteArray) ++ bstr (fmtInt (wa xs k)) ++ (⟨#[45]⟩ : ByteArray) ++ bstr (fmtInt (wb xs k)) ++ (⟨#[61]⟩ : ByteArray) ++ bstr (fmtInt (ww xs k)) = bstr (netPart N E S xs (k + 1)) := by
  rw [show (⟨#[32]⟩ : ByteArray) = bstr [32] from rfl, show (⟨#[45]⟩ : ByteArray) = bstr [45] from rfl, show (⟨#[61]⟩ : ByteArray) = bstr [61] from rfl]
  simp only [bstr_append, netPart, wireTxt, List.append_assoc]
theorem wire_eq_i (N E S : Int) (xs : List Int) (k : Nat) : bstr (netPart N E S xs k) ++ ((⟨#[32]⟩ : ByteArray) ++ bstr (fmtInt (wa xs k)) ++ (⟨#[45]⟩ : ByteArray) ++ bstr (fmtInt (wb xs k)) ++ (⟨#[61]⟩ : ByteArray) ++ bstr (fmtInt (ww xs k))) = bstr (netPart N E S xs (k + 1)) := by
  rw [show (⟨#[32]⟩ : ByteArray) = bstr [32] from rfl, show (⟨#[45]⟩ : ByteArray) = bstr [45] from rfl, show (⟨#[61]⟩ : ByteArray) = bstr [61] from rfl]
  simp only [bstr_append, netPart, wireTxt, List.append_assoc]
/-- An integer of 64 bits. -/
def I64 (x : Int) : Prop := -9223372036854775808 ≤ x ∧ x ≤ 9223372036854775807
theorem fsz (x : Int) : (bstr (fmtInt x)).size ≤ 22 := by rw [bstr_size]; exact fmtInt_length x

end Go.Proofs.YtckjkfcphcnpdaaGreat

namespace Go.Proofs.YtckjkfcphcnpdaaGreat
set_option maxRecDepth 100000
open Go.ChangeShapes Go.WideShapes Go.ChangeAt Go.RowKit Go.Joins

def ratioTxt (n d : Int) : List UInt8 := if ratioOk n d = true then (if d = 1 then fmtInt n else fmtInt n ++ [47] ++ fmtInt d) else []
theorem ratioTxt_le (n d : Int) : (ratioTxt n d).length ≤ 45 := by
  have := fmtInt_length n; have := fmtInt_length d
  unfold ratioTxt
  repeat' split
  all_goals simp
  all_goals omega
theorem ratioTxt_1 {n d : Int} (h : ratioOk n d = true) (h1 : d = 1) : bstr (fmtInt n) = bstr (ratioTxt n d) := by simp [ratioTxt, h, h1]; rw [h1] at h; simp [h]
theorem ratioTxt_2 {n d : Int} (h : ratioOk n d = true) (h1 : ¬ d = 1) : bstr (fmtInt n) ++ (⟨#[47]⟩ : ByteArray) ++ bstr (fmtInt d) = bstr (ratioTxt n d) := by
  rw [show (⟨#[47]⟩ : ByteArray) = bstr [47] from rfl, bstr_append, bstr_append]; simp [ratioTxt, h, h1]
theorem ratioTxt_0 {n d : Int} (h : ratioOk n d = false) : (⟨#[]⟩ : ByteArray) = bstr (ratioTxt n d) := by simp [ratioTxt, h, bstr]
theorem ratio_sm {n d : Int} (h : ratioOk n d = true) : (-9223372036854775808 ≤ n ∧ n ≤ 9223372036854775807) ∧ (-9223372036854775808 ≤ d ∧ d ≤ 9223372036854775807) := by
  have := ratioOk_iff.1 h; omega

end Go.Proofs.YtckjkfcphcnpdaaGreat

namespace Go.Proofs.YtckjkfcphcnpdaaGreat
set_option maxRecDepth 100000
open Go.ChangeShapes Go.WideShapes Go.ChangeAt Go.RowKit Go.Joins

noncomputable def resR (N E S : Int) (m : Nat) (xs : List Int) (a b : Int) : Rt := grdR (node2B N E S m xs a b) (ratioOf (S * forV N E S m xs a b) (treeV N E S m xs))
theorem res_f {N E S : Int} {m : Nat} {xs : List Int} {a b : Int} (h : node2B N E S m xs a b = false) : resR N E S m xs a b = ⟨0, 0⟩ := by unfold resR; rw [h]; rfl
theorem res_t {N E S : Int} {m : Nat} {xs : List Int} {a b : Int} (h : node2B N E S m xs a b = true) : resR N E S m xs a b = ratioOf (S * forV N E S m xs a b) (treeV N E S m xs) := by unfold resR; rw [h]; rfl
theorem net_scale {N E S : Int} {m : Nat} {xs : List Int} (h : netB N E S m xs = true) : 1 ≤ S ∧ S ≤ 1000 := (netP_of h).2.2.1
theorem node2_of' {N E S : Int} {m : Nat} {xs : List Int} {a b : Int} (h : node2B N E S m xs a b = true) : netB N E S m xs = true ∧ (0 ≤ a ∧ a < N) ∧ (0 ≤ b ∧ b < N) := by simpa [node2B] using h

set_option maxHeartbeats 3200000 in
theorem iResistanceOf (N E S : Int) (s : Value) (m : Nat) (xs : List Int) (a b : Int) (w : World) (hs : SlF w s m 3 xs) (hm : m ≤ 9223372036854775807) :
    Calls Tryz.prog 14 #[.agg #[.int .i64 N, .int .i64 E, .int .i64 S, s], .int .i64 a, .int .i64 b] w fun e w' => e = .returned (.tuple #[.agg #[.int .i64 (resR N E S m xs a b).n, .int .i64 (resR N E S m xs a b).d], .bool (node2B N E S m xs a b)]) ∧ Ge w w' := by
  obtain ⟨p, cap, rfl, hc⟩ := hs.open
  have HV := Lib.hid hs
  clear hs hc
  cases hB : netB N E S m xs with
  | false =>
    have hT := node2_f0 (a := a) (b := b) hB
    have HF := Lib.hid (res_f hT)
    go_enter Tryz.func14, Tryz.ntmps14
    go_wp2_with ((go_at_call 35; ((with_reducible refine (iNetOk N E S _ m xs _ (HV.out.ge (Ge.alloc (Ge.alloc (Ge.refl w) _) _)) hm).mono ?_); rintro e w1 ⟨rfl, gw1⟩); have Gw1 : Ge w w1 := (Ge.trans (by (repeat (first | with_reducible exact Ge.refl _ | assumption | with_reducible refine Ge.drew ?_ | with_reducible refine Ge.drewN ?_ _ | with_reducible refine Ge.alloc ?_ _ | (with_reducible refine Ge.setCell ?_ (by first | (simp; done) | omega | (simp; omega)) _) | with_reducible refine Ge.trans ?_ (by assumption)))) gw1); have c0_0 : World.cell? w1 ⟨w.heap.size, 0, none⟩ = some (.int .i64 N) := Ge.keep gw1 (by repeat (first | assumption | exact (own_new (by simp) rfl).1 | with_reducible refine cell_drew ?_ | with_reducible refine cell_drewN ?_ | with_reducible refine cell_alloc ?_ | (simp [*]; done))); have c0_1 : World.cell? w1 ⟨w.heap.size, 1, none⟩ = some (.int .i64 E) := Ge.keep gw1 (by repeat (first | assumption | exact (own_new (by simp) rfl).1 | with_reducible refine cell_drew ?_ | with_reducible refine cell_drewN ?_ | with_reducible refine cell_alloc ?_ | (simp [*]; done))); have c0_2 : World.cell? w1 ⟨w.heap.size, 2, none⟩ = some (.int .i64 S) := Ge.keep gw1 (by repeat (first | assumption | exact (own_new (by simp) rfl).1 | with_reducible refine cell_drew ?_ | with_reducible refine cell_drewN ?_ | with_reducible refine cell_alloc ?_ | (simp [*]; done))); have c0_3 : World.cell? w1 ⟨w.heap.size, 3, none⟩ = some (.slice p m cap) := Ge.keep gw1 (by repeat (first | assumption | exact (own_new (by simp) rfl).1 | with_reducible refine cell_drew ?_ | with_reducible refine cell_drewN ?_ | with_reducible refine cell_alloc ?_ | (simp [*]; done))); have o1_0 : Own w1 ⟨w.heap.size + 1, 0, none⟩ _ := Ge.own gw1 ((by repeat (first | exact ⟨by assumption, by assumption⟩ | exact own_new (by simp) rfl | with_reducible refine own_drew ?_ | with_reducible refine own_old ?_ | (constructor <;> (simp [*]; done))))); have c1_0 := cv_some o1_0.1; have f1_0 := o1_0.2; clear o1_0; have o1_1 : Own w1 ⟨w.heap.size + 1, 1, none⟩ _ := Ge.own gw1 ((by repeat (first | exact ⟨by assumption, by assumption⟩ | exact own_new (by simp) rfl | with_reducible refine own_drew ?_ | with_reducible refine own_old ?_ | (constructor <;> (simp [*]; done))))); have c1_1 := cv_some o1_1.1; have f1_1 := o1_1.2; clear o1_1; have zw1 : w.heap.size + 2 ≤ w1.heap.size := (by have := Ge.size gw1; (try simp at this); omega)); rw [hB])
    exact bodyPost_ret (v := .tuple #[.agg #[.int .i64 0, .int .i64 0], .bool false]) (by simp [results, Tryz.results14, go_sem, *]) rfl ⟨by rw [HF.out, hT], by (repeat (first | with_reducible exact Ge.refl _ | assumption | with_reducible refine Ge.drew ?_ | with_reducible refine Ge.drewN ?_ _ | with_reducible refine Ge.alloc ?_ _ | (with_reducible refine Ge.setCell ?_ (by first | (simp; done) | omega | (simp; omega)) _) | with_reducible refine Ge.trans ?_ (by assumption)))⟩
  | true =>
    obtain ⟨⟨n1, n2⟩, h10, hK⟩ := net_wires hB
    have HK := Lib.hid hK
    clear hK
    obtain ⟨n, rfl⟩ : ∃ n : Nat, N = (n : Int) := ⟨N.toNat, by omega⟩
    by_cases ha : ¬ (0 ≤ a ∧ a < (n : Int))
    · have ia : nodeB n a = false := nodeB_f ha
      have hT := node2_f1 (E := E) (S := S) (m := m) (xs := xs) (b := b) ha
      have HF := Lib.hid (res_f hT)
      clear ha
      go_enter Tryz.func14, Tryz.ntmps14
      go_wp2_with (first | ((go_at_call 35; ((with_reducible refine (iNetOk (n : Int) E S _ m xs _ (HV.out.ge (Ge.alloc (Ge.alloc (Ge.refl w) _) _)) hm).mono ?_); rintro e w1 ⟨rfl, gw1⟩); have Gw1 : Ge w w1 := (Ge.trans (by (repeat (first | with_reducible exact Ge.refl _ | assumption | with_reducible refine Ge.drew ?_ | with_reducible refine Ge.drewN ?_ _ | with_reducible refine Ge.alloc ?_ _ | (with_reducible refine Ge.setCell ?_ (by first | (simp; done) | omega | (simp; omega)) _) | with_reducible refine Ge.trans ?_ (by assumption)))) gw1); have c0_0 : World.cell? w1 ⟨w.heap.size, 0, none⟩ = some (.int .i64 (n : Int)) := Ge.keep gw1 (by repeat (first | assumption | exact (own_new (by simp) rfl).1 | with_reducible refine cell_drew ?_ | with_reducible refine cell_drewN ?_ | with_reducible refine cell_alloc ?_ | (simp [*]; done))); have c0_1 : World.cell? w1 ⟨w.heap.size, 1, none⟩ = some (.int .i64 E) := Ge.keep gw1 (by repeat (first | assumption | exact (own_new (by simp) rfl).1 | with_reducible refine cell_drew ?_ | with_reducible refine cell_drewN ?_ | with_reducible refine cell_alloc ?_ | (simp [*]; done))); have c0_2 : World.cell? w1 ⟨w.heap.size, 2, none⟩ = some (.int .i64 S) := Ge.keep gw1 (by repeat (first | assumption | exact (own_new (by simp) rfl).1 | with_reducible refine cell_drew ?_ | with_reducible refine cell_drewN ?_ | with_reducible refine cell_alloc ?_ | (simp [*]; done))); have c0_3 : World.cell? w1 ⟨w.heap.size, 3, none⟩ = some (.slice p m cap) := Ge.keep gw1 (by repeat (first | assumption | exact (own_new (by simp) rfl).1 | with_reducible refine cell_drew ?_ | with_reducible refine cell_drewN ?_ | with_reducible refine cell_alloc ?_ | (simp [*]; done))); have o1_0 : Own w1 ⟨w.heap.size + 1, 0, none⟩ _ := Ge.own gw1 ((by repeat (first | exact ⟨by assumption, by assumption⟩ | exact own_new (by simp) rfl | with_reducible refine own_drew ?_ | with_reducible refine own_old ?_ | (constructor <;> (simp [*]; done))))); have c1_0 := cv_some o1_0.1; have f1_0 := o1_0.2; clear o1_0; have o1_1 : Own w1 ⟨w.heap.size + 1, 1, none⟩ _ := Ge.own gw1 ((by repeat (first | exact ⟨by assumption, by assumption⟩ | exact own_new (by simp) rfl | with_reducible refine own_drew ?_ | with_reducible refine own_old ?_ | (constructor <;> (simp [*]; done))))); have c1_1 := cv_some o1_1.1; have f1_1 := o1_1.2; clear o1_1; have zw1 : w.heap.size + 2 ≤ w1.heap.size := (by have := Ge.size gw1; (try simp at this); omega)); rw [hB]) | (go_at_call 36; ((with_reducible refine (isNodeI n E S _ _ _ rfl).mono ?_); rintro e wn ⟨rfl, gwn⟩); have Gwn : Ge w wn := (Ge.trans (by (repeat (first | with_reducible exact Ge.refl _ | assumption | with_reducible refine Ge.drew ?_ | with_reducible refine Ge.drewN ?_ _ | with_reducible refine Ge.alloc ?_ _ | (with_reducible refine Ge.setCell ?_ (by first | (simp; done) | omega | (simp; omega)) _) | with_reducible refine Ge.trans ?_ (by assumption)))) gwn); have c0_0 : World.cell? wn ⟨w.heap.size, 0, none⟩ = some (.int .i64 (n : Int)) := Ge.keep gwn (by repeat (first | assumption | exact (own_new (by simp) rfl).1 | with_reducible refine cell_drew ?_ | with_reducible refine cell_drewN ?_ | with_reducible refine cell_alloc ?_ | (simp [*]; done))); have c0_1 : World.cell? wn ⟨w.heap.size, 1, none⟩ = some (.int .i64 E) := Ge.keep gwn (by repeat (first | assumption | exact (own_new (by simp) rfl).1 | with_reducible refine cell_drew ?_ | with_reducible refine cell_drewN ?_ | with_reducible refine cell_alloc ?_ | (simp [*]; done))); have c0_2 : World.cell? wn ⟨w.heap.size, 2, none⟩ = some (.int .i64 S) := Ge.keep gwn (by repeat (first | assumption | exact (own_new (by simp) rfl).1 | with_reducible refine cell_drew ?_ | with_reducible refine cell_drewN ?_ | with_reducible refine cell_alloc ?_ | (simp [*]; done))); have c0_3 : World.cell? wn ⟨w.heap.size, 3, none⟩ = some (.slice p m cap) := Ge.keep gwn (by repeat (first | assumption | exact (own_new (by simp) rfl).1 | with_reducible refine cell_drew ?_ | with_reducible refine cell_drewN ?_ | with_reducible refine cell_alloc ?_ | (simp [*]; done))); have o1_0 : Own wn ⟨w.heap.size + 1, 0, none⟩ _ := Ge.own gwn ((by repeat (first | exact ⟨by assumption, by assumption⟩ | exact own_new (by simp) rfl | with_reducible refine own_drew ?_ | with_reducible refine own_old ?_ | (constructor <;> (simp [*]; done))))); have c1_0 := cv_some o1_0.1; have f1_0 := o1_0.2; clear o1_0; have o1_1 : Own wn ⟨w.heap.size + 1, 1, none⟩ _ := Ge.own gwn ((by repeat (first | exact ⟨by assumption, by assumption⟩ | exact own_new (by simp) rfl | with_reducible refine own_drew ?_ | with_reducible refine own_old ?_ | (constructor <;> (simp [*]; done))))); have c1_1 := cv_some o1_1.1; have f1_1 := o1_1.2; clear o1_1; have zwn : w.heap.size + 2 ≤ wn.heap.size := (by have := Ge.size gwn; (try simp at this); omega)))
      exact bodyPost_ret (v := .tuple #[.agg #[.int .i64 0, .int .i64 0], .bool false]) (by simp [results, Tryz.results14, go_sem, *]) rfl ⟨by rw [HF.out, hT], by (repeat (first | with_reducible exact Ge.refl _ | assumption | with_reducible refine Ge.drew ?_ | with_reducible refine Ge.drewN ?_ _ | with_reducible refine Ge.alloc ?_ _ | (with_reducible refine Ge.setCell ?_ (by first | (simp; done) | omega | (simp; omega)) _) | with_reducible refine Ge.trans ?_ (by assumption)))⟩
    replace ha := Classical.not_not.1 ha
    have ia : nodeB n a = true := nodeB_t ha
    by_cases hb : ¬ (0 ≤ b ∧ b < (n : Int))
    · have ib : nodeB n b = false := nodeB_f hb
      have hT := node2_f2 (E := E) (S := S) (m := m) (xs := xs) (a := a) hb
      have HF := Lib.hid (res_f hT)
      clear ha hb
      go_enter Tryz.func14, Tryz.ntmps14
      go_wp2_with (first | ((go_at_call 35; ((with_reducible refine (iNetOk (n : Int) E S _ m xs _ (HV.out.ge (Ge.alloc (Ge.alloc (Ge.refl w) _) _)) hm).mono ?_); rintro e w1 ⟨rfl, gw1⟩); have Gw1 : Ge w w1 := (Ge.trans (by (repeat (first | with_reducible exact Ge.refl _ | assumption | with_reducible refine Ge.drew ?_ | with_reducible refine Ge.drewN ?_ _ | with_reducible refine Ge.alloc ?_ _ | (with_reducible refine Ge.setCell ?_ (by first | (simp; done) | omega | (simp; omega)) _) | with_reducible refine Ge.trans ?_ (by assumption)))) gw1); have c0_0 : World.cell? w1 ⟨w.heap.size, 0, none⟩ = some (.int .i64 (n : Int)) := Ge.keep gw1 (by repeat (first | assumption | exact (own_new (by simp) rfl).1 | with_reducible refine cell_drew ?_ | with_reducible refine cell_drewN ?_ | with_reducible refine cell_alloc ?_ | (simp [*]; done))); have c0_1 : World.cell? w1 ⟨w.heap.size, 1, none⟩ = some (.int .i64 E) := Ge.keep gw1 (by repeat (first | assumption | exact (own_new (by simp) rfl).1 | with_reducible refine cell_drew ?_ | with_reducible refine cell_drewN ?_ | with_reducible refine cell_alloc ?_ | (simp [*]; done))); have c0_2 : World.cell? w1 ⟨w.heap.size, 2, none⟩ = some (.int .i64 S) := Ge.keep gw1 (by repeat (first | assumption | exact (own_new (by simp) rfl).1 | with_reducible refine cell_drew ?_ | with_reducible refine cell_drewN ?_ | with_reducible refine cell_alloc ?_ | (simp [*]; done))); have c0_3 : World.cell? w1 ⟨w.heap.size, 3, none⟩ = some (.slice p m cap) := Ge.keep gw1 (by repeat (first | assumption | exact (own_new (by simp) rfl).1 | with_reducible refine cell_drew ?_ | with_reducible refine cell_drewN ?_ | with_reducible refine cell_alloc ?_ | (simp [*]; done))); have o1_0 : Own w1 ⟨w.heap.size + 1, 0, none⟩ _ := Ge.own gw1 ((by repeat (first | exact ⟨by assumption, by assumption⟩ | exact own_new (by simp) rfl | with_reducible refine own_drew ?_ | with_reducible refine own_old ?_ | (constructor <;> (simp [*]; done))))); have c1_0 := cv_some o1_0.1; have f1_0 := o1_0.2; clear o1_0; have o1_1 : Own w1 ⟨w.heap.size + 1, 1, none⟩ _ := Ge.own gw1 ((by repeat (first | exact ⟨by assumption, by assumption⟩ | exact own_new (by simp) rfl | with_reducible refine own_drew ?_ | with_reducible refine own_old ?_ | (constructor <;> (simp [*]; done))))); have c1_1 := cv_some o1_1.1; have f1_1 := o1_1.2; clear o1_1; have zw1 : w.heap.size + 2 ≤ w1.heap.size := (by have := Ge.size gw1; (try simp at this); omega)); rw [hB]) | (go_at_call 36; ((with_reducible refine (isNodeI n E S _ _ _ rfl).mono ?_); rintro e wn ⟨rfl, gwn⟩); have Gwn : Ge w wn := (Ge.trans (by (repeat (first | with_reducible exact Ge.refl _ | assumption | with_reducible refine Ge.drew ?_ | with_reducible refine Ge.drewN ?_ _ | with_reducible refine Ge.alloc ?_ _ | (with_reducible refine Ge.setCell ?_ (by first | (simp; done) | omega | (simp; omega)) _) | with_reducible refine Ge.trans ?_ (by assumption)))) gwn); have c0_0 : World.cell? wn ⟨w.heap.size, 0, none⟩ = some (.int .i64 (n : Int)) := Ge.keep gwn (by repeat (first | assumption | exact (own_new (by simp) rfl).1 | with_reducible refine cell_drew ?_ | with_reducible refine cell_drewN ?_ | with_reducible refine cell_alloc ?_ | (simp [*]; done))); have c0_1 : World.cell? wn ⟨w.heap.size, 1, none⟩ = some (.int .i64 E) := Ge.keep gwn (by repeat (first | assumption | exact (own_new (by simp) rfl).1 | with_reducible refine cell_drew ?_ | with_reducible refine cell_drewN ?_ | with_reducible refine cell_alloc ?_ | (simp [*]; done))); have c0_2 : World.cell? wn ⟨w.heap.size, 2, none⟩ = some (.int .i64 S) := Ge.keep gwn (by repeat (first | assumption | exact (own_new (by simp) rfl).1 | with_reducible refine cell_drew ?_ | with_reducible refine cell_drewN ?_ | with_reducible refine cell_alloc ?_ | (simp [*]; done))); have c0_3 : World.cell? wn ⟨w.heap.size, 3, none⟩ = some (.slice p m cap) := Ge.keep gwn (by repeat (first | assumption | exact (own_new (by simp) rfl).1 | with_reducible refine cell_drew ?_ | with_reducible refine cell_drewN ?_ | with_reducible refine cell_alloc ?_ | (simp [*]; done))); have o1_0 : Own wn ⟨w.heap.size + 1, 0, none⟩ _ := Ge.own gwn ((by repeat (first | exact ⟨by assumption, by assumption⟩ | exact own_new (by simp) rfl | with_reducible refine own_drew ?_ | with_reducible refine own_old ?_ | (constructor <;> (simp [*]; done))))); have c1_0 := cv_some o1_0.1; have f1_0 := o1_0.2; clear o1_0; have o1_1 : Own wn ⟨w.heap.size + 1, 1, none⟩ _ := Ge.own gwn ((by repeat (first | exact ⟨by assumption, by assumption⟩ | exact own_new (by simp) rfl | with_reducible refine own_drew ?_ | with_reducible refine own_old ?_ | (constructor <;> (simp [*]; done))))); have c1_1 := cv_some o1_1.1; have f1_1 := o1_1.2; clear o1_1; have zwn : w.heap.size + 2 ≤ wn.heap.size := (by have := Ge.size gwn; (try simp at this); omega)))
      exact bodyPost_ret (v := .tuple #[.agg #[.int .i64 0, .int .i64 0], .bool false]) (by simp [results, Tryz.results14, go_sem, *]) rfl ⟨by rw [HF.out, hT], by (repeat (first | with_reducible exact Ge.refl _ | assumption | with_reducible refine Ge.drew ?_ | with_reducible refine Ge.drewN ?_ _ | with_reducible refine Ge.alloc ?_ _ | (with_reducible refine Ge.setCell ?_ (by first | (simp; done) | omega | (simp; omega)) _) | with_reducible refine Ge.trans ?_ (by assumption)))⟩
    replace hb := Classical.not_not.1 hb
    have ib : nodeB n b = true := nodeB_t hb
    have hT := node2_t hB ha hb
    have HF := Lib.hid (res_t hT)
    clear ha hb
    obtain ⟨k1, k2⟩ := net_scale hB
    have b1 := treeV_bd n E S m xs
    have b2 := wf_bd (N := (n : Int)) (E := E) (S := S) (m := m) (xs := xs) (u := S) (by omega) (by omega) a b
    have W1 : IntKind.i64.wrap (S * forV n E S m xs a b) = S * forV n E S m xs a b := IntWalk.i64_in _ (by omega)
    have M1 := mid (n := treeV n E S m xs) (by omega) (by omega)
    have M2 := mid (n := S * forV n E S m xs a b) (by omega) (by omega)
    have HTr := Lib.hid (fun w' (g : Ge w w') => iTreeSum n E S (.slice p m cap) m xs w' (HV.out.ge g) hm)
    have HFo := Lib.hid (fun w' (g : Ge w w') => iForestSum n E S (.slice p m cap) m xs a b w' (HV.out.ge g) hm)
    have HR := Lib.hid (fun w' => iRatioOf _ _ w' M2 M1)
    clear k1 k2
    go_enter Tryz.func14, Tryz.ntmps14
    go_wp2_with (first | ((go_at_call 35; ((with_reducible refine (iNetOk (n : Int) E S _ m xs _ (HV.out.ge (Ge.alloc (Ge.alloc (Ge.refl w) _) _)) hm).mono ?_); rintro e w1 ⟨rfl, gw1⟩); have Gw1 : Ge w w1 := (Ge.trans (by (repeat (first | with_reducible exact Ge.refl _ | assumption | with_reducible refine Ge.drew ?_ | with_reducible refine Ge.drewN ?_ _ | with_reducible refine Ge.alloc ?_ _ | (with_reducible refine Ge.setCell ?_ (by first | (simp; done) | omega | (simp; omega)) _) | with_reducible refine Ge.trans ?_ (by assumption)))) gw1); have c0_0 : World.cell? w1 ⟨w.heap.size, 0, none⟩ = some (.int .i64 (n : Int)) := Ge.keep gw1 (by repeat (first | assumption | exact (own_new (by simp) rfl).1 | with_reducible refine cell_drew ?_ | with_reducible refine cell_drewN ?_ | with_reducible refine cell_alloc ?_ | (simp [*]; done))); have c0_1 : World.cell? w1 ⟨w.heap.size, 1, none⟩ = some (.int .i64 E) := Ge.keep gw1 (by repeat (first | assumption | exact (own_new (by simp) rfl).1 | with_reducible refine cell_drew ?_ | with_reducible refine cell_drewN ?_ | with_reducible refine cell_alloc ?_ | (simp [*]; done))); have c0_2 : World.cell? w1 ⟨w.heap.size, 2, none⟩ = some (.int .i64 S) := Ge.keep gw1 (by repeat (first | assumption | exact (own_new (by simp) rfl).1 | with_reducible refine cell_drew ?_ | with_reducible refine cell_drewN ?_ | with_reducible refine cell_alloc ?_ | (simp [*]; done))); have c0_3 : World.cell? w1 ⟨w.heap.size, 3, none⟩ = some (.slice p m cap) := Ge.keep gw1 (by repeat (first | assumption | exact (own_new (by simp) rfl).1 | with_reducible refine cell_drew ?_ | with_reducible refine cell_drewN ?_ | with_reducible refine cell_alloc ?_ | (simp [*]; done))); have o1_0 : Own w1 ⟨w.heap.size + 1, 0, none⟩ _ := Ge.own gw1 ((by repeat (first | exact ⟨by assumption, by assumption⟩ | exact own_new (by simp) rfl | with_reducible refine own_drew ?_ | with_reducible refine own_old ?_ | (constructor <;> (simp [*]; done))))); have c1_0 := cv_some o1_0.1; have f1_0 := o1_0.2; clear o1_0; have o1_1 : Own w1 ⟨w.heap.size + 1, 1, none⟩ _ := Ge.own gw1 ((by repeat (first | exact ⟨by assumption, by assumption⟩ | exact own_new (by simp) rfl | with_reducible refine own_drew ?_ | with_reducible refine own_old ?_ | (constructor <;> (simp [*]; done))))); have c1_1 := cv_some o1_1.1; have f1_1 := o1_1.2; clear o1_1; have zw1 : w.heap.size + 2 ≤ w1.heap.size := (by have := Ge.size gw1; (try simp at this); omega)); rw [hB]) | (go_at_call 36; ((with_reducible refine (isNodeI n E S _ _ _ rfl).mono ?_); rintro e wn ⟨rfl, gwn⟩); have Gwn : Ge w wn := (Ge.trans (by (repeat (first | with_reducible exact Ge.refl _ | assumption | with_reducible refine Ge.drew ?_ | with_reducible refine Ge.drewN ?_ _ | with_reducible refine Ge.alloc ?_ _ | (with_reducible refine Ge.setCell ?_ (by first | (simp; done) | omega | (simp; omega)) _) | with_reducible refine Ge.trans ?_ (by assumption)))) gwn); have c0_0 : World.cell? wn ⟨w.heap.size, 0, none⟩ = some (.int .i64 (n : Int)) := Ge.keep gwn (by repeat (first | assumption | exact (own_new (by simp) rfl).1 | with_reducible refine cell_drew ?_ | with_reducible refine cell_drewN ?_ | with_reducible refine cell_alloc ?_ | (simp [*]; done))); have c0_1 : World.cell? wn ⟨w.heap.size, 1, none⟩ = some (.int .i64 E) := Ge.keep gwn (by repeat (first | assumption | exact (own_new (by simp) rfl).1 | with_reducible refine cell_drew ?_ | with_reducible refine cell_drewN ?_ | with_reducible refine cell_alloc ?_ | (simp [*]; done))); have c0_2 : World.cell? wn ⟨w.heap.size, 2, none⟩ = some (.int .i64 S) := Ge.keep gwn (by repeat (first | assumption | exact (own_new (by simp) rfl).1 | with_reducible refine cell_drew ?_ | with_reducible refine cell_drewN ?_ | with_reducible refine cell_alloc ?_ | (simp [*]; done))); have c0_3 : World.cell? wn ⟨w.heap.size, 3, none⟩ = some (.slice p m cap) := Ge.keep gwn (by repeat (first | assumption | exact (own_new (by simp) rfl).1 | with_reducible refine cell_drew ?_ | with_reducible refine cell_drewN ?_ | with_reducible refine cell_alloc ?_ | (simp [*]; done))); have o1_0 : Own wn ⟨w.heap.size + 1, 0, none⟩ _ := Ge.own gwn ((by repeat (first | exact ⟨by assumption, by assumption⟩ | exact own_new (by simp) rfl | with_reducible refine own_drew ?_ | with_reducible refine own_old ?_ | (constructor <;> (simp [*]; done))))); have c1_0 := cv_some o1_0.1; have f1_0 := o1_0.2; clear o1_0; have o1_1 : Own wn ⟨w.heap.size + 1, 1, none⟩ _ := Ge.own gwn ((by repeat (first | exact ⟨by assumption, by assumption⟩ | exact own_new (by simp) rfl | with_reducible refine own_drew ?_ | with_reducible refine own_old ?_ | (constructor <;> (simp [*]; done))))); have c1_1 := cv_some o1_1.1; have f1_1 := o1_1.2; clear o1_1; have zwn : w.heap.size + 2 ≤ wn.heap.size := (by have := Ge.size gwn; (try simp at this); omega)))
    go_region_held3 (fun w' => w'.cell? ⟨w.heap.size, 0, none⟩ = some (.int .i64 (n : Int)) ∧ w'.cell? ⟨w.heap.size, 1, none⟩ = some (.int .i64 E) ∧ w'.cell? ⟨w.heap.size, 2, none⟩ = some (.int .i64 S) ∧ w'.cell? ⟨w.heap.size, 3, none⟩ = some (.slice p m cap) ∧ w'.cell? ⟨w.heap.size + 1, 0, none⟩ = some (cv w' ⟨w.heap.size + 1, 0, none⟩) ∧ w'.cell? ⟨w.heap.size + 1, 1, none⟩ = some (cv w' ⟨w.heap.size + 1, 1, none⟩) ∧ w'.frozen? ⟨w.heap.size + 1, 0, none⟩ = false ∧ w'.frozen? ⟨w.heap.size + 1, 1, none⟩ = false ∧ Ge w w') (first | exact ⟨hb.keep (‹_ ∧ _ ∧ _ ∧ _ ∧ _ ∧ _ ∧ _ ∧ _ ∧ _›).1, hb.keep (‹_ ∧ _ ∧ _ ∧ _ ∧ _ ∧ _ ∧ _ ∧ _ ∧ _›).2.1, hb.keep (‹_ ∧ _ ∧ _ ∧ _ ∧ _ ∧ _ ∧ _ ∧ _ ∧ _›).2.2.1, hb.keep (‹_ ∧ _ ∧ _ ∧ _ ∧ _ ∧ _ ∧ _ ∧ _ ∧ _›).2.2.2.1, cv_some (hb.keep (‹_ ∧ _ ∧ _ ∧ _ ∧ _ ∧ _ ∧ _ ∧ _ ∧ _›).2.2.2.2.1), cv_some (hb.keep (‹_ ∧ _ ∧ _ ∧ _ ∧ _ ∧ _ ∧ _ ∧ _ ∧ _›).2.2.2.2.2.1), hb.keepF (‹_ ∧ _ ∧ _ ∧ _ ∧ _ ∧ _ ∧ _ ∧ _ ∧ _›).2.2.2.2.1 (‹_ ∧ _ ∧ _ ∧ _ ∧ _ ∧ _ ∧ _ ∧ _ ∧ _›).2.2.2.2.2.2.1, hb.keepF (‹_ ∧ _ ∧ _ ∧ _ ∧ _ ∧ _ ∧ _ ∧ _ ∧ _›).2.2.2.2.2.1 (‹_ ∧ _ ∧ _ ∧ _ ∧ _ ∧ _ ∧ _ ∧ _ ∧ _›).2.2.2.2.2.2.2.1, Ge.trans (‹_ ∧ _ ∧ _ ∧ _ ∧ _ ∧ _ ∧ _ ∧ _ ∧ _›).2.2.2.2.2.2.2.2 hb⟩ | ((refine ⟨?_, ?_, ?_, ?_, ?_, ?_, ?_, ?_, ?_⟩ <;> (repeat (first | assumption | with_reducible exact Ge.refl _ | with_reducible refine cv_drew ?_ | with_reducible refine cv_alloc ?_ | with_reducible refine cv_set ?_ | with_reducible refine cell_drew ?_ | ((with_reducible refine cell_new ?_ ?_); (focus (simp; done)); rfl) | ((with_reducible refine froz_new (v := undef) ?_ ?_); (focus (simp; done)); rfl) | with_reducible refine cell_drewN ?_ | with_reducible refine cell_alloc ?_ | ((with_reducible refine cell_set ?_ ?_); rotate_left; focus (simp; done)) | with_reducible refine froz_drew ?_ | with_reducible refine froz_set ?_ | with_reducible refine froz_alloc (by assumption) ?_ | with_reducible refine Ge.drew ?_ | with_reducible refine Ge.drewN ?_ _ | with_reducible refine Ge.alloc ?_ _ | ((with_reducible refine Ge.setCell ?_ ?_ _); rotate_left; focus (first | (simp; done) | omega | (simp; omega))) | with_reducible refine Ge.trans ?_ (by assumption)))); done) | ((obtain ⟨s0, s1, s2, s3, s4, s5, s6, s7, s8⟩ := ‹_ ∧ _ ∧ _ ∧ _ ∧ _ ∧ _ ∧ _ ∧ _ ∧ _›); refine ⟨?_, ?_, ?_, ?_, ?_, ?_, ?_, ?_, ?_⟩ <;> (repeat (first | assumption | with_reducible exact Ge.refl _ | with_reducible refine cv_drew ?_ | with_reducible refine cv_alloc ?_ | with_reducible refine cv_set ?_ | with_reducible refine cell_drew ?_ | ((with_reducible refine cell_new ?_ ?_); (focus (simp; done)); rfl) | ((with_reducible refine froz_new (v := undef) ?_ ?_); (focus (simp; done)); rfl) | with_reducible refine cell_drewN ?_ | with_reducible refine cell_alloc ?_ | ((with_reducible refine cell_set ?_ ?_); rotate_left; focus (simp; done)) | with_reducible refine froz_drew ?_ | with_reducible refine froz_set ?_ | with_reducible refine froz_alloc (by assumption) ?_ | with_reducible refine Ge.drew ?_ | with_reducible refine Ge.drewN ?_ _ | with_reducible refine Ge.alloc ?_ _ | ((with_reducible refine Ge.setCell ?_ ?_ _); rotate_left; focus (first | (simp; done) | omega | (simp; omega))) | with_reducible refine Ge.trans ?_ (by assumption))))) (first | (go_at_call 38; ((with_reducible refine (HTr.out _ (‹_ ∧ _ ∧ _ ∧ _ ∧ _ ∧ _ ∧ _ ∧ _ ∧ Ge w _›.2.2.2.2.2.2.2.2)).mono ?_); rintro e w' ⟨rfl, hb⟩)) | (go_at_call 37; ((with_reducible refine (HFo.out _ (‹_ ∧ _ ∧ _ ∧ _ ∧ _ ∧ _ ∧ _ ∧ _ ∧ Ge w _›.2.2.2.2.2.2.2.2)).mono ?_); rintro e w' ⟨rfl, hb⟩)) | (go_at_call 15; ((with_reducible refine (HR.out _).mono ?_); rintro e w' ⟨rfl, hb⟩)) | fail); (rename_i hHeldX; obtain ⟨c0_0, c0_1, c0_2, c0_3, c1_0, c1_1, f1_0, f1_1, G9⟩ := hHeldX)
    obtain ⟨r0, r1⟩ := res2W c1_0 c1_1 (by simp)
    clear c1_0 c1_1
    go_wp2_with fail
    exact bodyPost_ret (v := .tuple #[.agg #[.int .i64 (ratioOf (S * forV n E S m xs a b) (treeV n E S m xs)).n, .int .i64 (ratioOf (S * forV n E S m xs a b) (treeV n E S m xs)).d], .bool true]) (by simp [results, Tryz.results14, go_sem, *]) rfl ⟨by rw [HF.out, hT], by (repeat (first | with_reducible exact Ge.refl _ | assumption | with_reducible refine Ge.drew ?_ | with_reducible refine Ge.drewN ?_ _ | with_reducible refine Ge.alloc ?_ _ | (with_reducible refine Ge.setCell ?_ (by first | (simp; done) | omega | (simp; omega)) _) | with_reducible refine Ge.trans ?_ (by assumption)))⟩

/-- "resistance R trees T". -/
noncomputable def resLine (N E S : Int) (m : Nat) (xs : List Int) (a b : Int) : List UInt8 := if node2B N E S m xs a b = true then [114, 101, 115, 105, 115, 116, 97, 110, 99, 101, 32] ++ ratioTxt (resR N E S m xs a b).n (resR N E S m xs a b).d ++ [32, 116, 114, 101, 101, 115, 32] ++ fmtInt (treeV N E S m xs) else []
theorem resLine_f {N E S : Int} {m : Nat} {xs : List Int} {a b : Int} (h : node2B N E S m xs a b = false) : (⟨#[]⟩ : ByteArray) = bstr (resLine N E S m xs a b) := by unfold resLine; rw [h]; rfl
theorem resLine_t {N E S : Int} {m : Nat} {xs : List Int} {a b : Int} (h : node2B N E S m xs a b = true) : (⟨#[114, 101, 115, 105, 115, 116, 97, 110, 99, 101, 32]⟩ : ByteArray) ++ bstr (ratioTxt (resR N E S m xs a b).n (resR N E S m xs a b).d) ++ (⟨#[32, 116, 114, 101, 101, 115, 32]⟩ : ByteArray) ++ bstr (fmtInt (treeV N E S m xs)) = bstr (resLine N E S m xs a b) := by
  unfold resLine; rw [h, if_pos rfl]
  rw [show (⟨#[114, 101, 115, 105, 115, 116, 97, 110, 99, 101, 32]⟩ : ByteArray) = bstr [114, 101, 115, 105, 115, 116, 97, 110, 99, 101, 32] from rfl, show (⟨#[32, 116, 114, 101, 101, 115, 32]⟩ : ByteArray) = bstr [32, 116, 114, 101, 101, 115, 32] from rfl, bstr_append, bstr_append, bstr_append]

end Go.Proofs.YtckjkfcphcnpdaaGreat

namespace Go.Proofs.YtckjkfcphcnpdaaGreat

open Go.RowKit

def goodWB (N : Int) (xs : List Int) (k : Nat) : Bool := decide (0 ≤ wa xs k) && decide (wa xs k < wb xs k) && decide (wb xs k < N) && decide (1 ≤ ww xs k) && decide (ww xs k ≤ 200) && (decide (k = 0) || decide (wa xs (k - 1) < wa xs k) || (decide (wa xs (k - 1) = wa xs k) && decide (wb xs (k - 1) < wb xs k)))
theorem goodWB_p {N : Int} {xs : List Int} {k : Nat} (h : goodWB N xs k = true) : goodW N xs k := by
  simp only [goodWB, Bool.and_eq_true, decide_eq_true_eq, Bool.or_eq_true] at h
  obtain ⟨⟨⟨⟨⟨a, b⟩, c⟩, d⟩, e⟩, f⟩ := h
  refine ⟨⟨a, b, c, d, e⟩, fun hk => ?_⟩
  rcases f with (f | f) | f
  · omega
  · exact .inl f
  · exact .inr f
def netCB (N : Nat) (ws : List Wr) : Bool := decide (1 ≤ N) && decide (N ≤ 5) && decide (2 ≤ N) && (List.range ws.length).all (fun k => goodWB N (flatW ws) k) && mconn N (prs (flatW ws) ws.length)
theorem netCB_p {N : Nat} {ws : List Wr} (h : netCB N ws = true) : netB N 2 1 ws.length (flatW ws) = true := by
  simp only [netCB, Bool.and_eq_true, decide_eq_true_eq, List.all_eq_true, List.mem_range] at h
  obtain ⟨⟨⟨⟨a, b⟩, c⟩, d⟩, e⟩ := h
  exact netB_true ⟨⟨by omega, by omega⟩, ⟨by omega, by omega⟩, ⟨by omega, by omega⟩, fun k hk => goodWB_p (d k hk), by simpa using e⟩
def tilC (n : Nat) (xs : List Int) (L : List (List Int)) (ws : List Wr) : Bool :=
  tileCB n xs && decide (levT xs n = L) && decide (2 ≤ L.length) && decide (¬ (inUpto (sqSizes xs n) 200).length = 0) &&
  (decide (5 < L.length) || (decide (wirT xs L L.length n = ws) && netCB L.length ws && decide (ratioOf (1 * forT L.length ws.length (flatW ws) 0 1) (treeT L.length ws.length (flatW ws)) = ratioOf (lowSq xs n) (rightSq xs n))))
/-- What the law asks. -/
structure tilP (n : Nat) (xs : List Int) : Prop where
  tile : tileB n xs = true
  lev : 2 ≤ notN n xs
  siz : ¬ (sizesV n xs).length = 0
  net : 5 < notN n xs ∨ (netB (notN n xs) 2 1 (notW n xs).length (flatW (notW n xs)) = true ∧ resR (notN n xs) 2 1 (notW n xs).length (flatW (notW n xs)) 0 1 = ratioOf (heightQ n xs) (widthQ n xs))
theorem til_p {n : Nat} {xs : List Int} {L : List (List Int)} {ws : List Wr} (h : tilC n xs L ws = true) : tilP n xs := by
  simp only [tilC, Bool.and_eq_true, decide_eq_true_eq, Bool.or_eq_true] at h
  obtain ⟨⟨⟨⟨h1, h2⟩, h3⟩, h4⟩, h5⟩ := h
  have hB := tileB_true (tileC_p h1)
  have hL : levQ n xs = L := by rw [levQ_t hB, h2]
  have hN : notN n xs = L.length := by unfold notN; rw [hL]
  refine ⟨hB, by rw [hN]; exact h3, by rw [sizesV_t hB]; exact h4, ?_⟩
  rcases h5 with h5 | ⟨⟨h5, h6⟩, h7⟩
  · left; rw [hN]; exact h5
  · right
    have hW : notW n xs = ws := by unfold notW; rw [hN, hL, h5]
    have hnb := netCB_p h6
    rw [hN, hW, heightQ_t hB, widthQ_t hB]
    refine ⟨hnb, ?_⟩
    rw [res_t (node2_t hnb ⟨by omega, by omega⟩ ⟨by omega, by omega⟩), forV_t hnb ⟨by omega, by omega⟩ ⟨by omega, by omega⟩ (by decide), treeV_t hnb]
    exact h7
def tilRow (a : Nat) (T : List (List (List Int) × List Wr)) : Bool := (List.range 9).all fun j => match cutR a (j + 1) with
  | none => false
  | some n => match T[j]? with
    | none => false
    | some p => tilC n (cutX a (j + 1) n) p.1 p.2
theorem tilRow_p {a b : Nat} {T : List (List (List Int) × List Wr)} (h : tilRow a T = true) (hb : 1 ≤ b) (hb9 : b ≤ 9) : ∃ n, cutR a b = some n ∧ tilP n (cutX a b n) := by
  simp only [tilRow, List.all_eq_true, List.mem_range] at h
  have h1 := h (b - 1) (by omega)
  rw [show b - 1 + 1 = b by omega] at h1
  cases hc : cutR a b with
  | none => rw [hc] at h1; cases h1
  | some n =>
    rw [hc] at h1
    simp only at h1
    cases ht : T[b - 1]? with
    | none => rw [ht] at h1; cases h1
    | some p => rw [ht] at h1; exact ⟨n, rfl, til_p h1⟩
end Go.Proofs.YtckjkfcphcnpdaaGreat

namespace Go.Proofs.YtckjkfcphcnpdaaGreat
set_option maxRecDepth 100000
def tilA : List Int := [0, 0, 18, 18, 0, 15, 18, 15, 7, 25, 15, 8, 0, 18, 14, 14, 18, 4, 14, 22, 10, 24, 22, 1, 24, 23, 9]
theorem tilA_p : tilP 9 tilA := til_p (L := [[0, 0, 33], [15, 18, 33], [18, 0, 18], [22, 14, 25], [23, 24, 33], [32, 0, 33]]) (ws := []) (by decide +kernel)
def tilB : List Int := [0, 0, 2, 2, 0, 1, 3, 0, 1, 2, 1, 1, 3, 1, 1]
theorem tilB_p : tilP 5 tilB := til_p (L := [[0, 0, 4], [1, 2, 4], [2, 0, 4]]) (ws := [⟨0, 1, 1⟩, ⟨0, 2, 2⟩, ⟨1, 2, 2⟩]) (by decide +kernel)
def tilT1 : List (List (List Int) × List Wr) := [  ([[0, 0, 1], [1, 0, 1]], [⟨0, 1, 1⟩]),
  ([[0, 0, 1], [1, 0, 1], [2, 0, 1]], [⟨0, 2, 1⟩, ⟨1, 2, 1⟩]),
  ([[0, 0, 1], [1, 0, 1], [2, 0, 1], [3, 0, 1]], [⟨0, 2, 1⟩, ⟨1, 3, 1⟩, ⟨2, 3, 1⟩]),
  ([[0, 0, 1], [1, 0, 1], [2, 0, 1], [3, 0, 1], [4, 0, 1]], [⟨0, 2, 1⟩, ⟨1, 4, 1⟩, ⟨2, 3, 1⟩, ⟨3, 4, 1⟩]),
  ([[0, 0, 1], [1, 0, 1], [2, 0, 1], [3, 0, 1], [4, 0, 1], [5, 0, 1]], []),
  ([[0, 0, 1], [1, 0, 1], [2, 0, 1], [3, 0, 1], [4, 0, 1], [5, 0, 1], [6, 0, 1]], []),
  ([[0, 0, 1], [1, 0, 1], [2, 0, 1], [3, 0, 1], [4, 0, 1], [5, 0, 1], [6, 0, 1], [7, 0, 1]], []),
  ([[0, 0, 1], [1, 0, 1], [2, 0, 1], [3, 0, 1], [4, 0, 1], [5, 0, 1], [6, 0, 1], [7, 0, 1], [8, 0, 1]], []),
  ([[0, 0, 1], [1, 0, 1], [2, 0, 1], [3, 0, 1], [4, 0, 1], [5, 0, 1], [6, 0, 1], [7, 0, 1], [8, 0, 1], [9, 0, 1]], [])]
theorem tilT1_t : tilRow 1 tilT1 = true := by decide +kernel
def tilT2 : List (List (List Int) × List Wr) := [  ([[0, 0, 2], [1, 0, 2]], [⟨0, 1, 2⟩]),
  ([[0, 0, 2], [2, 0, 2]], [⟨0, 1, 1⟩]),
  ([[0, 0, 2], [2, 0, 2], [3, 0, 2]], [⟨0, 2, 1⟩, ⟨1, 2, 2⟩]),
  ([[0, 0, 2], [2, 0, 2], [4, 0, 2]], [⟨0, 2, 1⟩, ⟨1, 2, 1⟩]),
  ([[0, 0, 2], [2, 0, 2], [4, 0, 2], [5, 0, 2]], [⟨0, 2, 1⟩, ⟨1, 3, 2⟩, ⟨2, 3, 1⟩]),
  ([[0, 0, 2], [2, 0, 2], [4, 0, 2], [6, 0, 2]], [⟨0, 2, 1⟩, ⟨1, 3, 1⟩, ⟨2, 3, 1⟩]),
  ([[0, 0, 2], [2, 0, 2], [4, 0, 2], [6, 0, 2], [7, 0, 2]], [⟨0, 2, 1⟩, ⟨1, 4, 2⟩, ⟨2, 3, 1⟩, ⟨3, 4, 1⟩]),
  ([[0, 0, 2], [2, 0, 2], [4, 0, 2], [6, 0, 2], [8, 0, 2]], [⟨0, 2, 1⟩, ⟨1, 4, 1⟩, ⟨2, 3, 1⟩, ⟨3, 4, 1⟩]),
  ([[0, 0, 2], [2, 0, 2], [4, 0, 2], [6, 0, 2], [8, 0, 2], [9, 0, 2]], [])]
theorem tilT2_t : tilRow 2 tilT2 = true := by decide +kernel
def tilT3 : List (List (List Int) × List Wr) := [  ([[0, 0, 3], [1, 0, 3]], [⟨0, 1, 3⟩]),
  ([[0, 0, 3], [1, 2, 3], [2, 0, 3]], [⟨0, 1, 1⟩, ⟨0, 2, 1⟩, ⟨1, 2, 1⟩]),
  ([[0, 0, 3], [3, 0, 3]], [⟨0, 1, 1⟩]),
  ([[0, 0, 3], [3, 0, 3], [4, 0, 3]], [⟨0, 2, 1⟩, ⟨1, 2, 3⟩]),
  ([[0, 0, 3], [3, 0, 3], [4, 2, 3], [5, 0, 3]], [⟨0, 2, 1⟩, ⟨1, 2, 1⟩, ⟨1, 3, 1⟩, ⟨2, 3, 1⟩]),
  ([[0, 0, 3], [3, 0, 3], [6, 0, 3]], [⟨0, 2, 1⟩, ⟨1, 2, 1⟩]),
  ([[0, 0, 3], [3, 0, 3], [6, 0, 3], [7, 0, 3]], [⟨0, 2, 1⟩, ⟨1, 3, 3⟩, ⟨2, 3, 1⟩]),
  ([[0, 0, 3], [3, 0, 3], [6, 0, 3], [7, 2, 3], [8, 0, 3]], [⟨0, 2, 1⟩, ⟨1, 3, 1⟩, ⟨1, 4, 1⟩, ⟨2, 3, 1⟩, ⟨3, 4, 1⟩]),
  ([[0, 0, 3], [3, 0, 3], [6, 0, 3], [9, 0, 3]], [⟨0, 2, 1⟩, ⟨1, 3, 1⟩, ⟨2, 3, 1⟩])]
theorem tilT3_t : tilRow 3 tilT3 = true := by decide +kernel
def tilT4 : List (List (List Int) × List Wr) := [  ([[0, 0, 4], [1, 0, 4]], [⟨0, 1, 4⟩]),
  ([[0, 0, 4], [2, 0, 4]], [⟨0, 1, 2⟩]),
  ([[0, 0, 4], [1, 3, 4], [2, 3, 4], [3, 0, 4]], [⟨0, 1, 1⟩, ⟨0, 2, 1⟩, ⟨1, 3, 1⟩, ⟨2, 3, 1⟩]),
  ([[0, 0, 4], [4, 0, 4]], [⟨0, 1, 1⟩]),
  ([[0, 0, 4], [4, 0, 4], [5, 0, 4]], [⟨0, 2, 1⟩, ⟨1, 2, 4⟩]),
  ([[0, 0, 4], [4, 0, 4], [6, 0, 4]], [⟨0, 2, 1⟩, ⟨1, 2, 2⟩]),
  ([[0, 0, 4], [4, 0, 4], [5, 3, 4], [6, 3, 4], [7, 0, 4]], [⟨0, 2, 1⟩, ⟨1, 2, 1⟩, ⟨1, 4, 1⟩, ⟨2, 3, 1⟩, ⟨3, 4, 1⟩]),
  ([[0, 0, 4], [4, 0, 4], [8, 0, 4]], [⟨0, 2, 1⟩, ⟨1, 2, 1⟩]),
  ([[0, 0, 4], [4, 0, 4], [8, 0, 4], [9, 0, 4]], [⟨0, 2, 1⟩, ⟨1, 3, 4⟩, ⟨2, 3, 1⟩])]
theorem tilT4_t : tilRow 4 tilT4 = true := by decide +kernel
def tilT5 : List (List (List Int) × List Wr) := [  ([[0, 0, 5], [1, 0, 5]], [⟨0, 1, 5⟩]),
  ([[0, 0, 5], [1, 4, 5], [2, 0, 5]], [⟨0, 1, 2⟩, ⟨0, 2, 1⟩, ⟨1, 2, 1⟩]),
  ([[0, 0, 5], [2, 3, 5], [3, 0, 5]], [⟨0, 1, 1⟩, ⟨0, 2, 1⟩, ⟨1, 2, 2⟩]),
  ([[0, 0, 5], [1, 4, 5], [2, 4, 5], [3, 4, 5], [4, 0, 5]], [⟨0, 1, 1⟩, ⟨0, 2, 1⟩, ⟨1, 4, 1⟩, ⟨2, 3, 1⟩, ⟨3, 4, 1⟩]),
  ([[0, 0, 5], [5, 0, 5]], [⟨0, 1, 1⟩]),
  ([[0, 0, 5], [5, 0, 5], [6, 0, 5]], [⟨0, 2, 1⟩, ⟨1, 2, 5⟩]),
  ([[0, 0, 5], [5, 0, 5], [6, 4, 5], [7, 0, 5]], [⟨0, 2, 1⟩, ⟨1, 2, 2⟩, ⟨1, 3, 1⟩, ⟨2, 3, 1⟩]),
  ([[0, 0, 5], [5, 0, 5], [7, 3, 5], [8, 0, 5]], [⟨0, 2, 1⟩, ⟨1, 2, 1⟩, ⟨1, 3, 2⟩, ⟨2, 3, 1⟩]),
  ([[0, 0, 5], [5, 0, 5], [6, 4, 5], [7, 4, 5], [8, 4, 5], [9, 0, 5]], [])]
theorem tilT5_t : tilRow 5 tilT5 = true := by decide +kernel
def tilT6 : List (List (List Int) × List Wr) := [  ([[0, 0, 6], [1, 0, 6]], [⟨0, 1, 6⟩]),
  ([[0, 0, 6], [2, 0, 6]], [⟨0, 1, 3⟩]),
  ([[0, 0, 6], [3, 0, 6]], [⟨0, 1, 2⟩]),
  ([[0, 0, 6], [2, 4, 6], [4, 0, 6]], [⟨0, 1, 1⟩, ⟨0, 2, 1⟩, ⟨1, 2, 1⟩]),
  ([[0, 0, 6], [1, 5, 6], [2, 5, 6], [3, 5, 6], [4, 5, 6], [5, 0, 6]], []),
  ([[0, 0, 6], [6, 0, 6]], [⟨0, 1, 1⟩]),
  ([[0, 0, 6], [6, 0, 6], [7, 0, 6]], [⟨0, 2, 1⟩, ⟨1, 2, 6⟩]),
  ([[0, 0, 6], [6, 0, 6], [8, 0, 6]], [⟨0, 2, 1⟩, ⟨1, 2, 3⟩]),
  ([[0, 0, 6], [6, 0, 6], [9, 0, 6]], [⟨0, 2, 1⟩, ⟨1, 2, 2⟩])]
theorem tilT6_t : tilRow 6 tilT6 = true := by decide +kernel
def tilT7 : List (List (List Int) × List Wr) := [  ([[0, 0, 7], [1, 0, 7]], [⟨0, 1, 7⟩]),
  ([[0, 0, 7], [1, 6, 7], [2, 0, 7]], [⟨0, 1, 3⟩, ⟨0, 2, 1⟩, ⟨1, 2, 1⟩]),
  ([[0, 0, 7], [1, 6, 7], [2, 6, 7], [3, 0, 7]], [⟨0, 1, 2⟩, ⟨0, 2, 1⟩, ⟨1, 3, 1⟩, ⟨2, 3, 1⟩]),
  ([[0, 0, 7], [3, 4, 7], [4, 0, 7]], [⟨0, 1, 1⟩, ⟨0, 2, 1⟩, ⟨1, 2, 3⟩]),
  ([[0, 0, 7], [2, 5, 7], [4, 5, 7], [5, 0, 7]], [⟨0, 1, 1⟩, ⟨0, 2, 1⟩, ⟨1, 3, 2⟩, ⟨2, 3, 1⟩]),
  ([[0, 0, 7], [1, 6, 7], [2, 6, 7], [3, 6, 7], [4, 6, 7], [5, 6, 7], [6, 0, 7]], []),
  ([[0, 0, 7], [7, 0, 7]], [⟨0, 1, 1⟩]),
  ([[0, 0, 7], [7, 0, 7], [8, 0, 7]], [⟨0, 2, 1⟩, ⟨1, 2, 7⟩]),
  ([[0, 0, 7], [7, 0, 7], [8, 6, 7], [9, 0, 7]], [⟨0, 2, 1⟩, ⟨1, 2, 3⟩, ⟨1, 3, 1⟩, ⟨2, 3, 1⟩])]
theorem tilT7_t : tilRow 7 tilT7 = true := by decide +kernel
def tilT8 : List (List (List Int) × List Wr) := [  ([[0, 0, 8], [1, 0, 8]], [⟨0, 1, 8⟩]),
  ([[0, 0, 8], [2, 0, 8]], [⟨0, 1, 4⟩]),
  ([[0, 0, 8], [2, 6, 8], [3, 0, 8]], [⟨0, 1, 2⟩, ⟨0, 2, 1⟩, ⟨1, 2, 2⟩]),
  ([[0, 0, 8], [4, 0, 8]], [⟨0, 1, 2⟩]),
  ([[0, 0, 8], [3, 5, 8], [4, 7, 8], [5, 0, 8]], [⟨0, 1, 1⟩, ⟨0, 2, 1⟩, ⟨1, 2, 1⟩, ⟨1, 3, 1⟩, ⟨2, 3, 1⟩]),
  ([[0, 0, 8], [2, 6, 8], [4, 6, 8], [6, 0, 8]], [⟨0, 1, 1⟩, ⟨0, 2, 1⟩, ⟨1, 3, 1⟩, ⟨2, 3, 1⟩]),
  ([[0, 0, 8], [1, 7, 8], [2, 7, 8], [3, 7, 8], [4, 7, 8], [5, 7, 8], [6, 7, 8], [7, 0, 8]], []),
  ([[0, 0, 8], [8, 0, 8]], [⟨0, 1, 1⟩]),
  ([[0, 0, 8], [8, 0, 8], [9, 0, 8]], [⟨0, 2, 1⟩, ⟨1, 2, 8⟩])]
theorem tilT8_t : tilRow 8 tilT8 = true := by decide +kernel
def tilT9 : List (List (List Int) × List Wr) := [  ([[0, 0, 9], [1, 0, 9]], [⟨0, 1, 9⟩]),
  ([[0, 0, 9], [1, 8, 9], [2, 0, 9]], [⟨0, 1, 4⟩, ⟨0, 2, 1⟩, ⟨1, 2, 1⟩]),
  ([[0, 0, 9], [3, 0, 9]], [⟨0, 1, 3⟩]),
  ([[0, 0, 9], [1, 8, 9], [2, 8, 9], [3, 8, 9], [4, 0, 9]], [⟨0, 1, 2⟩, ⟨0, 2, 1⟩, ⟨1, 4, 1⟩, ⟨2, 3, 1⟩, ⟨3, 4, 1⟩]),
  ([[0, 0, 9], [4, 5, 9], [5, 0, 9]], [⟨0, 1, 1⟩, ⟨0, 2, 1⟩, ⟨1, 2, 4⟩]),
  ([[0, 0, 9], [3, 6, 9], [6, 0, 9]], [⟨0, 1, 1⟩, ⟨0, 2, 1⟩, ⟨1, 2, 1⟩]),
  ([[0, 0, 9], [2, 7, 9], [4, 7, 9], [6, 7, 9], [7, 0, 9]], [⟨0, 1, 1⟩, ⟨0, 2, 1⟩, ⟨1, 4, 2⟩, ⟨2, 3, 1⟩, ⟨3, 4, 1⟩]),
  ([[0, 0, 9], [1, 8, 9], [2, 8, 9], [3, 8, 9], [4, 8, 9], [5, 8, 9], [6, 8, 9], [7, 8, 9], [8, 0, 9]], []),
  ([[0, 0, 9], [9, 0, 9]], [⟨0, 1, 1⟩])]
theorem tilT9_t : tilRow 9 tilT9 = true := by decide +kernel
theorem til_all {a b : Nat} (ha : 1 ≤ a) (ha9 : a ≤ 9) (hb : 1 ≤ b) (hb9 : b ≤ 9) : ∃ n, cutR a b = some n ∧ tilP n (cutX a b n) := by
  rcases (show a = 1 ∨ a = 2 ∨ a = 3 ∨ a = 4 ∨ a = 5 ∨ a = 6 ∨ a = 7 ∨ a = 8 ∨ a = 9 by omega) with rfl | rfl | rfl | rfl | rfl | rfl | rfl | rfl | rfl
  · exact tilRow_p tilT1_t hb hb9
  · exact tilRow_p tilT2_t hb hb9
  · exact tilRow_p tilT3_t hb hb9
  · exact tilRow_p tilT4_t hb hb9
  · exact tilRow_p tilT5_t hb hb9
  · exact tilRow_p tilT6_t hb hb9
  · exact tilRow_p tilT7_t hb hb9
  · exact tilRow_p tilT8_t hb hb9
  · exact tilRow_p tilT9_t hb hb9
end Go.Proofs.YtckjkfcphcnpdaaGreat
