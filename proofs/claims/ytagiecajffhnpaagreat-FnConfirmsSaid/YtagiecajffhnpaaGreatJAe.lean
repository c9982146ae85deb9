/- Plain Lean: decimal texts of integers as lists of bytes. No program in sight. The contracts of FormatInt, in the program and in the reference. FormatRatio of impl and of spec. No condition. Slices of strings; Join. No condition. Join of spec. No condition. FormatRow of impl and of spec. No condition. Plain law: the response of a network by minors; entries of the Laplacian. No program in sight. The nodes that are no terminals; appending to a row of one. No condition. -/
import Derived.Test.YtagiecajffhnpaaGreatWBase
import Derived.Test.YtagiecajffhnpaaGreatJAb
import Derived.Test.YtagiecajffhnpaaGreatWSl
import Derived.Test.YtagiecajffhnpaaGreatShelf
import Derived.Test.YtagiecajffhnpaaGreatWEqInt
import Derived.Test.YtagiecajffhnpaaGreatWLaw
import Derived.Test.YtagiecajffhnpaaGreatWFlat
import Derived.Test.YtagiecajffhnpaaGreatJAd
import Derived.Test.YtagiecajffhnpaaGreatWMatO
import Derived.Test.YtagiecajffhnpaaGreatWOthers
import Derived.Lib.Join
import Derived.Maps.AppendAt
namespace Go.Proofs.YtagiecajffhnpaaGreat

/-- Decimal digits by fuel. -/
def fmtF : Nat → Nat → List UInt8
  | 0, n => [(48 + n % 10).toUInt8]
  | f + 1, n => if n < 10 then [(48 + n).toUInt8] else fmtF f (n / 10) ++ [(48 + n % 10).toUInt8]

/-- The decimal digits of a number below 10^20. -/
def fmtNat (n : Nat) : List UInt8 := fmtF 20 n

/-- FormatInt. -/
def fmtInt (n : Int) : List UInt8 := if n < 0 then 45 :: fmtNat n.natAbs else fmtNat n.natAbs

/-- A list of bytes as a string's bytes. -/
def bstr (l : List UInt8) : ByteArray := ⟨l.toArray⟩

theorem bstr_append (a b : List UInt8) : bstr a ++ bstr b = bstr (a ++ b) := by
  apply ByteArray.ext
  simp [bstr]

theorem bstr_size (a : List UInt8) : (bstr a).size = a.length := by
  simp [bstr, ByteArray.size]

theorem bstr_data (a : List UInt8) : (bstr a).data.toList = a := by simp [bstr]

theorem bstr_inj {a b : List UInt8} (h : bstr a = bstr b) : a = b := by
  have := congrArg (fun s => s.data.toList) h
  simpa [bstr] using this

theorem fmtF_fuel : ∀ (f g n : Nat), n < 10 ^ (f + 1) → f ≤ g → fmtF g n = fmtF f n := by
  intro f
  induction f with
  | zero =>
    intro g n hn hg
    simp at hn
    cases g with
    | zero => rfl
    | succ g => simp [fmtF, hn, Nat.mod_eq_of_lt hn]
  | succ f ih =>
    intro g n hn hg
    cases g with
    | zero => omega
    | succ g =>
      simp only [fmtF]
      split
      · rfl
      · rw [ih g (n / 10) (by rw [Nat.div_lt_iff_lt_mul (by omega)]; rw [Nat.pow_succ] at hn; exact hn) (by omega)]

theorem fmtNat_small (n : Nat) (h : n < 10) : fmtNat n = [(48 + n).toUInt8] := by simp [fmtNat, fmtF, h]

theorem fmtNat_step (n : Nat) (h : 10 ≤ n) (hb : n < 10 ^ 20) : fmtNat n = fmtNat (n / 10) ++ [(48 + n % 10).toUInt8] := by
  show fmtF 20 n = fmtF 20 (n / 10) ++ _
  rw [fmtF_fuel 19 20 (n / 10) (by omega) (by omega)]
  simp [fmtF, show ¬ n < 10 by omega]

theorem fmtF_length : ∀ f n, (fmtF f n).length ≤ f + 1 := by
  intro f
  induction f with
  | zero => intro n; simp [fmtF]
  | succ f ih =>
    intro n
    simp only [fmtF]
    split
    · simp
    · have := ih (n / 10); simp; omega

theorem fmtInt_length (n : Int) : (fmtInt n).length ≤ 22 := by
  unfold fmtInt fmtNat
  have := fmtF_length 20 n.natAbs
  split <;> simp <;> omega

/-- The two ways in which the program comes to the digits of a negative number. -/
theorem fmtInt_neg_step (n : Int) (h : n ≤ -10) (hb : -9223372036854775808 ≤ n) : fmtInt n = fmtInt (n.tdiv 10) ++ fmtInt (-(n.tmod 10)) := by
  have e1 : (n.tdiv 10).natAbs = n.natAbs / 10 := Int.natAbs_tdiv n 10
  have e2 : (-(n.tmod 10)).natAbs = n.natAbs % 10 := by rw [Int.natAbs_neg]; exact Int.natAbs_tmod n 10
  obtain ⟨m, rfl⟩ : ∃ m : Int, n = -m := ⟨-n, by omega⟩
  have d1 : (-m).tdiv 10 = -(m / 10) := by rw [Int.neg_tdiv, Int.tdiv_eq_ediv_of_nonneg (by omega)]
  have d2 : (-m).tmod 10 = -(m % 10) := by rw [Int.neg_tmod, Int.tmod_eq_emod_of_nonneg (by omega)]
  have h1 : -m < 0 := by omega
  have h2 : (-m).tdiv 10 < 0 := by omega
  have h3 : ¬ (-((-m).tmod 10) < 0) := by omega
  unfold fmtInt
  rw [if_pos h1, if_pos h2, if_neg h3, e1, e2, fmtNat_step (-m).natAbs (by omega) (by omega), fmtNat_small ((-m).natAbs % 10) (by omega)]
  rfl

theorem fmtInt_pos_step (n : Int) (h : 10 ≤ n) (hb : n ≤ 9223372036854775807) : fmtInt n = fmtInt (n / 10) ++ fmtInt (n % 10) := by
  have e1 : (n / 10).natAbs = n.natAbs / 10 := by omega
  have e2 : (n % 10).natAbs = n.natAbs % 10 := by omega
  unfold fmtInt
  rw [if_neg (by omega), if_neg (by omega), if_neg (by omega), e1, e2, fmtNat_step n.natAbs (by omega) (by omega), fmtNat_small (n.natAbs % 10) (by omega)]

theorem fmtInt_neg_one (n : Int) (h : n < 0) : fmtInt n = 45 :: fmtInt (-n) := by
  unfold fmtInt
  rw [if_pos h, if_neg (by omega)]
  congr 2
  omega

end Go.Proofs.YtagiecajffhnpaaGreat

namespace Go.Proofs.YtagiecajffhnpaaGreat

open Go.RowKit

theorem ten_cases (n : Int) (h0 : 0 ≤ n) (h : n < 10) : n = 0 ∨ n = 1 ∨ n = 2 ∨ n = 3 ∨ n = 4 ∨ n = 5 ∨ n = 6 ∨ n = 7 ∨ n = 8 ∨ n = 9 := by omega

theorem enc_digit (n : Int) (h0 : 0 ≤ n) (h : n < 10) : Utf8.encode (48 + n) = bstr (fmtInt n) := by
  rcases ten_cases n h0 h with rfl | rfl | rfl | rfl | rfl | rfl | rfl | rfl | rfl | rfl <;> decide

theorem minus_digit (n : Int) (h : n < 0) : (⟨#[45]⟩ : ByteArray) ++ bstr (fmtInt (-n)) = bstr (fmtInt n) := by
  rw [fmtInt_neg_one n h]
  exact bstr_append [45] _

theorem tdiv_bd (n : Int) (h : n ≤ -10) (hb : -9223372036854775808 ≤ n) : n < n.tdiv 10 ∧ n.tdiv 10 ≤ -1 ∧ -9 ≤ n.tmod 10 ∧ n.tmod 10 ≤ 0 := by
  obtain ⟨m, rfl⟩ : ∃ m : Int, n = -m := ⟨-n, by omega⟩
  rw [Int.neg_tdiv, Int.tdiv_eq_ediv_of_nonneg (by omega), Int.neg_tmod, Int.tmod_eq_emod_of_nonneg (by omega)]
  omega

set_option maxHeartbeats 400000 in
theorem iFormatInt_pos (k : Nat) : ∀ (n : Int) (w : World), n.toNat ≤ k → 0 ≤ n → n ≤ 9223372036854775807 →
    Calls Tryz.prog 6 #[.int .i64 n] w fun e w' => e = .returned (.string (bstr (fmtInt n))) ∧ w = w' := by
  induction k with
  | zero =>
    intro n w hk _ _
    have hn : n = 0 := by omega
    subst hn
    go_enter Tryz.func6, Tryz.ntmps6
    go_wp2_with fail
    go_ret
    exact ⟨ret_str (by decide), rfl⟩
  | succ k ih =>
    intro n w hk h1 hhi
    by_cases h2 : n < 10
    · go_enter Tryz.func6, Tryz.ntmps6
      go_wp2_with fail
      go_ret
      exact ⟨ret_str (enc_digit n h1 h2), rfl⟩
    · have z1 : (bstr (fmtInt (n / 10))).size + (bstr (fmtInt (n % 10))).size ≤ 9223372036854775807 := by
        have := fmtInt_length (n / 10); have := fmtInt_length (n % 10); rw [bstr_size, bstr_size]; omega
      go_enter Tryz.func6, Tryz.ntmps6
      go_wp2_with (go_at_call 6; ((with_reducible refine (ih _ _ (by omega) (by omega) (by omega)).mono ?_); rintro e w' ⟨rfl, rfl⟩))
      go_ret
      exact ⟨ret_str (by rw [bstr_append, fmtInt_pos_step n (by omega) hhi]), rfl⟩

set_option maxHeartbeats 400000 in
theorem iFormatInt_neg (k : Nat) : ∀ (n : Int) (w : World), (-n).toNat ≤ k → n < 0 → -9223372036854775808 ≤ n →
    Calls Tryz.prog 6 #[.int .i64 n] w fun e w' => e = .returned (.string (bstr (fmtInt n))) ∧ w = w' := by
  induction k with
  | zero => intro n w hk _ _; omega
  | succ k ih =>
    intro n w hk h1 hlo
    by_cases h2 : -10 < n
    · have z1 : (1 : Nat) + (bstr (fmtInt (-n))).size ≤ 9223372036854775807 := by
        have := fmtInt_length (-n); rw [bstr_size]; omega
      go_enter Tryz.func6, Tryz.ntmps6
      go_wp2_with (go_at_call 6; ((with_reducible refine (iFormatInt_pos 10 _ _ (by omega) (by omega) (by omega)).mono ?_); rintro e w' ⟨rfl, rfl⟩))
      go_ret
      exact ⟨ret_str (minus_digit n h1), rfl⟩
    · obtain ⟨q1, q2, r1, r2⟩ := tdiv_bd n (by omega) hlo
      have HS := fmtInt_neg_step n (by omega) hlo
      obtain ⟨q, hq⟩ : ∃ q, n.tdiv 10 = q := ⟨_, rfl⟩
      obtain ⟨r, hr⟩ : ∃ r, n.tmod 10 = r := ⟨_, rfl⟩
      rw [hq] at q1 q2 HS
      rw [hr] at r1 r2 HS
      have H : Hid (fmtInt n = fmtInt q ++ fmtInt (-r)) := HS
      clear HS
      have z1 : (bstr (fmtInt q)).size + (bstr (fmtInt (-r))).size ≤ 9223372036854775807 := by
        have := fmtInt_length q; have := fmtInt_length (-r); rw [bstr_size, bstr_size]; omega
      go_enter Tryz.func6, Tryz.ntmps6
      go_wp2_with (first | (go_at_call 6; ((with_reducible refine (ih q _ (by omega) (by omega) (by omega)).mono ?_); rintro e w' ⟨rfl, rfl⟩)) | (go_at_call 6; ((with_reducible refine (iFormatInt_pos 10 (-r) _ (by omega) (by omega) (by omega)).mono ?_); rintro e w' ⟨rfl, rfl⟩)))
      go_ret
      exact ⟨ret_str (by rw [bstr_append, H.out]), rfl⟩

theorem iFormatInt (n : Int) (w : World) (h0 : -9223372036854775808 ≤ n) (h1 : n ≤ 9223372036854775807) :
    Calls Tryz.prog 6 #[.int .i64 n] w fun e w' => e = .returned (.string (bstr (fmtInt n))) ∧ w = w' := by
  by_cases h : 0 ≤ n
  · exact iFormatInt_pos _ n w (Nat.le_refl _) h h1
  · exact iFormatInt_neg _ n w (Nat.le_refl _) (by omega) h0

end Go.Proofs.YtagiecajffhnpaaGreat

namespace Go.Proofs.YtagiecajffhnpaaGreat
set_option maxRecDepth 100000
open Go.ChangeShapes Go.WideShapes Go.ChangeAt Go.RowKit Go.Joins

def ratioTxt (n d : Int) : List UInt8 := if ratioOk n d = true then (if d = 1 then fmtInt n else fmtInt n ++ [47] ++ fmtInt d) else []
theorem ratioTxt_le (n d : Int) : (ratioTxt n d).length ≤ 45 := by
  have := fmtInt_length n; have := fmtInt_length d
  unfold ratioTxt
  repeat' split
  all_goals simp
  all_goals omega
theorem ratioTxt_1 {n d : Int} (h : ratioOk n d = true) (h1 : d = 1) : bstr (fmtInt n) = bstr (ratioTxt n d) := by simp [ratioTxt, h, h1]; rw [h1] at h; simp [h]
theorem ratioTxt_2 {n d : Int} (h : ratioOk n d = true) (h1 : ¬ d = 1) : bstr (fmtInt n) ++ (⟨#[47]⟩ : ByteArray) ++ bstr (fmtInt d) = bstr (ratioTxt n d) := by
  rw [show (⟨#[47]⟩ : ByteArray) = bstr [47] from rfl, bstr_append, bstr_append]; simp [ratioTxt, h, h1]
theorem ratioTxt_0 {n d : Int} (h : ratioOk n d = false) : (⟨#[]⟩ : ByteArray) = bstr (ratioTxt n d) := by simp [ratioTxt, h, bstr]
theorem ratio_sm {n d : Int} (h : ratioOk n d = true) : (-9223372036854775808 ≤ n ∧ n ≤ 9223372036854775807) ∧ (-9223372036854775808 ≤ d ∧ d ≤ 9223372036854775807) := by
  have := ratioOk_iff.1 h; omega

set_option maxHeartbeats 1600000 in
theorem iFormatRatio (n d : Int) (w : World) :
    Calls Tryz.prog 51 #[.agg #[.int .i64 n, .int .i64 d]] w fun e w' => e = .returned (.string (bstr (ratioTxt n d))) ∧ Ge w w' := by
  cases c : ratioOk n d with
  | false =>
    have HF := Lib.hid (ratioTxt_0 c)
    go_enter Tryz.func51, Tryz.ntmps51
    go_wp2_with (go_at_call 82; ((with_reducible refine (iRatioOk _ _ _).mono ?_); rintro e w1 ⟨rfl, gw1⟩); have Gw1 : Ge w w1 := (Ge.trans (kge) gw1); have c0_0 : World.cell? w1 ⟨w.heap.size, 0, none⟩ = some (.int .i64 n) := Ge.keep gw1 kcell; have c0_1 : World.cell? w1 ⟨w.heap.size, 1, none⟩ = some (.int .i64 d) := Ge.keep gw1 kcell; have zw1 : w.heap.size + 1 ≤ w1.heap.size := (by have := Ge.size gw1; (try simp at this); omega))
    go_ret
    exact ⟨ret_str HF.out, kge⟩
  | true =>
    have hs := ratio_sm c
    have H0 := Lib.hid hs.1
    have H1 := Lib.hid hs.2
    clear hs
    have z1 : ¬ (9223372036854775807 < (bstr (fmtInt n)).size + 1) := by rw [bstr_size]; have := fmtInt_length n; omega
    have z2 : ¬ (9223372036854775807 < (bstr (fmtInt n)).size + 1 + (bstr (fmtInt d)).size) := by rw [bstr_size, bstr_size]; have := fmtInt_length n; have := fmtInt_length d; omega
    by_cases h1 : d = 1
    · have HF := Lib.hid (ratioTxt_1 c h1)
      have t1 : (d == 1) = true := by simp [h1]
      clear h1
      go_enter Tryz.func51, Tryz.ntmps51
      go_wp2_with (first | (go_at_call 82; ((with_reducible refine (iRatioOk _ _ _).mono ?_); rintro e w1 ⟨rfl, gw1⟩); have Gw1 : Ge w w1 := (Ge.trans (kge) gw1); have c0_0 : World.cell? w1 ⟨w.heap.size, 0, none⟩ = some (.int .i64 n) := Ge.keep gw1 kcell; have c0_1 : World.cell? w1 ⟨w.heap.size, 1, none⟩ = some (.int .i64 d) := Ge.keep gw1 kcell; have zw1 : w.heap.size + 1 ≤ w1.heap.size := (by have := Ge.size gw1; (try simp at this); omega)) | (go_at_call 6; ((with_reducible refine (iFormatInt _ _ H0.out.1 H0.out.2).mono ?_); rintro e w' ⟨rfl, rfl⟩)))
      go_ret
      exact ⟨ret_str HF.out, kge⟩
    · have HF := Lib.hid (ratioTxt_2 c h1)
      have t1 : (d == 1) = false := by simp [h1]
      clear h1
      go_enter Tryz.func51, Tryz.ntmps51
      go_wp2_with ((go_at_call 82; ((with_reducible refine (iRatioOk _ _ _).mono ?_); rintro e w1 ⟨rfl, gw1⟩); have Gw1 : Ge w w1 := (Ge.trans (kge) gw1); have c0_0 : World.cell? w1 ⟨w.heap.size, 0, none⟩ = some (.int .i64 n) := Ge.keep gw1 kcell; have c0_1 : World.cell? w1 ⟨w.heap.size, 1, none⟩ = some (.int .i64 d) := Ge.keep gw1 kcell; have zw1 : w.heap.size + 1 ≤ w1.heap.size := (by have := Ge.size gw1; (try simp at this); omega)))
      have hS : ∀ w', Ge w1 w' → (w'.cell? ⟨w.heap.size, 0, none⟩ = some (.int .i64 n) ∧ w'.cell? ⟨w.heap.size, 1, none⟩ = some (.int .i64 d) ∧ Ge w1 w') := fun w' g => ⟨g.keep (kch), g.keep (kch), Ge.trans (kch) g⟩
      go_region_held3 (fun w' => w'.cell? ⟨w.heap.size, 0, none⟩ = some (.int .i64 n) ∧ w'.cell? ⟨w.heap.size, 1, none⟩ = some (.int .i64 d) ∧ Ge w1 w') (first | ((with_reducible refine hS _ ?_); exact kch) | fail) (first | (go_at_call 6; ((with_reducible refine (iFormatInt _ _ (by first | exact H0.out.1 | exact H1.out.1) (by first | exact H0.out.2 | exact H1.out.2)).mono ?_); rintro e w' ⟨rfl, rfl⟩)) | fail)
      rename_i hHeldX
      obtain ⟨q0, q1, G2⟩ := hHeldX
      clear hS
      go_wp2_with fail
      go_ret
      exact ⟨ret_str HF.out, kge⟩

end Go.Proofs.YtagiecajffhnpaaGreat

namespace Go.Proofs.YtagiecajffhnpaaGreat

open Go.RowKit

/-- Texts as cells. -/
def scells (l : List (List UInt8)) : List Value := l.map fun s => .string (bstr s)
theorem scells_length (l : List (List UInt8)) : (scells l).length = l.length := by simp [scells]
/-- A slice of strings that reads as l. -/
def SlS (w : World) (v : Value) (l : List (List UInt8)) : Prop := Sl w v l.length 1 (scells l)
theorem SlS.ge {w w' : World} {v : Value} {l : List (List UInt8)} (h : SlS w v l) (hg : Ge w w') : SlS w' v l := Sl.ge h hg
theorem SlS.of_owns {w : World} {base : Nat} {e : TypeId} {v : Value} {l : List (List UInt8)} (h : w.ownsRow base e 1 v l.length (scells l)) : SlS w v l := Sl.of_owns h
def tnth (l : List (List UInt8)) (i : Nat) : List UInt8 := l.getD i []
theorem tnth_eq (l : List (List UInt8)) (i : Nat) (h : i < l.length) : tnth l i = l[i] := by simp [tnth, List.getD, h]
theorem SlS.openN {w : World} {v : Value} {l : List (List UInt8)} {n : Nat} (h : SlS w v l) (hn : l.length = n) : ∃ p cap, v = .slice p n cap ∧ ∀ i, i < n → ∃ b o, p = some ⟨b, o, none⟩ ∧ w.cell? ⟨b, o + i, none⟩ = some (.string (bstr (tnth l i))) := by
  subst hn
  obtain ⟨_, p, cap, hv, hc⟩ := h
  refine ⟨p, cap, hv, fun i hi => ?_⟩
  exact hc i (.string (bstr (tnth l i))) (by simp [scells, hi, tnth_eq])

theorem inf_str : (Tryz.prog.info? 9).map (fun i => (i.zero, i.size, i.bytes)) = some (some (.string ⟨#[]⟩), 1, 16) := by kernel_rfl
theorem ap_str {w : World} {ops : Array Oper} {rest : List Oper} {o : Oper} {a : Act} {Q : Exit → Act → World → Prop} (hgd : o.guard = none) (s x : Operand)
    (ho : o.op = .call { callee := .builtin .append, args := #[s, x], argTypes := #[27, 27] })
    (base : Nat) (v : Value) (l : List (List UInt8)) (hs : a.eval s = v) (hown : w.ownsRow base 9 1 v l.length (scells l))
    (y : List UInt8) (hx : a.eval x = .slice (some ⟨w.heap.size, 0, none⟩) 1 1) (hn : l.length < 1099511627776) (hbase : base ≤ w.heap.size)
    (h : ∀ v' w', w'.ownsRow base 9 1 v' (l ++ [y]).length (scells (l ++ [y])) → Mine w w' v → wpList Tryz.prog ops Q rest (a.put o.dst v') w') :
    wpList Tryz.prog ops Q (o :: rest) a (w.alloc (.cells #[.string (bstr y)] 9)) :=
  ap1 hgd s x 27 ho 9 _ 1 16 Tryz.underlying27 inf_str rfl (by decide) (by decide) base v _ _ hs hown #[.string (bstr y)] hx rfl (by simp [Value.oneCell']) hn hbase
    (fun v' w' h2 h3 => h v' w' (by simpa [scells] using h2) h3)

theorem lens_le (l : List (List UInt8)) (B : Nat) (h : ∀ x ∈ l, x.length ≤ B) : Lib.lens l ≤ B * l.length := by
  induction l with
  | nil => simp [Lib.lens]
  | cons x r ih =>
    have h1 := ih (fun y hy => h y (List.mem_cons_of_mem _ hy))
    have h2 := h x (by simp)
    simp only [Lib.lens, List.map_cons, List.sum_cons, List.length_cons] at h1 ⊢
    rw [Nat.mul_succ]
    omega
theorem joinTail_le (sep : List UInt8) (l : List (List UInt8)) (B : Nat) (h : ∀ x ∈ l, x.length ≤ B) : (Lib.joinTail sep l).length ≤ (sep.length + B) * l.length := by
  rw [Lib.joinTail_length, Nat.add_mul]
  have := lens_le l B h
  omega
theorem join_le (sep : List UInt8) (l : List (List UInt8)) (B : Nat) (h : ∀ x ∈ l, x.length ≤ B) : (Lib.join l sep).length ≤ (sep.length + B) * l.length := by
  cases l with
  | nil => simp [Lib.join_nil]
  | cons x r =>
    rw [Lib.join_cons, List.length_append]
    have h1 := joinTail_le sep r B (fun y hy => h y (List.mem_cons_of_mem _ hy))
    have h2 := h x (by simp)
    simp only [List.length_cons, Nat.mul_succ]
    omega
theorem iJoin (base : Nat) (e : TypeId) (v : Value) (l : List (List UInt8)) (sep : List UInt8) (w : World) (h : w.ownsRow base e 1 v l.length (scells l)) (hn : l.length ≤ 140737488355328) (hlen : (Lib.join l sep).length ≤ 140737488355328) :
    Calls Tryz.prog 12 #[v, .string (bstr sep)] w fun en w' => en = .returned (.string (bstr (Lib.join l sep))) ∧ Ge w w' := by
  have key : ∃ f : World → Prop, (∀ w', f w' → Ge w w') ∧ Calls Tryz.prog 25 #[v, .string (bstr sep)] w fun en w' => en = .returned (.string (bstr (Lib.join l sep))) ∧ f w' := by
    by_cases h0 : l = []
    · subst h0
      rcases owns_cases h with ⟨rfl, _⟩ | ⟨g, cap, rfl⟩
      · exact ⟨fun w' => w' = w, fun w' h => h ▸ Ge.refl _, Tryz.strings_Join_none none 0 (bstr sep) w⟩
      · exact ⟨fun w' => w' = w, fun w' h => h ▸ Ge.refl _, Tryz.strings_Join_none (some ⟨g, 0, none⟩) cap (bstr sep) w⟩
    · have hp : 0 < l.length := List.length_pos_iff.2 h0
      obtain ⟨g, cap, rfl⟩ := Go.Joins.ownsRow_form h hp
      refine ⟨fun w' => Below w.heap.size w w', fun w' h => h, ?_⟩
      have hc : l.length ≤ cap := by
        rcases h.2 with ⟨h', _⟩ | ⟨g', cap', cur, h', _, _, hnc, _⟩
        · simp at h'
        · simp at h'; omega
      have hxs : (l.map bstr).map (·.data.toList) = l := by
        rw [List.map_map]
        conv => rhs; rw [← List.map_id l]
        exact List.map_congr_left fun x _ => bstr_data x
      have hbk : g < w.heap.size := (h.lt g rfl).2
      have := Tryz.strings_Join g 0 cap (l.map bstr) (bstr sep) w (fun j x hx => by
        have hj : j < l.length := by have := (List.getElem?_eq_some_iff.1 hx).1; simpa using this
        rw [Nat.zero_add, h.cellAt j (by omega)]
        rw [List.getElem?_map] at hx
        simp only [scells, List.getElem?_map]
        cases hy : l[j]? with
        | none => rw [hy] at hx; simp at hx
        | some y => rw [hy] at hx; simp at hx; simp [hx]) hbk (by simpa using hn) (by simpa using hc) (by rw [hxs, bstr_data]; exact hlen)
      rw [hxs, bstr_data, List.length_map] at this
      exact this
  obtain ⟨f, hf, hc⟩ := key
  obtain ⟨p, cap, rfl⟩ := owns_form h
  have HF := Lib.hid hf
  clear hf h
  go_enter Tryz.func12, Tryz.ntmps12
  go_wp2_with (go_at_call 25; ((with_reducible refine hc.mono ?_); rintro e' w' ⟨rfl, hw⟩))
  go_ret
  exact ⟨rfl, HF.out _ hw⟩
end Go.Proofs.YtagiecajffhnpaaGreat

namespace Go.Proofs.YtagiecajffhnpaaGreat
set_option maxRecDepth 100000
open Go.ChangeShapes Go.WideShapes Go.ChangeAt Go.RowKit Go.Joins

end Go.Proofs.YtagiecajffhnpaaGreat

namespace Go.Proofs.YtagiecajffhnpaaGreat
set_option maxRecDepth 100000
open Go.ChangeShapes Go.WideShapes Go.ChangeAt Go.RowKit Go.Joins

def rTxts (xs : List Int) (k : Nat) : List (List UInt8) := (List.range k).map fun j => ratioTxt (nth xs (j * 2)) (nth xs (j * 2 + 1))
theorem rTxts_succ (xs : List Int) (k : Nat) : rTxts xs (k + 1) = rTxts xs k ++ [ratioTxt (nth xs (k * 2)) (nth xs (k * 2 + 1))] := by simp [rTxts, List.range_succ]
theorem rTxts_length (xs : List Int) (k : Nat) : (rTxts xs k).length = k := by simp [rTxts]
theorem rTxts_join (xs : List Int) (k : Nat) : (Lib.join (rTxts xs k) [32]).length ≤ 46 * k := by
  have h := join_le [32] (rTxts xs k) 45 (fun x hx => by
    simp only [rTxts, List.mem_map] at hx
    obtain ⟨j, _, rfl⟩ := hx
    exact ratioTxt_le _ _)
  rwa [rTxts_length] at h
def rowGood (xs : List Int) (j : Nat) : Prop := ratioOk (nth xs (j * 2)) (nth xs (j * 2 + 1)) = true
def rowOk (n : Nat) (xs : List Int) : Bool := (List.range n).all fun j => ratioOk (nth xs (j * 2)) (nth xs (j * 2 + 1))
theorem rowOk_t {n : Nat} {xs : List Int} (h : ∀ j, j < n → rowGood xs j) : rowOk n xs = true := by
  simp only [rowOk, List.all_eq_true, List.mem_range]; exact h
theorem rowOk_f {n : Nat} {xs : List Int} {j : Nat} (hj : j < n) (h : ratioOk (nth xs (j * 2)) (nth xs (j * 2 + 1)) = false) : rowOk n xs = false := by
  cases c : rowOk n xs with
  | false => rfl
  | true =>
    simp only [rowOk, List.all_eq_true, List.mem_range] at c
    rw [c j hj] at h; cases h
def rowLine (n : Nat) (xs : List Int) : List UInt8 := if rowOk n xs = true then (if n = 0 then [110, 111, 110, 101] else Lib.join (rTxts xs n) [32]) else []
theorem rowLine_f {n : Nat} {xs : List Int} (h : rowOk n xs = false) : (⟨#[]⟩ : ByteArray) = bstr (rowLine n xs) := by simp [rowLine, h, bstr]
theorem rowLine_0 {n : Nat} {xs : List Int} (h : n = 0) : bstr (rowLine n xs) = ⟨#[110, 111, 110, 101]⟩ := by
  subst h; simp [rowLine, rowOk, bstr]
theorem rowLine_s {n : Nat} {xs : List Int} (hok : rowOk n xs = true) (h : ¬ n = 0) : bstr (rowLine n xs) = bstr (Lib.join (rTxts xs n) [32]) := by simp [rowLine, h, hok]
theorem rowLine_le (n : Nat) (xs : List Int) : (rowLine n xs).length ≤ 46 * n + 4 := by
  have := rTxts_join xs n
  unfold rowLine
  repeat' split
  all_goals simp
  all_goals omega
theorem good_row {xs : List Int} {k : Nat} (h : Hid (∀ i, i < k → rowGood xs i)) (hk : ratioOk (nth xs (k * 2)) (nth xs (k * 2 + 1)) = true) : Hid (∀ i, i < k + 1 → rowGood xs i) := fun i hi => by
  by_cases e : i = k
  · subst e; exact hk
  · exact h.out i (by omega)

set_option maxHeartbeats 1600000 in
theorem iFormatRow (v : Value) (n : Nat) (xs : List Int) (w : World) (hv : SlF w v n 2 xs) (hm : n ≤ 1048576) (hb : ∀ j, -9223372036854775808 ≤ nth xs j ∧ nth xs j ≤ 9223372036854775807) :
    Calls Tryz.prog 46 #[v] w fun e w' => e = .returned (.string (bstr (rowLine n xs))) ∧ Ge w w' := by
  obtain ⟨p, cap, rfl, hc⟩ := hv.open
  have HC := Lib.hid hc
  clear hv hc hb
  go_enter Tryz.func46, Tryz.ntmps46
  go_wp2_with fail
  go_loopw [3, 9] (fun s i wr => ∃ k : Nat, k ≤ n ∧ i = .int .i64 k ∧ wr.ownsRow w.heap.size 9 1 s (rTxts xs k).length (scells (rTxts xs k)) ∧ Hid (∀ j, j < k → rowGood xs j) ∧ Ge w wr) (fun _ i _ => n - (intOf i).toNat)
  case atStart => exact ⟨0, Nat.zero_le _, rfl, owns_lit0 _ _ _, fun j hj => by omega, kge⟩
  case round =>
    obtain ⟨k, hk, rfl, hown, HG, hg⟩ := hrel
    by_cases hlt : k < n
    · obtain ⟨b, o, rfl, x0, x1⟩ := two_cells HC.out hlt
      have y0 := hg.keep x0
      have y1 := hg.keep x1
      clear x0 x1
      cases c : ratioOk (nth xs (k * 2)) (nth xs (k * 2 + 1)) with
      | false =>
        have HF := Lib.hid (rowLine_f (rowOk_f hlt c))
        generalize nth xs (k * 2) = X at *
        generalize nth xs (k * 2 + 1) = Y at *
        go_wp2_with ((go_at_call 82; ((with_reducible refine (iRatioOk _ _ _).mono ?_); rintro e w4 ⟨rfl, g4⟩)))
        go_ret
        exact ⟨ret_str HF.out, kge⟩
      | true =>
        have HG2 := Lib.hid (good_row HG c)
        have HL : Hid ((rTxts xs k).length < 1099511627776) := by
          show _ < _
          rw [rTxts_length]; omega
        have HS : Hid (rTxts xs k ++ [ratioTxt (nth xs (k * 2)) (nth xs (k * 2 + 1))] = rTxts xs (k + 1)) := (rTxts_succ _ _).symm
        generalize rTxts xs k = L at *
        generalize nth xs (k * 2) = X at *
        generalize nth xs (k * 2 + 1) = Y at *
        go_wp2_with (first
          | (go_at_call 82; ((with_reducible refine (iRatioOk _ _ _).mono ?_); rintro e w4 ⟨rfl, g4⟩; have q0 := Ge.keep g4 (cell_new (i := 0) rfl rfl); have q1 := Ge.keep g4 (cell_new (i := 1) rfl rfl)))
          | (go_at_call 51; ((with_reducible refine (iFormatRatio _ _ _).mono ?_); rintro e w5 ⟨rfl, g5⟩; have own2 := Ge.owns (g4.trans g5) (hown.alloc _); have G5 : Ge w w5 := Ge.trans (Ge.alloc hg _) (g4.trans g5); have Z5 := G5.size))
          | (at_builtin; refine ap_str rfl _ _ rfl w.heap.size u3 L rfl own2 _ rfl HL.out Z5 ?_; intro v' w6 own6 hm6))
        go_roundw
        case rel => exact ⟨k + 1, by omega, by go_num, by have := own6; rwa [HS.out] at this, HG2.out, G5.mine own2 (Nat.le_refl _) hm6⟩
        case measure => simp [intOf]; omega
    · have hkn : k = n := by omega
      subst hkn
      have hown' := hown
      rw [rTxts_length] at hown
      have hok := rowOk_t HG.out
      have H1 : Hid ((rTxts xs k).length ≤ 140737488355328) := by
        show _ ≤ _
        rw [rTxts_length]; omega
      have H2 : Hid ((Lib.join (rTxts xs k) [32]).length ≤ 140737488355328) := by
        show _ ≤ _
        have := rTxts_join xs k; omega
      obtain ⟨p3, c3, rfl⟩ := owns_form hown
      by_cases hz : k = 0
      · have HF := Lib.hid (rowLine_0 (xs := xs) hz)
        have tz : ((k : Int) == 0) = true := by simp [hz]
        clear hz hown' hok
        go_wp2_with fail
        go_ret
        exact ⟨ret_str (by rw [HF.out]), kge⟩
      · have HF := Lib.hid (rowLine_s hok hz)
        have tz : ((k : Int) == 0) = false := by simp [hz]
        have hJ : Calls Tryz.prog 12 #[.slice p3 k c3, .string ⟨#[32]⟩] wr fun en w' => en = .returned (.string (bstr (Lib.join (rTxts xs k) [32]))) ∧ Ge wr w' := iJoin w.heap.size 9 (.slice p3 k c3) (rTxts xs k) [32] _ hown' H1.out H2.out
        clear hz hown' hok
        go_wp2_with ((go_at_call 12; ((with_reducible refine (hJ).mono ?_); rintro e w5 ⟨rfl, g5⟩)))
        go_ret
        exact ⟨ret_str (by rw [HF.out]), kge⟩

end Go.Proofs.YtagiecajffhnpaaGreat

namespace Go.Proofs.YtagiecajffhnpaaGreat

open Go.RowKit

theorem sum_le {n : Nat} {xs : List Int} {m : Nat} (h : ∀ k, k < m → goodW n xs k) {v : Int} (h0 : 0 ≤ v) : ∀ k : Nat, 0 ≤ sumTo (fun (u : Nat) => wbet xs m v u) k ∧ sumTo (fun (u : Nat) => wbet xs m v u) k ≤ 200 * (k : Int) - (if v < k then 200 else 0)
  | 0 => by simp only [sumTo]; rw [if_neg (by omega)]; decide
  | k + 1 => by
    have ih := sum_le h h0 k
    have hb := wbet_bd h v (k : Int)
    simp only [sumTo]
    by_cases e : v = (k : Int)
    · have hz : wbet xs m v (k : Int) = 0 := by rw [e]; exact wbet_none (wfind_self h _)
      rw [if_neg (by omega)] at ih
      rw [if_pos (by omega), hz]
      omega
    · by_cases c : v < (k : Int)
      · rw [if_pos c] at ih
        rw [if_pos (by omega)]
        omega
      · rw [if_neg c] at ih
        rw [if_neg (by omega)]
        omega
theorem wat_no {n : Nat} {xs : List Int} {v : Int} (hv : ¬ (0 ≤ v ∧ v < n)) : ∀ {m : Nat}, (∀ k, k < m → goodW n xs k) → wat xs v m = 0
  | 0, _ => rfl
  | m + 1, h => by
    obtain ⟨q0, q1, q2, _, _⟩ := (h m (by omega)).1
    simp only [wat]
    rw [wat_no hv (m := m) (fun k hk => h k (by omega)), if_neg (by omega)]; rfl
theorem lapZ_800 {n : Nat} {xs : List Int} {m : Nat} (hn : n ≤ 5) (h : ∀ k, k < m → goodW n xs k) (a b : Int) : absB (lapZ xs m a b) 800 := by
  have h1 := wbet_bd h a b
  unfold lapZ absB
  by_cases e : a = b
  · rw [if_pos e]
    by_cases c : 0 ≤ a ∧ a < n
    · have h2 := sum_le h c.1 n
      rw [wat_sum c.1 c.2 h, if_pos c.2] at h2
      omega
    · rw [wat_no c h]; omega
  · rw [if_neg e]; omega
/-- The first k nodes from e on. -/
def innZ (e k : Nat) : List Int := mapR k (fun t => ((e + t : Nat) : Int))
theorem innZ_snoc (e k : Nat) : innZ e (k + 1) = innZ e k ++ [((e + k : Nat) : Int)] := by simp [innZ, mapR, List.range_succ]
theorem innZ_length (e k : Nat) : (innZ e k).length = k := mapR_length _ _
theorem innZ_below {e n : Nat} (he : e ≤ n) : ∀ x ∈ innZ e (n - e), below n x := fun x hx => by
  simp only [innZ, mapR, List.mem_map, List.mem_range] at hx
  obtain ⟨t, ht, rfl⟩ := hx
  exact ⟨by omega, by omega⟩
def topZ (n e m : Nat) (xs : List Int) (a b : Nat) : Int := detF (lapZ xs m) ((a : Int) :: innZ e (n - e)) ((b : Int) :: innZ e (n - e))
def dwnZ (n e m : Nat) (xs : List Int) : Int := detF (lapZ xs m) (innZ e (n - e)) (innZ e (n - e))
theorem top_bd {n e m : Nat} {xs : List Int} (hn : n ≤ 5) (h : ∀ k, k < m → goodW n xs k) (h1 : 1 ≤ e) (he : e ≤ n) (a b : Nat) : -1024000000000000000 ≤ topZ n e m xs a b ∧ topZ n e m xs a b ≤ 1024000000000000000 := by
  have hl := innZ_length e (n - e)
  have h1 := detF_bdE (lapZ_800 hn h) ((a : Int) :: innZ e (n - e)) ((b : Int) :: innZ e (n - e)) (by simp only [List.length_cons]; omega)
  have h2 := detE_le (k := ((a : Int) :: innZ e (n - e)).length) (by simp only [List.length_cons]; omega)
  unfold absB at h1
  unfold topZ
  omega
theorem dwn_bd {n e m : Nat} {xs : List Int} (hn : n ≤ 5) (h : ∀ k, k < m → goodW n xs k) (h1 : 1 ≤ e) : -256000000000000 ≤ dwnZ n e m xs ∧ dwnZ n e m xs ≤ 256000000000000 := by
  have hl := innZ_length e (n - e)
  have h3 := detF_bdE (lapZ_800 hn h) (innZ e (n - e)) (innZ e (n - e)) (by omega)
  have h2 : detE (innZ e (n - e)).length ≤ 256000000000000 := by
    rw [hl]
    have : n - e = 0 ∨ n - e = 1 ∨ n - e = 2 ∨ n - e = 3 ∨ n - e = 4 := by omega
    rcases this with h | h | h | h | h <;> rw [h] <;> decide
  unfold absB at h3
  unfold dwnZ
  omega
theorem sdwn_bd {n e m : Nat} {xs : List Int} {S : Int} (hn : n ≤ 5) (h : ∀ k, k < m → goodW n xs k) (h1 : 1 ≤ e) (s1 : 1 ≤ S) (s2 : S ≤ 1000) : -256000000000000000 ≤ S * dwnZ n e m xs ∧ S * dwnZ n e m xs ≤ 256000000000000000 := by
  have := dwn_bd hn h h1
  have := mul_bd (u := S) (f := dwnZ n e m xs) (A := 1000) (B := 256000000000000) (by omega) s2 this.1 this.2 (by decide)
  omega
/-- An entry of the response. -/
noncomputable def respQ (n e m : Nat) (S : Int) (xs : List Int) (a b : Nat) : Rt := ratioOf (topZ n e m xs a b) (S * dwnZ n e m xs)
/-- The first k entries of a row. -/
noncomputable def respL (n e m : Nat) (S : Int) (xs : List Int) (a : Nat) : Nat → List Int
  | 0 => []
  | k + 1 => respL n e m S xs a k ++ [(respQ n e m S xs a k).n, (respQ n e m S xs a k).d]
end Go.Proofs.YtagiecajffhnpaaGreat

namespace Go.Proofs.YtagiecajffhnpaaGreat
set_option maxRecDepth 100000
open Go.ChangeShapes Go.WideShapes Go.ChangeAt Go.RowKit Go.Joins

theorem owns_cons {w : World} {b base : Nat} {y : Int} (hb : b = w.heap.size) (h : base ≤ b) : (w.alloc (.cells #[.int .i64 y] 3)).ownsRow base 3 1 (.slice (some ⟨b, 0, none⟩) 1 1) 1 (icells [y]) := by
  subst hb
  exact ⟨rfl, .inr ⟨w.heap.size, 1, _, rfl, h, heap_alloc_new w _, Nat.le_refl _, by unfold maxLen; omega, rfl, rfl⟩⟩
/-- append([]int{y}, l...): where the new row lies. -/
theorem ap_lit {w : World} {o : Oper} {a : Act} {K : Act → World → Prop} {Q : Exit → Act → World → Prop} (s x : Operand)
    (ho : o.op = .call { callee := .builtin .append, args := #[s, x], argTypes := #[51, 51] })
    (b : Nat) (y : Int) (hs : a.eval s = .slice (some ⟨b, 0, none⟩) 1 1) (base : Nat) (hown : w.ownsRow base 3 1 (.slice (some ⟨b, 0, none⟩) 1 1) 1 (icells [y])) (hb : base ≤ w.heap.size)
    (ad : Addr) (k c : Nat) (l : List Int) (hx : a.eval x = .slice (some ad) k c) (hy : SlI w (.slice (some ad) k c) l) (hn : k < 900)
    (h : ∀ g c' w', w'.ownsRow base 3 1 (.slice (some ⟨g, 0, none⟩) (k + 1) c') (k + 1) (icells (y :: l)) → Mine w w' (.slice (some ⟨b, 0, none⟩) 1 1) → (g = b ∨ g = w.heap.size) → K (a.put o.dst (.slice (some ⟨g, 0, none⟩) (k + 1) c')) w') : o.wp Tryz.prog a w K Q := by
  obtain ⟨i, hi, e⟩ : ∃ i, Tryz.prog.info? 3 = some i ∧ (i.zero, i.size, i.bytes) = (some (.int .i64 0), 1, 8) := by
    have := inf_int
    cases hc : Tryz.prog.info? 3 with
    | none => rw [hc] at this; simp at this
    | some i => rw [hc] at this; exact ⟨i, rfl, by simpa using this⟩
  simp only [Prod.mk.injEq] at e
  obtain ⟨h1, p, c', he, hc⟩ := hy
  simp only [Value.slice.injEq] at he
  obtain ⟨rfl, hm, rfl⟩ := he
  obtain ⟨v', w', hr, h2, h3, h4, h5⟩ := run_append_own_at (P := Tryz.prog) w base 51 o.type 3 i _ 1 8 Tryz.underlying51 hi e.1 e.2.1 e.2.2 rfl (by decide) _ 1 (icells [y]) hown ad k c (icells l) (by rw [h1, hm]) (fun j u hu => by
      obtain ⟨b, o, e, hz⟩ := hc j u hu
      simp only [Option.some.injEq] at e
      subst e
      by_cases hj0 : j = 0
      · subst hj0; simpa [Addr.add] using hz
      · simpa [Addr.add, hj0] using hz) (fun u hu => by
      simp only [icells, List.mem_map] at hu
      obtain ⟨_, _, rfl⟩ := hu
      rfl) (by unfold maxLen; omega) (by omega) hb
  obtain ⟨g, c', rfl⟩ := Go.Joins.ownsRow_form h2 (by omega)
  have e1 : 1 + k = k + 1 := by omega
  have e2 : icells [y] ++ icells l = icells (y :: l) := by simp [icells]
  rw [e2, e1] at h2
  rw [e1] at hr
  unfold Oper.wp execOp
  simp only [ho, resolve, invoke, builtin, Sem.run_bind, Sem.run_pure, Result.andThen_ok, List.map_toArray, List.map_cons, List.map_nil, hs, hx, hr]
  refine h g c' w' h2 h3 ?_
  simp [Value.ownBlock] at h5
  exact h5

theorem iInner (n e : Nat) (S : Int) (s : Value) (w : World) (hs : s.oneCell' = true) (hn : n ≤ 5) (he : e ≤ n) :
    Calls Tryz.prog 113 #[.agg #[.int .i64 (n : Int), .int .i64 (e : Int), .int .i64 S, s]] w fun r w' => ∃ ad c, r = .returned (.slice (some ad) (n - e) c) ∧ n - e ≤ c ∧ SlI w' (.slice (some ad) (n - e) c) (innZ e (n - e)) ∧ Ge w w' := by
  go_enter Tryz.func113, Tryz.ntmps113
  go_wp2_with fail
  go_loopw [3, 4] (fun o i wr => ∃ (k : Nat) (ad : Addr) (c : Nat), k ≤ n - e ∧ i = .int .i64 ((e + k : Nat) : Int) ∧ o = .slice (some ad) k c ∧ wr.ownsRow (w.heap.size + 1) 3 1 (.slice (some ad) k c) (innZ e k).length (icells (innZ e k)) ∧ Ge (w.alloc (.cells #[.int .i64 (n : Int), .int .i64 (e : Int), .int .i64 S, s] 33)) wr) (fun _ i _ => n - (intOf i).toNat)
  case atStart => exact ⟨0, _, _, Nat.zero_le _, rfl, rfl, owns_lit1 _ _ _ _ (by simp), Ge.alloc (Ge.refl _) _⟩
  case round =>
    obtain ⟨k, ad, c, hk, rfl, rfl, hown, hg⟩ := hrel
    have c0 : wr.cell? ⟨w.heap.size, 0, none⟩ = some (.int .i64 (n : Int)) := hg.keep (cell_new (i := 0) rfl rfl)
    have zg := hg.size
    simp at zg
    by_cases hlt : k < n - e
    · have HS := Lib.hid (innZ_snoc e k)
      have hL : (innZ e k).length = k := innZ_length e k
      generalize innZ e k = L at *
      replace hL := Lib.hid hL
      have t : (((e + k : Nat) : Int) < (n : Int)) := by omega
      go_wp2_with (at_builtin; refine ap_int rfl _ _ rfl (w.heap.size + 1) _ L rfl hown _ rfl (by have := hL.out; omega) zg ?_; intro v' w6 own6 hm6; obtain ⟨g6, c6, rfl⟩ := Go.Joins.ownsRow_form own6 (by simp))
      go_roundw
      case rel =>
        have hl1 : (L ++ [(e : Int) + (k : Int)]).length = k + 1 := by simp [hL.out]
        have e1 : ((e + k : Nat) : Int) = (e : Int) + k := by omega
        rw [hl1] at own6
        exact ⟨k + 1, ⟨g6, 0, none⟩, c6, by omega, by go_num, by rw [hL.out], by rw [HS.out, e1, hl1]; exact own6, hg.mine hown (by simp) hm6⟩
      case measure => simp [intOf]; omega
    · have hkn : k = n - e := by omega
      subst hkn
      have HO := Lib.hid hown
      rw [innZ_length] at HO
      clear hown
      have t : ¬ (((e + (n - e) : Nat) : Int) < (n : Int)) := by omega
      have hcap := owns_cap HO.out (some ad) (n - e) c rfl
      go_wp2_with fail
      go_ret
      exact ⟨_, _, rfl, by omega, SlI.of_owns (by rw [innZ_length]; exact HO.out), kge⟩
end Go.Proofs.YtagiecajffhnpaaGreat
