/- TilingLine of impl and of spec. No condition. spaced of impl, l16Ints of the reference. No condition. FormatFault. FaultLine of impl and of spec. No condition. CommuteTime, TreeChance, HitTime of impl and of the reference. No condition. Plain Lean: the terms of a fraction. TermsOf, CountUnits. What a line of the console does: plain law. No program in sight but in the imports. -/
import Derived.Test.YtagiecajffhnpaaGreatWStr
import Derived.Test.YtagiecajffhnpaaGreatJAv
import Derived.Test.YtagiecajffhnpaaGreatJAf
import Derived.Test.YtagiecajffhnpaaGreatWFmt
import Derived.Test.YtagiecajffhnpaaGreatWFlat
import Derived.Test.YtagiecajffhnpaaGreatJAo
import Derived.Test.YtagiecajffhnpaaGreatWTyInt
import Derived.Test.YtagiecajffhnpaaGreatWEqInt
import Derived.Test.YtagiecajffhnpaaGreatJAb
import Derived.Test.YtagiecajffhnpaaGreatJAj
import Derived.Test.YtagiecajffhnpaaGreatJAl
import Derived.Test.YtagiecajffhnpaaGreatJAn
import Derived.Test.YtagiecajffhnpaaGreatJAp
import Derived.Test.YtagiecajffhnpaaGreatJAq
import Derived.Test.YtagiecajffhnpaaGreatJAr
import Derived.Test.YtagiecajffhnpaaGreatJAs
import Derived.Test.YtagiecajffhnpaaGreatJAt
import Derived.Test.YtagiecajffhnpaaGreatJAu
namespace Go.Proofs.YtagiecajffhnpaaGreat
set_option maxRecDepth 100000
open Go.ChangeShapes Go.WideShapes Go.ChangeAt Go.RowKit Go.Joins

def sqTxt (xs : List Int) (j : Nat) : List UInt8 := squareTxt (sx xs j) (sy xs j) (ss xs j)
def sqTxts (xs : List Int) (k : Nat) : List (List UInt8) := (List.range k).map (sqTxt xs)
theorem sqTxts_succ (xs : List Int) (k : Nat) : sqTxts xs (k + 1) = sqTxts xs k ++ [sqTxt xs k] := by simp [sqTxts, List.range_succ]
theorem sqTxts_length (xs : List Int) (k : Nat) : (sqTxts xs k).length = k := by simp [sqTxts]
theorem squareTxt_le (x y z : Int) : (squareTxt x y z).length ≤ 68 := by
  have := fmtInt_length x; have := fmtInt_length y; have := fmtInt_length z
  simp [squareTxt]; omega
/-- The line up to the k-th square. -/
def tilePart (n : Nat) (xs : List Int) (k : Nat) : List UInt8 := fmtInt (rightSq xs n) ++ [32, 120, 32] ++ fmtInt (lowSq xs n) ++ Lib.joinTail [32] (sqTxts xs k)
theorem tilePart_le (n : Nat) (xs : List Int) (k : Nat) : (tilePart n xs k).length ≤ 47 + 69 * k := by
  have h1 := fmtInt_length (rightSq xs n)
  have h2 := fmtInt_length (lowSq xs n)
  have h3 := joinTail_le [32] (sqTxts xs k) 68 (fun x hx => by
    simp only [sqTxts, List.mem_map] at hx
    obtain ⟨j, _, rfl⟩ := hx
    exact squareTxt_le _ _ _)
  rw [sqTxts_length] at h3
  simp [tilePart] at h3 ⊢
  omega
theorem tile_join (n : Nat) (xs : List Int) (k : Nat) : Lib.join ([fmtInt (rightSq xs n), [120], fmtInt (lowSq xs n)] ++ sqTxts xs k) [32] = tilePart n xs k := by
  simp [Lib.join_cons, Lib.joinTail, tilePart]
noncomputable def tileLine (n : Nat) (xs : List Int) : List UInt8 := if tileB n xs = true then tilePart n xs n else []
theorem tileLine_t {n : Nat} {xs : List Int} (h : tileB n xs = true) : bstr (tileLine n xs) = bstr (tilePart n xs n) := by simp [tileLine, h]
theorem tileLine_f {n : Nat} {xs : List Int} (h : tileB n xs = false) : bstr (tileLine n xs) = ⟨#[]⟩ := by simp [tileLine, h, bstr]

set_option maxHeartbeats 1600000 in
theorem iTilingLine (v : Value) (n : Nat) (xs : List Int) (w : World) (hv : SlF w v n 3 xs) (hm : n ≤ 9223372036854775807) (hb : ∀ j, -9223372036854775808 ≤ nth xs j ∧ nth xs j ≤ 9223372036854775807) (hcap : ∀ p c, v = .slice p n c → n ≤ c) :
    Calls Tryz.prog 60 #[v] w fun e w' => e = .returned (.string (bstr (tileLine n xs))) ∧ Ge w w' := by
  obtain ⟨p, cap, rfl, hc⟩ := hv.open
  have HV := Lib.hid hv
  have HC := Lib.hid hc
  have HBd := Lib.hid hb
  have HCap := Lib.hid hcap
  clear hv hc hb hcap
  by_cases hB : tileB n xs = true
  · obtain ⟨h0, h12, hsq, _⟩ : tileP n xs := by
      unfold tileB at hB
      split at hB
      · assumption
      · cases hB
    have HOK : Hid (∀ i, i < n → okSq xs i) := fun i hi => (hsq i hi).1
    obtain ⟨r0, r1⟩ := right_bd n (fun i hi => HOK.out i hi)
    obtain ⟨l0, l1⟩ := low_bd n (fun i hi => HOK.out i hi)
    have HF := Lib.hid (tileLine_t hB)
    have HW := widthQ_t hB
    have HH := heightQ_t hB
    clear hsq
    go_enter Tryz.func60, Tryz.ntmps60
    go_wp2_with (first
      | (go_at_call 96; ((with_reducible refine (iTilingOk _ n xs _ HV.out hm HBd.out HCap.out).mono ?_); rintro e w1 ⟨rfl, g1⟩))
      | (go_at_call 97; ((with_reducible refine (iWidthOf _ n xs _ (HV.out.ge g1) hm HBd.out HCap.out).mono ?_); rintro e w2 ⟨rfl, g2⟩; rw [HW]))
      | (go_at_call 98; ((with_reducible refine (iHeightOf _ n xs _ (HV.out.ge (g1.trans g2)) hm HBd.out HCap.out).mono ?_); rintro e w3 ⟨rfl, g3⟩; rw [HH]))
      | (go_at_call 6; ((with_reducible refine (iFormatInt _ _ (by omega) (by omega)).mono ?_); rintro e w' ⟨rfl, rfl⟩)))
    go_loopw [3, 18] (fun s i wr => ∃ k : Nat, k ≤ n ∧ i = .int .i64 k ∧ wr.ownsRow w.heap.size 9 1 s ([fmtInt (rightSq xs n), [120], fmtInt (lowSq xs n)] ++ sqTxts xs k).length (scells ([fmtInt (rightSq xs n), [120], fmtInt (lowSq xs n)] ++ sqTxts xs k)) ∧ Ge w wr) (fun _ i _ => n - (intOf i).toNat)
    case atStart => exact ⟨0, Nat.zero_le _, rfl, World.ownsRow_lit w3 _ 3 (by have := (g1.trans (g2.trans g3)).size; omega) (by unfold maxLen; omega) rfl, kge⟩
    case round =>
      obtain ⟨k, hk, rfl, hown, hg⟩ := hrel
      by_cases hlt : k < n
      · obtain ⟨b, o, rfl, x0, x1, x2⟩ := three_cells HC.out hlt
        have y0 := hg.keep x0
        have y1 := hg.keep x1
        have y2 := hg.keep x2
        clear x0 x1 x2
        change wr.cell? _ = some (.int .i64 (sx xs k)) at y0
        change wr.cell? _ = some (.int .i64 (sy xs k)) at y1
        change wr.cell? _ = some (.int .i64 (ss xs k)) at y2
        obtain ⟨q0, q1, q2, q3, q4, q5⟩ := HOK.out k hlt
        have HL : Hid (([fmtInt (rightSq xs n), [120], fmtInt (lowSq xs n)] ++ sqTxts xs k).length < 1099511627776) := by
          show _ < _
          rw [List.length_append, sqTxts_length]; simp; omega
        have HS : Hid (([fmtInt (rightSq xs n), [120], fmtInt (lowSq xs n)] ++ sqTxts xs k) ++ [squareTxt (sx xs k) (sy xs k) (ss xs k)] = [fmtInt (rightSq xs n), [120], fmtInt (lowSq xs n)] ++ sqTxts xs (k + 1)) := by
          show _ = _
          rw [sqTxts_succ, List.append_assoc]; rfl
        generalize [fmtInt (rightSq xs n), [120], fmtInt (lowSq xs n)] ++ sqTxts xs k = L at *
        generalize sx xs k = X at *
        generalize sy xs k = Y at *
        generalize ss xs k = Z at *
        go_wp2_with (first
          | (go_at_call 99; ((with_reducible refine (iFormatSquare _ _ _ _ (by omega) (by omega) (by omega)).mono ?_); rintro e w5 ⟨rfl, g5⟩; have own2 := Ge.owns g5 (hown.alloc _); have G5 : Ge w w5 := Ge.trans (Ge.alloc hg _) g5; have Z5 := G5.size))
          | (at_builtin; refine ap_str rfl _ _ rfl w.heap.size u3 L rfl own2 _ rfl HL.out Z5 ?_; intro v' w6 own6 hm6))
        go_roundw
        case rel => exact ⟨k + 1, by omega, by go_num, by have := own6; rwa [HS.out] at this, G5.mine own2 (Nat.le_refl _) hm6⟩
        case measure => simp [intOf]; omega
      · have hkn : k = n := by omega
        subst hkn
        have hj := tile_join k xs k
        have hl := tilePart_le k xs k
        have HJ := Lib.hid hj
        have H1 : Hid (([fmtInt (rightSq xs k), [120], fmtInt (lowSq xs k)] ++ sqTxts xs k).length ≤ 140737488355328) := by
          show _ ≤ _
          rw [List.length_append, sqTxts_length]; simp; omega
        have H2 : Hid ((Lib.join ([fmtInt (rightSq xs k), [120], fmtInt (lowSq xs k)] ++ sqTxts xs k) [32]).length ≤ 140737488355328) := by
          show _ ≤ _
          rw [hj]; omega
        clear hj hl
        obtain ⟨p3, c3, rfl⟩ := owns_form hown
        generalize [fmtInt (rightSq xs k), [120], fmtInt (lowSq xs k)] ++ sqTxts xs k = L at *
        have hJ : Calls Tryz.prog 12 #[.slice p3 L.length c3, .string ⟨#[32]⟩] wr fun en w' => en = .returned (.string (bstr (Lib.join L [32]))) ∧ Ge wr w' := iJoin w.heap.size 9 _ L [32] _ hown H1.out H2.out
        go_wp2_with ((go_at_call 12; ((with_reducible refine (hJ).mono ?_); rintro e w5 ⟨rfl, g5⟩)))
        go_ret
        exact ⟨ret_str (by rw [HF.out, HJ.out]), kge⟩
  · have hB : tileB n xs = false := by simpa using hB
    have HF := Lib.hid (tileLine_f hB)
    go_enter Tryz.func60, Tryz.ntmps60
    go_wp2_with ((go_at_call 96; ((with_reducible refine (iTilingOk _ n xs _ HV.out hm HBd.out HCap.out).mono ?_); rintro e w1 ⟨rfl, g1⟩)))
    go_ret
    exact ⟨ret_str (by rw [HF.out]), kge⟩

end Go.Proofs.YtagiecajffhnpaaGreat

namespace Go.Proofs.YtagiecajffhnpaaGreat
set_option maxRecDepth 100000
open Go.ChangeShapes Go.WideShapes Go.ChangeAt Go.RowKit Go.Joins

def iTx (l : List Int) (k : Nat) : List (List UInt8) := (l.take k).map fmtInt
theorem iTx_succ {l : List Int} {k : Nat} (h : k < l.length) : iTx l (k + 1) = iTx l k ++ [fmtInt (nth l k)] := by
  unfold iTx
  rw [List.take_succ_eq_append_getElem h, nth_eq l k h, List.map_append]
  rfl
theorem iTx_len {l : List Int} {k : Nat} (h : k ≤ l.length) : (iTx l k).length = k := by simp [iTx]; omega
theorem iTx_all (l : List Int) : iTx l l.length = l.map fmtInt := by simp [iTx]
/-- Integers with spaces between them. -/
def spTxt (l : List Int) : List UInt8 := Lib.join (l.map fmtInt) [32]

set_option maxHeartbeats 1600000 in
theorem iSpaced (v : Value) (l : List Int) (n : Nat) (w : World) (hv : SlI w v l) (hn : l.length = n) (hm : n ≤ 2000) (hb : ∀ x ∈ l, -9223372036854775808 ≤ x ∧ x ≤ 9223372036854775807) :
    Calls Tryz.prog 56 #[v] w fun e w' => e = .returned (.string (bstr (spTxt l))) ∧ Ge w w' := by
  obtain ⟨p, cap, rfl, hc⟩ := hv.openN hn
  have HC := Lib.hid hc
  have HB : Hid (∀ k, k < n → -9223372036854775808 ≤ nth l k ∧ nth l k ≤ 9223372036854775807) := by
    show ∀ k, _
    intro k hk
    rw [nth_eq l k (by omega)]
    exact hb _ (List.getElem_mem _)
  have HSs := Lib.hid (fun k (h : k < n) => iTx_succ (l := l) (k := k) (by omega))
  have HLl := Lib.hid (fun k (h : k ≤ n) => iTx_len (l := l) (k := k) (by omega))
  have HA : Hid (iTx l n = l.map fmtInt) := by show _ = _; rw [← hn]; exact iTx_all l
  have HT : Hid (spTxt l = Lib.join (iTx l n) [32]) := by show _ = _; rw [HA.out]; rfl
  have HTl : Hid ((Lib.join (iTx l n) [32]).length ≤ 140737488355328) := by
    show _ ≤ _
    have := join_le [32] (iTx l n) 22 (fun x hx => by
      rw [HA.out] at hx
      obtain ⟨y, _, rfl⟩ := List.mem_map.1 hx
      exact fmtInt_length y)
    rw [HLl.out n (Nat.le_refl _), show ([32] : List UInt8).length = 1 from rfl] at this
    omega
  clear hv hc hn hb
  go_enter Tryz.func56, Tryz.ntmps56
  go_wp2_with fail
  go_loopw [3, 9] (fun s i wr => ∃ k : Nat, k ≤ n ∧ i = .int .i64 k ∧ wr.ownsRow w.heap.size 9 1 s (iTx l k).length (scells (iTx l k)) ∧ Ge w wr) (fun _ i _ => n - (intOf i).toNat)
  case atStart => exact ⟨0, Nat.zero_le _, rfl, owns_lit0 _ _ _, kge⟩
  case round =>
    obtain ⟨k, hk, rfl, hown, hg⟩ := hrel
    by_cases hlt : k < n
    · obtain ⟨b, o, rfl, x0⟩ := HC.out k hlt
      have y0 := hg.keep x0
      clear x0
      obtain ⟨b1, b2⟩ := HB.out k hlt
      have HS := Lib.hid (HSs.out k hlt)
      have hl := HLl.out k hk
      have HL : Hid ((iTx l k).length < 1099511627776) := by
        show _ < _
        omega
      have zg := hg.size
      clear hl
      generalize iTx l k = L at *
      generalize nth l k = X at *
      have HO := Lib.hid hown
      clear hown
      go_wp2_with (first
        | (go_at_call 6; ((with_reducible refine (iFormatInt _ _ b1 b2).mono ?_); rintro e w5 ⟨rfl, rfl⟩; have own2 := HO.out; have G5 : Ge w wr := hg; have Z5 := G5.size))
        | (at_builtin; refine ap_str rfl _ _ rfl w.heap.size u3 L rfl own2 _ rfl HL.out Z5 ?_; intro v' w6 own6 hm6))
      go_roundw
      case rel => exact ⟨k + 1, by omega, by go_num, by have := own6; rwa [← HS.out] at this, G5.mine own2 (Nat.le_refl _) hm6⟩
      case measure => simp [intOf]; omega
    · have hkn : k = n := by omega
      subst hkn
      have HO := Lib.hid hown
      clear hown
      have hlen := HLl.out k (Nat.le_refl _)
      have h3 := HO.out
      rw [hlen] at h3
      obtain ⟨p3, c3, rfl⟩ := owns_form h3
      have hJ : Calls Tryz.prog 12 #[.slice p3 k c3, .string ⟨#[32]⟩] wr fun en w' => en = .returned (.string (bstr (Lib.join (iTx l k) [32]))) ∧ Ge wr w' := iJoin w.heap.size 9 _ (iTx l k) [32] _ HO.out (by omega) HTl.out
      replace hJ := Lib.hid hJ
      clear HO HTl h3 hlen
      go_wp2_with (go_at_call 12; ((with_reducible refine (hJ.out).mono ?_); rintro e w' ⟨rfl, g⟩))
      go_ret
      exact ⟨ret_str (by rw [HT.out]), Ge.trans hg g⟩

end Go.Proofs.YtagiecajffhnpaaGreat

namespace Go.Proofs.YtagiecajffhnpaaGreat

open Go.RowKit

def faultTxt (a b : Int) : List UInt8 := fmtInt a ++ [61] ++ fmtInt b

theorem faultTxt_eq (a b : Int) : bstr (fmtInt a) ++ (⟨#[61]⟩ : ByteArray) ++ bstr (fmtInt b) = bstr (faultTxt a b) := by
  show bstr (fmtInt a) ++ bstr [61] ++ bstr (fmtInt b) = _
  rw [bstr_append, bstr_append]; rfl

theorem fault_z (a b : Int) : (¬ 9223372036854775807 < (bstr (fmtInt a)).size + 1) ∧ (¬ 9223372036854775807 < (bstr (fmtInt a)).size + 1 + (bstr (fmtInt b)).size) := by
  have := fmtInt_length a; have := fmtInt_length b; rw [bstr_size, bstr_size]; omega

set_option maxHeartbeats 400000 in
theorem iFormatFault (a b : Int) (w : World) (ha : -9223372036854775808 ≤ a ∧ a ≤ 9223372036854775807) (hb : -9223372036854775808 ≤ b ∧ b ≤ 9223372036854775807) :
    Calls Tryz.prog 91 #[.agg #[.int .i64 a, .int .i64 b]] w fun e w' => e = .returned (.string (bstr (faultTxt a b))) ∧ Ge w w' := by
  obtain ⟨a0, a1⟩ := ha
  obtain ⟨b0, b1⟩ := hb
  obtain ⟨z1, z2⟩ := fault_z a b
  go_enter Tryz.func91, Tryz.ntmps91
  go_wp2_with fail
  go_region_held3 (fun w' => w'.cell? ⟨w.heap.size, 0, none⟩ = some (.int .i64 a) ∧ w'.cell? ⟨w.heap.size, 1, none⟩ = some (.int .i64 b) ∧ Ge w w') (exact ⟨by simp, by simp, kge⟩)
    (first | (go_at_call 6; ((with_reducible refine (iFormatInt _ _ (by assumption) (by assumption)).mono ?_); rintro e w' ⟨rfl, rfl⟩)) | fail)
  go_wp2_with fail
  go_ret
  exact ⟨ret_str (faultTxt_eq _ _), kge⟩

end Go.Proofs.YtagiecajffhnpaaGreat

namespace Go.Proofs.YtagiecajffhnpaaGreat
set_option maxRecDepth 100000
open Go.ChangeShapes Go.WideShapes Go.ChangeAt Go.RowKit Go.Joins

def fTxts (xs : List Int) (k : Nat) : List (List UInt8) := (List.range k).map fun j => faultTxt (nth xs (j * 2)) (nth xs (j * 2 + 1))
theorem fTxts_succ (xs : List Int) (k : Nat) : fTxts xs (k + 1) = fTxts xs k ++ [faultTxt (nth xs (k * 2)) (nth xs (k * 2 + 1))] := by simp [fTxts, List.range_succ]
theorem fTxts_length (xs : List Int) (k : Nat) : (fTxts xs k).length = k := by simp [fTxts]
theorem fTxts_join (xs : List Int) (k : Nat) : (Lib.join (fTxts xs k) [32]).length ≤ 46 * k := by
  have h := join_le [32] (fTxts xs k) 45 (fun x hx => by
    simp only [fTxts, List.mem_map] at hx
    obtain ⟨j, _, rfl⟩ := hx
    have := fmtInt_length (nth xs (j * 2)); have := fmtInt_length (nth xs (j * 2 + 1))
    simp [faultTxt]; omega)
  rwa [fTxts_length] at h
def faultLine (n : Nat) (xs : List Int) : List UInt8 := if n = 0 then [110, 111, 110, 101] else Lib.join (fTxts xs n) [32]
theorem faultLine_0 {n : Nat} {xs : List Int} (h : n = 0) : bstr (faultLine n xs) = ⟨#[110, 111, 110, 101]⟩ := by simp [faultLine, h, bstr]
theorem faultLine_s {n : Nat} {xs : List Int} (h : ¬ n = 0) : bstr (faultLine n xs) = bstr (Lib.join (fTxts xs n) [32]) := by simp [faultLine, h]

set_option maxHeartbeats 1600000 in
theorem iFaultLine (v : Value) (n : Nat) (xs : List Int) (w : World) (hv : SlF w v n 2 xs) (hm : n ≤ 1048576) (hb : ∀ j, -9223372036854775808 ≤ nth xs j ∧ nth xs j ≤ 9223372036854775807) :
    Calls Tryz.prog 54 #[v] w fun e w' => e = .returned (.string (bstr (faultLine n xs))) ∧ Ge w w' := by
  obtain ⟨p, cap, rfl, hc⟩ := hv.open
  have HC := Lib.hid hc
  have HBd := Lib.hid hb
  clear hv hc hb
  go_enter Tryz.func54, Tryz.ntmps54
  go_wp2_with fail
  go_loopw [3, 9] (fun s i wr => ∃ k : Nat, k ≤ n ∧ i = .int .i64 k ∧ wr.ownsRow w.heap.size 9 1 s (fTxts xs k).length (scells (fTxts xs k)) ∧ Ge w wr) (fun _ i _ => n - (intOf i).toNat)
  case atStart => exact ⟨0, Nat.zero_le _, rfl, owns_lit0 _ _ _, kge⟩
  case round =>
    obtain ⟨k, hk, rfl, hown, hg⟩ := hrel
    by_cases hlt : k < n
    · obtain ⟨b, o, rfl, x0, x1⟩ := two_cells HC.out hlt
      have y0 := hg.keep x0
      have y1 := hg.keep x1
      clear x0 x1
      have B0 := HBd.out (k * 2)
      have B1 := HBd.out (k * 2 + 1)
      have HL : Hid ((fTxts xs k).length < 1099511627776) := by
        show _ < _
        rw [fTxts_length]; omega
      have HS : Hid (fTxts xs k ++ [faultTxt (nth xs (k * 2)) (nth xs (k * 2 + 1))] = fTxts xs (k + 1)) := (fTxts_succ _ _).symm
      generalize fTxts xs k = L at *
      generalize nth xs (k * 2) = X at *
      generalize nth xs (k * 2 + 1) = Y at *
      go_wp2_with (first
        | (go_at_call 91; ((with_reducible refine (iFormatFault _ _ _ B0 B1).mono ?_); rintro e w5 ⟨rfl, g5⟩; have own2 := Ge.owns g5 (hown.alloc _); have G5 : Ge w w5 := Ge.trans (Ge.alloc hg _) g5; have Z5 := G5.size))
        | (at_builtin; refine ap_str rfl _ _ rfl w.heap.size u3 L rfl own2 _ rfl HL.out Z5 ?_; intro v' w6 own6 hm6))
      go_roundw
      case rel => exact ⟨k + 1, by omega, by go_num, by have := own6; rwa [HS.out] at this, G5.mine own2 (Nat.le_refl _) hm6⟩
      case measure => simp [intOf]; omega
    · have hkn : k = n := by omega
      subst hkn
      have hown' := hown
      rw [fTxts_length] at hown
      have H1 : Hid ((fTxts xs k).length ≤ 140737488355328) := by
        show _ ≤ _
        rw [fTxts_length]; omega
      have H2 : Hid ((Lib.join (fTxts xs k) [32]).length ≤ 140737488355328) := by
        show _ ≤ _
        have := fTxts_join xs k; omega
      obtain ⟨p3, c3, rfl⟩ := owns_form hown
      by_cases hz : k = 0
      · have HF := Lib.hid (faultLine_0 (xs := xs) hz)
        have tz : ((k : Int) == 0) = true := by simp [hz]
        clear hz hown'
        go_wp2_with fail
        go_ret
        exact ⟨ret_str (by rw [HF.out]), kge⟩
      · have HF := Lib.hid (faultLine_s (xs := xs) hz)
        have tz : ((k : Int) == 0) = false := by simp [hz]
        have hJ : Calls Tryz.prog 12 #[.slice p3 k c3, .string ⟨#[32]⟩] wr fun en w' => en = .returned (.string (bstr (Lib.join (fTxts xs k) [32]))) ∧ Ge wr w' := iJoin w.heap.size 9 (.slice p3 k c3) (fTxts xs k) [32] _ hown' H1.out H2.out
        clear hz hown'
        go_wp2_with ((go_at_call 12; ((with_reducible refine (hJ).mono ?_); rintro e w5 ⟨rfl, g5⟩)))
        go_ret
        exact ⟨ret_str (by rw [HF.out]), kge⟩

end Go.Proofs.YtagiecajffhnpaaGreat

namespace Go.Proofs.YtagiecajffhnpaaGreat
set_option maxRecDepth 100000
open Go.ChangeShapes Go.WideShapes Go.ChangeAt Go.RowKit Go.Joins

noncomputable def comR (N E S : Int) (m : Nat) (xs : List Int) (a b : Int) : Rt := grdR (node2B N E S m xs a b) (ratioOf (wtAll xs m * forV N E S m xs a b) (treeV N E S m xs))
theorem com_f {N E S : Int} {m : Nat} {xs : List Int} {a b : Int} (h : node2B N E S m xs a b = false) : comR N E S m xs a b = ⟨0, 0⟩ := by unfold comR; rw [h]; rfl
theorem com_t {N E S : Int} {m : Nat} {xs : List Int} {a b : Int} (h : node2B N E S m xs a b = true) : comR N E S m xs a b = ratioOf (wtAll xs m * forV N E S m xs a b) (treeV N E S m xs) := by unfold comR; rw [h]; rfl
set_option maxHeartbeats 1600000 in
theorem iAllWeights (n : Nat) (E S : Int) (s : Value) (m : Nat) (xs : List Int) (w : World) (hs : SlF w s m 3 xs) (hm : m ≤ 10) (hn : n ≤ 5) (hok : ∀ k, k < m → goodW n xs k) :
    Calls Tryz.prog 89 #[.agg #[.int .i64 (n : Int), .int .i64 E, .int .i64 S, s]] w fun e w' => e = .returned (.int .i64 (wtAll xs m)) ∧ Ge w w' := by
  obtain ⟨p, cap, rfl, hc⟩ := hs.open
  have HV := Lib.hid hs
  have HK := Lib.hid hok
  clear hs hc hok
  have HA := Lib.hid (fun (v : Nat) w' (g : Ge w w') => iWeightAt n E S (.slice p m cap) m xs v w' (HV.out.ge g) hm HK.out)
  have HF : Hid (watS xs m n = wtAll xs m) := watS_all HK.out
  go_enter Tryz.func89, Tryz.ntmps89
  go_wp2_with fail
  go_loopw [3, 7] (fun t i wr => ∃ k : Nat, k ≤ n ∧ i = .int .i64 k ∧ t = .int .i64 (watS xs m k) ∧ Ge (w.alloc (.cells #[.int .i64 (n : Int), .int .i64 E, .int .i64 S, .slice p m cap] 33)) wr) (fun _ i _ => n - (intOf i).toNat)
  case atStart => exact ⟨0, Nat.zero_le _, rfl, rfl, kge⟩
  case round =>
    obtain ⟨k, hk, rfl, rfl, hg⟩ := hrel
    have hgw : Ge w wr := kge
    have c0 := hg.keep (cell_new (i := 0) rfl rfl)
    have c1 := hg.keep (cell_new (i := 1) rfl rfl)
    have c2 := hg.keep (cell_new (i := 2) rfl rfl)
    have c3 := hg.keep (cell_new (i := 3) rfl rfl)
    simp at c0 c1 c2 c3
    by_cases hlt : k < n
    · obtain ⟨b0, b1⟩ := watS_bd (m := m) HK.out k
      obtain ⟨d0, d1⟩ := wat_bd (N := (n : Int)) (k : Int) HK.out
      have b2 : watS xs m k ≤ 100000 := by
        have : 200 * (m : Int) * k ≤ 200 * m * 5 := Int.mul_le_mul_of_nonneg_left (by omega) (by omega)
        omega
      have HS : Hid (watS xs m k + wat xs k m = watS xs m (k + 1)) := rfl
      have W1 : wrap64 (watS xs m k + wat xs k m) = watS xs m k + wat xs k m := wr64 _ (by omega) (by omega)
      go_wp2_with (go_at_call 74; ((with_reducible refine (HA.out _ _ (kge)).mono ?_); rintro e w8 ⟨rfl, g8⟩))
      go_roundw
      case rel => exact ⟨k + 1, by omega, by go_num, by rw [← HS.out], kge⟩
      case measure => simp [intOf]; omega
    · have hkn : k = n := by omega
      subst hkn
      go_wp2_with fail
      go_ret
      exact ⟨ret_int HF.out, kge⟩

set_option maxHeartbeats 3200000 in
theorem iCommuteTime (N E S : Int) (s : Value) (m : Nat) (xs : List Int) (a b : Int) (w : World) (hs : SlF w s m 3 xs) (hm : m ≤ 9223372036854775807) :
    Calls Tryz.prog 53 #[.agg #[.int .i64 N, .int .i64 E, .int .i64 S, s], .int .i64 a, .int .i64 b] w fun e w' => e = .returned (.tuple #[.agg #[.int .i64 (comR N E S m xs a b).n, .int .i64 (comR N E S m xs a b).d], .bool (node2B N E S m xs a b)]) ∧ Ge w w' := by
  obtain ⟨p, cap, rfl, hc⟩ := hs.open
  have HV := Lib.hid hs
  clear hs hc
  cases hB : netB N E S m xs with
  | false =>
    have hT := node2_f0 (a := a) (b := b) hB
    have HF := Lib.hid (com_f hT)
    go_enter Tryz.func53, Tryz.ntmps53
    go_wp2_with ((go_at_call 43; ((with_reducible refine (iNetOk N E S _ m xs _ (HV.out.ge (Ge.alloc (Ge.alloc (Ge.refl w) _) _)) hm).mono ?_); rintro e w1 ⟨rfl, gw1⟩); have Gw1 : Ge w w1 := (Ge.trans (kge) gw1); have c0_0 : World.cell? w1 ⟨w.heap.size, 0, none⟩ = some (.int .i64 N) := Ge.keep gw1 kcell; have c0_1 : World.cell? w1 ⟨w.heap.size, 1, none⟩ = some (.int .i64 E) := Ge.keep gw1 kcell; have c0_2 : World.cell? w1 ⟨w.heap.size, 2, none⟩ = some (.int .i64 S) := Ge.keep gw1 kcell; have c0_3 : World.cell? w1 ⟨w.heap.size, 3, none⟩ = some (.slice p m cap) := Ge.keep gw1 kcell; have o1_0 : Own w1 ⟨w.heap.size + 1, 0, none⟩ _ := Ge.own gw1 (kown); have c1_0 := cv_some o1_0.1; have f1_0 := o1_0.2; clear o1_0; have o1_1 : Own w1 ⟨w.heap.size + 1, 1, none⟩ _ := Ge.own gw1 (kown); have c1_1 := cv_some o1_1.1; have f1_1 := o1_1.2; clear o1_1; have zw1 : w.heap.size + 2 ≤ w1.heap.size := (by have := Ge.size gw1; (try simp at this); omega)); rw [hB])
    exact bodyPost_ret (v := .tuple #[.agg #[.int .i64 0, .int .i64 0], .bool false]) (by simp [results, Tryz.results53, go_sem, *]) rfl ⟨by rw [HF.out, hT], kge⟩
  | true =>
    obtain ⟨⟨n1, n2⟩, h10, hK⟩ := net_wires hB
    have HK := Lib.hid hK
    clear hK
    obtain ⟨n, rfl⟩ : ∃ n : Nat, N = (n : Int) := ⟨N.toNat, by omega⟩
    by_cases ha : ¬ (0 ≤ a ∧ a < (n : Int))
    · have ia : nodeB n a = false := nodeB_f ha
      have hT := node2_f1 (E := E) (S := S) (m := m) (xs := xs) (b := b) ha
      have HF := Lib.hid (com_f hT)
      clear ha
      go_enter Tryz.func53, Tryz.ntmps53
      go_wp2_with (first | ((go_at_call 43; ((with_reducible refine (iNetOk (n : Int) E S _ m xs _ (HV.out.ge (Ge.alloc (Ge.alloc (Ge.refl w) _) _)) hm).mono ?_); rintro e w1 ⟨rfl, gw1⟩); have Gw1 : Ge w w1 := (Ge.trans (kge) gw1); have c0_0 : World.cell? w1 ⟨w.heap.size, 0, none⟩ = some (.int .i64 (n : Int)) := Ge.keep gw1 kcell; have c0_1 : World.cell? w1 ⟨w.heap.size, 1, none⟩ = some (.int .i64 E) := Ge.keep gw1 kcell; have c0_2 : World.cell? w1 ⟨w.heap.size, 2, none⟩ = some (.int .i64 S) := Ge.keep gw1 kcell; have c0_3 : World.cell? w1 ⟨w.heap.size, 3, none⟩ = some (.slice p m cap) := Ge.keep gw1 kcell; have o1_0 : Own w1 ⟨w.heap.size + 1, 0, none⟩ _ := Ge.own gw1 (kown); have c1_0 := cv_some o1_0.1; have f1_0 := o1_0.2; clear o1_0; have o1_1 : Own w1 ⟨w.heap.size + 1, 1, none⟩ _ := Ge.own gw1 (kown); have c1_1 := cv_some o1_1.1; have f1_1 := o1_1.2; clear o1_1; have zw1 : w.heap.size + 2 ≤ w1.heap.size := (by have := Ge.size gw1; (try simp at this); omega)); rw [hB]) | (go_at_call 69; ((with_reducible refine (isNodeI n E S _ _ _ rfl).mono ?_); rintro e wn ⟨rfl, gwn⟩); have Gwn : Ge w wn := (Ge.trans (kge) gwn); have c0_0 : World.cell? wn ⟨w.heap.size, 0, none⟩ = some (.int .i64 (n : Int)) := Ge.keep gwn kcell; have c0_1 : World.cell? wn ⟨w.heap.size, 1, none⟩ = some (.int .i64 E) := Ge.keep gwn kcell; have c0_2 : World.cell? wn ⟨w.heap.size, 2, none⟩ = some (.int .i64 S) := Ge.keep gwn kcell; have c0_3 : World.cell? wn ⟨w.heap.size, 3, none⟩ = some (.slice p m cap) := Ge.keep gwn kcell; have o1_0 : Own wn ⟨w.heap.size + 1, 0, none⟩ _ := Ge.own gwn (kown); have c1_0 := cv_some o1_0.1; have f1_0 := o1_0.2; clear o1_0; have o1_1 : Own wn ⟨w.heap.size + 1, 1, none⟩ _ := Ge.own gwn (kown); have c1_1 := cv_some o1_1.1; have f1_1 := o1_1.2; clear o1_1; have zwn : w.heap.size + 2 ≤ wn.heap.size := (by have := Ge.size gwn; (try simp at this); omega)))
      exact bodyPost_ret (v := .tuple #[.agg #[.int .i64 0, .int .i64 0], .bool false]) (by simp [results, Tryz.results53, go_sem, *]) rfl ⟨by rw [HF.out, hT], kge⟩
    replace ha := Classical.not_not.1 ha
    have ia : nodeB n a = true := nodeB_t ha
    by_cases hb : ¬ (0 ≤ b ∧ b < (n : Int))
    · have ib : nodeB n b = false := nodeB_f hb
      have hT := node2_f2 (E := E) (S := S) (m := m) (xs := xs) (a := a) hb
      have HF := Lib.hid (com_f hT)
      clear ha hb
      go_enter Tryz.func53, Tryz.ntmps53
      go_wp2_with (first | ((go_at_call 43; ((with_reducible refine (iNetOk (n : Int) E S _ m xs _ (HV.out.ge (Ge.alloc (Ge.alloc (Ge.refl w) _) _)) hm).mono ?_); rintro e w1 ⟨rfl, gw1⟩); have Gw1 : Ge w w1 := (Ge.trans (kge) gw1); have c0_0 : World.cell? w1 ⟨w.heap.size, 0, none⟩ = some (.int .i64 (n : Int)) := Ge.keep gw1 kcell; have c0_1 : World.cell? w1 ⟨w.heap.size, 1, none⟩ = some (.int .i64 E) := Ge.keep gw1 kcell; have c0_2 : World.cell? w1 ⟨w.heap.size, 2, none⟩ = some (.int .i64 S) := Ge.keep gw1 kcell; have c0_3 : World.cell? w1 ⟨w.heap.size, 3, none⟩ = some (.slice p m cap) := Ge.keep gw1 kcell; have o1_0 : Own w1 ⟨w.heap.size + 1, 0, none⟩ _ := Ge.own gw1 (kown); have c1_0 := cv_some o1_0.1; have f1_0 := o1_0.2; clear o1_0; have o1_1 : Own w1 ⟨w.heap.size + 1, 1, none⟩ _ := Ge.own gw1 (kown); have c1_1 := cv_some o1_1.1; have f1_1 := o1_1.2; clear o1_1; have zw1 : w.heap.size + 2 ≤ w1.heap.size := (by have := Ge.size gw1; (try simp at this); omega)); rw [hB]) | (go_at_call 69; ((with_reducible refine (isNodeI n E S _ _ _ rfl).mono ?_); rintro e wn ⟨rfl, gwn⟩); have Gwn : Ge w wn := (Ge.trans (kge) gwn); have c0_0 : World.cell? wn ⟨w.heap.size, 0, none⟩ = some (.int .i64 (n : Int)) := Ge.keep gwn kcell; have c0_1 : World.cell? wn ⟨w.heap.size, 1, none⟩ = some (.int .i64 E) := Ge.keep gwn kcell; have c0_2 : World.cell? wn ⟨w.heap.size, 2, none⟩ = some (.int .i64 S) := Ge.keep gwn kcell; have c0_3 : World.cell? wn ⟨w.heap.size, 3, none⟩ = some (.slice p m cap) := Ge.keep gwn kcell; have o1_0 : Own wn ⟨w.heap.size + 1, 0, none⟩ _ := Ge.own gwn (kown); have c1_0 := cv_some o1_0.1; have f1_0 := o1_0.2; clear o1_0; have o1_1 : Own wn ⟨w.heap.size + 1, 1, none⟩ _ := Ge.own gwn (kown); have c1_1 := cv_some o1_1.1; have f1_1 := o1_1.2; clear o1_1; have zwn : w.heap.size + 2 ≤ wn.heap.size := (by have := Ge.size gwn; (try simp at this); omega)))
      exact bodyPost_ret (v := .tuple #[.agg #[.int .i64 0, .int .i64 0], .bool false]) (by simp [results, Tryz.results53, go_sem, *]) rfl ⟨by rw [HF.out, hT], kge⟩
    replace hb := Classical.not_not.1 hb
    have ib : nodeB n b = true := nodeB_t hb
    have hT := node2_t hB ha hb
    have HF := Lib.hid (com_t hT)
    clear ha hb
    have c1 := wtAll_bd (N := (n : Int)) HK.out
    have b1 := treeV_bd n E S m xs
    have b2 := wf_bd (N := (n : Int)) (E := E) (S := S) (m := m) (xs := xs) (u := wtAll xs m) (by omega) (by omega) a b
    have W1 : IntKind.i64.wrap (wtAll xs m * forV n E S m xs a b) = wtAll xs m * forV n E S m xs a b := IntWalk.i64_in _ (by omega)
    have M1 := mid (n := treeV n E S m xs) (by omega) (by omega)
    have M2 := mid (n := wtAll xs m * forV n E S m xs a b) (by omega) (by omega)
    have n5 : n ≤ 5 := by omega
    have HA := Lib.hid (fun w' (g : Ge w w') => iAllWeights n E S (.slice p m cap) m xs w' (HV.out.ge g) h10 n5 HK.out)
    have HTr := Lib.hid (fun w' (g : Ge w w') => iTreeSum n E S (.slice p m cap) m xs w' (HV.out.ge g) hm)
    have HFo := Lib.hid (fun w' (g : Ge w w') => iForestSum n E S (.slice p m cap) m xs a b w' (HV.out.ge g) hm)
    have HR := Lib.hid (fun w' => iRatioOf _ _ w' M2 M1)
    go_enter Tryz.func53, Tryz.ntmps53
    go_wp2_with (first | ((go_at_call 43; ((with_reducible refine (iNetOk (n : Int) E S _ m xs _ (HV.out.ge (Ge.alloc (Ge.alloc (Ge.refl w) _) _)) hm).mono ?_); rintro e w1 ⟨rfl, gw1⟩); have Gw1 : Ge w w1 := (Ge.trans (kge) gw1); have c0_0 : World.cell? w1 ⟨w.heap.size, 0, none⟩ = some (.int .i64 (n : Int)) := Ge.keep gw1 kcell; have c0_1 : World.cell? w1 ⟨w.heap.size, 1, none⟩ = some (.int .i64 E) := Ge.keep gw1 kcell; have c0_2 : World.cell? w1 ⟨w.heap.size, 2, none⟩ = some (.int .i64 S) := Ge.keep gw1 kcell; have c0_3 : World.cell? w1 ⟨w.heap.size, 3, none⟩ = some (.slice p m cap) := Ge.keep gw1 kcell; have o1_0 : Own w1 ⟨w.heap.size + 1, 0, none⟩ _ := Ge.own gw1 (kown); have c1_0 := cv_some o1_0.1; have f1_0 := o1_0.2; clear o1_0; have o1_1 : Own w1 ⟨w.heap.size + 1, 1, none⟩ _ := Ge.own gw1 (kown); have c1_1 := cv_some o1_1.1; have f1_1 := o1_1.2; clear o1_1; have zw1 : w.heap.size + 2 ≤ w1.heap.size := (by have := Ge.size gw1; (try simp at this); omega)); rw [hB]) | (go_at_call 69; ((with_reducible refine (isNodeI n E S _ _ _ rfl).mono ?_); rintro e wn ⟨rfl, gwn⟩); have Gwn : Ge w wn := (Ge.trans (kge) gwn); have c0_0 : World.cell? wn ⟨w.heap.size, 0, none⟩ = some (.int .i64 (n : Int)) := Ge.keep gwn kcell; have c0_1 : World.cell? wn ⟨w.heap.size, 1, none⟩ = some (.int .i64 E) := Ge.keep gwn kcell; have c0_2 : World.cell? wn ⟨w.heap.size, 2, none⟩ = some (.int .i64 S) := Ge.keep gwn kcell; have c0_3 : World.cell? wn ⟨w.heap.size, 3, none⟩ = some (.slice p m cap) := Ge.keep gwn kcell; have o1_0 : Own wn ⟨w.heap.size + 1, 0, none⟩ _ := Ge.own gwn (kown); have c1_0 := cv_some o1_0.1; have f1_0 := o1_0.2; clear o1_0; have o1_1 : Own wn ⟨w.heap.size + 1, 1, none⟩ _ := Ge.own gwn (kown); have c1_1 := cv_some o1_1.1; have f1_1 := o1_1.2; clear o1_1; have zwn : w.heap.size + 2 ≤ wn.heap.size := (by have := Ge.size gwn; (try simp at this); omega)))
    go_region_held3 (fun w' => w'.cell? ⟨w.heap.size, 0, none⟩ = some (.int .i64 (n : Int)) ∧ w'.cell? ⟨w.heap.size, 1, none⟩ = some (.int .i64 E) ∧ w'.cell? ⟨w.heap.size, 2, none⟩ = some (.int .i64 S) ∧ w'.cell? ⟨w.heap.size, 3, none⟩ = some (.slice p m cap) ∧ w'.cell? ⟨w.heap.size + 1, 0, none⟩ = some (cv w' ⟨w.heap.size + 1, 0, none⟩) ∧ w'.cell? ⟨w.heap.size + 1, 1, none⟩ = some (cv w' ⟨w.heap.size + 1, 1, none⟩) ∧ w'.frozen? ⟨w.heap.size + 1, 0, none⟩ = false ∧ w'.frozen? ⟨w.heap.size + 1, 1, none⟩ = false ∧ Ge w w') (first | exact ⟨hb.keep (‹_ ∧ _ ∧ _ ∧ _ ∧ _ ∧ _ ∧ _ ∧ _ ∧ _›).1, hb.keep (‹_ ∧ _ ∧ _ ∧ _ ∧ _ ∧ _ ∧ _ ∧ _ ∧ _›).2.1, hb.keep (‹_ ∧ _ ∧ _ ∧ _ ∧ _ ∧ _ ∧ _ ∧ _ ∧ _›).2.2.1, hb.keep (‹_ ∧ _ ∧ _ ∧ _ ∧ _ ∧ _ ∧ _ ∧ _ ∧ _›).2.2.2.1, cv_some (hb.keep (‹_ ∧ _ ∧ _ ∧ _ ∧ _ ∧ _ ∧ _ ∧ _ ∧ _›).2.2.2.2.1), cv_some (hb.keep (‹_ ∧ _ ∧ _ ∧ _ ∧ _ ∧ _ ∧ _ ∧ _ ∧ _›).2.2.2.2.2.1), hb.keepF (‹_ ∧ _ ∧ _ ∧ _ ∧ _ ∧ _ ∧ _ ∧ _ ∧ _›).2.2.2.2.1 (‹_ ∧ _ ∧ _ ∧ _ ∧ _ ∧ _ ∧ _ ∧ _ ∧ _›).2.2.2.2.2.2.1, hb.keepF (‹_ ∧ _ ∧ _ ∧ _ ∧ _ ∧ _ ∧ _ ∧ _ ∧ _›).2.2.2.2.2.1 (‹_ ∧ _ ∧ _ ∧ _ ∧ _ ∧ _ ∧ _ ∧ _ ∧ _›).2.2.2.2.2.2.2.1, Ge.trans (‹_ ∧ _ ∧ _ ∧ _ ∧ _ ∧ _ ∧ _ ∧ _ ∧ _›).2.2.2.2.2.2.2.2 hb⟩ | ((refine ⟨?_, ?_, ?_, ?_, ?_, ?_, ?_, ?_, ?_⟩ <;> (repeat (first | assumption | with_reducible exact Ge.refl _ | with_reducible refine cv_drew ?_ | with_reducible refine cv_alloc ?_ | with_reducible refine cv_set ?_ | with_reducible refine cell_drew ?_ | ((with_reducible refine cell_new ?_ ?_); (focus (simp; done)); rfl) | ((with_reducible refine froz_new (v := undef) ?_ ?_); (focus (simp; done)); rfl) | with_reducible refine cell_drewN ?_ | with_reducible refine cell_alloc ?_ | ((with_reducible refine cell_set ?_ ?_); rotate_left; focus (simp; done)) | with_reducible refine froz_drew ?_ | with_reducible refine froz_set ?_ | with_reducible refine froz_alloc (by assumption) ?_ | with_reducible refine Ge.drew ?_ | with_reducible refine Ge.drewN ?_ _ | with_reducible refine Ge.alloc ?_ _ | ((with_reducible refine Ge.setCell ?_ ?_ _); rotate_left; focus (first | (simp; done) | omega | (simp; omega))) | with_reducible refine Ge.trans ?_ (by assumption)))); done) | ((obtain ⟨s0, s1, s2, s3, s4, s5, s6, s7, s8⟩ := ‹_ ∧ _ ∧ _ ∧ _ ∧ _ ∧ _ ∧ _ ∧ _ ∧ _›); refine ⟨?_, ?_, ?_, ?_, ?_, ?_, ?_, ?_, ?_⟩ <;> (repeat (first | assumption | with_reducible exact Ge.refl _ | with_reducible refine cv_drew ?_ | with_reducible refine cv_alloc ?_ | with_reducible refine cv_set ?_ | with_reducible refine cell_drew ?_ | ((with_reducible refine cell_new ?_ ?_); (focus (simp; done)); rfl) | ((with_reducible refine froz_new (v := undef) ?_ ?_); (focus (simp; done)); rfl) | with_reducible refine cell_drewN ?_ | with_reducible refine cell_alloc ?_ | ((with_reducible refine cell_set ?_ ?_); rotate_left; focus (simp; done)) | with_reducible refine froz_drew ?_ | with_reducible refine froz_set ?_ | with_reducible refine froz_alloc (by assumption) ?_ | with_reducible refine Ge.drew ?_ | with_reducible refine Ge.drewN ?_ _ | with_reducible refine Ge.alloc ?_ _ | ((with_reducible refine Ge.setCell ?_ ?_ _); rotate_left; focus (first | (simp; done) | omega | (simp; omega))) | with_reducible refine Ge.trans ?_ (by assumption))))) (first | (go_at_call 89; ((with_reducible refine (HA.out _ (‹_ ∧ _ ∧ _ ∧ _ ∧ _ ∧ _ ∧ _ ∧ _ ∧ Ge w _›.2.2.2.2.2.2.2.2)).mono ?_); rintro e w' ⟨rfl, hb⟩)) | (go_at_call 85; ((with_reducible refine (HTr.out _ (‹_ ∧ _ ∧ _ ∧ _ ∧ _ ∧ _ ∧ _ ∧ _ ∧ Ge w _›.2.2.2.2.2.2.2.2)).mono ?_); rintro e w' ⟨rfl, hb⟩)) | (go_at_call 90; ((with_reducible refine (HFo.out _ (‹_ ∧ _ ∧ _ ∧ _ ∧ _ ∧ _ ∧ _ ∧ _ ∧ Ge w _›.2.2.2.2.2.2.2.2)).mono ?_); rintro e w' ⟨rfl, hb⟩)) | (go_at_call 81; ((with_reducible refine (HR.out _).mono ?_); rintro e w' ⟨rfl, hb⟩)) | fail); (rename_i hHeldX; obtain ⟨c0_0, c0_1, c0_2, c0_3, c1_0, c1_1, f1_0, f1_1, G9⟩ := hHeldX)
    obtain ⟨r0, r1⟩ := res2W c1_0 c1_1 (by simp)
    clear c1_0 c1_1
    go_wp2_with fail
    exact bodyPost_ret (v := .tuple #[.agg #[.int .i64 (ratioOf (wtAll xs m * forV n E S m xs a b) (treeV n E S m xs)).n, .int .i64 (ratioOf (wtAll xs m * forV n E S m xs a b) (treeV n E S m xs)).d], .bool true]) (by simp [results, Tryz.results53, go_sem, *]) rfl ⟨by rw [HF.out, hT], kge⟩

end Go.Proofs.YtagiecajffhnpaaGreat

namespace Go.Proofs.YtagiecajffhnpaaGreat

def eucl : Nat → Int → Int → List Int
  | 0, _, _ => []
  | f + 1, p, q => if 0 < q then p / q :: eucl f q (p % q) else []

def partOk (p q : Int) : Bool := decide (1 ≤ p) && decide (p ≤ 1000) && decide (1 ≤ q) && decide (q ≤ 1000)

/-- TermsOf. -/
def termsOf (p q : Int) : List Int := if partOk p q = true then eucl 1001 p q else []

theorem eucl_step (f : Nat) (p q : Int) (h : 0 < q) (hf : q.toNat < f) : eucl f p q = p / q :: eucl (f - 1) q (p % q) := by
  cases f with
  | zero => omega
  | succ f => simp [eucl, h]
theorem eucl_zero (f : Nat) (p : Int) : eucl f p 0 = [] := by cases f <;> simp [eucl]

theorem eucl_len : ∀ (f : Nat) (p q : Int), (eucl f p q).length ≤ f := by
  intro f
  induction f with
  | zero => intro p q; simp [eucl]
  | succ f ih =>
    intro p q
    simp only [eucl]
    split
    · simp; exact ih _ _
    · simp

theorem eucl_bd : ∀ (f : Nat) (p q : Int), 0 ≤ p → p ≤ 1000 → 0 ≤ q → q ≤ 1000 → ∀ x ∈ eucl f p q, 0 ≤ x ∧ x ≤ 1000 := by
  intro f
  induction f with
  | zero => intro p q _ _ _ _ x hx; simp [eucl] at hx
  | succ f ih =>
    intro p q h1 h2 h3 h4 x hx
    simp only [eucl] at hx
    split at hx
    · rename_i hq
      rcases List.mem_cons.1 hx with rfl | hx
      · exact ⟨Int.ediv_nonneg h1 h3, Int.le_trans (Int.ediv_le_self q h1) h2⟩
      · exact ih q (p % q) h3 h4 (Int.emod_nonneg _ (by omega)) (by have := Int.emod_lt_of_pos p hq; omega) x hx
    · simp at hx

theorem partOk_of {p q : Int} (h : partOk p q = true) : 1 ≤ p ∧ p ≤ 1000 ∧ 1 ≤ q ∧ q ≤ 1000 := by
  simp [partOk] at h; omega

theorem termsOf_len (p q : Int) : (termsOf p q).length ≤ 1001 := by
  unfold termsOf; split
  · exact eucl_len _ _ _
  · simp
theorem termsOf_bd (p q : Int) : ∀ x ∈ termsOf p q, 0 ≤ x ∧ x ≤ 1000 := by
  unfold termsOf; split
  · rename_i h
    obtain ⟨a, b, c, d⟩ := partOk_of h
    exact eucl_bd _ _ _ (by omega) b (by omega) d
  · intro x hx; simp at hx

end Go.Proofs.YtagiecajffhnpaaGreat

namespace Go.Proofs.YtagiecajffhnpaaGreat

open Go.RowKit

def Gives (w : World) (l : List Int) (e : Ending) (w' : World) : Prop := ∃ v, e = .returned v ∧ w'.ownsRow w.heap.size 3 1 v l.length (icells l) ∧ Ge w w'

set_option maxHeartbeats 400000 in
theorem iTermsOf (p q : Int) (w : World) : Calls Tryz.prog 58 #[.int .i64 p, .int .i64 q] w (Gives w (termsOf p q)) := by
  by_cases ok : partOk p q = true
  · obtain ⟨p1, p2, q1, q2⟩ := partOk_of ok
    have HT : Hid (termsOf p q = eucl 1001 p q) := by unfold termsOf; rw [if_pos ok]; exact rfl
    clear ok
    go_enter Tryz.func58, Tryz.ntmps58
    go_wp2_with fail
    go_loopw [0, 1, 5] (fun a b s wr => ∃ (p' q' : Int) (l : List Int) (f : Nat), a = .int .i64 p' ∧ b = .int .i64 q' ∧ 0 ≤ p' ∧ p' ≤ 1000 ∧ 0 ≤ q' ∧ q' ≤ 1000 ∧ q'.toNat < f ∧ l.length + q'.toNat ≤ 1001 ∧
      Hid (eucl 1001 p q = l ++ eucl f p' q') ∧ wr.ownsRow w.heap.size 3 1 s l.length (icells l) ∧ Ge w wr) (fun _ b _ _ => (intOf b).toNat)
    case atStart => exact ⟨p, q, [], 1001, rfl, rfl, by omega, by omega, by omega, by omega, by omega, by simp; omega, rfl, owns_lit0 _ _ _, kge⟩
    case round =>
      obtain ⟨p', q', l, f, rfl, rfl, a1, a2, b1, b2, hf, hl, HE, hown, hg⟩ := hrel
      by_cases hq : 0 < q'
      · have r1 := Int.emod_nonneg p' (show q' ≠ 0 by omega)
        have r2 := Int.emod_lt_of_pos p' hq
        have d1 : Hid (0 ≤ p' / q' ∧ p' / q' ≤ p') := ⟨Int.ediv_nonneg a1 b1, Int.ediv_le_self q' a1⟩
        have HS : Hid (eucl 1001 p q = (l ++ [p' / q']) ++ eucl (f - 1) q' (p' % q')) := by
          rw [HE.out, eucl_step f p' q' hq hf, List.append_assoc]; exact rfl
        clear HE
        go_wp2_with (at_builtin; refine ap_int rfl _ _ rfl w.heap.size u5 l rfl hown _ rfl (by omega) hg.size ?_; intro v' w1 hown1 hm1)
        go_quiet (fail)
        go_wp2_with fail
        go_roundw
        case rel =>
          exact ⟨q', p' % q', l ++ [p' / q'], f - 1, rfl, rfl, by omega, by omega, r1, by omega, by omega, by simp; omega, HS, Ge.owns (kge) hown1, by have := hg.mine hown (Nat.le_refl _) hm1; (repeat (first | with_reducible exact Ge.refl _ | assumption | with_reducible refine Ge.drew ?_ | with_reducible refine Ge.drewN ?_ _ | with_reducible refine Ge.alloc ?_ _ | (with_reducible refine Ge.setCell ?_ (by first | (simp; done) | omega | (simp; omega)) _) | with_reducible refine Ge.trans ?_ (by assumption)))⟩
        case measure => simp [intOf]; omega
      · have hz : q' = 0 := by omega
        subst hz
        go_wp2_with fail
        go_ret
        have hl' : termsOf p q = l := by rw [HT.out, HE.out, eucl_zero]; simp
        rw [hl']
        exact ⟨_, rfl, hown, hg⟩
  · have hl' : termsOf p q = [] := by unfold termsOf; rw [if_neg ok]
    have HL := Lib.hid hl'
    clear hl'
    have hn : ¬ (1 ≤ p ∧ p ≤ 1000 ∧ 1 ≤ q ∧ q ≤ 1000) := fun h => ok (by simp [partOk, h])
    clear ok
    go_enter Tryz.func58, Tryz.ntmps58
    go_wp2_with fail
    all_goals (go_ret; rw [HL.out]; exact ⟨_, rfl, owns_lit0 _ _ _, kge⟩)

end Go.Proofs.YtagiecajffhnpaaGreat

namespace Go.Proofs.YtagiecajffhnpaaGreat

open Go.RowKit

/-- A text, or none. -/
def orN (s : List UInt8) (b : Bool) : List UInt8 := if b = true ∧ ¬ s = [] then s else [110, 111, 110, 101]
def unkT : List UInt8 := [117, 110, 107, 110, 111, 119, 110, 32, 99, 111, 109, 109, 97, 110, 100]
/-- The end of reducing. -/
noncomputable def redF (e : Nat) (x : NwR) : Nat → NwR
  | 0 => x
  | k + 1 => match redK e x (k + 1) with
    | some y => y
    | none => redF e x k
theorem redF_eq {e : Nat} {x y : NwR} {k : Nat} (h : redK e x k = some y) (h2 : redN e y = none) : ∀ j, k ≤ j → redF e x j = y
  | 0, hj => by
    have h0 : k = 0 := by omega
    subst h0
    simp only [redK, Option.some.injEq] at h
    exact h
  | j + 1, hj => by
    by_cases e1 : k = j + 1
    · subst e1
      simp only [redF, h]
    · have h3 := redK_none h h2 (j - k)
      rw [show k + 1 + (j - k) = j + 1 by omega] at h3
      simp only [redF, h3]
      exact redF_eq h h2 j (by omega)
def wPut : List UInt8 := [112, 117, 116]
def wJoin : List UInt8 := [106, 111, 105, 110]
def wSwap : List UInt8 := [115, 119, 97, 112]
def wDrop : List UInt8 := [100, 114, 111, 112]
def wMesh : List UInt8 := [109, 101, 115, 104]
def wStar : List UInt8 := [115, 116, 97, 114]
def wCanon : List UInt8 := [99, 97, 110, 111, 110]
def wReduce : List UInt8 := [114, 101, 100, 117, 99, 101]
def wAll : List UInt8 := [97, 108, 108]
def wFeed : List UInt8 := [102, 101, 101, 100]
def wShow : List UInt8 := [115, 104, 111, 119]
def wResist : List UInt8 := [114, 101, 115, 105, 115, 116]
def wVolts : List UInt8 := [118, 111, 108, 116, 115]
def wCurrent : List UInt8 := [99, 117, 114, 114, 101, 110, 116]
def wHit : List UInt8 := [104, 105, 116]
def wCommute : List UInt8 := [99, 111, 109, 109, 117, 116, 101]
def wHidden : List UInt8 := [104, 105, 100, 100, 101, 110]
def wBlind : List UInt8 := [98, 108, 105, 110, 100]
def wLadder : List UInt8 := [108, 97, 100, 100, 101, 114]
def wCut : List UInt8 := [99, 117, 116]
/-- A command is this word with so many numbers. -/
def isF (wd : List UInt8) (c : Nat) (lit : List UInt8) (k : Nat) : Bool := decide (wd = lit) && decide (c = k)
/-- Whether it succeeds, and the network that a command makes; none if there is no such command. -/
noncomputable def chR (n e : Nat) (S : Int) (L : List Wr) (wd : List UInt8) (x : List Int) : Option (Bool × Nt) :=
  if isF wd x.length wPut 3 = true then some (putB n e S L.length (flatW L) (nth x 0) (nth x 1) (nth x 2), oNet (putB n e S L.length (flatW L) (nth x 0) (nth x 1) (nth x 2)) n e S (putM n L.length (flatW L) (nth x 0) (nth x 1) (nth x 2)))
  else if isF wd x.length wJoin 2 = true then some (jnB n e S L.length (flatW L) (nth x 0) (nth x 1), oNet (jnB n e S L.length (flatW L) (nth x 0) (nth x 1)) ((n - 1 : Nat) : Int) (jnE e (nth x 1).toNat) S (jnM n L.length (flatW L) (nth x 0).toNat (nth x 1).toNat))
  else if isF wd x.length wSwap 2 = true then some (swB n e S L.length (flatW L) (nth x 0) (nth x 1), oNet (swB n e S L.length (flatW L) (nth x 0) (nth x 1)) n e S (swM n L.length (flatW L) (nth x 0).toNat (nth x 1).toNat))
  else if isF wd x.length wDrop 1 = true then some (dropB n e S L (nth x 0), oNet (dropB n e S L (nth x 0)) ((n - 1 : Nat) : Int) e (redS n S L (nth x 0).toNat) (redL n S L (nth x 0).toNat))
  else if isF wd x.length wMesh 1 = true then some (starB n e S L (nth x 0), oNet (starB n e S L (nth x 0)) ((n - 1 : Nat) : Int) e (redS n S L (nth x 0).toNat) (redL n S L (nth x 0).toNat))
  else if isF wd x.length wStar 3 = true then some (trB n e S L.length (flatW L) (nth x 0) (nth x 1) (nth x 2), oNet (trB n e S L.length (flatW L) (nth x 0) (nth x 1) (nth x 2)) ((n + 1 : Nat) : Int) e (trS n L.length (flatW L) (nth x 0) (nth x 1) (nth x 2) S) (trL n L.length (flatW L) (nth x 0) (nth x 1) (nth x 2) S))
  else if isF wd x.length wCanon 0 = true then some (canB n e S L.length (flatW L), oNet (canB n e S L.length (flatW L)) n e (canS n S L.length (flatW L)) (canL n S L.length (flatW L)))
  else if isF wd x.length wReduce 0 = true then some (true, ⟨((redF e ⟨n, S, L⟩ 5).n : Int), e, (redF e ⟨n, S, L⟩ 5).s, (redF e ⟨n, S, L⟩ 5).l⟩)
  else if isF wd x.length wAll 0 = true then some (meshR n e S L.length (flatW L))
  else none
/-- The text that a command shows. -/
noncomputable def shR (n e : Nat) (S : Int) (L : List Wr) (wd : List UInt8) (x : List Int) : List UInt8 :=
  if wd = wFeed then (if x.length = e then orN (rowLine e (fdL n e L.length S (flatW L) x e)) true else orN (rowLine 0 []) false)
  else if isF wd x.length wShow 0 = true then Lib.join (netLs n e L.length S (flatW L) e) [59]
  else if isF wd x.length wResist 2 = true then orN (resLine n e S L.length (flatW L) (nth x 0) (nth x 1)) true
  else if isF wd x.length wVolts 2 = true then orN (potLine n e S L.length (flatW L) (nth x 0) (nth x 1)) true
  else if isF wd x.length wCurrent 4 = true then orN (ratioTxt (curR n e S L.length (flatW L) (nth x 0) (nth x 1) (nth x 2) (nth x 3)).n (curR n e S L.length (flatW L) (nth x 0) (nth x 1) (nth x 2) (nth x 3)).d) (curB n e S L.length (flatW L) (nth x 0) (nth x 1) (nth x 2) (nth x 3))
  else if isF wd x.length wHit 3 = true then orN (ratioTxt (hcR n e S L.length (flatW L) (nth x 0) (nth x 1) (nth x 2)).n (hcR n e S L.length (flatW L) (nth x 0) (nth x 1) (nth x 2)).d) (hcB n e S L.length (flatW L) (nth x 0) (nth x 1) (nth x 2))
  else if isF wd x.length wCommute 2 = true then orN (ratioTxt (comR n e S L.length (flatW L) (nth x 0) (nth x 1)).n (comR n e S L.length (flatW L) (nth x 0) (nth x 1)).d) (node2B n e S L.length (flatW L) (nth x 0) (nth x 1))
  else if isF wd x.length wHidden 0 = true then faultLine (likeL n e S L.length (flatW L) (fun a => respL n e L.length S (flatW L) a e)).length (flatP (likeL n e S L.length (flatW L) (fun a => respL n e L.length S (flatW L) a e)))
  else if isF wd x.length wBlind 0 = true then orN (spTxt (blindL n e L.length (flatW L) L.length)) true
  else if isF wd x.length wLadder 2 = true then orN (spTxt (termsOf (nth x 0) (nth x 1))) true
  else if isF wd x.length wCut 2 = true then (match cutO (nth x 0) (nth x 1) with
    | none => orN (tileLine 0 []) false
    | some k => orN (tileLine k (cutX (nth x 0).toNat (nth x 1).toNat k)) true)
  else unkT
def netW : List UInt8 := [110, 101, 116, 32]
/-- The network behind a line, and what the line shows. -/
noncomputable def runL (y : Nt) (s : List UInt8) : Nt × List UInt8 :=
  if s = [] ∨ bnth s 0 = 35 then (y, [])
  else if Lib.hasPrefix s netW = true then (if pnB (hdI (Lib.trimPrefix s netW)) (Lib.trimPrefix s netW) = true then (pnN (Lib.trimPrefix s netW), [111, 107]) else (y, unkT))
  else if allB (pieces [32] s).tail = true then (match chR y.nodes.toNat y.ends.toNat y.scale y.wires (tnth (pieces [32] s) 0) (numsR (pieces [32] s).tail) with
    | some (true, z) => (z, netTxt z.nodes z.ends z.scale z.wires.length (flatW z.wires))
    | some (false, _) => (y, [110, 111, 110, 101])
    | none => (y, shR y.nodes.toNat y.ends.toNat y.scale y.wires (tnth (pieces [32] s) 0) (numsR (pieces [32] s).tail)))
  else (y, unkT)
/-- What is asked of a line that feeds: the volts are small. -/
def fdFine (s : List UInt8) (e : Nat) : Prop := tnth (pieces [32] s) 0 = wFeed → (numsR (pieces [32] s).tail).length = e → fdOk e (numsR (pieces [32] s).tail)
/-- Valid networks stay valid. -/
theorem ok_of {b : Bool} {n e : Nat} {S : Int} {L : List Wr} (h : b = true → netB n e S L.length (flatW L) = true) (hb : b = true) : okNt (oNet b n e S L) := by
  rw [oNet_t hb]
  exact ⟨n, e, rfl, rfl, h hb⟩
theorem meshK_ok : ∀ (k : Nat) (b : Bool) (y : Nt), (b = true → okNt y) → (meshK k (b, y)).1 = true → okNt (meshK k (b, y)).2
  | 0, _, _, h, hb => h hb
  | k + 1, b, y, h, hb => by
    unfold meshK at hb ⊢
    by_cases c : (b, y).1 = true ∧ (b, y).2.ends < (b, y).2.nodes
    · rw [if_pos c] at hb ⊢
      refine meshK_ok k _ _ (fun hm => ?_) hb
      obtain ⟨n, e, h1, h2, h3⟩ := h c.1
      simp only at hm ⊢
      unfold mshN mshB at *
      rw [h1, h2] at hm ⊢
      exact ok_of (fun hx => hx) hm
    · rw [if_neg c] at hb ⊢
      exact h hb
theorem ch_ok {n e : Nat} {S : Int} {L : List Wr} {wd : List UInt8} {x : List Int} {z : Nt} (hB : netB n e S L.length (flatW L) = true) (hk : okR e (redF e ⟨n, S, L⟩ 5)) (h : chR n e S L wd x = some (true, z)) : okNt z := by
  unfold chR at h
  split at h
  · simp only [Option.some.injEq, Prod.mk.injEq] at h
    obtain ⟨h1, rfl⟩ := h
    exact ok_of (fun hb => by unfold putB at hb; simp only [Bool.and_eq_true] at hb; exact hb.2) h1
  split at h
  · simp only [Option.some.injEq, Prod.mk.injEq] at h
    obtain ⟨h1, rfl⟩ := h
    exact ok_of (fun hb => by unfold jnB at hb; simp only [Bool.and_eq_true] at hb; exact hb.2) h1
  split at h
  · simp only [Option.some.injEq, Prod.mk.injEq] at h
    obtain ⟨h1, rfl⟩ := h
    exact ok_of (fun hb => by unfold swB at hb; simp only [Bool.and_eq_true] at hb; exact hb.2) h1
  split at h
  · simp only [Option.some.injEq, Prod.mk.injEq] at h
    obtain ⟨h1, rfl⟩ := h
    exact ok_of (fun hb => by unfold dropB at hb; simp only [Bool.and_eq_true] at hb; exact hb.2.2) h1
  split at h
  · simp only [Option.some.injEq, Prod.mk.injEq] at h
    obtain ⟨h1, rfl⟩ := h
    exact ok_of (fun hb => by unfold starB at hb; simp only [Bool.and_eq_true] at hb; exact hb.2) h1
  split at h
  · simp only [Option.some.injEq, Prod.mk.injEq] at h
    obtain ⟨h1, rfl⟩ := h
    exact ok_of (fun hb => by unfold trB at hb; simp only [Bool.and_eq_true] at hb; exact hb.2) h1
  split at h
  · simp only [Option.some.injEq, Prod.mk.injEq] at h
    obtain ⟨h1, rfl⟩ := h
    exact ok_of (fun hb => hb) h1
  split at h
  · simp only [Option.some.injEq, Prod.mk.injEq] at h
    obtain ⟨_, rfl⟩ := h
    exact ⟨_, e, rfl, rfl, hk⟩
  split at h
  · simp only [Option.some.injEq] at h
    have h1 : (meshR n e S L.length (flatW L)).1 = true := by rw [h]
    have h2 : (meshR n e S L.length (flatW L)).2 = z := by rw [h]
    rw [← h2]
    exact meshK_ok _ _ _ (fun hb => ok_of (fun hx => hx) hb) h1
  · cases h
end Go.Proofs.YtagiecajffhnpaaGreat
