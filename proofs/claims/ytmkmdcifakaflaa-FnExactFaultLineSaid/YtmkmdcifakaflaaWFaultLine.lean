/- FaultLine of impl and of spec. No condition. -/
import Derived.Test.YtmkmdcifakaflaaWJoinS
import Derived.Test.YtmkmdcifakaflaaWFault
import Derived.Test.YtmkmdcifakaflaaWFlat
namespace Go.Proofs.Ytmkmdcifakaflaa
set_option maxRecDepth 100000
open Go.ChangeShapes Go.WideShapes Go.ChangeAt Go.RowKit Go.Joins

def fTxts (xs : List Int) (k : Nat) : List (List UInt8) := (List.range k).map fun j => faultTxt (nth xs (j * 2)) (nth xs (j * 2 + 1))
theorem fTxts_succ (xs : List Int) (k : Nat) : fTxts xs (k + 1) = fTxts xs k ++ [faultTxt (nth xs (k * 2)) (nth xs (k * 2 + 1))] := by simp [fTxts, List.range_succ]
theorem fTxts_length (xs : List Int) (k : Nat) : (fTxts xs k).length = k := by simp [fTxts]
theorem fTxts_join (xs : List Int) (k : Nat) : (Lib.join (fTxts xs k) [32]).length ≤ 46 * k := by
  have h := join_le [32] (fTxts xs k) 45 (fun x hx => by
    simp only [fTxts, List.mem_map] at hx
    obtain ⟨j, _, rfl⟩ := hx
    have := fmtInt_length (nth xs (j * 2)); have := fmtInt_length (nth xs (j * 2 + 1))
    simp [faultTxt]; omega)
  rwa [fTxts_length] at h
def faultLine (n : Nat) (xs : List Int) : List UInt8 := if n = 0 then [110, 111, 110, 101] else Lib.join (fTxts xs n) [32]
theorem faultLine_0 {n : Nat} {xs : List Int} (h : n = 0) : bstr (faultLine n xs) = ⟨#[110, 111, 110, 101]⟩ := by simp [faultLine, h, bstr]
theorem faultLine_s {n : Nat} {xs : List Int} (h : ¬ n = 0) : bstr (faultLine n xs) = bstr (Lib.join (fTxts xs n) [32]) := by simp [faultLine, h]

set_option maxHeartbeats 1600000 in
theorem iFaultLine (v : Value) (n : Nat) (xs : List Int) (w : World) (hv : SlF w v n 2 xs) (hm : n ≤ 1048576) (hb : ∀ j, -9223372036854775808 ≤ nth xs j ∧ nth xs j ≤ 9223372036854775807) :
    Calls Try.prog 45 #[v] w fun e w' => e = .returned (.string (bstr (faultLine n xs))) ∧ Ge w w' := by
  obtain ⟨p, cap, rfl, hc⟩ := hv.open
  have HC := Lib.hid hc
  have HBd := Lib.hid hb
  clear hv hc hb
  go_enter Try.func45, Try.ntmps45
  go_wp2_with fail
  go_loopw [3, 9] (fun s i wr => ∃ k : Nat, k ≤ n ∧ i = .int .i64 k ∧ wr.ownsRow w.heap.size 9 1 s (fTxts xs k).length (scells (fTxts xs k)) ∧ Ge w wr) (fun _ i _ => n - (intOf i).toNat)
  case atStart => exact ⟨0, Nat.zero_le _, rfl, owns_lit0 _ _ _, by (repeat (first | with_reducible exact Ge.refl _ | assumption | with_reducible refine Ge.drew ?_ | with_reducible refine Ge.drewN ?_ _ | with_reducible refine Ge.alloc ?_ _ | (with_reducible refine Ge.setCell ?_ (by first | (simp; done) | omega | (simp; omega)) _) | with_reducible refine Ge.trans ?_ (by assumption)))⟩
  case round =>
    obtain ⟨k, hk, rfl, hown, hg⟩ := hrel
    by_cases hlt : k < n
    · obtain ⟨b, o, rfl, x0, x1⟩ := two_cells HC.out hlt
      have y0 := hg.keep x0
      have y1 := hg.keep x1
      clear x0 x1
      have B0 := HBd.out (k * 2)
      have B1 := HBd.out (k * 2 + 1)
      have HL : Hid ((fTxts xs k).length < 1099511627776) := by
        show _ < _
        rw [fTxts_length]; omega
      have HS : Hid (fTxts xs k ++ [faultTxt (nth xs (k * 2)) (nth xs (k * 2 + 1))] = fTxts xs (k + 1)) := (fTxts_succ _ _).symm
      generalize fTxts xs k = L at *
      generalize nth xs (k * 2) = X at *
      generalize nth xs (k * 2 + 1) = Y at *
      go_wp2_with (first
        | (go_at_call 17; ((with_reducible refine (iFormatFault _ _ _ B0 B1).mono ?_); rintro e w5 ⟨rfl, g5⟩; have own2 := Ge.owns g5 (hown.alloc _); have G5 : Ge w w5 := Ge.trans (Ge.alloc hg _) g5; have Z5 := G5.size))
        | (at_builtin; refine ap_str rfl _ _ rfl w.heap.size u3 L rfl own2 _ rfl HL.out Z5 ?_; intro v' w6 own6 hm6))
      go_roundw
      case rel => exact ⟨k + 1, by omega, by go_num, by have := own6; rwa [HS.out] at this, G5.mine own2 (Nat.le_refl _) hm6⟩
      case measure => simp [intOf]; omega
    · have hkn : k = n := by omega
      subst hkn
      have hown' := hown
      rw [fTxts_length] at hown
      have H1 : Hid ((fTxts xs k).length ≤ 140737488355328) := by
        show _ ≤ _
        rw [fTxts_length]; omega
      have H2 : Hid ((Lib.join (fTxts xs k) [32]).length ≤ 140737488355328) := by
        show _ ≤ _
        have := fTxts_join xs k; omega
      obtain ⟨p3, c3, rfl⟩ := owns_form hown
      by_cases hz : k = 0
      · have HF := Lib.hid (faultLine_0 (xs := xs) hz)
        have tz : ((k : Int) == 0) = true := by simp [hz]
        clear hz hown'
        go_wp2_with fail
        go_ret
        exact ⟨ret_str (by rw [HF.out]), by (repeat (first | with_reducible exact Ge.refl _ | assumption | with_reducible refine Ge.drew ?_ | with_reducible refine Ge.drewN ?_ _ | with_reducible refine Ge.alloc ?_ _ | (with_reducible refine Ge.setCell ?_ (by first | (simp; done) | omega | (simp; omega)) _) | with_reducible refine Ge.trans ?_ (by assumption)))⟩
      · have HF := Lib.hid (faultLine_s (xs := xs) hz)
        have tz : ((k : Int) == 0) = false := by simp [hz]
        have hJ : Calls Try.prog 75 #[.slice p3 k c3, .string ⟨#[32]⟩] wr fun en w' => en = .returned (.string (bstr (Lib.join (fTxts xs k) [32]))) ∧ Ge wr w' := iJoin w.heap.size 9 (.slice p3 k c3) (fTxts xs k) [32] _ hown' H1.out H2.out
        clear hz hown'
        go_wp2_with ((go_at_call 75; ((with_reducible refine (hJ).mono ?_); rintro e w5 ⟨rfl, g5⟩)))
        go_ret
        exact ⟨ret_str (by rw [HF.out]), by (repeat (first | with_reducible exact Ge.refl _ | assumption | with_reducible refine Ge.drew ?_ | with_reducible refine Ge.drewN ?_ _ | with_reducible refine Ge.alloc ?_ _ | (with_reducible refine Ge.setCell ?_ (by first | (simp; done) | omega | (simp; omega)) _) | with_reducible refine Ge.trans ?_ (by assumption)))⟩

set_option maxHeartbeats 1600000 in
theorem sFaultLine (v : Value) (n : Nat) (xs : List Int) (w : World) (hv : SlF w v n 2 xs) (hm : n ≤ 1048576) (hb : ∀ j, -9223372036854775808 ≤ nth xs j ∧ nth xs j ≤ 9223372036854775807) :
    Calls Try.prog 43 #[v] w fun e w' => e = .returned (.string (bstr (faultLine n xs))) ∧ Ge w w' := by
  obtain ⟨p, cap, rfl, hc⟩ := hv.open
  have HC := Lib.hid hc
  have HBd := Lib.hid hb
  clear hv hc hb
  go_enter Try.func43, Try.ntmps43
  go_wp2_with fail
  go_loopw [3, 9] (fun s i wr => ∃ k : Nat, k ≤ n ∧ i = .int .i64 k ∧ wr.ownsRow w.heap.size 9 1 s (fTxts xs k).length (scells (fTxts xs k)) ∧ Ge w wr) (fun _ i _ => n - (intOf i).toNat)
  case atStart => exact ⟨0, Nat.zero_le _, rfl, owns_lit0 _ _ _, by (repeat (first | with_reducible exact Ge.refl _ | assumption | with_reducible refine Ge.drew ?_ | with_reducible refine Ge.drewN ?_ _ | with_reducible refine Ge.alloc ?_ _ | (with_reducible refine Ge.setCell ?_ (by first | (simp; done) | omega | (simp; omega)) _) | with_reducible refine Ge.trans ?_ (by assumption)))⟩
  case round =>
    obtain ⟨k, hk, rfl, hown, hg⟩ := hrel
    by_cases hlt : k < n
    · obtain ⟨b, o, rfl, x0, x1⟩ := two_cells HC.out hlt
      have y0 := hg.keep x0
      have y1 := hg.keep x1
      clear x0 x1
      have B0 := HBd.out (k * 2)
      have B1 := HBd.out (k * 2 + 1)
      have HL : Hid ((fTxts xs k).length < 1099511627776) := by
        show _ < _
        rw [fTxts_length]; omega
      have HS : Hid (fTxts xs k ++ [faultTxt (nth xs (k * 2)) (nth xs (k * 2 + 1))] = fTxts xs (k + 1)) := (fTxts_succ _ _).symm
      generalize fTxts xs k = L at *
      generalize nth xs (k * 2) = X at *
      generalize nth xs (k * 2 + 1) = Y at *
      go_wp2_with (first
        | (go_at_call 15; ((with_reducible refine (sFormatFault _ _ _ B0 B1).mono ?_); rintro e w5 ⟨rfl, g5⟩; have own2 := Ge.owns g5 (hown.alloc _); have G5 : Ge w w5 := Ge.trans (Ge.alloc hg _) g5; have Z5 := G5.size))
        | (at_builtin; refine ap_str rfl _ _ rfl w.heap.size u3 L rfl own2 _ rfl HL.out Z5 ?_; intro v' w6 own6 hm6))
      go_roundw
      case rel => exact ⟨k + 1, by omega, by go_num, by have := own6; rwa [HS.out] at this, G5.mine own2 (Nat.le_refl _) hm6⟩
      case measure => simp [intOf]; omega
    · have hkn : k = n := by omega
      subst hkn
      have hown' := hown
      rw [fTxts_length] at hown
      have H1 : Hid ((fTxts xs k).length ≤ 140737488355328) := by
        show _ ≤ _
        rw [fTxts_length]; omega
      have H2 : Hid ((Lib.join (fTxts xs k) [32]).length ≤ 140737488355328) := by
        show _ ≤ _
        have := fTxts_join xs k; omega
      obtain ⟨p3, c3, rfl⟩ := owns_form hown
      by_cases hz : k = 0
      · have HF := Lib.hid (faultLine_0 (xs := xs) hz)
        have tz : ((k : Int) == 0) = true := by simp [hz]
        clear hz hown'
        go_wp2_with fail
        go_ret
        exact ⟨ret_str (by rw [HF.out]), by (repeat (first | with_reducible exact Ge.refl _ | assumption | with_reducible refine Ge.drew ?_ | with_reducible refine Ge.drewN ?_ _ | with_reducible refine Ge.alloc ?_ _ | (with_reducible refine Ge.setCell ?_ (by first | (simp; done) | omega | (simp; omega)) _) | with_reducible refine Ge.trans ?_ (by assumption)))⟩
      · have HF := Lib.hid (faultLine_s (xs := xs) hz)
        have tz : ((k : Int) == 0) = false := by simp [hz]
        have hJ : Calls Try.prog 74 #[.slice p3 k c3, .string ⟨#[32]⟩] wr fun en w' => en = .returned (.string (bstr (Lib.join (fTxts xs k) [32]))) ∧ wr = w' := sJoin (.slice p3 k c3) (fTxts xs k) [32] _ (SlS.of_owns hown') H1.out H2.out
        clear hz hown'
        go_wp2_with ((go_at_call 74; ((with_reducible refine (hJ).mono ?_); rintro e w5 ⟨rfl, rfl⟩)))
        go_ret
        exact ⟨ret_str (by rw [HF.out]), by (repeat (first | with_reducible exact Ge.refl _ | assumption | with_reducible refine Ge.drew ?_ | with_reducible refine Ge.drewN ?_ _ | with_reducible refine Ge.alloc ?_ _ | (with_reducible refine Ge.setCell ?_ (by first | (simp; done) | omega | (simp; omega)) _) | with_reducible refine Ge.trans ?_ (by assumption)))⟩
end Go.Proofs.Ytmkmdcifakaflaa
