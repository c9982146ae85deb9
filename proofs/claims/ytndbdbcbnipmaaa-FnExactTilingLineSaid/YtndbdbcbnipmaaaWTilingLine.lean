/- TilingLine of impl and of spec. No condition. -/
import Derived.Test.YtndbdbcbnipmaaaWStr
import Derived.Test.YtndbdbcbnipmaaaWTile5
import Derived.Test.YtndbdbcbnipmaaaWSquare
namespace Go.Proofs.Ytndbdbcbnipmaaa
set_option maxRecDepth 100000
open Go.ChangeShapes Go.WideShapes Go.ChangeAt Go.RowKit Go.Joins

def sqTxt (xs : List Int) (j : Nat) : List UInt8 := squareTxt (sx xs j) (sy xs j) (ss xs j)
def sqTxts (xs : List Int) (k : Nat) : List (List UInt8) := (List.range k).map (sqTxt xs)
theorem sqTxts_succ (xs : List Int) (k : Nat) : sqTxts xs (k + 1) = sqTxts xs k ++ [sqTxt xs k] := by simp [sqTxts, List.range_succ]
theorem sqTxts_length (xs : List Int) (k : Nat) : (sqTxts xs k).length = k := by simp [sqTxts]
theorem squareTxt_le (x y z : Int) : (squareTxt x y z).length ≤ 68 := by
  have := fmtInt_length x; have := fmtInt_length y; have := fmtInt_length z
  simp [squareTxt]; omega
/-- The line up to the k-th square. -/
def tilePart (n : Nat) (xs : List Int) (k : Nat) : List UInt8 := fmtInt (rightSq xs n) ++ [32, 120, 32] ++ fmtInt (lowSq xs n) ++ Lib.joinTail [32] (sqTxts xs k)
theorem tilePart_succ (n : Nat) (xs : List Int) (k : Nat) : tilePart n xs (k + 1) = tilePart n xs k ++ [32] ++ sqTxt xs k := by
  simp [tilePart, sqTxts_succ, joinTail_snoc]
theorem tilePart_le (n : Nat) (xs : List Int) (k : Nat) : (tilePart n xs k).length ≤ 47 + 69 * k := by
  have h1 := fmtInt_length (rightSq xs n)
  have h2 := fmtInt_length (lowSq xs n)
  have h3 := joinTail_le [32] (sqTxts xs k) 68 (fun x hx => by
    simp only [sqTxts, List.mem_map] at hx
    obtain ⟨j, _, rfl⟩ := hx
    exact squareTxt_le _ _ _)
  rw [sqTxts_length] at h3
  simp [tilePart] at h3 ⊢
  omega
theorem tile_join (n : Nat) (xs : List Int) (k : Nat) : Lib.join ([fmtInt (rightSq xs n), [120], fmtInt (lowSq xs n)] ++ sqTxts xs k) [32] = tilePart n xs k := by
  simp [Lib.join_cons, Lib.joinTail, tilePart]
noncomputable def tileLine (n : Nat) (xs : List Int) : List UInt8 := if tileB n xs = true then tilePart n xs n else []
theorem tileLine_t {n : Nat} {xs : List Int} (h : tileB n xs = true) : bstr (tileLine n xs) = bstr (tilePart n xs n) := by simp [tileLine, h]
theorem tileLine_f {n : Nat} {xs : List Int} (h : tileB n xs = false) : bstr (tileLine n xs) = ⟨#[]⟩ := by simp [tileLine, h, bstr]

set_option maxHeartbeats 1600000 in
theorem iTilingLine (v : Value) (n : Nat) (xs : List Int) (w : World) (hv : SlF w v n 3 xs) (hm : n ≤ 9223372036854775807) (hb : ∀ j, -9223372036854775808 ≤ nth xs j ∧ nth xs j ≤ 9223372036854775807) (hcap : ∀ p c, v = .slice p n c → n ≤ c) :
    Calls Try.prog 30 #[v] w fun e w' => e = .returned (.string (bstr (tileLine n xs))) ∧ Ge w w' := by
  obtain ⟨p, cap, rfl, hc⟩ := hv.open
  have HV := Lib.hid hv
  have HC := Lib.hid hc
  have HBd := Lib.hid hb
  have HCap := Lib.hid hcap
  clear hv hc hb hcap
  by_cases hB : tileB n xs = true
  · obtain ⟨h0, h12, hsq, _⟩ : tileP n xs := by
      unfold tileB at hB
      split at hB
      · assumption
      · cases hB
    have HOK : Hid (∀ i, i < n → okSq xs i) := fun i hi => (hsq i hi).1
    obtain ⟨r0, r1⟩ := right_bd n (fun i hi => HOK.out i hi)
    obtain ⟨l0, l1⟩ := low_bd n (fun i hi => HOK.out i hi)
    have HF := Lib.hid (tileLine_t hB)
    have HW := widthQ_t hB
    have HH := heightQ_t hB
    clear hsq
    go_enter Try.func30, Try.ntmps30
    go_wp2_with (first
      | (go_at_call 23; ((with_reducible refine (iTilingOk _ n xs _ HV.out hm HBd.out HCap.out).mono ?_); rintro e w1 ⟨rfl, g1⟩))
      | (go_at_call 28; ((with_reducible refine (iWidthOf _ n xs _ (HV.out.ge g1) hm HBd.out HCap.out).mono ?_); rintro e w2 ⟨rfl, g2⟩; rw [HW]))
      | (go_at_call 26; ((with_reducible refine (iHeightOf _ n xs _ (HV.out.ge (g1.trans g2)) hm HBd.out HCap.out).mono ?_); rintro e w3 ⟨rfl, g3⟩; rw [HH]))
      | (go_at_call 74; ((with_reducible refine (iFormatInt _ _ (by omega) (by omega)).mono ?_); rintro e w' ⟨rfl, rfl⟩)))
    go_loopw [3, 18] (fun s i wr => ∃ k : Nat, k ≤ n ∧ i = .int .i64 k ∧ wr.ownsRow w.heap.size 9 1 s ([fmtInt (rightSq xs n), [120], fmtInt (lowSq xs n)] ++ sqTxts xs k).length (scells ([fmtInt (rightSq xs n), [120], fmtInt (lowSq xs n)] ++ sqTxts xs k)) ∧ Ge w wr) (fun _ i _ => n - (intOf i).toNat)
    case atStart => exact ⟨0, Nat.zero_le _, rfl, World.ownsRow_lit w3 _ 3 (by have := (g1.trans (g2.trans g3)).size; omega) (by unfold maxLen; omega) rfl, by (repeat (first | with_reducible exact Ge.refl _ | assumption | with_reducible refine Ge.drew ?_ | with_reducible refine Ge.drewN ?_ _ | with_reducible refine Ge.alloc ?_ _ | (with_reducible refine Ge.setCell ?_ (by first | (simp; done) | omega | (simp; omega)) _) | with_reducible refine Ge.trans ?_ (by assumption)))⟩
    case round =>
      obtain ⟨k, hk, rfl, hown, hg⟩ := hrel
      by_cases hlt : k < n
      · obtain ⟨b, o, rfl, x0, x1, x2⟩ := three_cells HC.out hlt
        have y0 := hg.keep x0
        have y1 := hg.keep x1
        have y2 := hg.keep x2
        clear x0 x1 x2
        change wr.cell? _ = some (.int .i64 (sx xs k)) at y0
        change wr.cell? _ = some (.int .i64 (sy xs k)) at y1
        change wr.cell? _ = some (.int .i64 (ss xs k)) at y2
        obtain ⟨q0, q1, q2, q3, q4, q5⟩ := HOK.out k hlt
        have HL : Hid (([fmtInt (rightSq xs n), [120], fmtInt (lowSq xs n)] ++ sqTxts xs k).length < 1099511627776) := by
          show _ < _
          rw [List.length_append, sqTxts_length]; simp; omega
        have HS : Hid (([fmtInt (rightSq xs n), [120], fmtInt (lowSq xs n)] ++ sqTxts xs k) ++ [squareTxt (sx xs k) (sy xs k) (ss xs k)] = [fmtInt (rightSq xs n), [120], fmtInt (lowSq xs n)] ++ sqTxts xs (k + 1)) := by
          show _ = _
          rw [sqTxts_succ, List.append_assoc]; rfl
        generalize [fmtInt (rightSq xs n), [120], fmtInt (lowSq xs n)] ++ sqTxts xs k = L at *
        generalize sx xs k = X at *
        generalize sy xs k = Y at *
        generalize ss xs k = Z at *
        go_wp2_with (first
          | (go_at_call 75; ((with_reducible refine (iFormatSquare _ _ _ _ (by omega) (by omega) (by omega)).mono ?_); rintro e w5 ⟨rfl, g5⟩; have own2 := Ge.owns g5 (hown.alloc _); have G5 : Ge w w5 := Ge.trans (Ge.alloc hg _) g5; have Z5 := G5.size))
          | (at_builtin; refine ap_str rfl _ _ rfl w.heap.size u3 L rfl own2 _ rfl HL.out Z5 ?_; intro v' w6 own6 hm6))
        go_roundw
        case rel => exact ⟨k + 1, by omega, by go_num, by have := own6; rwa [HS.out] at this, G5.mine own2 (Nat.le_refl _) hm6⟩
        case measure => simp [intOf]; omega
      · have hkn : k = n := by omega
        subst hkn
        have hj := tile_join k xs k
        have hl := tilePart_le k xs k
        have HJ := Lib.hid hj
        have H1 : Hid (([fmtInt (rightSq xs k), [120], fmtInt (lowSq xs k)] ++ sqTxts xs k).length ≤ 140737488355328) := by
          show _ ≤ _
          rw [List.length_append, sqTxts_length]; simp; omega
        have H2 : Hid ((Lib.join ([fmtInt (rightSq xs k), [120], fmtInt (lowSq xs k)] ++ sqTxts xs k) [32]).length ≤ 140737488355328) := by
          show _ ≤ _
          rw [hj]; omega
        clear hj hl
        obtain ⟨p3, c3, rfl⟩ := owns_form hown
        generalize [fmtInt (rightSq xs k), [120], fmtInt (lowSq xs k)] ++ sqTxts xs k = L at *
        have hJ : Calls Try.prog 76 #[.slice p3 L.length c3, .string ⟨#[32]⟩] wr fun en w' => en = .returned (.string (bstr (Lib.join L [32]))) ∧ Ge wr w' := iJoin w.heap.size 9 _ L [32] _ hown H1.out H2.out
        go_wp2_with ((go_at_call 76; ((with_reducible refine (hJ).mono ?_); rintro e w5 ⟨rfl, g5⟩)))
        go_ret
        exact ⟨ret_str (by rw [HF.out, HJ.out]), by (repeat (first | with_reducible exact Ge.refl _ | assumption | with_reducible refine Ge.drew ?_ | with_reducible refine Ge.drewN ?_ _ | with_reducible refine Ge.alloc ?_ _ | (with_reducible refine Ge.setCell ?_ (by first | (simp; done) | omega | (simp; omega)) _) | with_reducible refine Ge.trans ?_ (by assumption)))⟩
  · have hB : tileB n xs = false := by simpa using hB
    have HF := Lib.hid (tileLine_f hB)
    go_enter Try.func30, Try.ntmps30
    go_wp2_with ((go_at_call 23; ((with_reducible refine (iTilingOk _ n xs _ HV.out hm HBd.out HCap.out).mono ?_); rintro e w1 ⟨rfl, g1⟩)))
    go_ret
    exact ⟨ret_str (by rw [HF.out]), by (repeat (first | with_reducible exact Ge.refl _ | assumption | with_reducible refine Ge.drew ?_ | with_reducible refine Ge.drewN ?_ _ | with_reducible refine Ge.alloc ?_ _ | (with_reducible refine Ge.setCell ?_ (by first | (simp; done) | omega | (simp; omega)) _) | with_reducible refine Ge.trans ?_ (by assumption)))⟩

set_option maxHeartbeats 1600000 in
theorem sTilingLine (v : Value) (n : Nat) (xs : List Int) (w : World) (hv : SlF w v n 3 xs) (hm : n ≤ 9223372036854775807) (hb : ∀ j, -9223372036854775808 ≤ nth xs j ∧ nth xs j ≤ 9223372036854775807) (hcap : ∀ p c, v = .slice p n c → n ≤ c) :
    Calls Try.prog 29 #[v] w fun e w' => e = .returned (.string (bstr (tileLine n xs))) ∧ Ge w w' := by
  obtain ⟨p, cap, rfl, hc⟩ := hv.open
  have HV := Lib.hid hv
  have HC := Lib.hid hc
  have HBd := Lib.hid hb
  have HCap := Lib.hid hcap
  clear hv hc hb hcap
  by_cases hB : tileB n xs = true
  · obtain ⟨h0, h12, hsq, _⟩ : tileP n xs := by
      unfold tileB at hB
      split at hB
      · assumption
      · cases hB
    have HOK : Hid (∀ i, i < n → okSq xs i) := fun i hi => (hsq i hi).1
    obtain ⟨r0, r1⟩ := right_bd n (fun i hi => HOK.out i hi)
    obtain ⟨l0, l1⟩ := low_bd n (fun i hi => HOK.out i hi)
    have HF := Lib.hid (tileLine_t hB)
    have HW := widthQ_t hB
    have HH := heightQ_t hB
    have HE : Hid (bstr (fmtInt (rightSq xs n)) ++ (⟨#[32, 120, 32]⟩ : ByteArray) ++ bstr (fmtInt (lowSq xs n)) = bstr (tilePart n xs 0)) := by
      show _ = _
      rw [show (⟨#[32, 120, 32]⟩ : ByteArray) = bstr [32, 120, 32] from rfl, bstr_append, bstr_append]
      simp [tilePart, sqTxts, Lib.joinTail]
    have z1 : (bstr (fmtInt (rightSq xs n))).size ≤ 22 := by rw [bstr_size]; exact fmtInt_length _
    have z2 : (bstr (fmtInt (lowSq xs n))).size ≤ 22 := by rw [bstr_size]; exact fmtInt_length _
    have z3 : ¬ (9223372036854775807 < (bstr (fmtInt (rightSq xs n))).size + 3) := by omega
    have z4 : ¬ (9223372036854775807 < (bstr (fmtInt (rightSq xs n))).size + 3 + (bstr (fmtInt (lowSq xs n))).size) := by omega
    clear hsq
    go_enter Try.func29, Try.ntmps29
    go_wp2_with (first
      | (go_at_call 21; ((with_reducible refine (sTilingOk _ n xs _ HV.out hm HBd.out HCap.out).mono ?_); rintro e w1 ⟨rfl, g1⟩))
      | (go_at_call 27; ((with_reducible refine (sWidthOf _ n xs _ (HV.out.ge g1) hm HBd.out HCap.out).mono ?_); rintro e w2 ⟨rfl, g2⟩; rw [HW]))
      | (go_at_call 25; ((with_reducible refine (sHeightOf _ n xs _ (HV.out.ge GH) hm HBd.out HCap.out).mono ?_); rintro e w3 ⟨rfl, g3⟩; rw [HH]; have GH := GH.trans g3))
      | (go_at_call 72; ((with_reducible refine (sFormatInt _ _ (by omega) (by omega)).mono ?_); rintro e w' ⟨rfl, hb⟩; (first | have GH := GH.trans hb | have GH := g1.trans (g2.trans hb)))))
    go_loopw [3, 19] (fun s i wr => ∃ k : Nat, k ≤ n ∧ i = .int .i64 k ∧ s = .string (bstr (tilePart n xs k)) ∧ Ge w wr) (fun _ i _ => n - (intOf i).toNat)
    case atStart => exact ⟨0, Nat.zero_le _, rfl, congrArg _ HE.out, by (repeat (first | with_reducible exact Ge.refl _ | assumption | with_reducible refine Ge.drew ?_ | with_reducible refine Ge.drewN ?_ _ | with_reducible refine Ge.alloc ?_ _ | (with_reducible refine Ge.setCell ?_ (by first | (simp; done) | omega | (simp; omega)) _) | with_reducible refine Ge.trans ?_ (by assumption)))⟩
    case round =>
      obtain ⟨k, hk, rfl, rfl, hg⟩ := hrel
      by_cases hlt : k < n
      · obtain ⟨b, o, rfl, x0, x1, x2⟩ := three_cells HC.out hlt
        have y0 := hg.keep x0
        have y1 := hg.keep x1
        have y2 := hg.keep x2
        clear x0 x1 x2
        change wr.cell? _ = some (.int .i64 (sx xs k)) at y0
        change wr.cell? _ = some (.int .i64 (sy xs k)) at y1
        change wr.cell? _ = some (.int .i64 (ss xs k)) at y2
        obtain ⟨q0, q1, q2, q3, q4, q5⟩ := HOK.out k hlt
        have HS : Hid (bstr (tilePart n xs k) ++ (⟨#[32]⟩ : ByteArray) ++ bstr (squareTxt (sx xs k) (sy xs k) (ss xs k)) = bstr (tilePart n xs (k + 1))) := by
          show _ = _
          rw [tilePart_succ, show (⟨#[32]⟩ : ByteArray) = bstr [32] from rfl, bstr_append, bstr_append]; rfl
        have z1 : (bstr (tilePart n xs k)).size ≤ 47 + 69 * k := by rw [bstr_size]; exact tilePart_le _ _ _
        have z2 : (bstr (squareTxt (sx xs k) (sy xs k) (ss xs k))).size ≤ 68 := by rw [bstr_size]; exact squareTxt_le _ _ _
        have z3 : ¬ (9223372036854775807 < (bstr (tilePart n xs k)).size + 1) := by omega
        have z4 : ¬ (9223372036854775807 < (bstr (tilePart n xs k)).size + 1 + (bstr (squareTxt (sx xs k) (sy xs k) (ss xs k))).size) := by omega
        generalize sx xs k = X at *
        generalize sy xs k = Y at *
        generalize ss xs k = Z at *
        go_wp2_with ((go_at_call 73; ((with_reducible refine (sFormatSquare _ _ _ _ (by omega) (by omega) (by omega)).mono ?_); rintro e w5 ⟨rfl, g5⟩; have G5 : Ge w w5 := Ge.trans (Ge.alloc hg _) g5)))
        go_roundw
        case rel => exact ⟨k + 1, by omega, by go_num, congrArg _ HS.out, G5⟩
        case measure => simp [intOf]; omega
      · have hkn : k = n := by omega
        subst hkn
        go_wp2_with fail
        go_ret
        exact ⟨ret_str (by rw [HF.out]), by (repeat (first | with_reducible exact Ge.refl _ | assumption | with_reducible refine Ge.drew ?_ | with_reducible refine Ge.drewN ?_ _ | with_reducible refine Ge.alloc ?_ _ | (with_reducible refine Ge.setCell ?_ (by first | (simp; done) | omega | (simp; omega)) _) | with_reducible refine Ge.trans ?_ (by assumption)))⟩
  · have hB : tileB n xs = false := by simpa using hB
    have HF := Lib.hid (tileLine_f hB)
    go_enter Try.func29, Try.ntmps29
    go_wp2_with ((go_at_call 21; ((with_reducible refine (sTilingOk _ n xs _ HV.out hm HBd.out HCap.out).mono ?_); rintro e w1 ⟨rfl, g1⟩)))
    go_ret
    exact ⟨ret_str (by rw [HF.out]), by (repeat (first | with_reducible exact Ge.refl _ | assumption | with_reducible refine Ge.drew ?_ | with_reducible refine Ge.drewN ?_ _ | with_reducible refine Ge.alloc ?_ _ | (with_reducible refine Ge.setCell ?_ (by first | (simp; done) | omega | (simp; omega)) _) | with_reducible refine Ge.trans ?_ (by assumption)))⟩
end Go.Proofs.Ytndbdbcbnipmaaa
