/- ParseInt of spec. No condition. -/
import Derived.Test.YtppabikbepdobaaWParse
namespace Go.Proofs.Ytppabikbepdobaa
set_option maxRecDepth 100000
open Go.ChangeShapes Go.WideShapes Go.ChangeAt Go.RowKit Go.Joins

theorem bstr_extract (l : List UInt8) (i j : Nat) : (bstr l).extract i j = bstr ((l.drop i).take (j - i)) := by
  apply ByteArray.ext
  simp [bstr]
theorem tail_drop {s : List UInt8} (hl : 0 < s.length) (h : bnth s 0 = 45) : s.drop 1 = tailP s := by
  cases s with
  | nil => simp at hl
  | cons c s =>
    simp [bnth] at h
    subst h; rfl
theorem over_none {s t : List UInt8} (ht : t = tailP s) (hd : ∀ c ∈ t, isDig c) {k : Nat} (hk : k ≤ t.length) (h : 9223372036854775808 < dval (t.take k)) : pv s = 0 ∧ pb s = false :=
  p_none (fun m hm e => by
    obtain ⟨_, _, r1, r2⟩ := read_back hm e
    rw [← ht] at r1 r2
    unfold in64 at hm
    have h1 := dval_mono t hd k (t.length - k) (by omega)
    rw [show k + (t.length - k) = t.length by omega, List.take_length] at h1
    by_cases hl : t.length = s.length
    · have := r1 hl; omega
    · have := r2 hl; omega)
theorem tdiv_test (V d : Int) (h0 : 0 ≤ d) (h9 : d ≤ 9) : -V < (-9223372036854775808 + d).tdiv 10 ↔ 9223372036854775808 < 10 * V + d := by
  have e : (-9223372036854775808 + d).tdiv 10 = -((9223372036854775808 - d) / 10) := by
    rw [show (-9223372036854775808 + d) = -(9223372036854775808 - d) by omega, Int.neg_tdiv, Int.tdiv_eq_ediv_of_nonneg (by omega)]
  rw [e]; omega

set_option maxHeartbeats 3200000 in
theorem sParseInt_neg (s t : List UInt8) (w : World) (hm : s.length ≤ 1048576) (ht : t = tailP s) (hs : s.length = t.length + 1) (h0 : bnth s 0 = 45) :
    Calls Try.prog 105 #[.string (bstr s)] w fun e w' => e = .returned (.tuple #[.int .i64 (pv s), .bool (pb s)]) ∧ Ge w w' := by
  have htl := tailP_le s
  have hsz : (bstr s).size = s.length := bstr_size s
  have hst : (bstr t).size = t.length := bstr_size _
  rw [← ht] at htl
  have HTt := Lib.hid ht
  clear ht
  obtain ⟨n, hn⟩ : ∃ n, t.length = n := ⟨_, rfl⟩
  have HN := Lib.hid hn
  rw [hn] at htl hst
  rw [hn] at hs
  have hex : (bstr s).extract 1 (n + 1) = bstr t := by
    rw [bstr_extract, HTt.out, tail_drop (by omega) h0, ← HTt.out, ← HN.out]
    simp
  clear hn
  have hx0 := bstr_at s 0 (by omega)
  rw [h0] at hx0
  have hl0 : (0 : Int) < (s.length : Int) := by omega
  cases hd : digsB t with
  | false =>
    have HF := Lib.hid (p_bad (s := s) (Or.inl (fun h => by rw [← HTt.out, ← digsB_iff, hd] at h; cases h)))
    go_enter Try.func105, Try.ntmps105
    go_wp2_with (((go_at_call 132; ((with_reducible refine (sIsDigits t _ (by rw [HN.out]; omega)).mono ?_); rintro e w' ⟨rfl, rfl⟩)); rw [hd]))
    exact bodyPost_ret (v := .tuple #[.int .i64 (0), .bool false]) (by simp [results, Try.results105, go_sem]) rfl ⟨ret_ib2 ⟨HF.out.1.symm, HF.out.2.symm⟩, by (repeat (first | with_reducible exact Ge.refl _ | assumption | with_reducible refine Ge.drew ?_ | with_reducible refine Ge.drewN ?_ _ | with_reducible refine Ge.alloc ?_ _ | (with_reducible refine Ge.setCell ?_ (by first | (simp; done) | omega | (simp; omega)) _) | with_reducible refine Ge.trans ?_ (by assumption)))⟩
  | true =>
    have hdp := digsB_iff.1 hd
    by_cases h19 : 19 < n
    · have HF := Lib.hid (p_bad (s := s) (Or.inr (by rw [← HTt.out, HN.out]; exact h19)))
      go_enter Try.func105, Try.ntmps105
      go_wp2_with (((go_at_call 132; ((with_reducible refine (sIsDigits t _ (by rw [HN.out]; omega)).mono ?_); rintro e w' ⟨rfl, rfl⟩)); rw [hd]))
      exact bodyPost_ret (v := .tuple #[.int .i64 (0), .bool false]) (by simp [results, Try.results105, go_sem]) rfl ⟨ret_ib2 ⟨HF.out.1.symm, HF.out.2.symm⟩, by (repeat (first | with_reducible exact Ge.refl _ | assumption | with_reducible refine Ge.drew ?_ | with_reducible refine Ge.drewN ?_ _ | with_reducible refine Ge.alloc ?_ _ | (with_reducible refine Ge.setCell ?_ (by first | (simp; done) | omega | (simp; omega)) _) | with_reducible refine Ge.trans ?_ (by assumption)))⟩
    · have HAt := Lib.hid (fun k h => bstr_at t k h)
      have HDp := Lib.hid hdp.2
      clear hdp
      go_enter Try.func105, Try.ntmps105
      go_wp2_with (((go_at_call 132; ((with_reducible refine (sIsDigits t _ (by rw [HN.out]; omega)).mono ?_); rintro e w' ⟨rfl, rfl⟩)); rw [hd]))
      go_loopw [6, 7] (fun x i wr => ∃ (k : Nat) (V : Int), k ≤ n ∧ i = .int .i64 k ∧ x = .int .i64 (-V) ∧ 0 ≤ V ∧ V ≤ 9223372036854775808 ∧ Hid (dval (t.take k) = V) ∧ Ge w wr) (fun _ i _ => n - (intOf i).toNat)
      case atStart => exact ⟨0, 0, Nat.zero_le _, rfl, rfl, by omega, by omega, rfl, Ge.refl _⟩
      case round =>
        obtain ⟨k, V, hk, rfl, rfl, V0, V1, HX, hg⟩ := hrel
        by_cases hlt : k < n
        · have hx := HAt.out k (by omega)
          have hkl : k < t.length := by rw [HN.out]; exact hlt
          have hdg : isDig (bnth t k) := HDp.out _ (by rw [bnth_eq t k hkl]; exact List.getElem_mem _)
          obtain ⟨c, hc⟩ : ∃ c : Nat, (bnth t k).toNat = c := ⟨_, rfl⟩
          unfold isDig at hdg
          rw [hc] at hdg
          obtain ⟨d0, d1⟩ := hdg
          have hdv := dval_take t k hkl
          rw [hc, HX.out] at hdv
          have HDV := Lib.hid hdv
          have htt := tdiv_test V ((c : Int) - 48) (by omega) (by omega)
          clear hdv
          by_cases hov : 9223372036854775808 < 10 * V + ((c : Int) - 48)
          · have HF := Lib.hid (over_none (s := s) (t := t) HTt.out HDp.out (k := k + 1) hkl (by rw [HDV.out]; exact hov))
            have hq := htt.2 hov
            clear htt
            go_wp2_with fail
            exact bodyPost_ret (v := .tuple #[.int .i64 (0), .bool false]) (by simp [results, Try.results105, go_sem]) rfl ⟨ret_ib2 ⟨HF.out.1.symm, HF.out.2.symm⟩, by (repeat (first | with_reducible exact Ge.refl _ | assumption | with_reducible refine Ge.drew ?_ | with_reducible refine Ge.drewN ?_ _ | with_reducible refine Ge.alloc ?_ _ | (with_reducible refine Ge.setCell ?_ (by first | (simp; done) | omega | (simp; omega)) _) | with_reducible refine Ge.trans ?_ (by assumption)))⟩
          · have hq : ¬ (-V < (-9223372036854775808 + ((c : Int) - 48)).tdiv 10) := fun h => hov (htt.1 h)
            clear htt
            go_wp2_with fail
            go_roundw
            case rel => exact ⟨k + 1, 10 * V + ((c : Int) - 48), by omega, by go_num, congrArg _ (by omega), by omega, by omega, HDV.out, hg⟩
            case measure => simp [intOf]; omega
        · have hkn : k = n := by omega
          subst hkn
          have htk : t.take k = t := by rw [← HN.out]; exact List.take_length
          have HY : Hid (-9223372036854775808 ≤ -V ∧ -V ≤ 9223372036854775807) := ⟨by omega, by omega⟩
          have HU : Hid (∀ m, in64 m → fmtInt m = s → -V = m) := fun m hm e => by
            obtain ⟨_, _, r1, r2⟩ := read_back hm e
            rw [← HTt.out, HN.out] at r1 r2
            rw [htk] at HX
            have hx := HX.out
            have := r2 (by omega); omega
          by_cases hE : fmtInt (-V) = s
          · have HF := Lib.hid (p_some (s := s) HY.out hE)
            have hE1 : bstr (fmtInt (-V)) = bstr s := by rw [hE]
            clear hE
            go_wp2_with (go_at_call 50; ((with_reducible refine (sFormatInt _ _ HY.out.1 HY.out.2).mono ?_); rintro e w' ⟨rfl, hb⟩))
            exact bodyPost_ret (v := .tuple #[.int .i64 (-V), .bool true]) (by simp [results, Try.results105, go_sem]) rfl ⟨ret_ib2 ⟨HF.out.1.symm, HF.out.2.symm⟩, by (repeat (first | with_reducible exact Ge.refl _ | assumption | with_reducible refine Ge.drew ?_ | with_reducible refine Ge.drewN ?_ _ | with_reducible refine Ge.alloc ?_ _ | (with_reducible refine Ge.setCell ?_ (by first | (simp; done) | omega | (simp; omega)) _) | with_reducible refine Ge.trans ?_ (by assumption)))⟩
          · have HF := Lib.hid (p_none (s := s) (fun m hm e => hE (by rw [HU.out m hm e]; exact e)))
            have hE1 := bstr_neq hE
            clear hE
            go_wp2_with (go_at_call 50; ((with_reducible refine (sFormatInt _ _ HY.out.1 HY.out.2).mono ?_); rintro e w' ⟨rfl, hb⟩))
            exact bodyPost_ret (v := .tuple #[.int .i64 (0), .bool false]) (by simp [results, Try.results105, go_sem]) rfl ⟨ret_ib2 ⟨HF.out.1.symm, HF.out.2.symm⟩, by (repeat (first | with_reducible exact Ge.refl _ | assumption | with_reducible refine Ge.drew ?_ | with_reducible refine Ge.drewN ?_ _ | with_reducible refine Ge.alloc ?_ _ | (with_reducible refine Ge.setCell ?_ (by first | (simp; done) | omega | (simp; omega)) _) | with_reducible refine Ge.trans ?_ (by assumption)))⟩

set_option maxHeartbeats 3200000 in
theorem sParseInt_pos (s : List UInt8) (w : World) (hm : s.length ≤ 1048576) (ht : s = tailP s) (h0 : 0 < s.length → ¬ bnth s 0 = 45) :
    Calls Try.prog 105 #[.string (bstr s)] w fun e w' => e = .returned (.tuple #[.int .i64 (pv s), .bool (pb s)]) ∧ Ge w w' := by
  have htl := tailP_le s
  have hsz : (bstr s).size = s.length := bstr_size s
  have hst : (bstr s).size = s.length := bstr_size _
  rw [← ht] at htl
  have HTt := Lib.hid ht
  clear ht
  obtain ⟨n, hn⟩ : ∃ n, s.length = n := ⟨_, rfl⟩
  have HN := Lib.hid hn
  rw [hn] at htl hst hsz hm h0
  by_cases hz : n = 0
  · have hd : digsB s = false := by
      have : s = [] := List.length_eq_zero_iff.1 (hn.trans hz)
      rw [this]; rfl
    have HF := Lib.hid (p_bad (s := s) (Or.inl (fun h => by rw [← HTt.out, ← digsB_iff, hd] at h; cases h)))
    clear hn
    subst hz
    go_enter Try.func105, Try.ntmps105
    go_wp2_with (((go_at_call 132; ((with_reducible refine (sIsDigits s _ (by rw [HN.out]; omega)).mono ?_); rintro e w' ⟨rfl, rfl⟩)); rw [hd]))
    exact bodyPost_ret (v := .tuple #[.int .i64 (0), .bool false]) (by simp [results, Try.results105, go_sem]) rfl ⟨ret_ib2 ⟨HF.out.1.symm, HF.out.2.symm⟩, by (repeat (first | with_reducible exact Ge.refl _ | assumption | with_reducible refine Ge.drew ?_ | with_reducible refine Ge.drewN ?_ _ | with_reducible refine Ge.alloc ?_ _ | (with_reducible refine Ge.setCell ?_ (by first | (simp; done) | omega | (simp; omega)) _) | with_reducible refine Ge.trans ?_ (by assumption)))⟩
  have hx0 := bstr_at s 0 (show 0 < (bstr s).size by rw [hsz]; exact Nat.pos_of_ne_zero hz)
  have hc0 := h0 (by omega)
  obtain ⟨c0, hcc⟩ : ∃ c0 : Nat, (bnth s 0).toNat = c0 := ⟨_, rfl⟩
  have tc : ((c0 : Int) == 45) = false := by
    simp
    intro e
    have e' : c0 = 45 := by omega
    exact hc0 (UInt8.toNat_inj.1 (hcc.trans e'))
  have hl0 : (0 : Int) < (n : Int) := by omega
  clear hc0 h0 hn
  cases hd : digsB s with
  | false =>
    have HF := Lib.hid (p_bad (s := s) (Or.inl (fun h => by rw [← HTt.out, ← digsB_iff, hd] at h; cases h)))
    go_enter Try.func105, Try.ntmps105
    go_wp2_with (((go_at_call 132; ((with_reducible refine (sIsDigits s _ (by rw [HN.out]; omega)).mono ?_); rintro e w' ⟨rfl, rfl⟩)); rw [hd]))
    exact bodyPost_ret (v := .tuple #[.int .i64 (0), .bool false]) (by simp [results, Try.results105, go_sem]) rfl ⟨ret_ib2 ⟨HF.out.1.symm, HF.out.2.symm⟩, by (repeat (first | with_reducible exact Ge.refl _ | assumption | with_reducible refine Ge.drew ?_ | with_reducible refine Ge.drewN ?_ _ | with_reducible refine Ge.alloc ?_ _ | (with_reducible refine Ge.setCell ?_ (by first | (simp; done) | omega | (simp; omega)) _) | with_reducible refine Ge.trans ?_ (by assumption)))⟩
  | true =>
    have hdp := digsB_iff.1 hd
    by_cases h19 : 19 < n
    · have HF := Lib.hid (p_bad (s := s) (Or.inr (by rw [← HTt.out, HN.out]; exact h19)))
      go_enter Try.func105, Try.ntmps105
      go_wp2_with (((go_at_call 132; ((with_reducible refine (sIsDigits s _ (by rw [HN.out]; omega)).mono ?_); rintro e w' ⟨rfl, rfl⟩)); rw [hd]))
      exact bodyPost_ret (v := .tuple #[.int .i64 (0), .bool false]) (by simp [results, Try.results105, go_sem]) rfl ⟨ret_ib2 ⟨HF.out.1.symm, HF.out.2.symm⟩, by (repeat (first | with_reducible exact Ge.refl _ | assumption | with_reducible refine Ge.drew ?_ | with_reducible refine Ge.drewN ?_ _ | with_reducible refine Ge.alloc ?_ _ | (with_reducible refine Ge.setCell ?_ (by first | (simp; done) | omega | (simp; omega)) _) | with_reducible refine Ge.trans ?_ (by assumption)))⟩
    · have HAt := Lib.hid (fun k h => bstr_at s k h)
      have HDp := Lib.hid hdp.2
      clear hdp
      go_enter Try.func105, Try.ntmps105
      go_wp2_with (((go_at_call 132; ((with_reducible refine (sIsDigits s _ (by rw [HN.out]; omega)).mono ?_); rintro e w' ⟨rfl, rfl⟩)); rw [hd]))
      go_loopw [6, 7] (fun x i wr => ∃ (k : Nat) (V : Int), k ≤ n ∧ i = .int .i64 k ∧ x = .int .i64 (-V) ∧ 0 ≤ V ∧ V ≤ 9223372036854775808 ∧ Hid (dval (s.take k) = V) ∧ Ge w wr) (fun _ i _ => n - (intOf i).toNat)
      case atStart => exact ⟨0, 0, Nat.zero_le _, rfl, rfl, by omega, by omega, rfl, Ge.refl _⟩
      case round =>
        obtain ⟨k, V, hk, rfl, rfl, V0, V1, HX, hg⟩ := hrel
        by_cases hlt : k < n
        · have hx := HAt.out k (by omega)
          have hkl : k < s.length := by rw [HN.out]; exact hlt
          have hdg : isDig (bnth s k) := HDp.out _ (by rw [bnth_eq s k hkl]; exact List.getElem_mem _)
          obtain ⟨c, hc⟩ : ∃ c : Nat, (bnth s k).toNat = c := ⟨_, rfl⟩
          unfold isDig at hdg
          rw [hc] at hdg
          obtain ⟨d0, d1⟩ := hdg
          have hdv := dval_take s k hkl
          rw [hc, HX.out] at hdv
          have HDV := Lib.hid hdv
          have htt := tdiv_test V ((c : Int) - 48) (by omega) (by omega)
          clear hdv
          by_cases hov : 9223372036854775808 < 10 * V + ((c : Int) - 48)
          · have HF := Lib.hid (over_none (s := s) (t := s) HTt.out HDp.out (k := k + 1) hkl (by rw [HDV.out]; exact hov))
            have hq := htt.2 hov
            clear htt
            go_wp2_with fail
            exact bodyPost_ret (v := .tuple #[.int .i64 (0), .bool false]) (by simp [results, Try.results105, go_sem]) rfl ⟨ret_ib2 ⟨HF.out.1.symm, HF.out.2.symm⟩, by (repeat (first | with_reducible exact Ge.refl _ | assumption | with_reducible refine Ge.drew ?_ | with_reducible refine Ge.drewN ?_ _ | with_reducible refine Ge.alloc ?_ _ | (with_reducible refine Ge.setCell ?_ (by first | (simp; done) | omega | (simp; omega)) _) | with_reducible refine Ge.trans ?_ (by assumption)))⟩
          · have hq : ¬ (-V < (-9223372036854775808 + ((c : Int) - 48)).tdiv 10) := fun h => hov (htt.1 h)
            clear htt
            go_wp2_with fail
            go_roundw
            case rel => exact ⟨k + 1, 10 * V + ((c : Int) - 48), by omega, by go_num, congrArg _ (by omega), by omega, by omega, HDV.out, hg⟩
            case measure => simp [intOf]; omega
        · have hkn : k = n := by omega
          subst hkn
          have htk : s.take k = s := by rw [← HN.out]; exact List.take_length
          by_cases hmin : V = 9223372036854775808
          · have HF := Lib.hid (p_none (s := s) (fun m hm e => by
              obtain ⟨_, _, r1, r2⟩ := read_back hm e
              rw [← HTt.out, HN.out] at r1 r2
              rw [htk] at HX
              have hx := HX.out
              have := r1 (by omega)
              unfold in64 at hm; omega))
            subst hmin
            go_wp2_with fail
            exact bodyPost_ret (v := .tuple #[.int .i64 (0), .bool false]) (by simp [results, Try.results105, go_sem]) rfl ⟨ret_ib2 ⟨HF.out.1.symm, HF.out.2.symm⟩, by (repeat (first | with_reducible exact Ge.refl _ | assumption | with_reducible refine Ge.drew ?_ | with_reducible refine Ge.drewN ?_ _ | with_reducible refine Ge.alloc ?_ _ | (with_reducible refine Ge.setCell ?_ (by first | (simp; done) | omega | (simp; omega)) _) | with_reducible refine Ge.trans ?_ (by assumption)))⟩
          · have tm : ((-V) == -9223372036854775808) = false := by simp; omega
            have HY : Hid (-9223372036854775808 ≤ V ∧ V ≤ 9223372036854775807) := ⟨by omega, by omega⟩
            have HU : Hid (∀ m, in64 m → fmtInt m = s → V = m) := fun m hm e => by
              obtain ⟨_, _, r1, r2⟩ := read_back hm e
              rw [← HTt.out, HN.out] at r1 r2
              rw [htk] at HX
              have hx := HX.out
              have := r1 (by omega); omega
            by_cases hE : fmtInt (V) = s
            · have HF := Lib.hid (p_some (s := s) HY.out hE)
              have hE1 : bstr (fmtInt (V)) = bstr s := by rw [hE]
              clear hE
              go_wp2_with (go_at_call 50; ((with_reducible refine (sFormatInt _ _ HY.out.1 HY.out.2).mono ?_); rintro e w' ⟨rfl, hb⟩))
              exact bodyPost_ret (v := .tuple #[.int .i64 (V), .bool true]) (by simp [results, Try.results105, go_sem]) rfl ⟨ret_ib2 ⟨HF.out.1.symm, HF.out.2.symm⟩, by (repeat (first | with_reducible exact Ge.refl _ | assumption | with_reducible refine Ge.drew ?_ | with_reducible refine Ge.drewN ?_ _ | with_reducible refine Ge.alloc ?_ _ | (with_reducible refine Ge.setCell ?_ (by first | (simp; done) | omega | (simp; omega)) _) | with_reducible refine Ge.trans ?_ (by assumption)))⟩
            · have HF := Lib.hid (p_none (s := s) (fun m hm e => hE (by rw [HU.out m hm e]; exact e)))
              have hE1 := bstr_neq hE
              clear hE
              go_wp2_with (go_at_call 50; ((with_reducible refine (sFormatInt _ _ HY.out.1 HY.out.2).mono ?_); rintro e w' ⟨rfl, hb⟩))
              exact bodyPost_ret (v := .tuple #[.int .i64 (0), .bool false]) (by simp [results, Try.results105, go_sem]) rfl ⟨ret_ib2 ⟨HF.out.1.symm, HF.out.2.symm⟩, by (repeat (first | with_reducible exact Ge.refl _ | assumption | with_reducible refine Ge.drew ?_ | with_reducible refine Ge.drewN ?_ _ | with_reducible refine Ge.alloc ?_ _ | (with_reducible refine Ge.setCell ?_ (by first | (simp; done) | omega | (simp; omega)) _) | with_reducible refine Ge.trans ?_ (by assumption)))⟩

theorem sParseInt (s : List UInt8) (w : World) (hm : s.length ≤ 1048576) :
    Calls Try.prog 105 #[.string (bstr s)] w fun e w' => e = .returned (.tuple #[.int .i64 (pv s), .bool (pb s)]) ∧ Ge w w' := by
  cases s with
  | nil => exact sParseInt_pos [] w hm rfl (fun h => by simp at h)
  | cons c t =>
    by_cases h : c = 45
    · subst h
      exact sParseInt_neg (45 :: t) t w hm rfl rfl rfl
    · refine sParseInt_pos (c :: t) w hm (tailP_other (fun t' ht => h (by simpa using (List.cons.inj ht).1))).symm (fun _ => ?_)
      simpa [bnth] using h
end Go.Proofs.Ytppabikbepdobaa
