/- IsDigits, ParseInt. No condition. -/
import Derived.Test.YtagiecajffhnpaaGreatWStr
import Derived.Test.YtagiecajffhnpaaGreatWFmt
import Derived.Test.YtagiecajffhnpaaGreatPlParse
import Derived.Test.YtagiecajffhnpaaGreatWLaw
namespace Go.Proofs.YtagiecajffhnpaaGreat
set_option maxRecDepth 100000
open Go.ChangeShapes Go.WideShapes Go.ChangeAt Go.RowKit Go.Joins

theorem bstr_at (t : List UInt8) (k : Nat) (h : k < (bstr t).size) : (bstr t)[k]'h = bnth t k := by
  have h' : k < t.length := by rwa [bstr_size] at h
  rw [bnth_eq t k h']
  simp [bstr, ByteArray.getElem_eq_getElem_data]
def digsB (t : List UInt8) : Bool := !t.isEmpty && t.all fun c => decide (isDig c)
theorem digsB_t {t : List UInt8} (h0 : 0 < t.length) (h : ∀ j, j < t.length → isDig (bnth t j)) : digsB t = true := by
  cases t with
  | nil => simp at h0
  | cons x t =>
    simp only [digsB, Bool.and_eq_true, List.all_eq_true, decide_eq_true_eq]
    refine ⟨rfl, fun c hc => ?_⟩
    obtain ⟨j, hj, e⟩ := List.getElem_of_mem hc
    rw [← e, ← bnth_eq _ j hj]; exact h j hj
theorem digsB_f {t : List UInt8} {k : Nat} (hk : k < t.length) (h : ¬ isDig (bnth t k)) : digsB t = false := by
  cases c : digsB t with
  | false => rfl
  | true =>
    simp only [digsB, Bool.and_eq_true, List.all_eq_true, decide_eq_true_eq] at c
    exact absurd (c.2 (bnth t k) (by rw [bnth_eq t k hk]; exact List.getElem_mem _)) h
theorem digsB_iff {t : List UInt8} : digsB t = true ↔ digsP t := by
  simp [digsB, digsP]
theorem dig_step {t : List UInt8} {k : Nat} (h : Hid (∀ j, j < k → isDig (bnth t j))) (hk : isDig (bnth t k)) : Hid (∀ j, j < k + 1 → isDig (bnth t j)) := fun j hj => by
  by_cases e : j = k
  · subst e; exact hk
  · exact h.out j (by omega)
theorem loop_ne2 (bs : ByteArray) : ∀ (d i : Nat) (r : List UInt8), bs.size - i = d → r ≠ [] → ByteArray.toList.loop bs i r ≠ [] := by
  intro d
  induction d with
  | zero =>
    intro i r hd hr
    rw [ByteArray.toList.loop, if_neg (by omega)]
    simpa using hr
  | succ d ih =>
    intro i r hd hr
    rw [ByteArray.toList.loop, if_pos (by omega)]
    exact ih (i + 1) _ (by omega) (by simp)
theorem bstr_nil_ne {l : List UInt8} (h : 0 < l.length) : (bstr l).toList.isEmpty = false := by
  have hs : 0 < (bstr l).size := by rw [bstr_size]; exact h
  have : (bstr l).toList ≠ [] := by
    unfold ByteArray.toList
    rw [ByteArray.toList.loop, if_pos hs]
    exact loop_ne2 _ _ _ _ rfl (by simp)
  cases e : (bstr l).toList with
  | nil => exact absurd e this
  | cons => rfl

set_option maxHeartbeats 800000 in
theorem iIsDigits (t : List UInt8) (w : World) (hm : t.length ≤ 9223372036854775807) :
    Calls Tryz.prog 68 #[.string (bstr t)] w fun e w' => e = .returned (.bool (digsB t)) ∧ w = w' := by
  obtain ⟨n, hn⟩ : ∃ n, t.length = n := ⟨_, rfl⟩
  have hs : (bstr t).size = n := by rw [bstr_size, hn]
  have HN := Lib.hid hn
  have HAt := Lib.hid (fun k h => bstr_at t k h)
  rw [hn] at hm
  clear hn
  go_enter Tryz.func68, Tryz.ntmps68
  go_wp2_with fail
  go_loop [6] (fun i => ∃ k : Nat, k ≤ n ∧ i = .int .i64 k ∧ Hid (∀ j, j < k → isDig (bnth t j))) (fun i => n - (intOf i).toNat)
  case atStart => exact ⟨0, Nat.zero_le _, rfl, fun j hj => by omega⟩
  case round =>
    obtain ⟨k, hk, rfl, HA⟩ := hrel
    by_cases hlt : k < n
    · have hx := HAt.out k (by omega)
      obtain ⟨c, hc⟩ : ∃ c : Nat, (bnth t k).toNat = c := ⟨_, rfl⟩
      by_cases h1 : c < 48
      · have HF : Hid (digsB t = false) := digsB_f (k := k) (by rw [HN.out]; exact hlt) (by unfold isDig; omega)
        go_wp2_with fail
        go_ret
        exact ⟨ret_bool HF.out.symm, rfl⟩
      · by_cases h2 : 57 < c
        · have HF : Hid (digsB t = false) := digsB_f (k := k) (by rw [HN.out]; exact hlt) (by unfold isDig; omega)
          go_wp2_with fail
          go_ret
          exact ⟨ret_bool HF.out.symm, rfl⟩
        · have HD := dig_step HA (show isDig (bnth t k) by unfold isDig; omega)
          go_wp2_with fail
          go_round
          case rel => exact ⟨k + 1, by omega, by go_num, HD.out⟩
          case measure => simp [intOf]; omega
    · have hkn : k = n := by omega
      subst hkn
      by_cases h0 : k = 0
      · have HF : Hid (digsB t = false) := by
          have : t = [] := List.length_eq_zero_iff.1 (HN.out.trans h0)
          rw [this]; exact rfl
        have ht : bstr t = (⟨#[]⟩ : ByteArray) := by
          have : t = [] := List.length_eq_zero_iff.1 (HN.out.trans h0)
          rw [this]; rfl
        go_wp2_with fail
        go_ret
        exact ⟨ret_bool HF.out.symm, rfl⟩
      · have HF : Hid (digsB t = true) := digsB_t (by rw [HN.out]; omega) (by rw [HN.out]; exact HA.out)
        have hne := bstr_nil_ne (l := t) (by rw [HN.out]; omega)
        have hk0 : (0 : Int) < (k : Int) := by omega
        go_wp2_with fail
        go_ret
        first
          | exact ⟨ret_bool HF.out.symm, rfl⟩
          | exact ⟨ret_bool (by rw [HF.out]; simp; omega), rfl⟩

theorem loop_all (bs : ByteArray) : ∀ (d i : Nat) (r : List UInt8), bs.size - i = d → ByteArray.toList.loop bs i r = r.reverse ++ bs.data.toList.drop i := by
  intro d
  induction d with
  | zero =>
    intro i r hd
    have hl : bs.data.toList.length = bs.size := Array.length_toList
    rw [ByteArray.toList.loop, if_neg (by omega), List.drop_eq_nil_of_le (by omega)]
    simp
  | succ d ih =>
    intro i r hd
    have hi : i < bs.data.toList.length := by
      have : bs.data.toList.length = bs.size := Array.length_toList
      omega
    rw [ByteArray.toList.loop, if_pos (by omega), ih (i + 1) _ (by omega), List.drop_eq_getElem_cons hi]
    have hg : bs.get! i = bs.data.toList[i] := by
      cases bs with
      | mk a =>
        have ha : i < a.size := by simpa using hi
        simp [ByteArray.get!, ha]
    rw [hg]; simp
theorem bstr_list (l : List UInt8) : (bstr l).toList = l := by
  unfold ByteArray.toList
  rw [loop_all _ _ _ _ rfl]
  simp [bstr]
theorem bstr_neq {a b : List UInt8} (h : ¬ a = b) : ((bstr a).toList == (bstr b).toList) = false := by
  rw [bstr_list, bstr_list]; simpa using h
theorem trim_tail (s : List UInt8) : Lib.trimPrefix s [45] = tailP s := by
  cases s with
  | nil => rfl
  | cons c s =>
    by_cases h : c = 45
    · subst h; simp [Lib.trimPrefix, Lib.hasPrefix, tailP]
    · rw [tailP_other (fun t ht => h (by simpa using (List.cons.inj ht).1))]
      simp [Lib.trimPrefix, Lib.hasPrefix]; intro e; exact absurd e.symm h
theorem tailP_le (s : List UInt8) : (tailP s).length ≤ s.length := by
  unfold tailP
  split <;> simp
theorem trimP (s : List UInt8) (w : World) : Calls Tryz.prog 67 #[.string (bstr s), .string ⟨#[45]⟩] w fun e w' => e = .returned (.string (bstr (tailP s))) ∧ w = w' :=
  (Tryz.strings_TrimPrefix (bstr s) ⟨#[45]⟩ w).mono fun e w' ⟨he, hw⟩ => ⟨by rw [he, bstr_data, trim_tail]; rfl, hw.symm⟩
theorem wrap_dig (V d : Int) : IntKind.i64.wrap (IntKind.i64.wrap (10 * IntKind.i64.wrap (-V)) - d) = IntKind.i64.wrap (-(10 * V + d)) := by
  rw [IntKind.wrap_i64, IntKind.wrap_i64, IntKind.wrap_i64, IntKind.wrap_i64]; omega
theorem w64 (x : Int) : wrap64 x = IntKind.i64.wrap x := by unfold wrap64; rw [IntKind.wrap_i64]
theorem wrap_in (x : Int) : -9223372036854775808 ≤ IntKind.i64.wrap x ∧ IntKind.i64.wrap x ≤ 9223372036854775807 := by
  rw [IntKind.wrap_i64]; omega
theorem wrap_back {D m : Int} (hm : in64 m) (h : D = m) : IntKind.i64.wrap (-(IntKind.i64.wrap (-D))) = m := by
  subst h; unfold in64 at hm
  rw [IntKind.wrap_i64, IntKind.wrap_i64]; omega
theorem wrap_back2 {D m : Int} (hm : in64 m) (h : D = -m) : IntKind.i64.wrap (-D) = m := by
  subst h; unfold in64 at hm
  rw [IntKind.wrap_i64]; omega
theorem ret_ib2 {a b : Int} {x y : Bool} (h : a = b ∧ x = y) : Ending.returned (.tuple #[.int .i64 a, .bool x]) = .returned (.tuple #[.int .i64 b, .bool y]) := by rw [h.1, h.2]

set_option maxHeartbeats 1600000 in
theorem iParseInt (s : List UInt8) (w : World) (hm : s.length ≤ 1048576) :
    Calls Tryz.prog 33 #[.string (bstr s)] w fun e w' => e = .returned (.tuple #[.int .i64 (pv s), .bool (pb s)]) ∧ w = w' := by
  have htl := tailP_le s
  have hsz : (bstr s).size = s.length := bstr_size s
  have hst : (bstr (tailP s)).size = (tailP s).length := bstr_size _
  have HTr := Lib.hid (fun w => trimP s w)
  obtain ⟨t, ht⟩ : ∃ t, t = tailP s := ⟨_, rfl⟩
  rw [← ht] at htl hst HTr
  have HTt := Lib.hid ht
  clear ht
  cases hd : digsB t with
  | false =>
    have HF := Lib.hid (p_bad (s := s) (Or.inl (fun h => by rw [← HTt.out, ← digsB_iff, hd] at h; cases h)))
    go_enter Tryz.func33, Tryz.ntmps33
    go_wp2_with (first | (go_at_call 67; ((with_reducible refine (HTr.out _).mono ?_); rintro e w' ⟨rfl, rfl⟩)) | ((go_at_call 68; ((with_reducible refine (iIsDigits t _ (by omega)).mono ?_); rintro e w' ⟨rfl, rfl⟩)); rw [hd]))
    exact bodyPost_ret (v := .tuple #[.int .i64 0, .bool false]) (by simp [results, Tryz.results33, go_sem]) rfl ⟨ret_ib2 ⟨HF.out.1.symm, HF.out.2.symm⟩, rfl⟩
  | true =>
    have hdp := digsB_iff.1 hd
    by_cases h19 : 19 < t.length
    · have HF := Lib.hid (p_bad (s := s) (Or.inr (by rw [← HTt.out]; exact h19)))
      go_enter Tryz.func33, Tryz.ntmps33
      go_wp2_with (first | (go_at_call 67; ((with_reducible refine (HTr.out _).mono ?_); rintro e w' ⟨rfl, rfl⟩)) | (go_at_call 68; ((with_reducible refine (iIsDigits t _ (by omega)).mono ?_); rintro e w' ⟨rfl, rfl⟩)); rw [hd])
      exact bodyPost_ret (v := .tuple #[.int .i64 0, .bool false]) (by simp [results, Tryz.results33, go_sem]) rfl ⟨ret_ib2 ⟨HF.out.1.symm, HF.out.2.symm⟩, rfl⟩
    · have HAt := Lib.hid (fun k h => bstr_at t k h)
      obtain ⟨n, hn⟩ : ∃ n, t.length = n := ⟨_, rfl⟩
      rw [hn] at htl hst h19
      have HDp := Lib.hid hdp.2
      have HN := Lib.hid hn
      clear hdp
      go_enter Tryz.func33, Tryz.ntmps33
      go_wp2_with (first | (go_at_call 67; ((with_reducible refine (HTr.out _).mono ?_); rintro e w' ⟨rfl, rfl⟩)) | (go_at_call 68; ((with_reducible refine (iIsDigits t _ (by omega)).mono ?_); rintro e w' ⟨rfl, rfl⟩)); rw [hd])
      go_loop [5, 19] (fun x i => ∃ k : Nat, k ≤ n ∧ i = .int .i64 k ∧ x = .int .i64 (IntKind.i64.wrap (-(dval (t.take k))))) (fun _ i => n - (intOf i).toNat)
      case atStart => exact ⟨0, Nat.zero_le _, rfl, by simp [dval]; rfl⟩
      case round =>
        obtain ⟨k, hk, rfl, rfl⟩ := hrel
        by_cases hlt : k < n
        · have hx := HAt.out k (by omega)
          have hkl : k < t.length := by rw [HN.out]; exact hlt
          have hdg : isDig (bnth t k) := HDp.out _ (by rw [bnth_eq t k hkl]; exact List.getElem_mem _)
          obtain ⟨c, hc⟩ : ∃ c : Nat, (bnth t k).toNat = c := ⟨_, rfl⟩
          unfold isDig at hdg
          rw [hc] at hdg
          obtain ⟨d0, d1⟩ := hdg
          have HS : Hid (IntKind.i64.wrap (IntKind.i64.wrap (10 * IntKind.i64.wrap (-(dval (t.take k)))) - ((c : Int) - 48)) = IntKind.i64.wrap (-(dval (t.take (k + 1))))) := by
            show _ = _
            rw [dval_take t k hkl, hc, wrap_dig]
          obtain ⟨X0, X1⟩ := wrap_in (-(dval (t.take k)))
          generalize IntKind.i64.wrap (-(dval (t.take k))) = X at *
          go_wp2_with fail
          go_round
          case rel => exact ⟨k + 1, by omega, by go_num, congrArg _ (by rw [w64, w64]; exact HS.out)⟩
          case measure => simp [intOf]; omega
        · have hkn : k = n := by omega
          subst hkn
          have htk : t.take k = t := by rw [← HN.out]; exact List.take_length
          obtain ⟨X0, X1⟩ := wrap_in (-(dval (t.take k)))
          rw [htk] at *
          obtain ⟨X, hX⟩ : ∃ X, IntKind.i64.wrap (-(dval t)) = X := ⟨_, rfl⟩
          rw [hX] at X0 X1 ⊢
          have HX := Lib.hid hX
          clear hX htk hn
          by_cases hlen : k = s.length
          · have tl : ((k : Int) == (s.length : Int)) = true := by simp [hlen]
            have HY : Hid (-9223372036854775808 ≤ wrap64 (-X) ∧ wrap64 (-X) ≤ 9223372036854775807) := by rw [w64]; exact wrap_in _
            have HU : Hid (∀ m, in64 m → fmtInt m = s → wrap64 (-X) = m) := fun m hm e => by
              obtain ⟨_, _, r1, r2⟩ := read_back hm e
              rw [← HTt.out, HN.out] at r1 r2
              rw [w64, ← HX.out]; exact wrap_back hm (r1 hlen)
            by_cases hE : fmtInt (wrap64 (-X)) = s
            · have HF := Lib.hid (p_some (s := s) HY.out hE)
              have hE1 : bstr (fmtInt (wrap64 (-X))) = bstr s := by rw [hE]
              clear hE
              go_wp2_with ((go_at_call 6; ((with_reducible refine (iFormatInt _ _ HY.out.1 HY.out.2).mono ?_); rintro e w' ⟨rfl, rfl⟩)))
              exact bodyPost_ret (v := .tuple #[.int .i64 (wrap64 (-X)), .bool true]) (by simp [results, Tryz.results33, go_sem]) rfl ⟨ret_ib2 ⟨HF.out.1.symm, HF.out.2.symm⟩, rfl⟩
            · have HF := Lib.hid (p_none (s := s) (fun m hm e => hE (by rw [HU.out m hm e]; exact e)))
              have hE1 := bstr_neq hE
              clear hE
              go_wp2_with ((go_at_call 6; ((with_reducible refine (iFormatInt _ _ HY.out.1 HY.out.2).mono ?_); rintro e w' ⟨rfl, rfl⟩)))
              exact bodyPost_ret (v := .tuple #[.int .i64 0, .bool false]) (by simp [results, Tryz.results33, go_sem]) rfl ⟨ret_ib2 ⟨HF.out.1.symm, HF.out.2.symm⟩, rfl⟩
          · have tl : ((k : Int) == (s.length : Int)) = false := by simp; omega
            have HY : Hid (-9223372036854775808 ≤ X ∧ X ≤ 9223372036854775807) := ⟨X0, X1⟩
            have HU : Hid (∀ m, in64 m → fmtInt m = s → X = m) := fun m hm e => by
              obtain ⟨_, _, r1, r2⟩ := read_back hm e
              rw [← HTt.out, HN.out] at r1 r2
              rw [← HX.out]; exact wrap_back2 hm (r2 hlen)
            by_cases hE : fmtInt (X) = s
            · have HF := Lib.hid (p_some (s := s) HY.out hE)
              have hE1 : bstr (fmtInt (X)) = bstr s := by rw [hE]
              clear hE
              go_wp2_with ((go_at_call 6; ((with_reducible refine (iFormatInt _ _ HY.out.1 HY.out.2).mono ?_); rintro e w' ⟨rfl, rfl⟩)))
              exact bodyPost_ret (v := .tuple #[.int .i64 (X), .bool true]) (by simp [results, Tryz.results33, go_sem]) rfl ⟨ret_ib2 ⟨HF.out.1.symm, HF.out.2.symm⟩, rfl⟩
            · have HF := Lib.hid (p_none (s := s) (fun m hm e => hE (by rw [HU.out m hm e]; exact e)))
              have hE1 := bstr_neq hE
              clear hE
              go_wp2_with ((go_at_call 6; ((with_reducible refine (iFormatInt _ _ HY.out.1 HY.out.2).mono ?_); rintro e w' ⟨rfl, rfl⟩)))
              exact bodyPost_ret (v := .tuple #[.int .i64 0, .bool false]) (by simp [results, Tryz.results33, go_sem]) rfl ⟨ret_ib2 ⟨HF.out.1.symm, HF.out.2.symm⟩, rfl⟩
end Go.Proofs.YtagiecajffhnpaaGreat
