/- FormatMatrix of impl and of spec. No condition. -/
import Derived.Test.YtmkmdcifakaflaaWMat
import Derived.Test.YtmkmdcifakaflaaWFormatRow
namespace Go.Proofs.Ytmkmdcifakaflaa
set_option maxRecDepth 100000
open Go.ChangeShapes Go.WideShapes Go.ChangeAt Go.RowKit Go.Joins

def rowT (R : List (Nat × List Int)) (j : Nat) : List UInt8 := rowLine (rlen R j) (rdat R j)
def mTxts (R : List (Nat × List Int)) (k : Nat) : List (List UInt8) := (List.range k).map (rowT R)
theorem mTxts_succ (R : List (Nat × List Int)) (k : Nat) : mTxts R (k + 1) = mTxts R k ++ [rowT R k] := by simp [mTxts, List.range_succ]
theorem mTxts_length (R : List (Nat × List Int)) (k : Nat) : (mTxts R k).length = k := by simp [mTxts]
theorem mTxts_join (R : List (Nat × List Int)) (k : Nat) (h : ∀ i, i < k → rlen R i ≤ 1048576) : (Lib.join (mTxts R k) [59]).length ≤ 48234501 * k := by
  have h := join_le [59] (mTxts R k) 48234500 (fun x hx => by
    simp only [mTxts, List.mem_map, List.mem_range] at hx
    obtain ⟨j, hj, rfl⟩ := hx
    have := rowLine_le (rlen R j) (rdat R j)
    have := h j hj
    unfold rowT; omega)
  rw [mTxts_length] at h
  simpa using h
def matOk (R : List (Nat × List Int)) (n : Nat) : Bool := (List.range n).all fun j => !(rowT R j).isEmpty
theorem matOk_t {R : List (Nat × List Int)} {n : Nat} (h : ∀ j, j < n → ¬ rowT R j = []) : matOk R n = true := by
  simp only [matOk, List.all_eq_true, List.mem_range]
  intro j hj
  have := h j hj
  cases e : rowT R j with
  | nil => exact absurd e this
  | cons => rfl
theorem matOk_f {R : List (Nat × List Int)} {n j : Nat} (hj : j < n) (h : rowT R j = []) : matOk R n = false := by
  cases c : matOk R n with
  | false => rfl
  | true =>
    simp only [matOk, List.all_eq_true, List.mem_range] at c
    have := c j hj
    rw [h] at this; cases this
def matLine (n : Nat) (R : List (Nat × List Int)) : List UInt8 := if matOk R n = true then Lib.join (mTxts R n) [59] else []
theorem matLine_f {n : Nat} {R : List (Nat × List Int)} (h : matOk R n = false) : (⟨#[]⟩ : ByteArray) = bstr (matLine n R) := by simp [matLine, h, bstr]
theorem matLine_t {n : Nat} {R : List (Nat × List Int)} (h : matOk R n = true) : bstr (matLine n R) = bstr (Lib.join (mTxts R n) [59]) := by simp [matLine, h]
theorem no_empty {R : List (Nat × List Int)} {k : Nat} (h : Hid (∀ j, j < k → ¬ rowT R j = [])) (hk : ¬ rowT R k = []) : Hid (∀ j, j < k + 1 → ¬ rowT R j = []) := fun j hj => by
  by_cases e : j = k
  · subst e; exact hk
  · exact h.out j (by omega)
theorem loop_ne (bs : ByteArray) : ∀ (d i : Nat) (r : List UInt8), bs.size - i = d → r ≠ [] → ByteArray.toList.loop bs i r ≠ [] := by
  intro d
  induction d with
  | zero =>
    intro i r hd hr
    rw [ByteArray.toList.loop, if_neg (by omega)]
    simpa using hr
  | succ d ih =>
    intro i r hd hr
    rw [ByteArray.toList.loop, if_pos (by omega)]
    exact ih (i + 1) _ (by omega) (by simp)
theorem bstr_ne {l : List UInt8} (h : ¬ l = []) : (bstr l).toList.isEmpty = false := by
  have hs : 0 < (bstr l).size := by rw [bstr_size]; exact List.length_pos_iff.2 h
  have : (bstr l).toList ≠ [] := by
    unfold ByteArray.toList
    rw [ByteArray.toList.loop, if_pos hs]
    exact loop_ne _ _ _ _ rfl (by simp)
  cases e : (bstr l).toList with
  | nil => exact absurd e this
  | cons => rfl
theorem bstr_eq {l : List UInt8} (h : l = []) : (bstr l).toList.isEmpty = true := by
  subst h
  unfold ByteArray.toList
  rw [ByteArray.toList.loop, if_neg (by simp [bstr_size])]
  rfl

set_option maxHeartbeats 1600000 in
theorem iFormatMatrix (v : Value) (n : Nat) (R : List (Nat × List Int)) (w : World) (hv : SlM w v n R) (hm : n ≤ 1048576) (hr : ∀ i, i < n → rlen R i ≤ 1048576) (hb : ∀ i, i < n → ∀ j, -9223372036854775808 ≤ nth (rdat R i) j ∧ nth (rdat R i) j ≤ 9223372036854775807) :
    Calls Try.prog 57 #[v] w fun e w' => e = .returned (.string (bstr (matLine n R))) ∧ Ge w w' := by
  obtain ⟨p, cap, rfl, hc⟩ := hv
  have HC := Lib.hid hc
  have HR := Lib.hid hr
  have HB := Lib.hid hb
  clear hc hr hb
  go_enter Try.func57, Try.ntmps57
  go_wp2_with fail
  go_loopw [3, 10] (fun s i wr => ∃ k : Nat, k ≤ n ∧ i = .int .i64 k ∧ wr.ownsRow w.heap.size 9 1 s (mTxts R k).length (scells (mTxts R k)) ∧ Hid (∀ j, j < k → ¬ rowT R j = []) ∧ Ge w wr) (fun _ i _ => n - (intOf i).toNat)
  case atStart => exact ⟨0, Nat.zero_le _, rfl, owns_lit0 _ _ _, fun j hj => by omega, by (repeat (first | with_reducible exact Ge.refl _ | assumption | with_reducible refine Ge.drew ?_ | with_reducible refine Ge.drewN ?_ _ | with_reducible refine Ge.alloc ?_ _ | (with_reducible refine Ge.setCell ?_ (by first | (simp; done) | omega | (simp; omega)) _) | with_reducible refine Ge.trans ?_ (by assumption)))⟩
  case round =>
    obtain ⟨k, hk, rfl, hown, HG, hg⟩ := hrel
    by_cases hlt : k < n
    · obtain ⟨b, o, pr, cr, rfl, x0, hs⟩ := HC.out k hlt
      have y0 := hg.keep x0
      clear x0
      have HF0 := Lib.hid (iFormatRow _ _ (rdat R k) wr (hs.ge hg) (HR.out k hlt) (HB.out k hlt))
      have e0 : rowLine (rlen R k) (rdat R k) = rowT R k := rfl
      rw [e0] at HF0
      clear hs e0
      by_cases c : rowT R k = []
      · have HF := Lib.hid (matLine_f (matOk_f hlt c))
        have tc := bstr_eq c
        clear c
        generalize rowT R k = T at *
        go_wp2_with ((go_at_call 52; ((with_reducible refine (HF0.out).mono ?_); rintro e w4 ⟨rfl, g4⟩)))
        go_ret
        exact ⟨ret_str HF.out, by (repeat (first | with_reducible exact Ge.refl _ | assumption | with_reducible refine Ge.drew ?_ | with_reducible refine Ge.drewN ?_ _ | with_reducible refine Ge.alloc ?_ _ | (with_reducible refine Ge.setCell ?_ (by first | (simp; done) | omega | (simp; omega)) _) | with_reducible refine Ge.trans ?_ (by assumption)))⟩
      · have HG2 := Lib.hid (no_empty HG c)
        have tc := bstr_ne c
        have HL : Hid ((mTxts R k).length < 1099511627776) := by
          show _ < _
          rw [mTxts_length]; omega
        have HS : Hid (mTxts R k ++ [rowT R k] = mTxts R (k + 1)) := (mTxts_succ _ _).symm
        clear c
        generalize mTxts R k = L at *
        generalize rowT R k = T at *
        go_wp2_with (first
          | (go_at_call 52; ((with_reducible refine (HF0.out).mono ?_); rintro e w4 ⟨rfl, g4⟩; have own2 := Ge.owns g4 hown; have G5 : Ge w w4 := Ge.trans hg g4; have Z5 := G5.size))
          | (at_builtin; refine ap_str rfl _ _ rfl w.heap.size u3 L rfl own2 _ rfl HL.out Z5 ?_; intro v' w6 own6 hm6))
        go_roundw
        case rel => exact ⟨k + 1, by omega, by go_num, by have := own6; rwa [HS.out] at this, HG2.out, G5.mine own2 (Nat.le_refl _) hm6⟩
        case measure => simp [intOf]; omega
    · have hkn : k = n := by omega
      subst hkn
      have hown' := hown
      rw [mTxts_length] at hown
      have hok := matOk_t HG.out
      have H1 : Hid ((mTxts R k).length ≤ 140737488355328) := by
        show _ ≤ _
        rw [mTxts_length]; omega
      have H2 : Hid ((Lib.join (mTxts R k) [59]).length ≤ 140737488355328) := by
        show _ ≤ _
        have := mTxts_join R k HR.out; omega
      obtain ⟨p3, c3, rfl⟩ := owns_form hown
      have HF := Lib.hid (matLine_t hok)
      have hJ : Calls Try.prog 75 #[.slice p3 k c3, .string ⟨#[59]⟩] wr fun en w' => en = .returned (.string (bstr (Lib.join (mTxts R k) [59]))) ∧ Ge wr w' := iJoin w.heap.size 9 (.slice p3 k c3) (mTxts R k) [59] _ hown' H1.out H2.out
      clear hown' hok
      go_wp2_with ((go_at_call 75; ((with_reducible refine (hJ).mono ?_); rintro e w5 ⟨rfl, g5⟩)))
      go_ret
      exact ⟨ret_str (by rw [HF.out]), by (repeat (first | with_reducible exact Ge.refl _ | assumption | with_reducible refine Ge.drew ?_ | with_reducible refine Ge.drewN ?_ _ | with_reducible refine Ge.alloc ?_ _ | (with_reducible refine Ge.setCell ?_ (by first | (simp; done) | omega | (simp; omega)) _) | with_reducible refine Ge.trans ?_ (by assumption)))⟩

set_option maxHeartbeats 1600000 in
theorem sFormatMatrix (v : Value) (n : Nat) (R : List (Nat × List Int)) (w : World) (hv : SlM w v n R) (hm : n ≤ 1048576) (hr : ∀ i, i < n → rlen R i ≤ 1048576) (hb : ∀ i, i < n → ∀ j, -9223372036854775808 ≤ nth (rdat R i) j ∧ nth (rdat R i) j ≤ 9223372036854775807) :
    Calls Try.prog 55 #[v] w fun e w' => e = .returned (.string (bstr (matLine n R))) ∧ Ge w w' := by
  obtain ⟨p, cap, rfl, hc⟩ := hv
  have HC := Lib.hid hc
  have HR := Lib.hid hr
  have HB := Lib.hid hb
  clear hc hr hb
  go_enter Try.func55, Try.ntmps55
  go_wp2_with fail
  go_loopw [3, 10] (fun s i wr => ∃ k : Nat, k ≤ n ∧ i = .int .i64 k ∧ wr.ownsRow w.heap.size 9 1 s (mTxts R k).length (scells (mTxts R k)) ∧ Hid (∀ j, j < k → ¬ rowT R j = []) ∧ Ge w wr) (fun _ i _ => n - (intOf i).toNat)
  case atStart => exact ⟨0, Nat.zero_le _, rfl, owns_lit0 _ _ _, fun j hj => by omega, by (repeat (first | with_reducible exact Ge.refl _ | assumption | with_reducible refine Ge.drew ?_ | with_reducible refine Ge.drewN ?_ _ | with_reducible refine Ge.alloc ?_ _ | (with_reducible refine Ge.setCell ?_ (by first | (simp; done) | omega | (simp; omega)) _) | with_reducible refine Ge.trans ?_ (by assumption)))⟩
  case round =>
    obtain ⟨k, hk, rfl, hown, HG, hg⟩ := hrel
    by_cases hlt : k < n
    · obtain ⟨b, o, pr, cr, rfl, x0, hs⟩ := HC.out k hlt
      have y0 := hg.keep x0
      clear x0
      have HF0 := Lib.hid (sFormatRow _ _ (rdat R k) wr (hs.ge hg) (HR.out k hlt) (HB.out k hlt))
      have e0 : rowLine (rlen R k) (rdat R k) = rowT R k := rfl
      rw [e0] at HF0
      clear hs e0
      by_cases c : rowT R k = []
      · have HF := Lib.hid (matLine_f (matOk_f hlt c))
        have tc := bstr_eq c
        clear c
        generalize rowT R k = T at *
        go_wp2_with ((go_at_call 50; ((with_reducible refine (HF0.out).mono ?_); rintro e w4 ⟨rfl, g4⟩)))
        go_ret
        exact ⟨ret_str HF.out, by (repeat (first | with_reducible exact Ge.refl _ | assumption | with_reducible refine Ge.drew ?_ | with_reducible refine Ge.drewN ?_ _ | with_reducible refine Ge.alloc ?_ _ | (with_reducible refine Ge.setCell ?_ (by first | (simp; done) | omega | (simp; omega)) _) | with_reducible refine Ge.trans ?_ (by assumption)))⟩
      · have HG2 := Lib.hid (no_empty HG c)
        have tc := bstr_ne c
        have HL : Hid ((mTxts R k).length < 1099511627776) := by
          show _ < _
          rw [mTxts_length]; omega
        have HS : Hid (mTxts R k ++ [rowT R k] = mTxts R (k + 1)) := (mTxts_succ _ _).symm
        clear c
        generalize mTxts R k = L at *
        generalize rowT R k = T at *
        go_wp2_with (first
          | (go_at_call 50; ((with_reducible refine (HF0.out).mono ?_); rintro e w4 ⟨rfl, g4⟩; have own2 := Ge.owns g4 hown; have G5 : Ge w w4 := Ge.trans hg g4; have Z5 := G5.size))
          | (at_builtin; refine ap_str rfl _ _ rfl w.heap.size u3 L rfl own2 _ rfl HL.out Z5 ?_; intro v' w6 own6 hm6))
        go_roundw
        case rel => exact ⟨k + 1, by omega, by go_num, by have := own6; rwa [HS.out] at this, HG2.out, G5.mine own2 (Nat.le_refl _) hm6⟩
        case measure => simp [intOf]; omega
    · have hkn : k = n := by omega
      subst hkn
      have hown' := hown
      rw [mTxts_length] at hown
      have hok := matOk_t HG.out
      have H1 : Hid ((mTxts R k).length ≤ 140737488355328) := by
        show _ ≤ _
        rw [mTxts_length]; omega
      have H2 : Hid ((Lib.join (mTxts R k) [59]).length ≤ 140737488355328) := by
        show _ ≤ _
        have := mTxts_join R k HR.out; omega
      obtain ⟨p3, c3, rfl⟩ := owns_form hown
      have HF := Lib.hid (matLine_t hok)
      have hJ : Calls Try.prog 74 #[.slice p3 k c3, .string ⟨#[59]⟩] wr fun en w' => en = .returned (.string (bstr (Lib.join (mTxts R k) [59]))) ∧ wr = w' := sJoin (.slice p3 k c3) (mTxts R k) [59] _ (SlS.of_owns hown') H1.out H2.out
      clear hown' hok
      go_wp2_with ((go_at_call 74; ((with_reducible refine (hJ).mono ?_); rintro e w5 ⟨rfl, rfl⟩)))
      go_ret
      exact ⟨ret_str (by rw [HF.out]), by (repeat (first | with_reducible exact Ge.refl _ | assumption | with_reducible refine Ge.drew ?_ | with_reducible refine Ge.drewN ?_ _ | with_reducible refine Ge.alloc ?_ _ | (with_reducible refine Ge.setCell ?_ (by first | (simp; done) | omega | (simp; omega)) _) | with_reducible refine Ge.trans ?_ (by assumption)))⟩
end Go.Proofs.Ytmkmdcifakaflaa
