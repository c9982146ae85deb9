/- markText; eqStringS of equal slices, markStringS, heldStringS. No condition. -/
import Derived.Test.YtppabikbepdobaaWStr
import Derived.Test.YtppabikbepdobaaWFmt
import Derived.Test.YtppabikbepdobaaWEqInt
namespace Go.Proofs.Ytppabikbepdobaa
set_option maxRecDepth 100000
open Go.ChangeShapes Go.WideShapes Go.ChangeAt Go.RowKit Go.Joins

/-- The digits of k, none of 0. -/
def dgs (k : Int) : List UInt8 := if k = 0 then [] else fmtInt k
theorem dgs_step (k : Int) (h0 : 1 ≤ k) (h : k ≤ 9223372036854775807) (t : List UInt8) : dgs (k / 10) ++ ([UInt8.ofNat (48 + k % 10).toNat] ++ t) = dgs k ++ t := by
  unfold dgs
  rw [if_neg (by omega : ¬ k = 0)]
  by_cases h9 : 9 < k
  · rw [if_neg (by omega)]; exact fmt_step_pos k h9 h t
  · rw [if_pos (by omega), show k % 10 = k by omega, last_digit k (by omega) h9]; rfl
def markT (k : Int) : List UInt8 := 109 :: fmtInt k
theorem dgs_len {n k : Int} {t : List UInt8} (H : Hid (fmtInt n = dgs k ++ t)) : t.length ≤ 22 := by
  have := congrArg List.length H.out
  have := fmtInt_length n
  simp at *
  omega

set_option maxHeartbeats 400000 in
theorem lMarkText (n : Int) (w : World) (h0 : 1 ≤ n) (h : n ≤ 9223372036854775807) :
    Calls Try.prog 92 #[.int .i64 n] w fun e w' => e = .returned (.string (bstr (markT n))) ∧ Ge w w' := by
  go_enter Try.func92, Try.ntmps92
  go_wp2_with fail
  go_loopw [0, 3] (fun m s wr => ∃ (k : Int) (t : List UInt8), m = .int .i64 k ∧ s = .string (bstr t) ∧ 0 ≤ k ∧ k ≤ n ∧ Hid (fmtInt n = dgs k ++ t) ∧ Ge w wr) (fun m _ _ => (intOf m).toNat)
  case atStart => exact ⟨n, [], rfl, rfl, by omega, Int.le_refl _, by show _ = _; unfold dgs; rw [if_neg (by omega), List.append_nil], Ge.refl _⟩
  case round =>
    obtain ⟨k, t, rfl, rfl, k0, k1, H, hg⟩ := hrel
    have tl := dgs_len H
    by_cases h9 : 0 < k
    · have kc := sFmt_conv (48 + k % 10)
      have e3 : IntKind.u8.wrap (48 + k % 10) = 48 + k % 10 := add_digit _ (by omega) (by omega)
      have z1 : (bstr [UInt8.ofNat (48 + k % 10).toNat]).size + (bstr t).size ≤ 9223372036854775807 := by
        rw [bstr_size, bstr_size]; simp; omega
      have HS : Hid (fmtInt n = dgs (k / 10) ++ ([UInt8.ofNat (48 + k % 10).toNat] ++ t)) := by show _ = _; rw [H.out]; exact (dgs_step k (by omega) (by omega) t).symm
      clear H
      go_wp2_with fail
      go_roundw
      case rel => exact ⟨k / 10, [UInt8.ofNat (48 + k % 10).toNat] ++ t, rfl, by rw [bstr_append], by omega, by omega, HS.out, by (repeat (first | with_reducible exact Ge.refl _ | assumption | with_reducible refine Ge.drew ?_ | with_reducible refine Ge.drewN ?_ _ | with_reducible refine Ge.alloc ?_ _ | (with_reducible refine Ge.setCell ?_ (by first | (simp; done) | omega | (simp; omega)) _) | with_reducible refine Ge.trans ?_ (by assumption)))⟩
      case measure => simp [intOf]; omega
    · have hk : k = 0 := by omega
      subst hk
      have HF : Hid (fmtInt n = t) := by show _ = _; rw [H.out]; rfl
      have z1 : (⟨#[109]⟩ : ByteArray).size + (bstr t).size ≤ 9223372036854775807 := by
        rw [bstr_size]; show 1 + _ ≤ _; omega
      have z2 : 1 + (bstr t).size ≤ 9223372036854775807 := z1
      clear H
      go_wp2_with fail
      go_ret
      exact ⟨ret_str (by rw [markT, HF.out]; exact bstr_append [109] t), by (repeat (first | with_reducible exact Ge.refl _ | assumption | with_reducible refine Ge.drew ?_ | with_reducible refine Ge.drewN ?_ _ | with_reducible refine Ge.alloc ?_ _ | (with_reducible refine Ge.setCell ?_ (by first | (simp; done) | omega | (simp; omega)) _) | with_reducible refine Ge.trans ?_ (by assumption)))⟩

set_option maxHeartbeats 400000 in
theorem lEqStringS (va vb : Value) (l : List (List UInt8)) (w : World) (ha : SlS w va l) (hb : SlS w vb l) (hm : l.length ≤ 9223372036854775807) :
    Calls Try.prog 43 #[va, vb] w fun e w' => e = .returned (.bool true) ∧ Ge w w' := by
  obtain ⟨n, hn⟩ : ∃ n, l.length = n := ⟨_, rfl⟩
  obtain ⟨pa, ca, rfl, ca'⟩ := ha.openN hn
  obtain ⟨pb, cb, rfl, cb'⟩ := hb.openN hn
  rw [hn] at hm
  clear hn ha hb
  go_enter Try.func43, Try.ntmps43
  go_wp2_with fail
  go_loopw [5] (fun i wr => ∃ k : Nat, k ≤ n ∧ i = .int .i64 k ∧ Ge w wr) (fun i _ => n - (intOf i).toNat)
  case atStart => exact ⟨0, Nat.zero_le _, rfl, Ge.refl _⟩
  case round =>
    obtain ⟨k, hk, rfl, hg⟩ := hrel
    by_cases hlt : k < n
    · obtain ⟨b1, o1, rfl, x1⟩ := ca' k hlt
      obtain ⟨b2, o2, rfl, x2⟩ := cb' k hlt
      have y1 := hg.keep x1
      have y2 := hg.keep x2
      clear ca' cb' x1 x2
      generalize bstr (tnth l k) = X at *
      go_wp2_with fail
      go_quiet (fail)
      go_wp2_with fail
      go_roundw
      case rel => exact ⟨k + 1, by omega, by go_num, by (repeat (first | with_reducible exact Ge.refl _ | assumption | with_reducible refine Ge.drew ?_ | with_reducible refine Ge.drewN ?_ _ | with_reducible refine Ge.alloc ?_ _ | (with_reducible refine Ge.setCell ?_ (by first | (simp; done) | omega | (simp; omega)) _) | with_reducible refine Ge.trans ?_ (by assumption)))⟩
      case measure => simp [intOf]; omega
    · go_wp2_with fail
      go_ret
      exact ⟨rfl, by (repeat (first | with_reducible exact Ge.refl _ | assumption | with_reducible refine Ge.drew ?_ | with_reducible refine Ge.drewN ?_ _ | with_reducible refine Ge.alloc ?_ _ | (with_reducible refine Ge.setCell ?_ (by first | (simp; done) | omega | (simp; omega)) _) | with_reducible refine Ge.trans ?_ (by assumption)))⟩

/-- The marks k, k + 1, .. -/
def upT (k : Int) (n : Nat) : List (List UInt8) := (List.range n).map fun (i : Nat) => markT (k + (i : Int))
theorem upT_length (k : Int) (n : Nat) : (upT k n).length = n := by simp [upT]
theorem tnth_upT (k : Int) (n i : Nat) (h : i < n) : tnth (upT k n) i = markT (k + i) := by
  rw [tnth_eq _ _ (by rw [upT_length]; exact h)]; simp [upT]
def markedT (l : List (List UInt8)) (k : Int) (j : Nat) : List (List UInt8) := upT k j ++ l.drop j
theorem markedT_zero (l : List (List UInt8)) (k : Int) : markedT l k 0 = l := by simp [markedT, upT]
theorem markedT_length (l : List (List UInt8)) (k : Int) (j : Nat) (h : j ≤ l.length) : (markedT l k j).length = l.length := by simp [markedT, upT_length]; omega
theorem markedT_all (l : List (List UInt8)) (k : Int) : markedT l k l.length = upT k l.length := by simp [markedT]
theorem markedT_step (l : List (List UInt8)) (k : Int) (j : Nat) (h : j < l.length) : (markedT l k j).set j (markT (k + j)) = markedT l k (j + 1) := by
  apply List.ext_getElem
  · simp [markedT_length _ _ _ (Nat.le_of_lt h), markedT_length _ _ _ (show j + 1 ≤ l.length from h)]
  · intro i h1 h2
    rw [List.getElem_set]
    simp only [markedT, upT]
    by_cases e : j = i
    · subst e
      rw [if_pos rfl, List.getElem_append_left (by simp)]
      simp
    · rw [if_neg e]
      by_cases e2 : i < j
      · rw [List.getElem_append_left (by simp; omega), List.getElem_append_left (by simp; omega)]; simp
      · rw [List.getElem_append_right (by simp; omega), List.getElem_append_right (by simp; omega)]
        simp
        congr 1
        omega
theorem scells_set (l : List (List UInt8)) (j : Nat) (x : List UInt8) : (scells l).set j (.string (bstr x)) = scells (l.set j x) := by simp [scells, List.map_set]

set_option maxHeartbeats 400000 in
theorem lMarkStringS (base e : Nat) (v : Value) (l : List (List UInt8)) (n : Nat) (k : Int) (w : World) (hn : l.length = n) (h : w.ownsRow base e 1 v n (scells l)) (hk0 : 1 ≤ k) (hk : k + n ≤ 4611686018427387904) :
    Calls Try.prog 44 #[v, .int .i64 k] w fun en w' => en = .returned (.int .i64 (k + n)) ∧ (∀ a, Ge a w → a.heap.size ≤ base → Ge a w') ∧ w'.ownsRow base e 1 v n (scells (upT k n)) := by
  rcases owns_cases h with ⟨rfl, hn'⟩ | ⟨g, cap, rfl⟩
  · have hl : l = [] := List.eq_nil_of_length_eq_zero (by omega)
    subst hl
    subst hn'
    go_enter Try.func44, Try.ntmps44
    go_wp2_with fail
    go_loopw [1, 5] (fun m i wr => m = .int .i64 k ∧ i = .int .i64 0 ∧ w = wr) (fun _ _ _ => 0)
    case atStart => exact ⟨rfl, rfl, rfl⟩
    case round =>
      obtain ⟨rfl, rfl, rfl⟩ := hrel
      go_wp2_with fail
      go_ret
      exact ⟨ret_int (by simp), fun _ h _ => h, h⟩
  · have HN : Hid (l.length = n) := hn
    have hbg := h.lt g rfl
    clear hn
    go_enter Try.func44, Try.ntmps44
    go_wp2_with fail
    go_loopw [1, 5] (fun m i wr => ∃ j : Nat, j ≤ n ∧ i = .int .i64 j ∧ m = .int .i64 (k + j) ∧ wr.ownsRow base e 1 (.slice (some ⟨g, 0, none⟩) n cap) n (scells (markedT l k j)) ∧ Hid (∀ a, Ge a w → a.heap.size ≤ base → Ge a wr)) (fun _ i _ => n - (intOf i).toNat)
    case atStart => exact ⟨0, Nat.zero_le _, rfl, by simp, by rw [markedT_zero]; exact h, fun _ h _ => h⟩
    case round =>
      obtain ⟨j, hj, rfl, rfl, hown, HG⟩ := hrel
      by_cases hlt : j < n
      · have HMt := Lib.hid (fun w' => lMarkText (k + j) w' (by omega) (by omega))
        have HO := Lib.hid hown
        clear hown
        go_wp2_with ((go_at_call 92; ((with_reducible refine (HMt.out _).mono ?_); rintro r w5 ⟨rfl, g5⟩)); have ow5 := g5.owns HO.out; have hf := ow5.frozenAt j; obtain ⟨u, hu⟩ : ∃ u, w5.cell? ⟨g, j, none⟩ = some u := (by rw [ow5.cellAt j (by omega)]; exact ⟨_, List.getElem?_eq_getElem (by have := ow5.1; omega)⟩); have HT := Lib.hid (ow5.stored j (.string (bstr (markT (k + j))))))
        go_roundw
        case rel => exact ⟨j + 1, by omega, by go_num, by go_num, by have := HT.out.1; rwa [scells_set, markedT_step l k j (by have := HN.out; omega)] at this, fun a h1 h2 => Ge.grown ((HG.out a h1 h2).trans g5) HT.out.2 (fun q hq => by simp at hq; omega)⟩
        case measure => simp [intOf]; omega
      · have hjn : j = n := by omega
        have hfin : markedT l k j = upT k n := by rw [hjn, ← HN.out, markedT_all]
        rw [hfin] at hown
        clear hfin
        go_wp2_with fail
        go_ret
        exact ⟨ret_int (by omega), HG.out, hown⟩

set_option maxHeartbeats 400000 in
theorem lHeldStringS (v : Value) (n : Nat) (k : Int) (w : World) (h : Sl w v n 1 (scells (upT k n))) (hk0 : 1 ≤ k) (hk : k + n ≤ 4611686018427387904) :
    Calls Try.prog 45 #[v, .int .i64 k] w fun en w' => en = .returned (.int .i64 (k + n)) ∧ Ge w w' := by
  have h' : SlS w v (upT k n) := by unfold SlS; rw [upT_length]; exact h
  obtain ⟨p, c, rfl, hc⟩ := h'.openN (upT_length k n)
  clear h h'
  go_enter Try.func45, Try.ntmps45
  go_wp2_with fail
  go_loopw [1, 5] (fun m i wr => ∃ j : Nat, j ≤ n ∧ i = .int .i64 j ∧ m = .int .i64 (k + j) ∧ Ge w wr) (fun _ i _ => n - (intOf i).toNat)
  case atStart => exact ⟨0, Nat.zero_le _, rfl, by simp, Ge.refl _⟩
  case round =>
    obtain ⟨j, hj, rfl, rfl, hg⟩ := hrel
    by_cases hlt : j < n
    · obtain ⟨b, o, rfl, x1⟩ := hc j hlt
      rw [tnth_upT _ _ _ hlt] at x1
      have y1 := hg.keep x1
      have HMt := Lib.hid (fun w' => lMarkText (k + j) w' (by omega) (by omega))
      clear hc x1
      generalize bstr (markT (k + j)) = X at *
      go_wp2_with fail
      have hS : ∀ w', Ge wr w' → (w'.cell? ⟨b, o + j, none⟩ = some (.string X) ∧ Ge wr w') := fun w' g => ⟨g.keep (by (repeat (first | assumption | with_reducible exact Ge.refl _ | with_reducible refine cv_drew ?_ | with_reducible refine cv_alloc ?_ | with_reducible refine cv_set ?_ | (with_reducible apply cv_some; assumption) | with_reducible refine cell_drew ?_ | with_reducible refine cell_drewN ?_ | ((with_reducible refine cell_new ?_ ?_); (focus (simp; done)); rfl) | with_reducible refine cell_alloc ?_ | with_reducible refine cell_same2 ?_ | ((with_reducible refine cell_set2 ?_ ?_); focus (first | (simp; done) | (intro hE; simp at hE; done) | (intro hE; simp at hE; omega))) | with_reducible refine Ge.drew ?_ | with_reducible refine Ge.drewN ?_ _ | with_reducible refine Ge.alloc ?_ _ | ((with_reducible refine Ge.setCell ?_ ?_ _); rotate_left; focus (first | (simp; done) | omega | (simp; omega))) | with_reducible refine Ge.trans ?_ (by assumption) | with_reducible refine Ge.keep (by assumption) ?_))), Ge.trans (by (repeat (first | assumption | with_reducible exact Ge.refl _ | with_reducible refine cv_drew ?_ | with_reducible refine cv_alloc ?_ | with_reducible refine cv_set ?_ | (with_reducible apply cv_some; assumption) | with_reducible refine cell_drew ?_ | with_reducible refine cell_drewN ?_ | ((with_reducible refine cell_new ?_ ?_); (focus (simp; done)); rfl) | with_reducible refine cell_alloc ?_ | with_reducible refine cell_same2 ?_ | ((with_reducible refine cell_set2 ?_ ?_); focus (first | (simp; done) | (intro hE; simp at hE; done) | (intro hE; simp at hE; omega))) | with_reducible refine Ge.drew ?_ | with_reducible refine Ge.drewN ?_ _ | with_reducible refine Ge.alloc ?_ _ | ((with_reducible refine Ge.setCell ?_ ?_ _); rotate_left; focus (first | (simp; done) | omega | (simp; omega))) | with_reducible refine Ge.trans ?_ (by assumption) | with_reducible refine Ge.keep (by assumption) ?_))) g⟩
      go_region_held3 (fun w' => w'.cell? ⟨b, o + j, none⟩ = some (.string X) ∧ Ge wr w') (first | ((with_reducible refine hS _ ?_); (repeat (first | assumption | with_reducible exact Ge.refl _ | with_reducible refine cv_drew ?_ | with_reducible refine cv_alloc ?_ | with_reducible refine cv_set ?_ | (with_reducible apply cv_some; assumption) | with_reducible refine cell_drew ?_ | with_reducible refine cell_drewN ?_ | ((with_reducible refine cell_new ?_ ?_); (focus (simp; done)); rfl) | with_reducible refine cell_alloc ?_ | with_reducible refine cell_same2 ?_ | ((with_reducible refine cell_set2 ?_ ?_); focus (first | (simp; done) | (intro hE; simp at hE; done) | (intro hE; simp at hE; omega))) | with_reducible refine Ge.drew ?_ | with_reducible refine Ge.drewN ?_ _ | with_reducible refine Ge.alloc ?_ _ | ((with_reducible refine Ge.setCell ?_ ?_ _); rotate_left; focus (first | (simp; done) | omega | (simp; omega))) | with_reducible refine Ge.trans ?_ (by assumption) | with_reducible refine Ge.keep (by assumption) ?_)); done) | fail) (first | (go_at_call 92; ((with_reducible refine (HMt.out _).mono ?_); rintro r wD ⟨rfl, hb⟩)) | fail)
      rename_i hHeldX
      obtain ⟨q0, G7⟩ := hHeldX
      clear hS
      all_goals
        go_wp2_with fail
        go_roundw
      case rel => exact ⟨j + 1, by omega, by go_num, by go_num, by (repeat (first | with_reducible exact Ge.refl _ | assumption | with_reducible refine Ge.drew ?_ | with_reducible refine Ge.drewN ?_ _ | with_reducible refine Ge.alloc ?_ _ | (with_reducible refine Ge.setCell ?_ (by first | (simp; done) | omega | (simp; omega)) _) | with_reducible refine Ge.trans ?_ (by assumption)))⟩
      case measure => simp [intOf]; omega
    · go_wp2_with fail
      go_ret
      exact ⟨ret_int (by omega), hg⟩
end Go.Proofs.Ytppabikbepdobaa
