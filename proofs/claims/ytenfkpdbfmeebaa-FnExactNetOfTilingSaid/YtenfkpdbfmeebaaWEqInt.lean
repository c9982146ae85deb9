/- eqIntS, markIntS, heldIntS. -/
import Derived.Test.YtenfkpdbfmeebaaWSl
namespace Go.Proofs.Ytenfkpdbfmeebaa

open Go.RowKit

theorem same_step {la lb : List Int} {k : Nat} (h : Hid (∀ j, j < k → nth la j = nth lb j)) (he : nth la k = nth lb k) : Hid (∀ j, j < k + 1 → nth la j = nth lb j) := by
  intro j h1
  by_cases e : j = k
  · subst e; exact he
  · exact h.out j (by omega)

set_option maxHeartbeats 400000 in
theorem lEqIntS (va vb : Value) (la lb : List Int) (w : World) (ha : SlI w va la) (hb : SlI w vb lb) (hm : la.length ≤ 9223372036854775807) :
    Calls Try.prog 28 #[va, vb] w fun e w' => e = .returned (.bool (decide (la = lb))) ∧ Ge w w' := by
  obtain ⟨n, hn⟩ : ∃ n, la.length = n := ⟨_, rfl⟩
  obtain ⟨m, hn'⟩ : ∃ n, lb.length = n := ⟨_, rfl⟩
  obtain ⟨pa, ca, rfl, ca'⟩ := ha.openN hn
  obtain ⟨pb, cb, rfl, cb'⟩ := hb.openN hn'
  rw [hn] at hm
  have HN : Hid (la.length = n) := hn
  have HL : Hid (lb.length = m) := hn'
  clear hn hn' ha hb
  by_cases hl : n = m
  · subst hl
    go_enter Try.func28, Try.ntmps28
    go_wp2_with fail
    go_loopw [5] (fun i wr => ∃ k : Nat, k ≤ n ∧ i = .int .i64 k ∧ Hid (∀ j, j < k → nth la j = nth lb j) ∧ Ge w wr) (fun i _ => n - (intOf i).toNat)
    case atStart => exact ⟨0, Nat.zero_le _, rfl, fun j h1 => by omega, Ge.refl _⟩
    case round =>
      obtain ⟨k, hk, rfl, HS, hg⟩ := hrel
      by_cases hlt : k < n
      · obtain ⟨b1, o1, rfl, x1⟩ := ca' k hlt
        obtain ⟨b2, o2, rfl, x2⟩ := cb' k hlt
        have y1 := hg.keep x1
        have y2 := hg.keep x2
        clear ca' cb' x1 x2
        by_cases he : nth la k = nth lb k
        · have e1 : (nth la k != nth lb k) = false := by simp [he]
          have HE := Lib.hid he
          clear he
          go_wp2_with fail
          go_quiet (fail)
          go_wp2_with fail
          go_roundw
          case rel => exact ⟨k + 1, by omega, by go_num, same_step HS HE.out, by (repeat (first | with_reducible exact Ge.refl _ | assumption | with_reducible refine Ge.drew ?_ | with_reducible refine Ge.drewN ?_ _ | with_reducible refine Ge.alloc ?_ _ | (with_reducible refine Ge.setCell ?_ (by first | (simp; done) | omega | (simp; omega)) _) | with_reducible refine Ge.trans ?_ (by assumption)))⟩
          case measure => simp [intOf]; omega
        · have e1 : (nth la k != nth lb k) = true := by simp [he]
          go_wp2_with fail
          go_quiet (fail)
          go_wp2_with fail
          go_ret
          refine ⟨ret_bool ?_, by (repeat (first | with_reducible exact Ge.refl _ | assumption | with_reducible refine Ge.drew ?_ | with_reducible refine Ge.drewN ?_ _ | with_reducible refine Ge.alloc ?_ _ | (with_reducible refine Ge.setCell ?_ (by first | (simp; done) | omega | (simp; omega)) _) | with_reducible refine Ge.trans ?_ (by assumption)))⟩
          have h' : ¬ la = lb := fun e => he (by rw [e])
          simp [h']
      · go_wp2_with fail
        go_ret
        refine ⟨ret_bool ?_, by (repeat (first | with_reducible exact Ge.refl _ | assumption | with_reducible refine Ge.drew ?_ | with_reducible refine Ge.drewN ?_ _ | with_reducible refine Ge.alloc ?_ _ | (with_reducible refine Ge.setCell ?_ (by first | (simp; done) | omega | (simp; omega)) _) | with_reducible refine Ge.trans ?_ (by assumption)))⟩
        have h' : la = lb := nth_ext (HN.out.trans HL.out.symm) (fun j hj => HS.out j (by have := HN.out; omega))
        simp [h']
  · have h1 : ((n : Int) == (m : Int)) = false := by simp; omega
    have h2 : ((n : Int) != (m : Int)) = true := by simp; omega
    go_enter Try.func28, Try.ntmps28
    go_wp2_with fail
    go_ret
    refine ⟨ret_bool ?_, by (repeat (first | with_reducible exact Ge.refl _ | assumption | with_reducible refine Ge.drew ?_ | with_reducible refine Ge.drewN ?_ _ | with_reducible refine Ge.alloc ?_ _ | (with_reducible refine Ge.setCell ?_ (by first | (simp; done) | omega | (simp; omega)) _) | with_reducible refine Ge.trans ?_ (by assumption)))⟩
    have h' : ¬ la = lb := fun e => hl (by rw [← HN.out, ← HL.out, e])
    simp [h']

/-- k, k + 1, .. -/
def upFrom (k : Int) (n : Nat) : List Int := (List.range n).map fun (i : Nat) => k + (i : Int)
theorem upFrom_length (k : Int) (n : Nat) : (upFrom k n).length = n := by simp [upFrom]
theorem nth_upFrom (k : Int) (n i : Nat) (h : i < n) : nth (upFrom k n) i = k + i := by
  rw [nth_eq _ _ (by rw [upFrom_length]; exact h)]; simp [upFrom]
/-- The first j cells are marked. -/
def marked (l : List Int) (k : Int) (j : Nat) : List Int := upFrom k j ++ l.drop j
theorem marked_zero (l : List Int) (k : Int) : marked l k 0 = l := by simp [marked, upFrom]
theorem marked_length (l : List Int) (k : Int) (j : Nat) (h : j ≤ l.length) : (marked l k j).length = l.length := by simp [marked, upFrom_length]; omega
theorem marked_all (l : List Int) (k : Int) : marked l k l.length = upFrom k l.length := by simp [marked]
theorem marked_step (l : List Int) (k : Int) (j : Nat) (h : j < l.length) : (marked l k j).set j (k + j) = marked l k (j + 1) := by
  apply List.ext_getElem
  · simp [marked_length _ _ _ (Nat.le_of_lt h), marked_length _ _ _ (show j + 1 ≤ l.length from h)]
  · intro i h1 h2
    rw [List.getElem_set]
    simp only [marked, upFrom]
    by_cases e : j = i
    · subst e
      rw [if_pos rfl, List.getElem_append_left (by simp)]
      simp
    · rw [if_neg e]
      by_cases e2 : i < j
      · rw [List.getElem_append_left (by simp; omega), List.getElem_append_left (by simp; omega)]; simp
      · rw [List.getElem_append_right (by simp; omega), List.getElem_append_right (by simp; omega)]
        simp
        congr 1
        omega

theorem icells_set (l : List Int) (j : Nat) (x : Int) : (icells l).set j (.int .i64 x) = icells (l.set j x) := by simp [icells, List.map_set]

theorem grown_trans {a b c : World} {row : Option Nat} (h : a.grownBy b row) (k : b.grownBy c row) : a.grownBy c row :=
  ⟨k.os.trans h.os, k.tape.trans h.tape, k.output.trans h.output, Nat.le_trans h.size k.size, fun i hi hne => (k.block i (Nat.lt_of_lt_of_le hi h.size) hne).trans (h.block i hi hne)⟩

theorem owns_cases {w : World} {base : Nat} {e : TypeId} {sz : Nat} {v : Value} {n : Nat} {xs : List Value} (h : w.ownsRow base e sz v n xs) :
    (v = .slice none 0 0 ∧ n = 0) ∨ ∃ g cap, v = .slice (some ⟨g, 0, none⟩) n cap := by
  rcases h.2 with hn | ⟨g, cap, cur, rfl, _⟩
  · exact .inl hn
  · exact .inr ⟨g, cap, rfl⟩

set_option maxHeartbeats 400000 in
theorem lMarkIntS (base e : Nat) (v : Value) (l : List Int) (k : Int) (w : World) (h : w.ownsRow base e 1 v l.length (icells l)) (hk0 : 0 ≤ k) (hk : k + l.length ≤ 4611686018427387904) :
    Calls Try.prog 30 #[v, .int .i64 k] w fun en w' => en = .returned (.int .i64 (k + l.length)) ∧ Mine w w' v ∧ w'.ownsRow base e 1 v l.length (icells (upFrom k l.length)) := by
  rcases owns_cases h with ⟨rfl, hn⟩ | ⟨g, cap, rfl⟩
  · have hl : l = [] := List.eq_nil_of_length_eq_zero hn
    subst hl
    go_enter Try.func30, Try.ntmps30
    go_wp2_with fail
    go_loopw [1, 5] (fun m i wr => m = .int .i64 k ∧ i = .int .i64 0 ∧ w = wr) (fun _ _ _ => 0)
    case atStart => exact ⟨rfl, rfl, rfl⟩
    case round =>
      obtain ⟨rfl, rfl, rfl⟩ := hrel
      go_wp2_with fail
      go_ret
      exact ⟨ret_int (by simp), World.grownBy.refl _ _, h⟩
  · obtain ⟨n, hn⟩ : ∃ n, l.length = n := ⟨_, rfl⟩
    rw [hn] at h hk ⊢
    have HN : Hid (l.length = n) := hn
    clear hn
    go_enter Try.func30, Try.ntmps30
    go_wp2_with fail
    go_loopw [1, 5] (fun m i wr => ∃ j : Nat, j ≤ n ∧ i = .int .i64 j ∧ m = .int .i64 (k + j) ∧ wr.ownsRow base e 1 (.slice (some ⟨g, 0, none⟩) n cap) n (icells (marked l k j)) ∧ w.grownBy wr (some g)) (fun _ i _ => n - (intOf i).toNat)
    case atStart => exact ⟨0, Nat.zero_le _, rfl, by simp, by rw [marked_zero]; exact h, World.grownBy.refl _ _⟩
    case round =>
      obtain ⟨j, hj, rfl, rfl, hown, hg⟩ := hrel
      by_cases hlt : j < n
      · have hf := hown.frozenAt j
        obtain ⟨u, hu⟩ : ∃ u, wr.cell? ⟨g, j, none⟩ = some u := by
          rw [hown.cellAt j (by omega)]; exact ⟨_, List.getElem?_eq_getElem (by have := hown.1; omega)⟩
        have st := hown.stored j (.int .i64 (k + j))
        have HT : Hid _ := Lib.hid st
        clear st
        go_wp2_with fail
        go_roundw
        case rel => exact ⟨j + 1, by omega, by go_num, by go_num, by have := HT.out.1; rwa [icells_set, marked_step l k j (by have := HN.out; omega)] at this, grown_trans hg HT.out.2⟩
        case measure => simp [intOf]; omega
      · have hjn : j = n := by omega
        have hfin : marked l k j = upFrom k n := by rw [hjn, ← HN.out, marked_all]
        rw [hfin] at hown
        clear hfin
        go_wp2_with fail
        go_ret
        exact ⟨ret_int (by omega), hg, hown⟩

set_option maxHeartbeats 400000 in
theorem lHeldIntS (v : Value) (n : Nat) (k : Int) (w : World) (h : Sl w v n 1 (icells (upFrom k n))) (hk0 : 0 ≤ k) (hk : k + n ≤ 4611686018427387904) :
    Calls Try.prog 31 #[v, .int .i64 k] w fun en w' => en = .returned (.int .i64 (k + n)) ∧ w = w' := by
  have h' : SlI w v (upFrom k n) := by unfold SlI; rw [upFrom_length]; exact h
  obtain ⟨p, c, rfl, hc⟩ := h'.openN (upFrom_length k n)
  clear h h'
  go_enter Try.func31, Try.ntmps31
  go_wp2_with fail
  go_loop [1, 5] (fun m i => ∃ j : Nat, j ≤ n ∧ i = .int .i64 j ∧ m = .int .i64 (k + j)) (fun _ i => n - (intOf i).toNat)
  case atStart => exact ⟨0, Nat.zero_le _, rfl, by simp⟩
  case round =>
    obtain ⟨j, hj, rfl, rfl⟩ := hrel
    by_cases hlt : j < n
    · obtain ⟨b, o, rfl, x1⟩ := hc j hlt
      rw [nth_upFrom _ _ _ hlt] at x1
      clear hc
      go_wp2_with fail
      go_round
      case rel => exact ⟨j + 1, by omega, by go_num, by go_num⟩
      case measure => simp [intOf]; omega
    · go_wp2_with fail
      go_ret
      exact ⟨ret_int (by omega), rfl⟩
end Go.Proofs.Ytenfkpdbfmeebaa
