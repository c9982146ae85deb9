/- eqIntS, markIntS, heldIntS. -/
import Derived.Test.YtfhhgonoddedlaaWSl
namespace Go.Proofs.Ytfhhgonoddedlaa

open Go.RowKit

theorem same_step {la lb : List Int} {k : Nat} (h : Hid (∀ j, j < k → nth la j = nth lb j)) (he : nth la k = nth lb k) : Hid (∀ j, j < k + 1 → nth la j = nth lb j) := by
  intro j h1
  by_cases e : j = k
  · subst e; exact he
  · exact h.out j (by omega)

set_option maxHeartbeats 400000 in
theorem lEqIntS (va vb : Value) (la lb : List Int) (w : World) (ha : SlI w va la) (hb : SlI w vb lb) (hm : la.length ≤ 9223372036854775807) :
    Calls Try.prog 43 #[va, vb] w fun e w' => e = .returned (.bool (decide (la = lb))) ∧ Ge w w' := by
  obtain ⟨n, hn⟩ : ∃ n, la.length = n := ⟨_, rfl⟩
  obtain ⟨m, hn'⟩ : ∃ n, lb.length = n := ⟨_, rfl⟩
  obtain ⟨pa, ca, rfl, ca'⟩ := ha.openN hn
  obtain ⟨pb, cb, rfl, cb'⟩ := hb.openN hn'
  rw [hn] at hm
  have HN : Hid (la.length = n) := hn
  have HL : Hid (lb.length = m) := hn'
  clear hn hn' ha hb
  by_cases hl : n = m
  · subst hl
    go_enter Try.func43, Try.ntmps43
    go_wp2_with fail
    go_loopw [5] (fun i wr => ∃ k : Nat, k ≤ n ∧ i = .int .i64 k ∧ Hid (∀ j, j < k → nth la j = nth lb j) ∧ Ge w wr) (fun i _ => n - (intOf i).toNat)
    case atStart => exact ⟨0, Nat.zero_le _, rfl, fun j h1 => by omega, Ge.refl _⟩
    case round =>
      obtain ⟨k, hk, rfl, HS, hg⟩ := hrel
      by_cases hlt : k < n
      · obtain ⟨b1, o1, rfl, x1⟩ := ca' k hlt
        obtain ⟨b2, o2, rfl, x2⟩ := cb' k hlt
        have y1 := hg.keep x1
        have y2 := hg.keep x2
        clear ca' cb' x1 x2
        by_cases he : nth la k = nth lb k
        · have e1 : (nth la k != nth lb k) = false := by simp [he]
          have HE := Lib.hid he
          clear he
          go_wp2_with fail
          go_quiet (fail)
          go_wp2_with fail
          go_roundw
          case rel => exact ⟨k + 1, by omega, by go_num, same_step HS HE.out, by (repeat (first | with_reducible exact Ge.refl _ | assumption | with_reducible refine Ge.drew ?_ | with_reducible refine Ge.drewN ?_ _ | with_reducible refine Ge.alloc ?_ _ | (with_reducible refine Ge.setCell ?_ (by first | (simp; done) | omega | (simp; omega)) _) | with_reducible refine Ge.trans ?_ (by assumption)))⟩
          case measure => simp [intOf]; omega
        · have e1 : (nth la k != nth lb k) = true := by simp [he]
          go_wp2_with fail
          go_quiet (fail)
          go_wp2_with fail
          go_ret
          refine ⟨ret_bool ?_, by (repeat (first | with_reducible exact Ge.refl _ | assumption | with_reducible refine Ge.drew ?_ | with_reducible refine Ge.drewN ?_ _ | with_reducible refine Ge.alloc ?_ _ | (with_reducible refine Ge.setCell ?_ (by first | (simp; done) | omega | (simp; omega)) _) | with_reducible refine Ge.trans ?_ (by assumption)))⟩
          have h' : ¬ la = lb := fun e => he (by rw [e])
          simp [h']
      · go_wp2_with fail
        go_ret
        refine ⟨ret_bool ?_, by (repeat (first | with_reducible exact Ge.refl _ | assumption | with_reducible refine Ge.drew ?_ | with_reducible refine Ge.drewN ?_ _ | with_reducible refine Ge.alloc ?_ _ | (with_reducible refine Ge.setCell ?_ (by first | (simp; done) | omega | (simp; omega)) _) | with_reducible refine Ge.trans ?_ (by assumption)))⟩
        have h' : la = lb := nth_ext (HN.out.trans HL.out.symm) (fun j hj => HS.out j (by have := HN.out; omega))
        simp [h']
  · have h1 : ((n : Int) == (m : Int)) = false := by simp; omega
    have h2 : ((n : Int) != (m : Int)) = true := by simp; omega
    go_enter Try.func43, Try.ntmps43
    go_wp2_with fail
    go_ret
    refine ⟨ret_bool ?_, by (repeat (first | with_reducible exact Ge.refl _ | assumption | with_reducible refine Ge.drew ?_ | with_reducible refine Ge.drewN ?_ _ | with_reducible refine Ge.alloc ?_ _ | (with_reducible refine Ge.setCell ?_ (by first | (simp; done) | omega | (simp; omega)) _) | with_reducible refine Ge.trans ?_ (by assumption)))⟩
    have h' : ¬ la = lb := fun e => hl (by rw [← HN.out, ← HL.out, e])
    simp [h']

/-- k, k + 1, .. -/
def upFrom (k : Int) (n : Nat) : List Int := (List.range n).map fun (i : Nat) => k + (i : Int)
theorem upFrom_length (k : Int) (n : Nat) : (upFrom k n).length = n := by simp [upFrom]
theorem nth_upFrom (k : Int) (n i : Nat) (h : i < n) : nth (upFrom k n) i = k + i := by
  rw [nth_eq _ _ (by rw [upFrom_length]; exact h)]; simp [upFrom]
/-- The first j cells are marked. -/
def marked (l : List Int) (k : Int) (j : Nat) : List Int := upFrom k j ++ l.drop j
theorem marked_zero (l : List Int) (k : Int) : marked l k 0 = l := by simp [marked, upFrom]
theorem marked_length (l : List Int) (k : Int) (j : Nat) (h : j ≤ l.length) : (marked l k j).length = l.length := by simp [marked, upFrom_length]; omega
theorem marked_all (l : List Int) (k : Int) : marked l k l.length = upFrom k l.length := by simp [marked]
theorem marked_step (l : List Int) (k : Int) (j : Nat) (h : j < l.length) : (marked l k j).set j (k + j) = marked l k (j + 1) := by
  apply List.ext_getElem
  · simp [marked_length _ _ _ (Nat.le_of_lt h), marked_length _ _ _ (show j + 1 ≤ l.length from h)]
  · intro i h1 h2
    rw [List.getElem_set]
    simp only [marked, upFrom]
    by_cases e : j = i
    · subst e
      rw [if_pos rfl, List.getElem_append_left (by simp)]
      simp
    · rw [if_neg e]
      by_cases e2 : i < j
      · rw [List.getElem_append_left (by simp; omega), List.getElem_append_left (by simp; omega)]; simp
      · rw [List.getElem_append_right (by simp; omega), List.getElem_append_right (by simp; omega)]
        simp
        congr 1
        omega

theorem icells_set (l : List Int) (j : Nat) (x : Int) : (icells l).set j (.int .i64 x) = icells (l.set j x) := by simp [icells, List.map_set]

theorem grown_trans {a b c : World} {row : Option Nat} (h : a.grownBy b row) (k : b.grownBy c row) : a.grownBy c row :=
  ⟨k.os.trans h.os, k.tape.trans h.tape, k.output.trans h.output, Nat.le_trans h.size k.size, fun i hi hne => (k.block i (Nat.lt_of_lt_of_le hi h.size) hne).trans (h.block i hi hne)⟩

theorem owns_cases {w : World} {base : Nat} {e : TypeId} {sz : Nat} {v : Value} {n : Nat} {xs : List Value} (h : w.ownsRow base e sz v n xs) :
    (v = .slice none 0 0 ∧ n = 0) ∨ ∃ g cap, v = .slice (some ⟨g, 0, none⟩) n cap := by
  rcases h.2 with hn | ⟨g, cap, cur, rfl, _⟩
  · exact .inl hn
  · exact .inr ⟨g, cap, rfl⟩

end Go.Proofs.Ytfhhgonoddedlaa
