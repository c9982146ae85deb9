/- TermsOf, CountUnits. -/
import Derived.Test.YtjogeicoofdlgaaWTyInt
import Derived.Test.YtjogeicoofdlgaaWEqInt
import Derived.Test.YtjogeicoofdlgaaWIn
import Derived.Test.YtjogeicoofdlgaaPlTerms
namespace Go.Proofs.Ytjogeicoofdlgaa

open Go.RowKit

def Gives (w : World) (l : List Int) (e : Ending) (w' : World) : Prop := ∃ v, e = .returned v ∧ w'.ownsRow w.heap.size 3 1 v l.length (icells l) ∧ Ge w w'

set_option maxHeartbeats 400000 in
theorem iTermsOf (p q : Int) (w : World) : Calls Try.prog 36 #[.int .i64 p, .int .i64 q] w (Gives w (termsOf p q)) := by
  by_cases ok : partOk p q = true
  · obtain ⟨p1, p2, q1, q2⟩ := partOk_of ok
    have HT : Hid (termsOf p q = eucl 1001 p q) := by unfold termsOf; rw [if_pos ok]; exact rfl
    clear ok
    go_enter Try.func36, Try.ntmps36
    go_wp2_with fail
    go_loopw [0, 1, 5] (fun a b s wr => ∃ (p' q' : Int) (l : List Int) (f : Nat), a = .int .i64 p' ∧ b = .int .i64 q' ∧ 0 ≤ p' ∧ p' ≤ 1000 ∧ 0 ≤ q' ∧ q' ≤ 1000 ∧ q'.toNat < f ∧ l.length + q'.toNat ≤ 1001 ∧
      Hid (eucl 1001 p q = l ++ eucl f p' q') ∧ wr.ownsRow w.heap.size 3 1 s l.length (icells l) ∧ Ge w wr) (fun _ b _ _ => (intOf b).toNat)
    case atStart => exact ⟨p, q, [], 1001, rfl, rfl, by omega, by omega, by omega, by omega, by omega, by simp; omega, rfl, owns_lit0 _ _ _, by (repeat (first | with_reducible exact Ge.refl _ | assumption | with_reducible refine Ge.drew ?_ | with_reducible refine Ge.drewN ?_ _ | with_reducible refine Ge.alloc ?_ _ | (with_reducible refine Ge.setCell ?_ (by first | (simp; done) | omega | (simp; omega)) _) | with_reducible refine Ge.trans ?_ (by assumption)))⟩
    case round =>
      obtain ⟨p', q', l, f, rfl, rfl, a1, a2, b1, b2, hf, hl, HE, hown, hg⟩ := hrel
      by_cases hq : 0 < q'
      · have r1 := Int.emod_nonneg p' (show q' ≠ 0 by omega)
        have r2 := Int.emod_lt_of_pos p' hq
        have d1 : Hid (0 ≤ p' / q' ∧ p' / q' ≤ p') := ⟨Int.ediv_nonneg a1 b1, Int.ediv_le_self q' a1⟩
        have HS : Hid (eucl 1001 p q = (l ++ [p' / q']) ++ eucl (f - 1) q' (p' % q')) := by
          rw [HE.out, eucl_step f p' q' hq hf, List.append_assoc]; exact rfl
        clear HE
        go_wp2_with (at_builtin; refine ap_int rfl _ _ rfl w.heap.size u5 l rfl hown _ rfl (by omega) hg.size ?_; intro v' w1 hown1 hm1)
        go_quiet (fail)
        go_wp2_with fail
        go_roundw
        case rel =>
          exact ⟨q', p' % q', l ++ [p' / q'], f - 1, rfl, rfl, by omega, by omega, r1, by omega, by omega, by simp; omega, HS, Ge.owns (by (repeat (first | with_reducible exact Ge.refl _ | assumption | with_reducible refine Ge.drew ?_ | with_reducible refine Ge.drewN ?_ _ | with_reducible refine Ge.alloc ?_ _ | (with_reducible refine Ge.setCell ?_ (by first | (simp; done) | omega | (simp; omega)) _) | with_reducible refine Ge.trans ?_ (by assumption)))) hown1, by have := hg.mine hown (Nat.le_refl _) hm1; (repeat (first | with_reducible exact Ge.refl _ | assumption | with_reducible refine Ge.drew ?_ | with_reducible refine Ge.drewN ?_ _ | with_reducible refine Ge.alloc ?_ _ | (with_reducible refine Ge.setCell ?_ (by first | (simp; done) | omega | (simp; omega)) _) | with_reducible refine Ge.trans ?_ (by assumption)))⟩
        case measure => simp [intOf]; omega
      · have hz : q' = 0 := by omega
        subst hz
        go_wp2_with fail
        go_ret
        have hl' : termsOf p q = l := by rw [HT.out, HE.out, eucl_zero]; simp
        rw [hl']
        exact ⟨_, rfl, hown, hg⟩
  · have hl' : termsOf p q = [] := by unfold termsOf; rw [if_neg ok]
    have HL := Lib.hid hl'
    clear hl'
    have hn : ¬ (1 ≤ p ∧ p ≤ 1000 ∧ 1 ≤ q ∧ q ≤ 1000) := fun h => ok (by simp [partOk, h])
    clear ok
    go_enter Try.func36, Try.ntmps36
    go_wp2_with fail
    all_goals (go_ret; rw [HL.out]; exact ⟨_, rfl, owns_lit0 _ _ _, by (repeat (first | with_reducible exact Ge.refl _ | assumption | with_reducible refine Ge.drew ?_ | with_reducible refine Ge.drewN ?_ _ | with_reducible refine Ge.alloc ?_ _ | (with_reducible refine Ge.setCell ?_ (by first | (simp; done) | omega | (simp; omega)) _) | with_reducible refine Ge.trans ?_ (by assumption)))⟩)

theorem isum_step (l : List Int) (k : Nat) (h : k < l.length) : isum (l.take (k + 1)) = isum (l.take k) + nth l k := by rw [isum_take l k h, nth_eq l k h]

theorem terms_sum (p q : Int) (k : Nat) : 0 ≤ isum ((termsOf p q).take k) ∧ isum ((termsOf p q).take k) ≤ 1001000 := by
  have h1 := isum_bd ((termsOf p q).take k) 1000 (fun x hx => termsOf_bd p q x (List.mem_of_mem_take hx))
  have h2 := termsOf_len p q
  have h3 : ((termsOf p q).take k).length ≤ 1001 := by rw [List.length_take]; omega
  omega

set_option maxHeartbeats 400000 in
theorem iCountUnits (p q : Int) (w : World) : Calls Try.prog 13 #[.int .i64 p, .int .i64 q] w fun e w' => e = .returned (.int .i64 (countUnits p q)) ∧ Ge w w' := by
  obtain ⟨l, hl⟩ : ∃ l, l = termsOf p q := ⟨_, rfl⟩
  have hs : ∀ k, 0 ≤ isum (l.take k) ∧ isum (l.take k) ≤ 1001000 := fun k => by rw [hl]; exact terms_sum p q k
  have hlen : l.length ≤ 1001 := by rw [hl]; exact termsOf_len p q
  have hb : ∀ x ∈ l, 0 ≤ x ∧ x ≤ 1000 := by rw [hl]; exact termsOf_bd p q
  have HS := Lib.hid hs
  have HB := Lib.hid hb
  have HCU : Hid (countUnits p q = if l = [] then -1 else isum l) := by rw [hl]; exact rfl
  have HT : Hid (Gives = Gives) := rfl
  have hc : ∀ w, Calls Try.prog 36 #[.int .i64 p, .int .i64 q] w (Gives w l) := fun w => by rw [hl]; exact iTermsOf p q w
  have HC := Lib.hid hc
  clear hl hs hb hc HT
  by_cases he : l = []
  · subst he
    go_enter Try.func13, Try.ntmps13
    go_wp2_with (go_at_call 36; ((with_reducible refine (HC.out _).mono ?_); rintro e w' ⟨v, rfl, hown, hg⟩; obtain ⟨pp, cap, rfl, hcell⟩ := SlI.openN (SlI.of_owns hown) rfl))
    go_ret
    exact ⟨ret_int (by rw [HCU.out]; simp), hg⟩
  · obtain ⟨n, hn⟩ : ∃ n, l.length = n := ⟨_, rfl⟩
    have hn0 : 0 < n := by rw [← hn]; exact List.length_pos_iff.2 he
    have HE := Lib.hid he
    have HN := Lib.hid hn
    rw [hn] at hlen
    have e1 : ((n : Int) == 0) = false := by simp; omega
    clear he hn
    go_enter Try.func13, Try.ntmps13
    go_wp2_with (go_at_call 36; ((with_reducible refine (HC.out _).mono ?_); rintro e w' ⟨v, rfl, hown, hg⟩; obtain ⟨pp, cap, rfl, hcell⟩ := SlI.openN (SlI.of_owns hown) HN.out))
    go_loop [6, 17] (fun s i => ∃ k : Nat, k ≤ n ∧ i = .int .i64 k ∧ s = .int .i64 (isum (l.take k))) (fun _ i => n - (intOf i).toNat)
    case atStart => exact ⟨0, Nat.zero_le _, rfl, by simp [isum]⟩
    case round =>
      obtain ⟨k, hk, rfl, rfl⟩ := hrel
      by_cases hlt : k < n
      · obtain ⟨b, o, rfl, x1⟩ := hcell k hlt
        clear hcell
        have s1 := HS.out k
        have s2 := HB.out (nth l k) (by have := HN.out; rw [nth_eq l k (by omega)]; exact List.getElem_mem _)
        have H3 := Lib.hid (isum_step l k (by have := HN.out; omega))
        go_wp2_with fail
        go_round
        case rel => exact ⟨k + 1, by omega, by go_num, by rw [H3.out]⟩
        case measure => simp [intOf]; omega
      · have hkn : k = n := by omega
        have ht : l.take k = l := by rw [hkn, ← HN.out]; exact List.take_length
        have H4 := Lib.hid ht
        clear ht hkn
        go_wp2_with fail
        go_ret
        exact ⟨ret_int (by rw [HCU.out, if_neg HE.out, H4.out]), hg⟩

end Go.Proofs.Ytjogeicoofdlgaa
