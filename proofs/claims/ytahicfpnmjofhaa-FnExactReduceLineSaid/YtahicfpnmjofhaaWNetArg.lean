/- A network as a law's argument: toNet, szNet, eqNet of equal networks. -/
import Derived.Test.YtahicfpnmjofhaaWWireArg
import Derived.Test.YtahicfpnmjofhaaWLaw
import Derived.Below
namespace Go.Proofs.Ytahicfpnmjofhaa
set_option maxRecDepth 100000
open Go.ChangeShapes Go.WideShapes Go.ChangeAt Go.RowKit Go.Joins

set_option maxHeartbeats 800000 in
theorem lToNet (N E S : Int) (s : Value) (m : Nat) (xs : List Int) (w : World) (hs : SlF w s m 3 xs) (hm : m ≤ 1048576) :
    Calls Try.prog 6 #[.agg #[.int .i64 N, .int .i64 E, .int .i64 S, s]] w fun e w' => ∃ v, e = .returned (.agg #[.int .i64 N, .int .i64 E, .int .i64 S, v]) ∧ w'.ownsRow w.heap.size 45 3 v m (icells xs) ∧ Ge w w' := by
  have HV := Lib.hid hs
  clear hs
  go_enter Try.func6, Try.ntmps6
  go_wp2_with (go_at_call 13; ((with_reducible refine (lToWireS _ m xs _ (HV.out.ge (Ge.alloc (Ge.alloc (Ge.alloc (Ge.refl w) _) _) _)) hm).mono ?_); rintro e w1 ⟨v1, rfl, o1, gw1⟩); obtain ⟨p1, c1, rfl⟩ := owns_form o1; have ob0 : Own w1 ⟨w.heap.size + 1, 0, none⟩ _ := Ge.own gw1 (own_old (own_new (by simp) rfl)); have oc0 : Own w1 ⟨w.heap.size + 1 + 1, 0, none⟩ _ := Ge.own gw1 (own_new (by simp) rfl); have ob1 : Own w1 ⟨w.heap.size + 1, 1, none⟩ _ := Ge.own gw1 (own_old (own_new (by simp) rfl)); have oc1 : Own w1 ⟨w.heap.size + 1 + 1, 1, none⟩ _ := Ge.own gw1 (own_new (by simp) rfl); have ob2 : Own w1 ⟨w.heap.size + 1, 2, none⟩ _ := Ge.own gw1 (own_old (own_new (by simp) rfl)); have oc2 : Own w1 ⟨w.heap.size + 1 + 1, 2, none⟩ _ := Ge.own gw1 (own_new (by simp) rfl); have ob3 : Own w1 ⟨w.heap.size + 1, 3, none⟩ _ := Ge.own gw1 (own_old (own_new (by simp) rfl)); have oc3 : Own w1 ⟨w.heap.size + 1 + 1, 3, none⟩ _ := Ge.own gw1 (own_new (by simp) rfl); have bc0 := ob0.1; have bf0 := ob0.2; have cc0 := oc0.1; have cf0 := oc0.2; clear ob0 oc0; have bc1 := ob1.1; have bf1 := ob1.2; have cc1 := oc1.1; have cf1 := oc1.2; clear ob1 oc1; have bc2 := ob2.1; have bf2 := ob2.2; have cc2 := oc2.1; have cf2 := oc2.2; clear ob2 oc2; have bc3 := ob3.1; have bf3 := ob3.2; have cc3 := oc3.1; have cf3 := oc3.2; clear ob3 oc3)
  have Gw1 : Ge w w1 := Ge.trans (Ge.alloc (Ge.alloc (Ge.alloc (Ge.refl w) _) _) _) gw1
  simp at bc0 bc1 bc2 bc3 cc0 cc1 cc2 cc3
  have o2 := owns_mono (ownsRow_setCell_below (ownsRow_setCell_below (ownsRow_setCell_below (ownsRow_setCell_below (ownsRow_setCell_below o1 (a := ⟨w.heap.size + 1 + 1, 3, none⟩) (by simp) (.slice p1 m c1)) (a := ⟨w.heap.size + 1, 0, none⟩) (by simp) (.int .i64 N)) (a := ⟨w.heap.size + 1, 1, none⟩) (by simp) (.int .i64 E)) (a := ⟨w.heap.size + 1, 2, none⟩) (by simp) (.int .i64 S)) (a := ⟨w.heap.size + 1, 3, none⟩) (by simp) (.slice p1 m c1)) (show w.heap.size ≤ _ by simp; omega)
  refine bodyPost_ret (v := .agg #[.int .i64 N, .int .i64 E, .int .i64 S, .slice p1 m c1]) (by simp [results, Try.results6, go_sem, *]) rfl ⟨_, rfl, ?_, by (repeat (first | with_reducible exact Ge.refl _ | assumption | with_reducible refine Ge.drew ?_ | with_reducible refine Ge.drewN ?_ _ | with_reducible refine Ge.alloc ?_ _ | (with_reducible refine Ge.setCell ?_ (by first | (simp; done) | omega | (simp; omega)) _) | with_reducible refine Ge.trans ?_ (by assumption)))⟩
  exact o2

set_option maxHeartbeats 400000 in
theorem lSzNet (N E S : Int) (p : Option Addr) (n cap : Nat) (L : Int) (w : World) (hm : n ≤ 9223372036854775807) (h0 : 0 ≤ L) (h1 : L ≤ 1048576) :
    Calls Try.prog 4 #[.agg #[.int .i64 N, .int .i64 E, .int .i64 S, .slice p n cap], .int .i64 L] w fun e w' => e = .returned (.int .i64 (if L - n < 0 then -1 else L - n)) ∧ Ge w w' := by
  by_cases h : L - n < 0
  · rw [if_pos h]
    have hz : ∀ w0, Calls Try.prog 9 #[.slice p n cap, .int .i64 L] w0 fun e w' => e = .returned (.int .i64 (-1)) ∧ w0 = w' := fun w0 => by
      have := lSzWireS p n cap L w0 hm h0 h1
      rwa [if_pos h] at this
    have HZ := Lib.hid hz
    clear hz
    go_enter Try.func4, Try.ntmps4
    go_wp2_with (go_at_call 9; ((with_reducible refine (HZ.out _).mono ?_); rintro e w' ⟨rfl, rfl⟩))
    go_ret
    exact ⟨rfl, by (repeat (first | with_reducible exact Ge.refl _ | assumption | with_reducible refine Ge.drew ?_ | with_reducible refine Ge.drewN ?_ _ | with_reducible refine Ge.alloc ?_ _ | (with_reducible refine Ge.setCell ?_ (by first | (simp; done) | omega | (simp; omega)) _) | with_reducible refine Ge.trans ?_ (by assumption)))⟩
  · rw [if_neg h]
    have hz : ∀ w0, Calls Try.prog 9 #[.slice p n cap, .int .i64 L] w0 fun e w' => e = .returned (.int .i64 (L - n)) ∧ w0 = w' := fun w0 => by
      have := lSzWireS p n cap L w0 hm h0 h1
      rwa [if_neg h] at this
    have HZ := Lib.hid hz
    have h' : 0 ≤ L - (n : Int) := by omega
    clear hz
    go_enter Try.func4, Try.ntmps4
    go_wp2_with (go_at_call 9; ((with_reducible refine (HZ.out _).mono ?_); rintro e w' ⟨rfl, rfl⟩))
    go_ret
    exact ⟨rfl, by (repeat (first | with_reducible exact Ge.refl _ | assumption | with_reducible refine Ge.drew ?_ | with_reducible refine Ge.drewN ?_ _ | with_reducible refine Ge.alloc ?_ _ | (with_reducible refine Ge.setCell ?_ (by first | (simp; done) | omega | (simp; omega)) _) | with_reducible refine Ge.trans ?_ (by assumption)))⟩

set_option maxHeartbeats 800000 in
theorem lEqNetA (N E S : Int) (sa sb : Value) (m : Nat) (xs : List Int) (w : World) (ha : SlF w sa m 3 xs) (hb : SlF w sb m 3 xs) (hm : m ≤ 4611686018427387904) :
    Calls Try.prog 8 #[.agg #[.int .i64 N, .int .i64 E, .int .i64 S, sa], .agg #[.int .i64 N, .int .i64 E, .int .i64 S, sb]] w fun e w' => e = .returned (.bool true) ∧ Ge w w' := by
  have t1 : (N != N) = false := by simp
  have t2 : (E != E) = false := by simp
  have t3 : (S != S) = false := by simp
  have HA := Lib.hid ha
  have HB := Lib.hid hb
  clear ha hb
  go_enter Try.func8, Try.ntmps8
  go_wp2_with (go_at_call 17; ((with_reducible refine (lEqWireS sa sb m xs _ (HA.out.ge (Ge.alloc (Ge.alloc (Ge.refl w) _) _)) (HB.out.ge (Ge.alloc (Ge.alloc (Ge.refl w) _) _)) hm).mono ?_); rintro e w' ⟨rfl, hb⟩))
  go_ret
  exact ⟨rfl, by (repeat (first | with_reducible exact Ge.refl _ | assumption | with_reducible refine Ge.drew ?_ | with_reducible refine Ge.drewN ?_ _ | with_reducible refine Ge.alloc ?_ _ | (with_reducible refine Ge.setCell ?_ (by first | (simp; done) | omega | (simp; omega)) _) | with_reducible refine Ge.trans ?_ (by assumption)))⟩
end Go.Proofs.Ytahicfpnmjofhaa
