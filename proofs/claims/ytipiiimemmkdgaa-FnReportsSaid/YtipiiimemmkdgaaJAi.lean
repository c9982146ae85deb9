/- potential, l05Sorted, l05Index, l05Potential. No condition. HitChance of impl and of the reference. No condition. ResistanceOf, l05Scaled, ResistLine. No condition. PotentialsOf, PotentialLine. No condition. FormatFault. FaultLine of impl and of spec. No condition. -/
import Derived.Test.YtipiiimemmkdgaaPlPot
import Derived.Test.YtipiiimemmkdgaaJAh
import Derived.Test.YtipiiimemmkdgaaJAf
import Derived.Test.YtipiiimemmkdgaaJAc
import Derived.Test.YtipiiimemmkdgaaJAd
import Derived.Test.YtipiiimemmkdgaaWFlat
namespace Go.Proofs.Ytipiiimemmkdgaa
set_option maxRecDepth 100000
open Go.ChangeShapes Go.WideShapes Go.ChangeAt Go.RowKit Go.Joins

theorem iPotential (N E S : Int) (s : Value) (m : Nat) (xs : List Int) (a b x : Int) (w : World) (hs : SlF w s m 3 xs) (hm : m ≤ 9223372036854775807) :
    Calls Try.prog 24 #[.agg #[.int .i64 N, .int .i64 E, .int .i64 S, s], .int .i64 a, .int .i64 b, .int .i64 x] w fun e w' => e = .returned (.int .i64 (forV N E S m xs a b + forV N E S m xs x b - forV N E S m xs a x)) ∧ Ge w w' := by
  obtain ⟨p, cap, rfl, hc⟩ := hs.open
  have HV := Lib.hid hs
  clear hs hc
  have p3 := forV_bd N E S m xs a b
  have p4 := forV_bd N E S m xs x b
  have p5 := forV_bd N E S m xs a x
  have w1' : IntKind.i64.wrap (forV N E S m xs a b + forV N E S m xs x b) = forV N E S m xs a b + forV N E S m xs x b := IntWalk.i64_in _ (by omega)
  have w2' : IntKind.i64.wrap (forV N E S m xs a b + forV N E S m xs x b - forV N E S m xs a x) = forV N E S m xs a b + forV N E S m xs x b - forV N E S m xs a x := IntWalk.i64_in _ (by omega)
  clear p3 p4 p5
  have HFo := Lib.hid (fun u v w' (g : Ge w w') => iForestSum N E S (.slice p m cap) m xs u v w' (HV.out.ge g) hm)
  go_enter Try.func24, Try.ntmps24
  go_wp2_with fail
  go_region_held3 (fun w' => w'.cell? ⟨w.heap.size, 0, none⟩ = some (.int .i64 N) ∧ w'.cell? ⟨w.heap.size, 1, none⟩ = some (.int .i64 E) ∧ w'.cell? ⟨w.heap.size, 2, none⟩ = some (.int .i64 S) ∧ w'.cell? ⟨w.heap.size, 3, none⟩ = some (.slice p m cap) ∧ Ge w w') (first | exact ⟨hb.keep (‹_ ∧ _ ∧ _ ∧ _ ∧ _›).1, hb.keep (‹_ ∧ _ ∧ _ ∧ _ ∧ _›).2.1, hb.keep (‹_ ∧ _ ∧ _ ∧ _ ∧ _›).2.2.1, hb.keep (‹_ ∧ _ ∧ _ ∧ _ ∧ _›).2.2.2.1, Ge.trans (‹_ ∧ _ ∧ _ ∧ _ ∧ _›).2.2.2.2 hb⟩ | ((refine ⟨?_, ?_, ?_, ?_, ?_⟩ <;> (repeat (first | assumption | with_reducible exact Ge.refl _ | with_reducible refine cv_drew ?_ | with_reducible refine cv_alloc ?_ | with_reducible refine cv_set ?_ | with_reducible refine cell_drew ?_ | ((with_reducible refine cell_new ?_ ?_); (focus (simp; done)); rfl) | ((with_reducible refine froz_new (v := undef) ?_ ?_); (focus (simp; done)); rfl) | with_reducible refine cell_drewN ?_ | with_reducible refine cell_alloc ?_ | ((with_reducible refine cell_set ?_ ?_); rotate_left; focus (simp; done)) | with_reducible refine froz_drew ?_ | with_reducible refine froz_set ?_ | with_reducible refine froz_alloc (by assumption) ?_ | with_reducible refine Ge.drew ?_ | with_reducible refine Ge.drewN ?_ _ | with_reducible refine Ge.alloc ?_ _ | ((with_reducible refine Ge.setCell ?_ ?_ _); rotate_left; focus (first | (simp; done) | omega | (simp; omega))) | with_reducible refine Ge.trans ?_ (by assumption)))); done) | ((obtain ⟨s0, s1, s2, s3, s4⟩ := ‹_ ∧ _ ∧ _ ∧ _ ∧ _›); refine ⟨?_, ?_, ?_, ?_, ?_⟩ <;> (repeat (first | assumption | with_reducible exact Ge.refl _ | with_reducible refine cv_drew ?_ | with_reducible refine cv_alloc ?_ | with_reducible refine cv_set ?_ | with_reducible refine cell_drew ?_ | ((with_reducible refine cell_new ?_ ?_); (focus (simp; done)); rfl) | ((with_reducible refine froz_new (v := undef) ?_ ?_); (focus (simp; done)); rfl) | with_reducible refine cell_drewN ?_ | with_reducible refine cell_alloc ?_ | ((with_reducible refine cell_set ?_ ?_); rotate_left; focus (simp; done)) | with_reducible refine froz_drew ?_ | with_reducible refine froz_set ?_ | with_reducible refine froz_alloc (by assumption) ?_ | with_reducible refine Ge.drew ?_ | with_reducible refine Ge.drewN ?_ _ | with_reducible refine Ge.alloc ?_ _ | ((with_reducible refine Ge.setCell ?_ ?_ _); rotate_left; focus (first | (simp; done) | omega | (simp; omega))) | with_reducible refine Ge.trans ?_ (by assumption))))) (first | (go_at_call 23; ((with_reducible refine (HFo.out _ _ _ (‹_ ∧ _ ∧ _ ∧ _ ∧ Ge w _›.2.2.2.2)).mono ?_); rintro e w' ⟨rfl, hb⟩)) | fail); (rename_i hHeldX; obtain ⟨c0_0, c0_1, c0_2, c0_3, G9⟩ := hHeldX)
  go_wp2_with fail
  go_ret
  exact ⟨rfl, G9⟩
end Go.Proofs.Ytipiiimemmkdgaa

namespace Go.Proofs.Ytipiiimemmkdgaa
set_option maxRecDepth 100000
open Go.ChangeShapes Go.WideShapes Go.ChangeAt Go.RowKit Go.Joins

theorem ratioOf_two (n d : Int) : ratioOf (2 * n) (2 * d) = ratioOf n d := by
  unfold ratioOf
  by_cases h : d = 0
  · rw [if_pos h, if_pos (by omega)]
  · rw [if_neg h, if_neg (by omega)]
    have e1 : (2 * n).natAbs = 2 * n.natAbs := by rw [Int.natAbs_mul]; rfl
    have e2 : (2 * d).natAbs = 2 * d.natAbs := by rw [Int.natAbs_mul]; rfl
    have e3 : gcdN (2 * n) (2 * d) = 2 * gcdN n d := by unfold gcdN; rw [e1, e2, Nat.gcd_mul_left]
    simp only [e1, e2, e3, Nat.mul_div_mul_left _ _ (show 0 < 2 by decide)]
    have s1 : (2 * n < 0) = (n < 0) := propext (by omega)
    have s2 : (2 * d < 0) = (d < 0) := propext (by omega)
    simp only [s1, s2]
noncomputable def hcB (N E S : Int) (m : Nat) (xs : List Int) (v a b : Int) : Bool := difB N E S m xs a b && decide (0 ≤ v ∧ v < N)
theorem hcB_f0 {N E S : Int} {m : Nat} {xs : List Int} {v a b : Int} (h : difB N E S m xs a b = false) : hcB N E S m xs v a b = false := by simp [hcB, h]
theorem hcB_f1 {N E S : Int} {m : Nat} {xs : List Int} {v a b : Int} (h : ¬ (0 ≤ v ∧ v < N)) : hcB N E S m xs v a b = false := by simp [hcB, h]
theorem hcB_t {N E S : Int} {m : Nat} {xs : List Int} {v a b : Int} (h : difB N E S m xs a b = true) (h1 : 0 ≤ v ∧ v < N) : hcB N E S m xs v a b = true := by simp [hcB, h, h1]
noncomputable def hcR (N E S : Int) (m : Nat) (xs : List Int) (v a b : Int) : Rt := grdR (hcB N E S m xs v a b) (ratioOf (potV N.toNat m xs a b v) (forV N E S m xs a b))
theorem hc_f {N E S : Int} {m : Nat} {xs : List Int} {v a b : Int} (h : hcB N E S m xs v a b = false) : hcR N E S m xs v a b = ⟨0, 0⟩ := by unfold hcR; rw [h]; rfl
theorem hc_t {n : Nat} {E S : Int} {m : Nat} {xs : List Int} {v a b : Int} (h : hcB n E S m xs v a b = true) : hcR n E S m xs v a b = ratioOf (potV n m xs a b v) (forV n E S m xs a b) := by unfold hcR; rw [h]; rfl
/-- The sum of forests is twice the potential. -/
theorem pot_two {n : Nat} {E S : Int} {m : Nat} {xs : List Int} {a b v : Int} (hB : netB n E S m xs = true) (ha : 0 ≤ a ∧ a < n) (hb : 0 ≤ b ∧ b < n) (hv : 0 ≤ v ∧ v < n) (hab : ¬ a = b) :
    forV n E S m xs a b + forV n E S m xs v b - forV n E S m xs a v = 2 * potV n m xs a b v := by
  obtain ⟨⟨n1, n2⟩, h10, hK⟩ := net_wires hB
  rw [forZ_V rfl hB ha hb, forZ_V rfl hB hv hb, forZ_V rfl hB ha hv]
  exact pot_id (by omega) hK ha hb hv hab
theorem pot_self {N E S : Int} {m : Nat} {xs : List Int} {a b : Int} : forV N E S m xs a b + forV N E S m xs a b - forV N E S m xs a a = 2 * forV N E S m xs a b := by
  have : forV N E S m xs a a = 0 := forV_f (fun h => h.2.2.2 rfl)
  omega

end Go.Proofs.Ytipiiimemmkdgaa

namespace Go.Proofs.Ytipiiimemmkdgaa
set_option maxRecDepth 100000
open Go.ChangeShapes Go.WideShapes Go.ChangeAt Go.RowKit Go.Joins

noncomputable def resR (N E S : Int) (m : Nat) (xs : List Int) (a b : Int) : Rt := grdR (node2B N E S m xs a b) (ratioOf (S * forV N E S m xs a b) (treeV N E S m xs))
theorem res_f {N E S : Int} {m : Nat} {xs : List Int} {a b : Int} (h : node2B N E S m xs a b = false) : resR N E S m xs a b = ⟨0, 0⟩ := by unfold resR; rw [h]; rfl
theorem res_t {N E S : Int} {m : Nat} {xs : List Int} {a b : Int} (h : node2B N E S m xs a b = true) : resR N E S m xs a b = ratioOf (S * forV N E S m xs a b) (treeV N E S m xs) := by unfold resR; rw [h]; rfl
theorem net_scale {N E S : Int} {m : Nat} {xs : List Int} (h : netB N E S m xs = true) : 1 ≤ S ∧ S ≤ 1000 := (netP_of h).2.2.1
theorem node2_of' {N E S : Int} {m : Nat} {xs : List Int} {a b : Int} (h : node2B N E S m xs a b = true) : netB N E S m xs = true ∧ (0 ≤ a ∧ a < N) ∧ (0 ≤ b ∧ b < N) := by simpa [node2B] using h

set_option maxHeartbeats 3200000 in
theorem iResistanceOf (N E S : Int) (s : Value) (m : Nat) (xs : List Int) (a b : Int) (w : World) (hs : SlF w s m 3 xs) (hm : m ≤ 9223372036854775807) :
    Calls Try.prog 5 #[.agg #[.int .i64 N, .int .i64 E, .int .i64 S, s], .int .i64 a, .int .i64 b] w fun e w' => e = .returned (.tuple #[.agg #[.int .i64 (resR N E S m xs a b).n, .int .i64 (resR N E S m xs a b).d], .bool (node2B N E S m xs a b)]) ∧ Ge w w' := by
  obtain ⟨p, cap, rfl, hc⟩ := hs.open
  have HV := Lib.hid hs
  clear hs hc
  cases hB : netB N E S m xs with
  | false =>
    have hT := node2_f0 (a := a) (b := b) hB
    have HF := Lib.hid (res_f hT)
    go_enter Try.func5, Try.ntmps5
    go_wp2_with ((go_at_call 20; ((with_reducible refine (iNetOk N E S _ m xs _ (HV.out.ge (Ge.alloc (Ge.alloc (Ge.refl w) _) _)) hm).mono ?_); rintro e w1 ⟨rfl, gw1⟩); have Gw1 : Ge w w1 := (Ge.trans (by (repeat (first | with_reducible exact Ge.refl _ | assumption | with_reducible refine Ge.drew ?_ | with_reducible refine Ge.drewN ?_ _ | with_reducible refine Ge.alloc ?_ _ | (with_reducible refine Ge.setCell ?_ (by first | (simp; done) | omega | (simp; omega)) _) | with_reducible refine Ge.trans ?_ (by assumption)))) gw1); have c0_0 : World.cell? w1 ⟨w.heap.size, 0, none⟩ = some (.int .i64 N) := Ge.keep gw1 (by repeat (first | assumption | exact (own_new (by simp) rfl).1 | with_reducible refine cell_drew ?_ | with_reducible refine cell_drewN ?_ | with_reducible refine cell_alloc ?_ | (simp [*]; done))); have c0_1 : World.cell? w1 ⟨w.heap.size, 1, none⟩ = some (.int .i64 E) := Ge.keep gw1 (by repeat (first | assumption | exact (own_new (by simp) rfl).1 | with_reducible refine cell_drew ?_ | with_reducible refine cell_drewN ?_ | with_reducible refine cell_alloc ?_ | (simp [*]; done))); have c0_2 : World.cell? w1 ⟨w.heap.size, 2, none⟩ = some (.int .i64 S) := Ge.keep gw1 (by repeat (first | assumption | exact (own_new (by simp) rfl).1 | with_reducible refine cell_drew ?_ | with_reducible refine cell_drewN ?_ | with_reducible refine cell_alloc ?_ | (simp [*]; done))); have c0_3 : World.cell? w1 ⟨w.heap.size, 3, none⟩ = some (.slice p m cap) := Ge.keep gw1 (by repeat (first | assumption | exact (own_new (by simp) rfl).1 | with_reducible refine cell_drew ?_ | with_reducible refine cell_drewN ?_ | with_reducible refine cell_alloc ?_ | (simp [*]; done))); have o1_0 : Own w1 ⟨w.heap.size + 1, 0, none⟩ _ := Ge.own gw1 ((by repeat (first | exact ⟨by assumption, by assumption⟩ | exact own_new (by simp) rfl | with_reducible refine own_drew ?_ | with_reducible refine own_old ?_ | (constructor <;> (simp [*]; done))))); have c1_0 := cv_some o1_0.1; have f1_0 := o1_0.2; clear o1_0; have o1_1 : Own w1 ⟨w.heap.size + 1, 1, none⟩ _ := Ge.own gw1 ((by repeat (first | exact ⟨by assumption, by assumption⟩ | exact own_new (by simp) rfl | with_reducible refine own_drew ?_ | with_reducible refine own_old ?_ | (constructor <;> (simp [*]; done))))); have c1_1 := cv_some o1_1.1; have f1_1 := o1_1.2; clear o1_1; have zw1 : w.heap.size + 2 ≤ w1.heap.size := (by have := Ge.size gw1; (try simp at this); omega)); rw [hB])
    exact bodyPost_ret (v := .tuple #[.agg #[.int .i64 0, .int .i64 0], .bool false]) (by simp [results, Try.results5, go_sem, *]) rfl ⟨by rw [HF.out, hT], by (repeat (first | with_reducible exact Ge.refl _ | assumption | with_reducible refine Ge.drew ?_ | with_reducible refine Ge.drewN ?_ _ | with_reducible refine Ge.alloc ?_ _ | (with_reducible refine Ge.setCell ?_ (by first | (simp; done) | omega | (simp; omega)) _) | with_reducible refine Ge.trans ?_ (by assumption)))⟩
  | true =>
    obtain ⟨⟨n1, n2⟩, h10, hK⟩ := net_wires hB
    have HK := Lib.hid hK
    clear hK
    obtain ⟨n, rfl⟩ : ∃ n : Nat, N = (n : Int) := ⟨N.toNat, by omega⟩
    by_cases ha : ¬ (0 ≤ a ∧ a < (n : Int))
    · have ia : nodeB n a = false := nodeB_f ha
      have hT := node2_f1 (E := E) (S := S) (m := m) (xs := xs) (b := b) ha
      have HF := Lib.hid (res_f hT)
      clear ha
      go_enter Try.func5, Try.ntmps5
      go_wp2_with (first | ((go_at_call 20; ((with_reducible refine (iNetOk (n : Int) E S _ m xs _ (HV.out.ge (Ge.alloc (Ge.alloc (Ge.refl w) _) _)) hm).mono ?_); rintro e w1 ⟨rfl, gw1⟩); have Gw1 : Ge w w1 := (Ge.trans (by (repeat (first | with_reducible exact Ge.refl _ | assumption | with_reducible refine Ge.drew ?_ | with_reducible refine Ge.drewN ?_ _ | with_reducible refine Ge.alloc ?_ _ | (with_reducible refine Ge.setCell ?_ (by first | (simp; done) | omega | (simp; omega)) _) | with_reducible refine Ge.trans ?_ (by assumption)))) gw1); have c0_0 : World.cell? w1 ⟨w.heap.size, 0, none⟩ = some (.int .i64 (n : Int)) := Ge.keep gw1 (by repeat (first | assumption | exact (own_new (by simp) rfl).1 | with_reducible refine cell_drew ?_ | with_reducible refine cell_drewN ?_ | with_reducible refine cell_alloc ?_ | (simp [*]; done))); have c0_1 : World.cell? w1 ⟨w.heap.size, 1, none⟩ = some (.int .i64 E) := Ge.keep gw1 (by repeat (first | assumption | exact (own_new (by simp) rfl).1 | with_reducible refine cell_drew ?_ | with_reducible refine cell_drewN ?_ | with_reducible refine cell_alloc ?_ | (simp [*]; done))); have c0_2 : World.cell? w1 ⟨w.heap.size, 2, none⟩ = some (.int .i64 S) := Ge.keep gw1 (by repeat (first | assumption | exact (own_new (by simp) rfl).1 | with_reducible refine cell_drew ?_ | with_reducible refine cell_drewN ?_ | with_reducible refine cell_alloc ?_ | (simp [*]; done))); have c0_3 : World.cell? w1 ⟨w.heap.size, 3, none⟩ = some (.slice p m cap) := Ge.keep gw1 (by repeat (first | assumption | exact (own_new (by simp) rfl).1 | with_reducible refine cell_drew ?_ | with_reducible refine cell_drewN ?_ | with_reducible refine cell_alloc ?_ | (simp [*]; done))); have o1_0 : Own w1 ⟨w.heap.size + 1, 0, none⟩ _ := Ge.own gw1 ((by repeat (first | exact ⟨by assumption, by assumption⟩ | exact own_new (by simp) rfl | with_reducible refine own_drew ?_ | with_reducible refine own_old ?_ | (constructor <;> (simp [*]; done))))); have c1_0 := cv_some o1_0.1; have f1_0 := o1_0.2; clear o1_0; have o1_1 : Own w1 ⟨w.heap.size + 1, 1, none⟩ _ := Ge.own gw1 ((by repeat (first | exact ⟨by assumption, by assumption⟩ | exact own_new (by simp) rfl | with_reducible refine own_drew ?_ | with_reducible refine own_old ?_ | (constructor <;> (simp [*]; done))))); have c1_1 := cv_some o1_1.1; have f1_1 := o1_1.2; clear o1_1; have zw1 : w.heap.size + 2 ≤ w1.heap.size := (by have := Ge.size gw1; (try simp at this); omega)); rw [hB]) | (go_at_call 21; ((with_reducible refine (isNodeI n E S _ _ _ rfl).mono ?_); rintro e wn ⟨rfl, gwn⟩); have Gwn : Ge w wn := (Ge.trans (by (repeat (first | with_reducible exact Ge.refl _ | assumption | with_reducible refine Ge.drew ?_ | with_reducible refine Ge.drewN ?_ _ | with_reducible refine Ge.alloc ?_ _ | (with_reducible refine Ge.setCell ?_ (by first | (simp; done) | omega | (simp; omega)) _) | with_reducible refine Ge.trans ?_ (by assumption)))) gwn); have c0_0 : World.cell? wn ⟨w.heap.size, 0, none⟩ = some (.int .i64 (n : Int)) := Ge.keep gwn (by repeat (first | assumption | exact (own_new (by simp) rfl).1 | with_reducible refine cell_drew ?_ | with_reducible refine cell_drewN ?_ | with_reducible refine cell_alloc ?_ | (simp [*]; done))); have c0_1 : World.cell? wn ⟨w.heap.size, 1, none⟩ = some (.int .i64 E) := Ge.keep gwn (by repeat (first | assumption | exact (own_new (by simp) rfl).1 | with_reducible refine cell_drew ?_ | with_reducible refine cell_drewN ?_ | with_reducible refine cell_alloc ?_ | (simp [*]; done))); have c0_2 : World.cell? wn ⟨w.heap.size, 2, none⟩ = some (.int .i64 S) := Ge.keep gwn (by repeat (first | assumption | exact (own_new (by simp) rfl).1 | with_reducible refine cell_drew ?_ | with_reducible refine cell_drewN ?_ | with_reducible refine cell_alloc ?_ | (simp [*]; done))); have c0_3 : World.cell? wn ⟨w.heap.size, 3, none⟩ = some (.slice p m cap) := Ge.keep gwn (by repeat (first | assumption | exact (own_new (by simp) rfl).1 | with_reducible refine cell_drew ?_ | with_reducible refine cell_drewN ?_ | with_reducible refine cell_alloc ?_ | (simp [*]; done))); have o1_0 : Own wn ⟨w.heap.size + 1, 0, none⟩ _ := Ge.own gwn ((by repeat (first | exact ⟨by assumption, by assumption⟩ | exact own_new (by simp) rfl | with_reducible refine own_drew ?_ | with_reducible refine own_old ?_ | (constructor <;> (simp [*]; done))))); have c1_0 := cv_some o1_0.1; have f1_0 := o1_0.2; clear o1_0; have o1_1 : Own wn ⟨w.heap.size + 1, 1, none⟩ _ := Ge.own gwn ((by repeat (first | exact ⟨by assumption, by assumption⟩ | exact own_new (by simp) rfl | with_reducible refine own_drew ?_ | with_reducible refine own_old ?_ | (constructor <;> (simp [*]; done))))); have c1_1 := cv_some o1_1.1; have f1_1 := o1_1.2; clear o1_1; have zwn : w.heap.size + 2 ≤ wn.heap.size := (by have := Ge.size gwn; (try simp at this); omega)))
      exact bodyPost_ret (v := .tuple #[.agg #[.int .i64 0, .int .i64 0], .bool false]) (by simp [results, Try.results5, go_sem, *]) rfl ⟨by rw [HF.out, hT], by (repeat (first | with_reducible exact Ge.refl _ | assumption | with_reducible refine Ge.drew ?_ | with_reducible refine Ge.drewN ?_ _ | with_reducible refine Ge.alloc ?_ _ | (with_reducible refine Ge.setCell ?_ (by first | (simp; done) | omega | (simp; omega)) _) | with_reducible refine Ge.trans ?_ (by assumption)))⟩
    replace ha := Classical.not_not.1 ha
    have ia : nodeB n a = true := nodeB_t ha
    by_cases hb : ¬ (0 ≤ b ∧ b < (n : Int))
    · have ib : nodeB n b = false := nodeB_f hb
      have hT := node2_f2 (E := E) (S := S) (m := m) (xs := xs) (a := a) hb
      have HF := Lib.hid (res_f hT)
      clear ha hb
      go_enter Try.func5, Try.ntmps5
      go_wp2_with (first | ((go_at_call 20; ((with_reducible refine (iNetOk (n : Int) E S _ m xs _ (HV.out.ge (Ge.alloc (Ge.alloc (Ge.refl w) _) _)) hm).mono ?_); rintro e w1 ⟨rfl, gw1⟩); have Gw1 : Ge w w1 := (Ge.trans (by (repeat (first | with_reducible exact Ge.refl _ | assumption | with_reducible refine Ge.drew ?_ | with_reducible refine Ge.drewN ?_ _ | with_reducible refine Ge.alloc ?_ _ | (with_reducible refine Ge.setCell ?_ (by first | (simp; done) | omega | (simp; omega)) _) | with_reducible refine Ge.trans ?_ (by assumption)))) gw1); have c0_0 : World.cell? w1 ⟨w.heap.size, 0, none⟩ = some (.int .i64 (n : Int)) := Ge.keep gw1 (by repeat (first | assumption | exact (own_new (by simp) rfl).1 | with_reducible refine cell_drew ?_ | with_reducible refine cell_drewN ?_ | with_reducible refine cell_alloc ?_ | (simp [*]; done))); have c0_1 : World.cell? w1 ⟨w.heap.size, 1, none⟩ = some (.int .i64 E) := Ge.keep gw1 (by repeat (first | assumption | exact (own_new (by simp) rfl).1 | with_reducible refine cell_drew ?_ | with_reducible refine cell_drewN ?_ | with_reducible refine cell_alloc ?_ | (simp [*]; done))); have c0_2 : World.cell? w1 ⟨w.heap.size, 2, none⟩ = some (.int .i64 S) := Ge.keep gw1 (by repeat (first | assumption | exact (own_new (by simp) rfl).1 | with_reducible refine cell_drew ?_ | with_reducible refine cell_drewN ?_ | with_reducible refine cell_alloc ?_ | (simp [*]; done))); have c0_3 : World.cell? w1 ⟨w.heap.size, 3, none⟩ = some (.slice p m cap) := Ge.keep gw1 (by repeat (first | assumption | exact (own_new (by simp) rfl).1 | with_reducible refine cell_drew ?_ | with_reducible refine cell_drewN ?_ | with_reducible refine cell_alloc ?_ | (simp [*]; done))); have o1_0 : Own w1 ⟨w.heap.size + 1, 0, none⟩ _ := Ge.own gw1 ((by repeat (first | exact ⟨by assumption, by assumption⟩ | exact own_new (by simp) rfl | with_reducible refine own_drew ?_ | with_reducible refine own_old ?_ | (constructor <;> (simp [*]; done))))); have c1_0 := cv_some o1_0.1; have f1_0 := o1_0.2; clear o1_0; have o1_1 : Own w1 ⟨w.heap.size + 1, 1, none⟩ _ := Ge.own gw1 ((by repeat (first | exact ⟨by assumption, by assumption⟩ | exact own_new (by simp) rfl | with_reducible refine own_drew ?_ | with_reducible refine own_old ?_ | (constructor <;> (simp [*]; done))))); have c1_1 := cv_some o1_1.1; have f1_1 := o1_1.2; clear o1_1; have zw1 : w.heap.size + 2 ≤ w1.heap.size := (by have := Ge.size gw1; (try simp at this); omega)); rw [hB]) | (go_at_call 21; ((with_reducible refine (isNodeI n E S _ _ _ rfl).mono ?_); rintro e wn ⟨rfl, gwn⟩); have Gwn : Ge w wn := (Ge.trans (by (repeat (first | with_reducible exact Ge.refl _ | assumption | with_reducible refine Ge.drew ?_ | with_reducible refine Ge.drewN ?_ _ | with_reducible refine Ge.alloc ?_ _ | (with_reducible refine Ge.setCell ?_ (by first | (simp; done) | omega | (simp; omega)) _) | with_reducible refine Ge.trans ?_ (by assumption)))) gwn); have c0_0 : World.cell? wn ⟨w.heap.size, 0, none⟩ = some (.int .i64 (n : Int)) := Ge.keep gwn (by repeat (first | assumption | exact (own_new (by simp) rfl).1 | with_reducible refine cell_drew ?_ | with_reducible refine cell_drewN ?_ | with_reducible refine cell_alloc ?_ | (simp [*]; done))); have c0_1 : World.cell? wn ⟨w.heap.size, 1, none⟩ = some (.int .i64 E) := Ge.keep gwn (by repeat (first | assumption | exact (own_new (by simp) rfl).1 | with_reducible refine cell_drew ?_ | with_reducible refine cell_drewN ?_ | with_reducible refine cell_alloc ?_ | (simp [*]; done))); have c0_2 : World.cell? wn ⟨w.heap.size, 2, none⟩ = some (.int .i64 S) := Ge.keep gwn (by repeat (first | assumption | exact (own_new (by simp) rfl).1 | with_reducible refine cell_drew ?_ | with_reducible refine cell_drewN ?_ | with_reducible refine cell_alloc ?_ | (simp [*]; done))); have c0_3 : World.cell? wn ⟨w.heap.size, 3, none⟩ = some (.slice p m cap) := Ge.keep gwn (by repeat (first | assumption | exact (own_new (by simp) rfl).1 | with_reducible refine cell_drew ?_ | with_reducible refine cell_drewN ?_ | with_reducible refine cell_alloc ?_ | (simp [*]; done))); have o1_0 : Own wn ⟨w.heap.size + 1, 0, none⟩ _ := Ge.own gwn ((by repeat (first | exact ⟨by assumption, by assumption⟩ | exact own_new (by simp) rfl | with_reducible refine own_drew ?_ | with_reducible refine own_old ?_ | (constructor <;> (simp [*]; done))))); have c1_0 := cv_some o1_0.1; have f1_0 := o1_0.2; clear o1_0; have o1_1 : Own wn ⟨w.heap.size + 1, 1, none⟩ _ := Ge.own gwn ((by repeat (first | exact ⟨by assumption, by assumption⟩ | exact own_new (by simp) rfl | with_reducible refine own_drew ?_ | with_reducible refine own_old ?_ | (constructor <;> (simp [*]; done))))); have c1_1 := cv_some o1_1.1; have f1_1 := o1_1.2; clear o1_1; have zwn : w.heap.size + 2 ≤ wn.heap.size := (by have := Ge.size gwn; (try simp at this); omega)))
      exact bodyPost_ret (v := .tuple #[.agg #[.int .i64 0, .int .i64 0], .bool false]) (by simp [results, Try.results5, go_sem, *]) rfl ⟨by rw [HF.out, hT], by (repeat (first | with_reducible exact Ge.refl _ | assumption | with_reducible refine Ge.drew ?_ | with_reducible refine Ge.drewN ?_ _ | with_reducible refine Ge.alloc ?_ _ | (with_reducible refine Ge.setCell ?_ (by first | (simp; done) | omega | (simp; omega)) _) | with_reducible refine Ge.trans ?_ (by assumption)))⟩
    replace hb := Classical.not_not.1 hb
    have ib : nodeB n b = true := nodeB_t hb
    have hT := node2_t hB ha hb
    have HF := Lib.hid (res_t hT)
    clear ha hb
    obtain ⟨k1, k2⟩ := net_scale hB
    have b1 := treeV_bd n E S m xs
    have b2 := wf_bd (N := (n : Int)) (E := E) (S := S) (m := m) (xs := xs) (u := S) (by omega) (by omega) a b
    have W1 : IntKind.i64.wrap (S * forV n E S m xs a b) = S * forV n E S m xs a b := IntWalk.i64_in _ (by omega)
    have M1 := mid (n := treeV n E S m xs) (by omega) (by omega)
    have M2 := mid (n := S * forV n E S m xs a b) (by omega) (by omega)
    have HTr := Lib.hid (fun w' (g : Ge w w') => iTreeSum n E S (.slice p m cap) m xs w' (HV.out.ge g) hm)
    have HFo := Lib.hid (fun w' (g : Ge w w') => iForestSum n E S (.slice p m cap) m xs a b w' (HV.out.ge g) hm)
    have HR := Lib.hid (fun w' => iRatioOf _ _ w' M2 M1)
    clear k1 k2
    go_enter Try.func5, Try.ntmps5
    go_wp2_with (first | ((go_at_call 20; ((with_reducible refine (iNetOk (n : Int) E S _ m xs _ (HV.out.ge (Ge.alloc (Ge.alloc (Ge.refl w) _) _)) hm).mono ?_); rintro e w1 ⟨rfl, gw1⟩); have Gw1 : Ge w w1 := (Ge.trans (by (repeat (first | with_reducible exact Ge.refl _ | assumption | with_reducible refine Ge.drew ?_ | with_reducible refine Ge.drewN ?_ _ | with_reducible refine Ge.alloc ?_ _ | (with_reducible refine Ge.setCell ?_ (by first | (simp; done) | omega | (simp; omega)) _) | with_reducible refine Ge.trans ?_ (by assumption)))) gw1); have c0_0 : World.cell? w1 ⟨w.heap.size, 0, none⟩ = some (.int .i64 (n : Int)) := Ge.keep gw1 (by repeat (first | assumption | exact (own_new (by simp) rfl).1 | with_reducible refine cell_drew ?_ | with_reducible refine cell_drewN ?_ | with_reducible refine cell_alloc ?_ | (simp [*]; done))); have c0_1 : World.cell? w1 ⟨w.heap.size, 1, none⟩ = some (.int .i64 E) := Ge.keep gw1 (by repeat (first | assumption | exact (own_new (by simp) rfl).1 | with_reducible refine cell_drew ?_ | with_reducible refine cell_drewN ?_ | with_reducible refine cell_alloc ?_ | (simp [*]; done))); have c0_2 : World.cell? w1 ⟨w.heap.size, 2, none⟩ = some (.int .i64 S) := Ge.keep gw1 (by repeat (first | assumption | exact (own_new (by simp) rfl).1 | with_reducible refine cell_drew ?_ | with_reducible refine cell_drewN ?_ | with_reducible refine cell_alloc ?_ | (simp [*]; done))); have c0_3 : World.cell? w1 ⟨w.heap.size, 3, none⟩ = some (.slice p m cap) := Ge.keep gw1 (by repeat (first | assumption | exact (own_new (by simp) rfl).1 | with_reducible refine cell_drew ?_ | with_reducible refine cell_drewN ?_ | with_reducible refine cell_alloc ?_ | (simp [*]; done))); have o1_0 : Own w1 ⟨w.heap.size + 1, 0, none⟩ _ := Ge.own gw1 ((by repeat (first | exact ⟨by assumption, by assumption⟩ | exact own_new (by simp) rfl | with_reducible refine own_drew ?_ | with_reducible refine own_old ?_ | (constructor <;> (simp [*]; done))))); have c1_0 := cv_some o1_0.1; have f1_0 := o1_0.2; clear o1_0; have o1_1 : Own w1 ⟨w.heap.size + 1, 1, none⟩ _ := Ge.own gw1 ((by repeat (first | exact ⟨by assumption, by assumption⟩ | exact own_new (by simp) rfl | with_reducible refine own_drew ?_ | with_reducible refine own_old ?_ | (constructor <;> (simp [*]; done))))); have c1_1 := cv_some o1_1.1; have f1_1 := o1_1.2; clear o1_1; have zw1 : w.heap.size + 2 ≤ w1.heap.size := (by have := Ge.size gw1; (try simp at this); omega)); rw [hB]) | (go_at_call 21; ((with_reducible refine (isNodeI n E S _ _ _ rfl).mono ?_); rintro e wn ⟨rfl, gwn⟩); have Gwn : Ge w wn := (Ge.trans (by (repeat (first | with_reducible exact Ge.refl _ | assumption | with_reducible refine Ge.drew ?_ | with_reducible refine Ge.drewN ?_ _ | with_reducible refine Ge.alloc ?_ _ | (with_reducible refine Ge.setCell ?_ (by first | (simp; done) | omega | (simp; omega)) _) | with_reducible refine Ge.trans ?_ (by assumption)))) gwn); have c0_0 : World.cell? wn ⟨w.heap.size, 0, none⟩ = some (.int .i64 (n : Int)) := Ge.keep gwn (by repeat (first | assumption | exact (own_new (by simp) rfl).1 | with_reducible refine cell_drew ?_ | with_reducible refine cell_drewN ?_ | with_reducible refine cell_alloc ?_ | (simp [*]; done))); have c0_1 : World.cell? wn ⟨w.heap.size, 1, none⟩ = some (.int .i64 E) := Ge.keep gwn (by repeat (first | assumption | exact (own_new (by simp) rfl).1 | with_reducible refine cell_drew ?_ | with_reducible refine cell_drewN ?_ | with_reducible refine cell_alloc ?_ | (simp [*]; done))); have c0_2 : World.cell? wn ⟨w.heap.size, 2, none⟩ = some (.int .i64 S) := Ge.keep gwn (by repeat (first | assumption | exact (own_new (by simp) rfl).1 | with_reducible refine cell_drew ?_ | with_reducible refine cell_drewN ?_ | with_reducible refine cell_alloc ?_ | (simp [*]; done))); have c0_3 : World.cell? wn ⟨w.heap.size, 3, none⟩ = some (.slice p m cap) := Ge.keep gwn (by repeat (first | assumption | exact (own_new (by simp) rfl).1 | with_reducible refine cell_drew ?_ | with_reducible refine cell_drewN ?_ | with_reducible refine cell_alloc ?_ | (simp [*]; done))); have o1_0 : Own wn ⟨w.heap.size + 1, 0, none⟩ _ := Ge.own gwn ((by repeat (first | exact ⟨by assumption, by assumption⟩ | exact own_new (by simp) rfl | with_reducible refine own_drew ?_ | with_reducible refine own_old ?_ | (constructor <;> (simp [*]; done))))); have c1_0 := cv_some o1_0.1; have f1_0 := o1_0.2; clear o1_0; have o1_1 : Own wn ⟨w.heap.size + 1, 1, none⟩ _ := Ge.own gwn ((by repeat (first | exact ⟨by assumption, by assumption⟩ | exact own_new (by simp) rfl | with_reducible refine own_drew ?_ | with_reducible refine own_old ?_ | (constructor <;> (simp [*]; done))))); have c1_1 := cv_some o1_1.1; have f1_1 := o1_1.2; clear o1_1; have zwn : w.heap.size + 2 ≤ wn.heap.size := (by have := Ge.size gwn; (try simp at this); omega)))
    go_region_held3 (fun w' => w'.cell? ⟨w.heap.size, 0, none⟩ = some (.int .i64 (n : Int)) ∧ w'.cell? ⟨w.heap.size, 1, none⟩ = some (.int .i64 E) ∧ w'.cell? ⟨w.heap.size, 2, none⟩ = some (.int .i64 S) ∧ w'.cell? ⟨w.heap.size, 3, none⟩ = some (.slice p m cap) ∧ w'.cell? ⟨w.heap.size + 1, 0, none⟩ = some (cv w' ⟨w.heap.size + 1, 0, none⟩) ∧ w'.cell? ⟨w.heap.size + 1, 1, none⟩ = some (cv w' ⟨w.heap.size + 1, 1, none⟩) ∧ w'.frozen? ⟨w.heap.size + 1, 0, none⟩ = false ∧ w'.frozen? ⟨w.heap.size + 1, 1, none⟩ = false ∧ Ge w w') (first | exact ⟨hb.keep (‹_ ∧ _ ∧ _ ∧ _ ∧ _ ∧ _ ∧ _ ∧ _ ∧ _›).1, hb.keep (‹_ ∧ _ ∧ _ ∧ _ ∧ _ ∧ _ ∧ _ ∧ _ ∧ _›).2.1, hb.keep (‹_ ∧ _ ∧ _ ∧ _ ∧ _ ∧ _ ∧ _ ∧ _ ∧ _›).2.2.1, hb.keep (‹_ ∧ _ ∧ _ ∧ _ ∧ _ ∧ _ ∧ _ ∧ _ ∧ _›).2.2.2.1, cv_some (hb.keep (‹_ ∧ _ ∧ _ ∧ _ ∧ _ ∧ _ ∧ _ ∧ _ ∧ _›).2.2.2.2.1), cv_some (hb.keep (‹_ ∧ _ ∧ _ ∧ _ ∧ _ ∧ _ ∧ _ ∧ _ ∧ _›).2.2.2.2.2.1), hb.keepF (‹_ ∧ _ ∧ _ ∧ _ ∧ _ ∧ _ ∧ _ ∧ _ ∧ _›).2.2.2.2.1 (‹_ ∧ _ ∧ _ ∧ _ ∧ _ ∧ _ ∧ _ ∧ _ ∧ _›).2.2.2.2.2.2.1, hb.keepF (‹_ ∧ _ ∧ _ ∧ _ ∧ _ ∧ _ ∧ _ ∧ _ ∧ _›).2.2.2.2.2.1 (‹_ ∧ _ ∧ _ ∧ _ ∧ _ ∧ _ ∧ _ ∧ _ ∧ _›).2.2.2.2.2.2.2.1, Ge.trans (‹_ ∧ _ ∧ _ ∧ _ ∧ _ ∧ _ ∧ _ ∧ _ ∧ _›).2.2.2.2.2.2.2.2 hb⟩ | ((refine ⟨?_, ?_, ?_, ?_, ?_, ?_, ?_, ?_, ?_⟩ <;> (repeat (first | assumption | with_reducible exact Ge.refl _ | with_reducible refine cv_drew ?_ | with_reducible refine cv_alloc ?_ | with_reducible refine cv_set ?_ | with_reducible refine cell_drew ?_ | ((with_reducible refine cell_new ?_ ?_); (focus (simp; done)); rfl) | ((with_reducible refine froz_new (v := undef) ?_ ?_); (focus (simp; done)); rfl) | with_reducible refine cell_drewN ?_ | with_reducible refine cell_alloc ?_ | ((with_reducible refine cell_set ?_ ?_); rotate_left; focus (simp; done)) | with_reducible refine froz_drew ?_ | with_reducible refine froz_set ?_ | with_reducible refine froz_alloc (by assumption) ?_ | with_reducible refine Ge.drew ?_ | with_reducible refine Ge.drewN ?_ _ | with_reducible refine Ge.alloc ?_ _ | ((with_reducible refine Ge.setCell ?_ ?_ _); rotate_left; focus (first | (simp; done) | omega | (simp; omega))) | with_reducible refine Ge.trans ?_ (by assumption)))); done) | ((obtain ⟨s0, s1, s2, s3, s4, s5, s6, s7, s8⟩ := ‹_ ∧ _ ∧ _ ∧ _ ∧ _ ∧ _ ∧ _ ∧ _ ∧ _›); refine ⟨?_, ?_, ?_, ?_, ?_, ?_, ?_, ?_, ?_⟩ <;> (repeat (first | assumption | with_reducible exact Ge.refl _ | with_reducible refine cv_drew ?_ | with_reducible refine cv_alloc ?_ | with_reducible refine cv_set ?_ | with_reducible refine cell_drew ?_ | ((with_reducible refine cell_new ?_ ?_); (focus (simp; done)); rfl) | ((with_reducible refine froz_new (v := undef) ?_ ?_); (focus (simp; done)); rfl) | with_reducible refine cell_drewN ?_ | with_reducible refine cell_alloc ?_ | ((with_reducible refine cell_set ?_ ?_); rotate_left; focus (simp; done)) | with_reducible refine froz_drew ?_ | with_reducible refine froz_set ?_ | with_reducible refine froz_alloc (by assumption) ?_ | with_reducible refine Ge.drew ?_ | with_reducible refine Ge.drewN ?_ _ | with_reducible refine Ge.alloc ?_ _ | ((with_reducible refine Ge.setCell ?_ ?_ _); rotate_left; focus (first | (simp; done) | omega | (simp; omega))) | with_reducible refine Ge.trans ?_ (by assumption))))) (first | (go_at_call 12; ((with_reducible refine (HTr.out _ (‹_ ∧ _ ∧ _ ∧ _ ∧ _ ∧ _ ∧ _ ∧ _ ∧ Ge w _›.2.2.2.2.2.2.2.2)).mono ?_); rintro e w' ⟨rfl, hb⟩)) | (go_at_call 23; ((with_reducible refine (HFo.out _ (‹_ ∧ _ ∧ _ ∧ _ ∧ _ ∧ _ ∧ _ ∧ _ ∧ Ge w _›.2.2.2.2.2.2.2.2)).mono ?_); rintro e w' ⟨rfl, hb⟩)) | (go_at_call 22; ((with_reducible refine (HR.out _).mono ?_); rintro e w' ⟨rfl, hb⟩)) | fail); (rename_i hHeldX; obtain ⟨c0_0, c0_1, c0_2, c0_3, c1_0, c1_1, f1_0, f1_1, G9⟩ := hHeldX)
    obtain ⟨r0, r1⟩ := res2W c1_0 c1_1 (by simp)
    clear c1_0 c1_1
    go_wp2_with fail
    exact bodyPost_ret (v := .tuple #[.agg #[.int .i64 (ratioOf (S * forV n E S m xs a b) (treeV n E S m xs)).n, .int .i64 (ratioOf (S * forV n E S m xs a b) (treeV n E S m xs)).d], .bool true]) (by simp [results, Try.results5, go_sem, *]) rfl ⟨by rw [HF.out, hT], by (repeat (first | with_reducible exact Ge.refl _ | assumption | with_reducible refine Ge.drew ?_ | with_reducible refine Ge.drewN ?_ _ | with_reducible refine Ge.alloc ?_ _ | (with_reducible refine Ge.setCell ?_ (by first | (simp; done) | omega | (simp; omega)) _) | with_reducible refine Ge.trans ?_ (by assumption)))⟩

/-- "resistance R trees T". -/
noncomputable def resLine (N E S : Int) (m : Nat) (xs : List Int) (a b : Int) : List UInt8 := if node2B N E S m xs a b = true then [114, 101, 115, 105, 115, 116, 97, 110, 99, 101, 32] ++ ratioTxt (resR N E S m xs a b).n (resR N E S m xs a b).d ++ [32, 116, 114, 101, 101, 115, 32] ++ fmtInt (treeV N E S m xs) else []
theorem resLine_f {N E S : Int} {m : Nat} {xs : List Int} {a b : Int} (h : node2B N E S m xs a b = false) : (⟨#[]⟩ : ByteArray) = bstr (resLine N E S m xs a b) := by unfold resLine; rw [h]; rfl
theorem resLine_t {N E S : Int} {m : Nat} {xs : List Int} {a b : Int} (h : node2B N E S m xs a b = true) : (⟨#[114, 101, 115, 105, 115, 116, 97, 110, 99, 101, 32]⟩ : ByteArray) ++ bstr (ratioTxt (resR N E S m xs a b).n (resR N E S m xs a b).d) ++ (⟨#[32, 116, 114, 101, 101, 115, 32]⟩ : ByteArray) ++ bstr (fmtInt (treeV N E S m xs)) = bstr (resLine N E S m xs a b) := by
  unfold resLine; rw [h, if_pos rfl]
  rw [show (⟨#[114, 101, 115, 105, 115, 116, 97, 110, 99, 101, 32]⟩ : ByteArray) = bstr [114, 101, 115, 105, 115, 116, 97, 110, 99, 101, 32] from rfl, show (⟨#[32, 116, 114, 101, 101, 115, 32]⟩ : ByteArray) = bstr [32, 116, 114, 101, 101, 115, 32] from rfl, bstr_append, bstr_append, bstr_append]

set_option maxHeartbeats 1600000 in
theorem iResistLine (N E S : Int) (s : Value) (m : Nat) (xs : List Int) (a b : Int) (w : World) (hs : SlF w s m 3 xs) (hm : m ≤ 9223372036854775807) :
    Calls Try.prog 9 #[.agg #[.int .i64 N, .int .i64 E, .int .i64 S, s], .int .i64 a, .int .i64 b] w fun e w' => e = .returned (.string (bstr (resLine N E S m xs a b))) ∧ Ge w w' := by
  obtain ⟨p, cap, rfl, hc⟩ := hs.open
  have HV := Lib.hid hs
  clear hs hc
  have HRe := Lib.hid (fun w' (g : Ge w w') => iResistanceOf N E S (.slice p m cap) m xs a b w' (HV.out.ge g) hm)
  cases hT : node2B N E S m xs a b with
  | false =>
    have HF := Lib.hid (resLine_f hT)
    rw [hT] at HRe
    go_enter Try.func9, Try.ntmps9
    go_wp2_with (go_at_call 5; ((with_reducible refine (HRe.out _ (Ge.alloc (Ge.refl w) _)).mono ?_); rintro e w1 ⟨rfl, gw1⟩); have Gw1 : Ge w w1 := (Ge.trans (by (repeat (first | with_reducible exact Ge.refl _ | assumption | with_reducible refine Ge.drew ?_ | with_reducible refine Ge.drewN ?_ _ | with_reducible refine Ge.alloc ?_ _ | (with_reducible refine Ge.setCell ?_ (by first | (simp; done) | omega | (simp; omega)) _) | with_reducible refine Ge.trans ?_ (by assumption)))) gw1); have c0_0 : World.cell? w1 ⟨w.heap.size, 0, none⟩ = some (.int .i64 N) := Ge.keep gw1 (by repeat (first | assumption | exact (own_new (by simp) rfl).1 | with_reducible refine cell_drew ?_ | with_reducible refine cell_drewN ?_ | with_reducible refine cell_alloc ?_ | (simp [*]; done))); have c0_1 : World.cell? w1 ⟨w.heap.size, 1, none⟩ = some (.int .i64 E) := Ge.keep gw1 (by repeat (first | assumption | exact (own_new (by simp) rfl).1 | with_reducible refine cell_drew ?_ | with_reducible refine cell_drewN ?_ | with_reducible refine cell_alloc ?_ | (simp [*]; done))); have c0_2 : World.cell? w1 ⟨w.heap.size, 2, none⟩ = some (.int .i64 S) := Ge.keep gw1 (by repeat (first | assumption | exact (own_new (by simp) rfl).1 | with_reducible refine cell_drew ?_ | with_reducible refine cell_drewN ?_ | with_reducible refine cell_alloc ?_ | (simp [*]; done))); have c0_3 : World.cell? w1 ⟨w.heap.size, 3, none⟩ = some (.slice p m cap) := Ge.keep gw1 (by repeat (first | assumption | exact (own_new (by simp) rfl).1 | with_reducible refine cell_drew ?_ | with_reducible refine cell_drewN ?_ | with_reducible refine cell_alloc ?_ | (simp [*]; done))); have zw1 : w.heap.size + 1 ≤ w1.heap.size := (by have := Ge.size gw1; (try simp at this); omega))
    go_ret
    exact ⟨ret_str HF.out, by (repeat (first | with_reducible exact Ge.refl _ | assumption | with_reducible refine Ge.drew ?_ | with_reducible refine Ge.drewN ?_ _ | with_reducible refine Ge.alloc ?_ _ | (with_reducible refine Ge.setCell ?_ (by first | (simp; done) | omega | (simp; omega)) _) | with_reducible refine Ge.trans ?_ (by assumption)))⟩
  | true =>
    have HF := Lib.hid (resLine_t hT)
    rw [hT] at HRe
    have HTr := Lib.hid (fun w' (g : Ge w w') => iTreeSum N E S (.slice p m cap) m xs w' (HV.out.ge g) hm)
    have b1 := treeV_bd N E S m xs
    have HFi := Lib.hid (fun w' => iFormatInt (treeV N E S m xs) w' (by omega) (by omega))
    have l1 : (bstr (ratioTxt (resR N E S m xs a b).n (resR N E S m xs a b).d)).size ≤ 45 := by rw [bstr_size]; exact ratioTxt_le _ _
    have l2 := fsz (treeV N E S m xs)
    generalize resLine N E S m xs a b = L at *
    generalize hX : (resR N E S m xs a b).n = X at *
    generalize hY : (resR N E S m xs a b).d = Y at *
    generalize hTT : treeV N E S m xs = TT at *
    clear hX hY hTT b1
    have z1 : ¬ (9223372036854775807 < 11 + (bstr (ratioTxt X Y)).size) := by omega
    have z2 : ¬ (9223372036854775807 < 11 + (bstr (ratioTxt X Y)).size + 7) := by omega
    have z3 : ¬ (9223372036854775807 < 11 + (bstr (ratioTxt X Y)).size + 7 + (bstr (fmtInt TT)).size) := by omega
    go_enter Try.func9, Try.ntmps9
    go_wp2_with (go_at_call 5; ((with_reducible refine (HRe.out _ (Ge.alloc (Ge.refl w) _)).mono ?_); rintro e w1 ⟨rfl, gw1⟩); have Gw1 : Ge w w1 := (Ge.trans (by (repeat (first | with_reducible exact Ge.refl _ | assumption | with_reducible refine Ge.drew ?_ | with_reducible refine Ge.drewN ?_ _ | with_reducible refine Ge.alloc ?_ _ | (with_reducible refine Ge.setCell ?_ (by first | (simp; done) | omega | (simp; omega)) _) | with_reducible refine Ge.trans ?_ (by assumption)))) gw1); have c0_0 : World.cell? w1 ⟨w.heap.size, 0, none⟩ = some (.int .i64 N) := Ge.keep gw1 (by repeat (first | assumption | exact (own_new (by simp) rfl).1 | with_reducible refine cell_drew ?_ | with_reducible refine cell_drewN ?_ | with_reducible refine cell_alloc ?_ | (simp [*]; done))); have c0_1 : World.cell? w1 ⟨w.heap.size, 1, none⟩ = some (.int .i64 E) := Ge.keep gw1 (by repeat (first | assumption | exact (own_new (by simp) rfl).1 | with_reducible refine cell_drew ?_ | with_reducible refine cell_drewN ?_ | with_reducible refine cell_alloc ?_ | (simp [*]; done))); have c0_2 : World.cell? w1 ⟨w.heap.size, 2, none⟩ = some (.int .i64 S) := Ge.keep gw1 (by repeat (first | assumption | exact (own_new (by simp) rfl).1 | with_reducible refine cell_drew ?_ | with_reducible refine cell_drewN ?_ | with_reducible refine cell_alloc ?_ | (simp [*]; done))); have c0_3 : World.cell? w1 ⟨w.heap.size, 3, none⟩ = some (.slice p m cap) := Ge.keep gw1 (by repeat (first | assumption | exact (own_new (by simp) rfl).1 | with_reducible refine cell_drew ?_ | with_reducible refine cell_drewN ?_ | with_reducible refine cell_alloc ?_ | (simp [*]; done))); have zw1 : w.heap.size + 1 ≤ w1.heap.size := (by have := Ge.size gw1; (try simp at this); omega))
    go_region_held3 (fun w' => w'.cell? ⟨w.heap.size, 0, none⟩ = some (.int .i64 N) ∧ w'.cell? ⟨w.heap.size, 1, none⟩ = some (.int .i64 E) ∧ w'.cell? ⟨w.heap.size, 2, none⟩ = some (.int .i64 S) ∧ w'.cell? ⟨w.heap.size, 3, none⟩ = some (.slice p m cap) ∧ w'.cell? ⟨w1.heap.size, 0, none⟩ = some (.int .i64 X) ∧ w'.cell? ⟨w1.heap.size, 1, none⟩ = some (.int .i64 Y) ∧ Ge w w') (first | exact ⟨hb.keep (‹_ ∧ _ ∧ _ ∧ _ ∧ _ ∧ _ ∧ _›).1, hb.keep (‹_ ∧ _ ∧ _ ∧ _ ∧ _ ∧ _ ∧ _›).2.1, hb.keep (‹_ ∧ _ ∧ _ ∧ _ ∧ _ ∧ _ ∧ _›).2.2.1, hb.keep (‹_ ∧ _ ∧ _ ∧ _ ∧ _ ∧ _ ∧ _›).2.2.2.1, hb.keep (‹_ ∧ _ ∧ _ ∧ _ ∧ _ ∧ _ ∧ _›).2.2.2.2.1, hb.keep (‹_ ∧ _ ∧ _ ∧ _ ∧ _ ∧ _ ∧ _›).2.2.2.2.2.1, Ge.trans (‹_ ∧ _ ∧ _ ∧ _ ∧ _ ∧ _ ∧ _›).2.2.2.2.2.2 hb⟩ | ((refine ⟨?_, ?_, ?_, ?_, ?_, ?_, ?_⟩ <;> (repeat (first | assumption | with_reducible exact Ge.refl _ | with_reducible refine cv_drew ?_ | with_reducible refine cv_alloc ?_ | with_reducible refine cv_set ?_ | with_reducible refine cell_drew ?_ | ((with_reducible refine cell_new ?_ ?_); (focus (simp; done)); rfl) | ((with_reducible refine froz_new (v := undef) ?_ ?_); (focus (simp; done)); rfl) | with_reducible refine cell_drewN ?_ | with_reducible refine cell_alloc ?_ | ((with_reducible refine cell_set ?_ ?_); rotate_left; focus (simp; done)) | with_reducible refine froz_drew ?_ | with_reducible refine froz_set ?_ | with_reducible refine froz_alloc (by assumption) ?_ | with_reducible refine Ge.drew ?_ | with_reducible refine Ge.drewN ?_ _ | with_reducible refine Ge.alloc ?_ _ | ((with_reducible refine Ge.setCell ?_ ?_ _); rotate_left; focus (first | (simp; done) | omega | (simp; omega))) | with_reducible refine Ge.trans ?_ (by assumption)))); done) | ((obtain ⟨s0, s1, s2, s3, s4, s5, s6⟩ := ‹_ ∧ _ ∧ _ ∧ _ ∧ _ ∧ _ ∧ _›); refine ⟨?_, ?_, ?_, ?_, ?_, ?_, ?_⟩ <;> (repeat (first | assumption | with_reducible exact Ge.refl _ | with_reducible refine cv_drew ?_ | with_reducible refine cv_alloc ?_ | with_reducible refine cv_set ?_ | with_reducible refine cell_drew ?_ | ((with_reducible refine cell_new ?_ ?_); (focus (simp; done)); rfl) | ((with_reducible refine froz_new (v := undef) ?_ ?_); (focus (simp; done)); rfl) | with_reducible refine cell_drewN ?_ | with_reducible refine cell_alloc ?_ | ((with_reducible refine cell_set ?_ ?_); rotate_left; focus (simp; done)) | with_reducible refine froz_drew ?_ | with_reducible refine froz_set ?_ | with_reducible refine froz_alloc (by assumption) ?_ | with_reducible refine Ge.drew ?_ | with_reducible refine Ge.drewN ?_ _ | with_reducible refine Ge.alloc ?_ _ | ((with_reducible refine Ge.setCell ?_ ?_ _); rotate_left; focus (first | (simp; done) | omega | (simp; omega))) | with_reducible refine Ge.trans ?_ (by assumption))))) (first | (go_at_call 12; ((with_reducible refine (HTr.out _ (‹_ ∧ _ ∧ _ ∧ _ ∧ _ ∧ _ ∧ Ge w _›.2.2.2.2.2.2)).mono ?_); rintro e w' ⟨rfl, hb⟩)) | (go_at_call 10; ((with_reducible refine (iFormatRatio X Y _).mono ?_); rintro e w' ⟨rfl, hb⟩)) | (go_at_call 11; ((with_reducible refine (HFi.out _).mono ?_); rintro e w' ⟨rfl, rfl⟩)) | fail); (rename_i hHeldX; obtain ⟨c0_0, c0_1, c0_2, c0_3, c1_0, c1_1, G9⟩ := hHeldX)
    go_wp2_with fail
    go_ret
    exact ⟨ret_str HF.out, by (repeat (first | with_reducible exact Ge.refl _ | assumption | with_reducible refine Ge.drew ?_ | with_reducible refine Ge.drewN ?_ _ | with_reducible refine Ge.alloc ?_ _ | (with_reducible refine Ge.setCell ?_ (by first | (simp; done) | omega | (simp; omega)) _) | with_reducible refine Ge.trans ?_ (by assumption)))⟩

end Go.Proofs.Ytipiiimemmkdgaa

namespace Go.Proofs.Ytipiiimemmkdgaa
set_option maxRecDepth 100000
open Go.ChangeShapes Go.WideShapes Go.ChangeAt Go.RowKit Go.Joins

theorem inf_RatioP : (Try.prog.info? 28).map (fun i => (i.zero, i.size, i.bytes)) = some (some (Value.agg #[.int .i64 0, .int .i64 0]), 2, 16) := by kernel_rfl
/-- Appending one fraction in a drawn region. -/
theorem ap_rat1 {w0 wr w : World} {o : Oper} {a : Act} {K : Act → World → Prop} {Q : Exit → Act → World → Prop} (s x : Operand)
    (ho : o.op = .call { callee := .builtin .append, args := #[s, x], argTypes := #[31, 31] })
    (v : Value) (n : Nat) (l : List Int) (hs : a.eval s = v) (hg0 : Ge w0 wr) (hg : Ge wr w) (hown : wr.ownsRow w0.heap.size 28 2 v n (icells l))
    (y z : Int) {b0 : Nat} (hx : a.eval x = .slice (some ⟨b0, 0, none⟩) 1 1) (hb0 : b0 = w.heap.size) (hn : n < 1000)
    (h : ∀ v' w', w'.ownsRow w0.heap.size 28 2 v' (n + 1) (icells (l ++ [y, z])) → Ge w0 w' → K (a.put o.dst v') w') :
    o.wp Try.prog a (w.alloc (.cells #[.int .i64 y, .int .i64 z] 28)) K Q := by
  subst hb0
  obtain ⟨i, hi1, hi2, hi3, hi4⟩ := info_parts inf_RatioP
  have own2 : (w.alloc (.cells #[.int .i64 y, .int .i64 z] 28)).ownsRow w0.heap.size 28 2 v n (icells l) := (Ge.owns hg hown).alloc _
  have g2 : Ge w0 (w.alloc (.cells #[.int .i64 y, .int .i64 z] 28)) := Ge.alloc (Ge.trans hg0 hg) _
  refine wp_append_own _ s x 31 ho w0.heap.size 28 i _ 2 16 Try.underlying31 hi1 hi2 hi3 hi4 rfl (by decide) v n (icells l) hs own2 ⟨w.heap.size, 0, none⟩ 1 1 [.int .i64 y, .int .i64 z] hx rfl ?_ (by simp [Value.oneCell']) (by unfold maxLen; omega) ?_ g2.size ?_
  · intro j u hu
    have hadd : (⟨w.heap.size, 0, none⟩ : Addr).add j = ⟨w.heap.size, j, none⟩ := by unfold Addr.add; split <;> simp_all
    rw [hadd, cell_of_row (w.alloc (.cells #[.int .i64 y, .int .i64 z] 28)) w.heap.size j _ _ (0, 0) (heap_alloc_new w _)]
    simpa using hu
  · have : (n + 1) * 16 ≤ (n + 1) * 100 := Nat.mul_le_mul_left _ (by decide)
    omega
  · intro v' w' h2 h3 _
    exact h v' w' (by simpa [icells] using h2) (g2.mine own2 (Nat.le_refl _) h3)

noncomputable def potQ (n : Nat) (E S : Int) (m : Nat) (xs : List Int) (a b v : Int) : Rt := ratioOf (S * potV n m xs a b v) (treeV n E S m xs)
/-- The first k potentials. -/
noncomputable def potL (n : Nat) (E S : Int) (m : Nat) (xs : List Int) (a b : Int) : Nat → List Int
  | 0 => []
  | k + 1 => potL n E S m xs a b k ++ [(potQ n E S m xs a b k).n, (potQ n E S m xs a b k).d]
theorem ratioOf_in (n d : Int) : (-9223372036854775808 ≤ (ratioOf n d).n ∧ (ratioOf n d).n ≤ 9223372036854775807) ∧ (-9223372036854775808 ≤ (ratioOf n d).d ∧ (ratioOf n d).d ≤ 9223372036854775807) := by
  rcases ratioOf_ok n d with h | h
  · rw [h]; decide
  · exact ratio_sm h
theorem potL_in (n : Nat) (E S : Int) (m : Nat) (xs : List Int) (a b : Int) : ∀ k, ∀ x ∈ potL n E S m xs a b k, -9223372036854775808 ≤ x ∧ x ≤ 9223372036854775807
  | 0 => fun x hx => by simp [potL] at hx
  | k + 1 => fun x hx => by
    simp only [potL, List.mem_append, List.mem_cons, List.not_mem_nil, or_false] at hx
    have := ratioOf_in (S * potV n m xs a b k) (treeV n E S m xs)
    rcases hx with h | h | h
    · exact potL_in n E S m xs a b k x h
    · rw [h]; exact this.1
    · rw [h]; exact this.2
theorem nth_all {l : List Int} (h : ∀ x ∈ l, -9223372036854775808 ≤ x ∧ x ≤ 9223372036854775807) (j : Nat) : -9223372036854775808 ≤ nth l j ∧ nth l j ≤ 9223372036854775807 := by
  by_cases hj : j < l.length
  · rw [nth_eq l j hj]; exact h _ (List.getElem_mem hj)
  · have : nth l j = 0 := by unfold nth; simp [List.getD_eq_getElem?_getD, List.getElem?_eq_none (by omega : l.length ≤ j)]
    omega
noncomputable def potLine (N E S : Int) (m : Nat) (xs : List Int) (a b : Int) : List UInt8 := if difB N E S m xs a b = true then rowLine N.toNat (potL N.toNat E S m xs a b N.toNat) else []
theorem potLine_f {N E S : Int} {m : Nat} {xs : List Int} {a b : Int} (h : difB N E S m xs a b = false) : (⟨#[]⟩ : ByteArray) = bstr (potLine N E S m xs a b) := by unfold potLine; rw [h]; rfl
theorem potLine_t {n : Nat} {E S : Int} {m : Nat} {xs : List Int} {a b : Int} (h : difB n E S m xs a b = true) : potLine n E S m xs a b = rowLine n (potL n E S m xs a b n) := by unfold potLine; rw [h, if_pos rfl]; rfl
theorem prod_bd {S x B : Int} (h0 : 1 ≤ S) (h1 : S ≤ 1000) (h2 : -B ≤ x) (h3 : x ≤ B) (hB : 0 ≤ B) : -(1000 * B) ≤ S * x ∧ S * x ≤ 1000 * B := mul_bd (by omega) h1 h2 h3 hB

set_option maxHeartbeats 1600000 in
theorem iPotentialsF (N E S : Int) (s : Value) (m : Nat) (xs : List Int) (a b : Int) (w : World) (hs : SlF w s m 3 xs) (hm : m ≤ 9223372036854775807) (hD : difB N E S m xs a b = false) :
    Calls Try.prog 6 #[.agg #[.int .i64 N, .int .i64 E, .int .i64 S, s], .int .i64 a, .int .i64 b] w fun e w' => e = .returned (.tuple #[.slice none 0 0, .bool false]) ∧ Ge w w' := by
  obtain ⟨p, cap, rfl, hc⟩ := hs.open
  have HV := Lib.hid hs
  clear hs hc
  cases hB : netB N E S m xs with
  | false =>
    clear hD
    go_enter Try.func6, Try.ntmps6
    go_wp2_with ((go_at_call 20; ((with_reducible refine (iNetOk N E S _ m xs _ (HV.out.ge (Ge.alloc (Ge.refl w) _)) hm).mono ?_); rintro e w1 ⟨rfl, gw1⟩); have Gw1 : Ge w w1 := (Ge.trans (by (repeat (first | with_reducible exact Ge.refl _ | assumption | with_reducible refine Ge.drew ?_ | with_reducible refine Ge.drewN ?_ _ | with_reducible refine Ge.alloc ?_ _ | (with_reducible refine Ge.setCell ?_ (by first | (simp; done) | omega | (simp; omega)) _) | with_reducible refine Ge.trans ?_ (by assumption)))) gw1); have c0_0 : World.cell? w1 ⟨w.heap.size, 0, none⟩ = some (.int .i64 N) := Ge.keep gw1 (by repeat (first | assumption | exact (own_new (by simp) rfl).1 | with_reducible refine cell_drew ?_ | with_reducible refine cell_drewN ?_ | with_reducible refine cell_alloc ?_ | (simp [*]; done))); have c0_1 : World.cell? w1 ⟨w.heap.size, 1, none⟩ = some (.int .i64 E) := Ge.keep gw1 (by repeat (first | assumption | exact (own_new (by simp) rfl).1 | with_reducible refine cell_drew ?_ | with_reducible refine cell_drewN ?_ | with_reducible refine cell_alloc ?_ | (simp [*]; done))); have c0_2 : World.cell? w1 ⟨w.heap.size, 2, none⟩ = some (.int .i64 S) := Ge.keep gw1 (by repeat (first | assumption | exact (own_new (by simp) rfl).1 | with_reducible refine cell_drew ?_ | with_reducible refine cell_drewN ?_ | with_reducible refine cell_alloc ?_ | (simp [*]; done))); have c0_3 : World.cell? w1 ⟨w.heap.size, 3, none⟩ = some (.slice p m cap) := Ge.keep gw1 (by repeat (first | assumption | exact (own_new (by simp) rfl).1 | with_reducible refine cell_drew ?_ | with_reducible refine cell_drewN ?_ | with_reducible refine cell_alloc ?_ | (simp [*]; done))); have zw1 : w.heap.size + 1 ≤ w1.heap.size := (by have := Ge.size gw1; (try simp at this); omega)); rw [hB])
    exact bodyPost_ret (v := .tuple #[.slice none 0 0, .bool false]) (by simp [results, Try.results6, go_sem, *]) rfl ⟨rfl, by (repeat (first | with_reducible exact Ge.refl _ | assumption | with_reducible refine Ge.drew ?_ | with_reducible refine Ge.drewN ?_ _ | with_reducible refine Ge.alloc ?_ _ | (with_reducible refine Ge.setCell ?_ (by first | (simp; done) | omega | (simp; omega)) _) | with_reducible refine Ge.trans ?_ (by assumption)))⟩
  | true =>
    obtain ⟨⟨n1, n2⟩, h10, _⟩ := net_wires hB
    obtain ⟨n, rfl⟩ : ∃ n : Nat, N = (n : Int) := ⟨N.toNat, by omega⟩
    by_cases ha : ¬ (0 ≤ a ∧ a < (n : Int))
    · have ia : nodeB n a = false := nodeB_f ha
      clear hD ha
      go_enter Try.func6, Try.ntmps6
      go_wp2_with (first | ((go_at_call 20; ((with_reducible refine (iNetOk (n : Int) E S _ m xs _ (HV.out.ge (Ge.alloc (Ge.refl w) _)) hm).mono ?_); rintro e w1 ⟨rfl, gw1⟩); have Gw1 : Ge w w1 := (Ge.trans (by (repeat (first | with_reducible exact Ge.refl _ | assumption | with_reducible refine Ge.drew ?_ | with_reducible refine Ge.drewN ?_ _ | with_reducible refine Ge.alloc ?_ _ | (with_reducible refine Ge.setCell ?_ (by first | (simp; done) | omega | (simp; omega)) _) | with_reducible refine Ge.trans ?_ (by assumption)))) gw1); have c0_0 : World.cell? w1 ⟨w.heap.size, 0, none⟩ = some (.int .i64 (n : Int)) := Ge.keep gw1 (by repeat (first | assumption | exact (own_new (by simp) rfl).1 | with_reducible refine cell_drew ?_ | with_reducible refine cell_drewN ?_ | with_reducible refine cell_alloc ?_ | (simp [*]; done))); have c0_1 : World.cell? w1 ⟨w.heap.size, 1, none⟩ = some (.int .i64 E) := Ge.keep gw1 (by repeat (first | assumption | exact (own_new (by simp) rfl).1 | with_reducible refine cell_drew ?_ | with_reducible refine cell_drewN ?_ | with_reducible refine cell_alloc ?_ | (simp [*]; done))); have c0_2 : World.cell? w1 ⟨w.heap.size, 2, none⟩ = some (.int .i64 S) := Ge.keep gw1 (by repeat (first | assumption | exact (own_new (by simp) rfl).1 | with_reducible refine cell_drew ?_ | with_reducible refine cell_drewN ?_ | with_reducible refine cell_alloc ?_ | (simp [*]; done))); have c0_3 : World.cell? w1 ⟨w.heap.size, 3, none⟩ = some (.slice p m cap) := Ge.keep gw1 (by repeat (first | assumption | exact (own_new (by simp) rfl).1 | with_reducible refine cell_drew ?_ | with_reducible refine cell_drewN ?_ | with_reducible refine cell_alloc ?_ | (simp [*]; done))); have zw1 : w.heap.size + 1 ≤ w1.heap.size := (by have := Ge.size gw1; (try simp at this); omega)); rw [hB]) | (go_at_call 21; ((with_reducible refine (isNodeI n E S _ _ _ rfl).mono ?_); rintro e wn ⟨rfl, gwn⟩); have zlt : w.heap.size < wn.heap.size := (by have := Ge.size gwn; (try simp at this); omega); have Gwn : Ge w wn := (Ge.trans (by (repeat (first | with_reducible exact Ge.refl _ | assumption | with_reducible refine Ge.drew ?_ | with_reducible refine Ge.drewN ?_ _ | with_reducible refine Ge.alloc ?_ _ | (with_reducible refine Ge.setCell ?_ (by first | (simp; done) | omega | (simp; omega)) _) | with_reducible refine Ge.trans ?_ (by assumption)))) gwn); have c0_0 : World.cell? wn ⟨w.heap.size, 0, none⟩ = some (.int .i64 (n : Int)) := Ge.keep gwn (by repeat (first | assumption | exact (own_new (by simp) rfl).1 | with_reducible refine cell_drew ?_ | with_reducible refine cell_drewN ?_ | with_reducible refine cell_alloc ?_ | (simp [*]; done))); have c0_1 : World.cell? wn ⟨w.heap.size, 1, none⟩ = some (.int .i64 E) := Ge.keep gwn (by repeat (first | assumption | exact (own_new (by simp) rfl).1 | with_reducible refine cell_drew ?_ | with_reducible refine cell_drewN ?_ | with_reducible refine cell_alloc ?_ | (simp [*]; done))); have c0_2 : World.cell? wn ⟨w.heap.size, 2, none⟩ = some (.int .i64 S) := Ge.keep gwn (by repeat (first | assumption | exact (own_new (by simp) rfl).1 | with_reducible refine cell_drew ?_ | with_reducible refine cell_drewN ?_ | with_reducible refine cell_alloc ?_ | (simp [*]; done))); have c0_3 : World.cell? wn ⟨w.heap.size, 3, none⟩ = some (.slice p m cap) := Ge.keep gwn (by repeat (first | assumption | exact (own_new (by simp) rfl).1 | with_reducible refine cell_drew ?_ | with_reducible refine cell_drewN ?_ | with_reducible refine cell_alloc ?_ | (simp [*]; done))); have zwn : w.heap.size + 1 ≤ wn.heap.size := (by have := Ge.size gwn; (try simp at this); omega)))
      exact bodyPost_ret (v := .tuple #[.slice none 0 0, .bool false]) (by simp [results, Try.results6, go_sem, *]) rfl ⟨rfl, by (repeat (first | with_reducible exact Ge.refl _ | assumption | with_reducible refine Ge.drew ?_ | with_reducible refine Ge.drewN ?_ _ | with_reducible refine Ge.alloc ?_ _ | (with_reducible refine Ge.setCell ?_ (by first | (simp; done) | omega | (simp; omega)) _) | with_reducible refine Ge.trans ?_ (by assumption)))⟩
    replace ha := Classical.not_not.1 ha
    have ia : nodeB n a = true := nodeB_t ha
    by_cases hb : ¬ (0 ≤ b ∧ b < (n : Int))
    · have ib : nodeB n b = false := nodeB_f hb
      clear hD ha hb
      go_enter Try.func6, Try.ntmps6
      go_wp2_with (first | ((go_at_call 20; ((with_reducible refine (iNetOk (n : Int) E S _ m xs _ (HV.out.ge (Ge.alloc (Ge.refl w) _)) hm).mono ?_); rintro e w1 ⟨rfl, gw1⟩); have Gw1 : Ge w w1 := (Ge.trans (by (repeat (first | with_reducible exact Ge.refl _ | assumption | with_reducible refine Ge.drew ?_ | with_reducible refine Ge.drewN ?_ _ | with_reducible refine Ge.alloc ?_ _ | (with_reducible refine Ge.setCell ?_ (by first | (simp; done) | omega | (simp; omega)) _) | with_reducible refine Ge.trans ?_ (by assumption)))) gw1); have c0_0 : World.cell? w1 ⟨w.heap.size, 0, none⟩ = some (.int .i64 (n : Int)) := Ge.keep gw1 (by repeat (first | assumption | exact (own_new (by simp) rfl).1 | with_reducible refine cell_drew ?_ | with_reducible refine cell_drewN ?_ | with_reducible refine cell_alloc ?_ | (simp [*]; done))); have c0_1 : World.cell? w1 ⟨w.heap.size, 1, none⟩ = some (.int .i64 E) := Ge.keep gw1 (by repeat (first | assumption | exact (own_new (by simp) rfl).1 | with_reducible refine cell_drew ?_ | with_reducible refine cell_drewN ?_ | with_reducible refine cell_alloc ?_ | (simp [*]; done))); have c0_2 : World.cell? w1 ⟨w.heap.size, 2, none⟩ = some (.int .i64 S) := Ge.keep gw1 (by repeat (first | assumption | exact (own_new (by simp) rfl).1 | with_reducible refine cell_drew ?_ | with_reducible refine cell_drewN ?_ | with_reducible refine cell_alloc ?_ | (simp [*]; done))); have c0_3 : World.cell? w1 ⟨w.heap.size, 3, none⟩ = some (.slice p m cap) := Ge.keep gw1 (by repeat (first | assumption | exact (own_new (by simp) rfl).1 | with_reducible refine cell_drew ?_ | with_reducible refine cell_drewN ?_ | with_reducible refine cell_alloc ?_ | (simp [*]; done))); have zw1 : w.heap.size + 1 ≤ w1.heap.size := (by have := Ge.size gw1; (try simp at this); omega)); rw [hB]) | (go_at_call 21; ((with_reducible refine (isNodeI n E S _ _ _ rfl).mono ?_); rintro e wn ⟨rfl, gwn⟩); have zlt : w.heap.size < wn.heap.size := (by have := Ge.size gwn; (try simp at this); omega); have Gwn : Ge w wn := (Ge.trans (by (repeat (first | with_reducible exact Ge.refl _ | assumption | with_reducible refine Ge.drew ?_ | with_reducible refine Ge.drewN ?_ _ | with_reducible refine Ge.alloc ?_ _ | (with_reducible refine Ge.setCell ?_ (by first | (simp; done) | omega | (simp; omega)) _) | with_reducible refine Ge.trans ?_ (by assumption)))) gwn); have c0_0 : World.cell? wn ⟨w.heap.size, 0, none⟩ = some (.int .i64 (n : Int)) := Ge.keep gwn (by repeat (first | assumption | exact (own_new (by simp) rfl).1 | with_reducible refine cell_drew ?_ | with_reducible refine cell_drewN ?_ | with_reducible refine cell_alloc ?_ | (simp [*]; done))); have c0_1 : World.cell? wn ⟨w.heap.size, 1, none⟩ = some (.int .i64 E) := Ge.keep gwn (by repeat (first | assumption | exact (own_new (by simp) rfl).1 | with_reducible refine cell_drew ?_ | with_reducible refine cell_drewN ?_ | with_reducible refine cell_alloc ?_ | (simp [*]; done))); have c0_2 : World.cell? wn ⟨w.heap.size, 2, none⟩ = some (.int .i64 S) := Ge.keep gwn (by repeat (first | assumption | exact (own_new (by simp) rfl).1 | with_reducible refine cell_drew ?_ | with_reducible refine cell_drewN ?_ | with_reducible refine cell_alloc ?_ | (simp [*]; done))); have c0_3 : World.cell? wn ⟨w.heap.size, 3, none⟩ = some (.slice p m cap) := Ge.keep gwn (by repeat (first | assumption | exact (own_new (by simp) rfl).1 | with_reducible refine cell_drew ?_ | with_reducible refine cell_drewN ?_ | with_reducible refine cell_alloc ?_ | (simp [*]; done))); have zwn : w.heap.size + 1 ≤ wn.heap.size := (by have := Ge.size gwn; (try simp at this); omega)))
      exact bodyPost_ret (v := .tuple #[.slice none 0 0, .bool false]) (by simp [results, Try.results6, go_sem, *]) rfl ⟨rfl, by (repeat (first | with_reducible exact Ge.refl _ | assumption | with_reducible refine Ge.drew ?_ | with_reducible refine Ge.drewN ?_ _ | with_reducible refine Ge.alloc ?_ _ | (with_reducible refine Ge.setCell ?_ (by first | (simp; done) | omega | (simp; omega)) _) | with_reducible refine Ge.trans ?_ (by assumption)))⟩
    replace hb := Classical.not_not.1 hb
    have ib : nodeB n b = true := nodeB_t hb
    by_cases hab : a = b
    · have t : (a == b) = true := by simp [hab]
      clear hD ha hb hab
      go_enter Try.func6, Try.ntmps6
      go_wp2_with (first | ((go_at_call 20; ((with_reducible refine (iNetOk (n : Int) E S _ m xs _ (HV.out.ge (Ge.alloc (Ge.refl w) _)) hm).mono ?_); rintro e w1 ⟨rfl, gw1⟩); have Gw1 : Ge w w1 := (Ge.trans (by (repeat (first | with_reducible exact Ge.refl _ | assumption | with_reducible refine Ge.drew ?_ | with_reducible refine Ge.drewN ?_ _ | with_reducible refine Ge.alloc ?_ _ | (with_reducible refine Ge.setCell ?_ (by first | (simp; done) | omega | (simp; omega)) _) | with_reducible refine Ge.trans ?_ (by assumption)))) gw1); have c0_0 : World.cell? w1 ⟨w.heap.size, 0, none⟩ = some (.int .i64 (n : Int)) := Ge.keep gw1 (by repeat (first | assumption | exact (own_new (by simp) rfl).1 | with_reducible refine cell_drew ?_ | with_reducible refine cell_drewN ?_ | with_reducible refine cell_alloc ?_ | (simp [*]; done))); have c0_1 : World.cell? w1 ⟨w.heap.size, 1, none⟩ = some (.int .i64 E) := Ge.keep gw1 (by repeat (first | assumption | exact (own_new (by simp) rfl).1 | with_reducible refine cell_drew ?_ | with_reducible refine cell_drewN ?_ | with_reducible refine cell_alloc ?_ | (simp [*]; done))); have c0_2 : World.cell? w1 ⟨w.heap.size, 2, none⟩ = some (.int .i64 S) := Ge.keep gw1 (by repeat (first | assumption | exact (own_new (by simp) rfl).1 | with_reducible refine cell_drew ?_ | with_reducible refine cell_drewN ?_ | with_reducible refine cell_alloc ?_ | (simp [*]; done))); have c0_3 : World.cell? w1 ⟨w.heap.size, 3, none⟩ = some (.slice p m cap) := Ge.keep gw1 (by repeat (first | assumption | exact (own_new (by simp) rfl).1 | with_reducible refine cell_drew ?_ | with_reducible refine cell_drewN ?_ | with_reducible refine cell_alloc ?_ | (simp [*]; done))); have zw1 : w.heap.size + 1 ≤ w1.heap.size := (by have := Ge.size gw1; (try simp at this); omega)); rw [hB]) | (go_at_call 21; ((with_reducible refine (isNodeI n E S _ _ _ rfl).mono ?_); rintro e wn ⟨rfl, gwn⟩); have zlt : w.heap.size < wn.heap.size := (by have := Ge.size gwn; (try simp at this); omega); have Gwn : Ge w wn := (Ge.trans (by (repeat (first | with_reducible exact Ge.refl _ | assumption | with_reducible refine Ge.drew ?_ | with_reducible refine Ge.drewN ?_ _ | with_reducible refine Ge.alloc ?_ _ | (with_reducible refine Ge.setCell ?_ (by first | (simp; done) | omega | (simp; omega)) _) | with_reducible refine Ge.trans ?_ (by assumption)))) gwn); have c0_0 : World.cell? wn ⟨w.heap.size, 0, none⟩ = some (.int .i64 (n : Int)) := Ge.keep gwn (by repeat (first | assumption | exact (own_new (by simp) rfl).1 | with_reducible refine cell_drew ?_ | with_reducible refine cell_drewN ?_ | with_reducible refine cell_alloc ?_ | (simp [*]; done))); have c0_1 : World.cell? wn ⟨w.heap.size, 1, none⟩ = some (.int .i64 E) := Ge.keep gwn (by repeat (first | assumption | exact (own_new (by simp) rfl).1 | with_reducible refine cell_drew ?_ | with_reducible refine cell_drewN ?_ | with_reducible refine cell_alloc ?_ | (simp [*]; done))); have c0_2 : World.cell? wn ⟨w.heap.size, 2, none⟩ = some (.int .i64 S) := Ge.keep gwn (by repeat (first | assumption | exact (own_new (by simp) rfl).1 | with_reducible refine cell_drew ?_ | with_reducible refine cell_drewN ?_ | with_reducible refine cell_alloc ?_ | (simp [*]; done))); have c0_3 : World.cell? wn ⟨w.heap.size, 3, none⟩ = some (.slice p m cap) := Ge.keep gwn (by repeat (first | assumption | exact (own_new (by simp) rfl).1 | with_reducible refine cell_drew ?_ | with_reducible refine cell_drewN ?_ | with_reducible refine cell_alloc ?_ | (simp [*]; done))); have zwn : w.heap.size + 1 ≤ wn.heap.size := (by have := Ge.size gwn; (try simp at this); omega)))
      exact bodyPost_ret (v := .tuple #[.slice none 0 0, .bool false]) (by simp [results, Try.results6, go_sem, *]) rfl ⟨rfl, by (repeat (first | with_reducible exact Ge.refl _ | assumption | with_reducible refine Ge.drew ?_ | with_reducible refine Ge.drewN ?_ _ | with_reducible refine Ge.alloc ?_ _ | (with_reducible refine Ge.setCell ?_ (by first | (simp; done) | omega | (simp; omega)) _) | with_reducible refine Ge.trans ?_ (by assumption)))⟩
    · rw [dif_t hB ha hb hab] at hD; cases hD

set_option maxHeartbeats 3200000 in
theorem iPotentialsT (n : Nat) (E S : Int) (s : Value) (m : Nat) (xs : List Int) (a b : Int) (w : World) (hs : SlF w s m 3 xs) (hm : m ≤ 9223372036854775807) (hD : difB n E S m xs a b = true) :
    Calls Try.prog 6 #[.agg #[.int .i64 (n : Int), .int .i64 E, .int .i64 S, s], .int .i64 a, .int .i64 b] w fun e w' => ∃ v, e = .returned (.tuple #[v, .bool true]) ∧ SlF w' v n 2 (potL n E S m xs a b n) ∧ Ge w w' := by
  obtain ⟨p, cap, rfl, hc⟩ := hs.open
  have HV := Lib.hid hs
  clear hs hc
  obtain ⟨hB, ha, hb, hab⟩ := dif_of hD
  obtain ⟨⟨n1, n2⟩, h10, _⟩ := net_wires hB
  obtain ⟨k1, k2⟩ := net_scale hB
  have b1 := treeV_bd n E S m xs
  have ia : nodeB n a = true := nodeB_t ha
  have ib : nodeB n b = true := nodeB_t hb
  have t : (a == b) = false := by simp [hab]
  have HPt := Lib.hid (fun (v : Nat) (hv : v < n) => pot_two hB ha hb ⟨by omega, by omega⟩ hab (v := (v : Int)))
  have HRt := Lib.hid (fun x y w' (h1 : Mid (2 * x)) (h2 : Mid (2 * y)) => by have := iRatioOf (2 * x) (2 * y) w' h1 h2; rwa [ratioOf_two] at this)
  have HP := Lib.hid (fun (v : Nat) w' (g : Ge w w') => iPotential n E S (.slice p m cap) m xs a b v w' (HV.out.ge g) hm)
  have HTr := Lib.hid (fun w' (g : Ge w w') => iTreeSum n E S (.slice p m cap) m xs w' (HV.out.ge g) hm)
  have HFb := Lib.hid (fun x y => forV_bd n E S m xs x y)
  clear hD ha hb hab
  go_enter Try.func6, Try.ntmps6
  go_wp2_with (first | ((go_at_call 20; ((with_reducible refine (iNetOk (n : Int) E S _ m xs _ (HV.out.ge (Ge.alloc (Ge.refl w) _)) hm).mono ?_); rintro e w1 ⟨rfl, gw1⟩); have Gw1 : Ge w w1 := (Ge.trans (by (repeat (first | with_reducible exact Ge.refl _ | assumption | with_reducible refine Ge.drew ?_ | with_reducible refine Ge.drewN ?_ _ | with_reducible refine Ge.alloc ?_ _ | (with_reducible refine Ge.setCell ?_ (by first | (simp; done) | omega | (simp; omega)) _) | with_reducible refine Ge.trans ?_ (by assumption)))) gw1); have c0_0 : World.cell? w1 ⟨w.heap.size, 0, none⟩ = some (.int .i64 (n : Int)) := Ge.keep gw1 (by repeat (first | assumption | exact (own_new (by simp) rfl).1 | with_reducible refine cell_drew ?_ | with_reducible refine cell_drewN ?_ | with_reducible refine cell_alloc ?_ | (simp [*]; done))); have c0_1 : World.cell? w1 ⟨w.heap.size, 1, none⟩ = some (.int .i64 E) := Ge.keep gw1 (by repeat (first | assumption | exact (own_new (by simp) rfl).1 | with_reducible refine cell_drew ?_ | with_reducible refine cell_drewN ?_ | with_reducible refine cell_alloc ?_ | (simp [*]; done))); have c0_2 : World.cell? w1 ⟨w.heap.size, 2, none⟩ = some (.int .i64 S) := Ge.keep gw1 (by repeat (first | assumption | exact (own_new (by simp) rfl).1 | with_reducible refine cell_drew ?_ | with_reducible refine cell_drewN ?_ | with_reducible refine cell_alloc ?_ | (simp [*]; done))); have c0_3 : World.cell? w1 ⟨w.heap.size, 3, none⟩ = some (.slice p m cap) := Ge.keep gw1 (by repeat (first | assumption | exact (own_new (by simp) rfl).1 | with_reducible refine cell_drew ?_ | with_reducible refine cell_drewN ?_ | with_reducible refine cell_alloc ?_ | (simp [*]; done))); have zw1 : w.heap.size + 1 ≤ w1.heap.size := (by have := Ge.size gw1; (try simp at this); omega)); rw [hB]) | (go_at_call 21; ((with_reducible refine (isNodeI n E S _ _ _ rfl).mono ?_); rintro e wn ⟨rfl, gwn⟩); have zlt : w.heap.size < wn.heap.size := (by have := Ge.size gwn; (try simp at this); omega); have Gwn : Ge w wn := (Ge.trans (by (repeat (first | with_reducible exact Ge.refl _ | assumption | with_reducible refine Ge.drew ?_ | with_reducible refine Ge.drewN ?_ _ | with_reducible refine Ge.alloc ?_ _ | (with_reducible refine Ge.setCell ?_ (by first | (simp; done) | omega | (simp; omega)) _) | with_reducible refine Ge.trans ?_ (by assumption)))) gwn); have c0_0 : World.cell? wn ⟨w.heap.size, 0, none⟩ = some (.int .i64 (n : Int)) := Ge.keep gwn (by repeat (first | assumption | exact (own_new (by simp) rfl).1 | with_reducible refine cell_drew ?_ | with_reducible refine cell_drewN ?_ | with_reducible refine cell_alloc ?_ | (simp [*]; done))); have c0_1 : World.cell? wn ⟨w.heap.size, 1, none⟩ = some (.int .i64 E) := Ge.keep gwn (by repeat (first | assumption | exact (own_new (by simp) rfl).1 | with_reducible refine cell_drew ?_ | with_reducible refine cell_drewN ?_ | with_reducible refine cell_alloc ?_ | (simp [*]; done))); have c0_2 : World.cell? wn ⟨w.heap.size, 2, none⟩ = some (.int .i64 S) := Ge.keep gwn (by repeat (first | assumption | exact (own_new (by simp) rfl).1 | with_reducible refine cell_drew ?_ | with_reducible refine cell_drewN ?_ | with_reducible refine cell_alloc ?_ | (simp [*]; done))); have c0_3 : World.cell? wn ⟨w.heap.size, 3, none⟩ = some (.slice p m cap) := Ge.keep gwn (by repeat (first | assumption | exact (own_new (by simp) rfl).1 | with_reducible refine cell_drew ?_ | with_reducible refine cell_drewN ?_ | with_reducible refine cell_alloc ?_ | (simp [*]; done))); have zwn : w.heap.size + 1 ≤ wn.heap.size := (by have := Ge.size gwn; (try simp at this); omega)))
  go_loopw [8, 33] (fun o i wr => ∃ (k : Nat) (u : Value), k ≤ n ∧ i = .int .i64 k ∧ o = u ∧ wr.ownsRow wn.heap.size 28 2 u k (icells (potL n E S m xs a b k)) ∧ Ge wn wr) (fun _ i _ => n - (intOf i).toNat)
  case atStart => exact ⟨0, _, Nat.zero_le _, rfl, rfl, owns_lit0 _ _ _, by (repeat (first | with_reducible exact Ge.refl _ | assumption | with_reducible refine Ge.drew ?_ | with_reducible refine Ge.drewN ?_ _ | with_reducible refine Ge.alloc ?_ _ | (with_reducible refine Ge.setCell ?_ (by first | (simp; done) | omega | (simp; omega)) _) | with_reducible refine Ge.trans ?_ (by assumption)))⟩
  case round =>
    obtain ⟨k, u, hk, rfl, rfl, hown, hg⟩ := hrel
    have gwr : Ge w wr := Ge.trans Gwn hg
    have d0 := hg.keep c0_0
    have d1 := hg.keep c0_1
    have d2 := hg.keep c0_2
    have d3 := hg.keep c0_3
    by_cases hlt : k < n
    · have hSn : Hid (potL n E S m xs a b k ++ [(potQ n E S m xs a b k).n, (potQ n E S m xs a b k).d] = potL n E S m xs a b (k + 1)) := rfl
      have hP := HPt.out k hlt
      have f1 := HFb.out a b
      have f2 := HFb.out k b
      have f3 := HFb.out a k
      have HPk := Lib.hid (fun w' g => HP.out k w' g)
      rw [hP] at HPk
      have hQ : Hid (potQ n E S m xs a b k = ratioOf (S * potV n m xs a b k) (treeV n E S m xs)) := rfl
      generalize potQ n E S m xs a b k = Q at *
      generalize potV n m xs a b k = V at *
      have b3 := prod_bd k1 k2 (x := V) (B := 2000000000000) (by omega) (by omega) (by omega)
      have eV : S * (2 * V) = 2 * (S * V) := by rw [← Int.mul_assoc, Int.mul_comm S 2, Int.mul_assoc]
      have HRk := Lib.hid (fun w' => HRt.out (S * V) (treeV n E S m xs) w' (mid (by omega) (by omega)) (mid (by omega) (by omega)))
      rw [← hQ.out] at HRk
      generalize hSV : S * V = SV at *
      have W1 : IntKind.i64.wrap (2 * SV) = 2 * SV := IntWalk.i64_in _ (by omega)
      have W2 : IntKind.i64.wrap (2 * treeV n E S m xs) = 2 * treeV n E S m xs := IntWalk.i64_in _ (by omega)
      clear hP f1 f2 f3 b3 hQ
      generalize potL n E S m xs a b k = L at *
      go_wp2_with fail
      have hS : ∀ w', Ge wn w' → (w'.cell? ⟨w.heap.size, 0, none⟩ = some (.int .i64 (n : Int)) ∧ w'.cell? ⟨w.heap.size, 1, none⟩ = some (.int .i64 E) ∧ w'.cell? ⟨w.heap.size, 2, none⟩ = some (.int .i64 S) ∧ w'.cell? ⟨w.heap.size, 3, none⟩ = some (.slice p m cap) ∧ Ge wn w') := fun w' g => ⟨g.keep (by (repeat (first | assumption | with_reducible exact Ge.refl _ | with_reducible refine cv_drew ?_ | with_reducible refine cv_alloc ?_ | with_reducible refine cv_set ?_ | (with_reducible apply cv_some; assumption) | with_reducible refine cell_drew ?_ | with_reducible refine cell_drewN ?_ | ((with_reducible refine cell_new ?_ ?_); (focus (simp; done)); rfl) | with_reducible refine cell_alloc ?_ | with_reducible refine cell_same2 ?_ | ((with_reducible refine cell_set2 ?_ ?_); focus (first | (simp; done) | (intro hE; simp at hE; done) | (intro hE; simp at hE; omega))) | with_reducible refine Ge.drew ?_ | with_reducible refine Ge.drewN ?_ _ | with_reducible refine Ge.alloc ?_ _ | ((with_reducible refine Ge.setCell ?_ ?_ _); rotate_left; focus (first | (simp; done) | omega | (simp; omega))) | with_reducible refine Ge.trans ?_ (by assumption) | with_reducible refine Ge.keep (by assumption) ?_))), g.keep (by (repeat (first | assumption | with_reducible exact Ge.refl _ | with_reducible refine cv_drew ?_ | with_reducible refine cv_alloc ?_ | with_reducible refine cv_set ?_ | (with_reducible apply cv_some; assumption) | with_reducible refine cell_drew ?_ | with_reducible refine cell_drewN ?_ | ((with_reducible refine cell_new ?_ ?_); (focus (simp; done)); rfl) | with_reducible refine cell_alloc ?_ | with_reducible refine cell_same2 ?_ | ((with_reducible refine cell_set2 ?_ ?_); focus (first | (simp; done) | (intro hE; simp at hE; done) | (intro hE; simp at hE; omega))) | with_reducible refine Ge.drew ?_ | with_reducible refine Ge.drewN ?_ _ | with_reducible refine Ge.alloc ?_ _ | ((with_reducible refine Ge.setCell ?_ ?_ _); rotate_left; focus (first | (simp; done) | omega | (simp; omega))) | with_reducible refine Ge.trans ?_ (by assumption) | with_reducible refine Ge.keep (by assumption) ?_))), g.keep (by (repeat (first | assumption | with_reducible exact Ge.refl _ | with_reducible refine cv_drew ?_ | with_reducible refine cv_alloc ?_ | with_reducible refine cv_set ?_ | (with_reducible apply cv_some; assumption) | with_reducible refine cell_drew ?_ | with_reducible refine cell_drewN ?_ | ((with_reducible refine cell_new ?_ ?_); (focus (simp; done)); rfl) | with_reducible refine cell_alloc ?_ | with_reducible refine cell_same2 ?_ | ((with_reducible refine cell_set2 ?_ ?_); focus (first | (simp; done) | (intro hE; simp at hE; done) | (intro hE; simp at hE; omega))) | with_reducible refine Ge.drew ?_ | with_reducible refine Ge.drewN ?_ _ | with_reducible refine Ge.alloc ?_ _ | ((with_reducible refine Ge.setCell ?_ ?_ _); rotate_left; focus (first | (simp; done) | omega | (simp; omega))) | with_reducible refine Ge.trans ?_ (by assumption) | with_reducible refine Ge.keep (by assumption) ?_))), g.keep (by (repeat (first | assumption | with_reducible exact Ge.refl _ | with_reducible refine cv_drew ?_ | with_reducible refine cv_alloc ?_ | with_reducible refine cv_set ?_ | (with_reducible apply cv_some; assumption) | with_reducible refine cell_drew ?_ | with_reducible refine cell_drewN ?_ | ((with_reducible refine cell_new ?_ ?_); (focus (simp; done)); rfl) | with_reducible refine cell_alloc ?_ | with_reducible refine cell_same2 ?_ | ((with_reducible refine cell_set2 ?_ ?_); focus (first | (simp; done) | (intro hE; simp at hE; done) | (intro hE; simp at hE; omega))) | with_reducible refine Ge.drew ?_ | with_reducible refine Ge.drewN ?_ _ | with_reducible refine Ge.alloc ?_ _ | ((with_reducible refine Ge.setCell ?_ ?_ _); rotate_left; focus (first | (simp; done) | omega | (simp; omega))) | with_reducible refine Ge.trans ?_ (by assumption) | with_reducible refine Ge.keep (by assumption) ?_))), Ge.trans (by (repeat (first | assumption | with_reducible exact Ge.refl _ | with_reducible refine cv_drew ?_ | with_reducible refine cv_alloc ?_ | with_reducible refine cv_set ?_ | (with_reducible apply cv_some; assumption) | with_reducible refine cell_drew ?_ | with_reducible refine cell_drewN ?_ | ((with_reducible refine cell_new ?_ ?_); (focus (simp; done)); rfl) | with_reducible refine cell_alloc ?_ | with_reducible refine cell_same2 ?_ | ((with_reducible refine cell_set2 ?_ ?_); focus (first | (simp; done) | (intro hE; simp at hE; done) | (intro hE; simp at hE; omega))) | with_reducible refine Ge.drew ?_ | with_reducible refine Ge.drewN ?_ _ | with_reducible refine Ge.alloc ?_ _ | ((with_reducible refine Ge.setCell ?_ ?_ _); rotate_left; focus (first | (simp; done) | omega | (simp; omega))) | with_reducible refine Ge.trans ?_ (by assumption) | with_reducible refine Ge.keep (by assumption) ?_))) g⟩
      go_region_held3 (fun w' => w'.cell? ⟨w.heap.size, 0, none⟩ = some (.int .i64 (n : Int)) ∧ w'.cell? ⟨w.heap.size, 1, none⟩ = some (.int .i64 E) ∧ w'.cell? ⟨w.heap.size, 2, none⟩ = some (.int .i64 S) ∧ w'.cell? ⟨w.heap.size, 3, none⟩ = some (.slice p m cap) ∧ Ge wn w') (first | ((with_reducible refine hS _ ?_); (repeat (first | assumption | with_reducible exact Ge.refl _ | with_reducible refine cv_drew ?_ | with_reducible refine cv_alloc ?_ | with_reducible refine cv_set ?_ | (with_reducible apply cv_some; assumption) | with_reducible refine cell_drew ?_ | with_reducible refine cell_drewN ?_ | ((with_reducible refine cell_new ?_ ?_); (focus (simp; done)); rfl) | with_reducible refine cell_alloc ?_ | with_reducible refine cell_same2 ?_ | ((with_reducible refine cell_set2 ?_ ?_); focus (first | (simp; done) | (intro hE; simp at hE; done) | (intro hE; simp at hE; omega))) | with_reducible refine Ge.drew ?_ | with_reducible refine Ge.drewN ?_ _ | with_reducible refine Ge.alloc ?_ _ | ((with_reducible refine Ge.setCell ?_ ?_ _); rotate_left; focus (first | (simp; done) | omega | (simp; omega))) | with_reducible refine Ge.trans ?_ (by assumption) | with_reducible refine Ge.keep (by assumption) ?_)); done) | fail) (first | (go_at_call 24; ((with_reducible refine (HPk.out _ (by (repeat (first | assumption | with_reducible exact Ge.refl _ | with_reducible refine cv_drew ?_ | with_reducible refine cv_alloc ?_ | with_reducible refine cv_set ?_ | (with_reducible apply cv_some; assumption) | with_reducible refine cell_drew ?_ | with_reducible refine cell_drewN ?_ | ((with_reducible refine cell_new ?_ ?_); (focus (simp; done)); rfl) | with_reducible refine cell_alloc ?_ | with_reducible refine cell_same2 ?_ | ((with_reducible refine cell_set2 ?_ ?_); focus (first | (simp; done) | (intro hE; simp at hE; done) | (intro hE; simp at hE; omega))) | with_reducible refine Ge.drew ?_ | with_reducible refine Ge.drewN ?_ _ | with_reducible refine Ge.alloc ?_ _ | ((with_reducible refine Ge.setCell ?_ ?_ _); rotate_left; focus (first | (simp; done) | omega | (simp; omega))) | with_reducible refine Ge.trans ?_ (by assumption) | with_reducible refine Ge.keep (by assumption) ?_)))).mono ?_); rintro e w5 ⟨rfl, hb⟩)) | (go_at_call 12; ((with_reducible refine (HTr.out _ (by (repeat (first | assumption | with_reducible exact Ge.refl _ | with_reducible refine cv_drew ?_ | with_reducible refine cv_alloc ?_ | with_reducible refine cv_set ?_ | (with_reducible apply cv_some; assumption) | with_reducible refine cell_drew ?_ | with_reducible refine cell_drewN ?_ | ((with_reducible refine cell_new ?_ ?_); (focus (simp; done)); rfl) | with_reducible refine cell_alloc ?_ | with_reducible refine cell_same2 ?_ | ((with_reducible refine cell_set2 ?_ ?_); focus (first | (simp; done) | (intro hE; simp at hE; done) | (intro hE; simp at hE; omega))) | with_reducible refine Ge.drew ?_ | with_reducible refine Ge.drewN ?_ _ | with_reducible refine Ge.alloc ?_ _ | ((with_reducible refine Ge.setCell ?_ ?_ _); rotate_left; focus (first | (simp; done) | omega | (simp; omega))) | with_reducible refine Ge.trans ?_ (by assumption) | with_reducible refine Ge.keep (by assumption) ?_)))).mono ?_); rintro e w5 ⟨rfl, hb⟩)) | (go_at_call 22; ((with_reducible refine (HRk.out _).mono ?_); rintro e w5 ⟨rfl, hb⟩)) | (refine ap_rat1 (w0 := wn) (wr := wr) _ _ rfl u8 k L rfl hg (by (repeat (first | assumption | with_reducible exact Ge.refl _ | with_reducible refine cv_drew ?_ | with_reducible refine cv_alloc ?_ | with_reducible refine cv_set ?_ | (with_reducible apply cv_some; assumption) | with_reducible refine cell_drew ?_ | with_reducible refine cell_drewN ?_ | ((with_reducible refine cell_new ?_ ?_); (focus (simp; done)); rfl) | with_reducible refine cell_alloc ?_ | with_reducible refine cell_same2 ?_ | ((with_reducible refine cell_set2 ?_ ?_); focus (first | (simp; done) | (intro hE; simp at hE; done) | (intro hE; simp at hE; omega))) | with_reducible refine Ge.drew ?_ | with_reducible refine Ge.drewN ?_ _ | with_reducible refine Ge.alloc ?_ _ | ((with_reducible refine Ge.setCell ?_ ?_ _); rotate_left; focus (first | (simp; done) | omega | (simp; omega))) | with_reducible refine Ge.trans ?_ (by assumption) | with_reducible refine Ge.keep (by assumption) ?_))) hown _ _ rfl rfl (by omega) ?_; intro v6 w6 own6 g6) | fail)
      rename_i hHeldX
      obtain ⟨q0, q1, q2, q3, G7⟩ := hHeldX
      clear hS
      all_goals
        go_wp2_with fail
        go_roundw
        case rel => exact ⟨k + 1, _, by omega, by go_num, rfl, by rw [← hSn.out]; exact own6, g6⟩
        case measure => simp [intOf]; omega
    · have hkn : n = k := by omega
      subst hkn
      go_wp2_with fail
      exact bodyPost_ret (v := .tuple #[u8, .bool true]) (by simp [results, Try.results6, go_sem]) rfl ⟨_, rfl, SlF.of_owns hown, by (repeat (first | with_reducible exact Ge.refl _ | assumption | with_reducible refine Ge.drew ?_ | with_reducible refine Ge.drewN ?_ _ | with_reducible refine Ge.alloc ?_ _ | (with_reducible refine Ge.setCell ?_ (by first | (simp; done) | omega | (simp; omega)) _) | with_reducible refine Ge.trans ?_ (by assumption)))⟩

set_option maxHeartbeats 1600000 in
theorem iPotentialLine (N E S : Int) (s : Value) (m : Nat) (xs : List Int) (a b : Int) (w : World) (hs : SlF w s m 3 xs) (hm : m ≤ 9223372036854775807) :
    Calls Try.prog 13 #[.agg #[.int .i64 N, .int .i64 E, .int .i64 S, s], .int .i64 a, .int .i64 b] w fun e w' => e = .returned (.string (bstr (potLine N E S m xs a b))) ∧ Ge w w' := by
  obtain ⟨p, cap, rfl, hc⟩ := hs.open
  have HV := Lib.hid hs
  clear hs hc
  cases hT : difB N E S m xs a b with
  | false =>
    have HF := Lib.hid (potLine_f hT)
    have HP := Lib.hid (fun w' (g : Ge w w') => iPotentialsF N E S (.slice p m cap) m xs a b w' (HV.out.ge g) hm hT)
    go_enter Try.func13, Try.ntmps13
    go_wp2_with (go_at_call 6; ((with_reducible refine (HP.out _ (Ge.alloc (Ge.refl w) _)).mono ?_); rintro e w1 ⟨rfl, g1⟩))
    go_ret
    exact ⟨ret_str HF.out, by (repeat (first | with_reducible exact Ge.refl _ | assumption | with_reducible refine Ge.drew ?_ | with_reducible refine Ge.drewN ?_ _ | with_reducible refine Ge.alloc ?_ _ | (with_reducible refine Ge.setCell ?_ (by first | (simp; done) | omega | (simp; omega)) _) | with_reducible refine Ge.trans ?_ (by assumption)))⟩
  | true =>
    obtain ⟨⟨n1, n2⟩, h10, _⟩ := net_wires (dif_of hT).1
    obtain ⟨n, rfl⟩ : ∃ n : Nat, N = (n : Int) := ⟨N.toNat, by omega⟩
    have HF := Lib.hid (potLine_t hT)
    have HP := Lib.hid (fun w' (g : Ge w w') => iPotentialsT n E S (.slice p m cap) m xs a b w' (HV.out.ge g) hm hT)
    have HB := Lib.hid (nth_all (potL_in n E S m xs a b n))
    have n5 : n ≤ 1048576 := by omega
    generalize potL n E S m xs a b n = L at *
    clear hT
    go_enter Try.func13, Try.ntmps13
    go_wp2_with (first | (go_at_call 6; ((with_reducible refine (HP.out _ (Ge.alloc (Ge.refl w) _)).mono ?_); rintro e w1 ⟨v1, rfl, s1, g1⟩)) | (go_at_call 14; ((with_reducible refine (iFormatRow _ n L _ s1 n5 HB.out).mono ?_); rintro e w2 ⟨rfl, g2⟩)))
    go_ret
    exact ⟨ret_str (by rw [HF.out]), by (repeat (first | with_reducible exact Ge.refl _ | assumption | with_reducible refine Ge.drew ?_ | with_reducible refine Ge.drewN ?_ _ | with_reducible refine Ge.alloc ?_ _ | (with_reducible refine Ge.setCell ?_ (by first | (simp; done) | omega | (simp; omega)) _) | with_reducible refine Ge.trans ?_ (by assumption)))⟩

end Go.Proofs.Ytipiiimemmkdgaa

namespace Go.Proofs.Ytipiiimemmkdgaa

open Go.RowKit

def faultTxt (a b : Int) : List UInt8 := fmtInt a ++ [61] ++ fmtInt b

theorem faultTxt_eq (a b : Int) : bstr (fmtInt a) ++ (⟨#[61]⟩ : ByteArray) ++ bstr (fmtInt b) = bstr (faultTxt a b) := by
  show bstr (fmtInt a) ++ bstr [61] ++ bstr (fmtInt b) = _
  rw [bstr_append, bstr_append]; rfl

theorem fault_z (a b : Int) : (¬ 9223372036854775807 < (bstr (fmtInt a)).size + 1) ∧ (¬ 9223372036854775807 < (bstr (fmtInt a)).size + 1 + (bstr (fmtInt b)).size) := by
  have := fmtInt_length a; have := fmtInt_length b; rw [bstr_size, bstr_size]; omega

set_option maxHeartbeats 400000 in
theorem iFormatFault (a b : Int) (w : World) (ha : -9223372036854775808 ≤ a ∧ a ≤ 9223372036854775807) (hb : -9223372036854775808 ≤ b ∧ b ≤ 9223372036854775807) :
    Calls Try.prog 30 #[.agg #[.int .i64 a, .int .i64 b]] w fun e w' => e = .returned (.string (bstr (faultTxt a b))) ∧ Ge w w' := by
  obtain ⟨a0, a1⟩ := ha
  obtain ⟨b0, b1⟩ := hb
  obtain ⟨z1, z2⟩ := fault_z a b
  go_enter Try.func30, Try.ntmps30
  go_wp2_with fail
  go_region_held3 (fun w' => w'.cell? ⟨w.heap.size, 0, none⟩ = some (.int .i64 a) ∧ w'.cell? ⟨w.heap.size, 1, none⟩ = some (.int .i64 b) ∧ Ge w w') (exact ⟨by simp, by simp, by (repeat (first | with_reducible exact Ge.refl _ | assumption | with_reducible refine Ge.drew ?_ | with_reducible refine Ge.drewN ?_ _ | with_reducible refine Ge.alloc ?_ _ | (with_reducible refine Ge.setCell ?_ (by first | (simp; done) | omega | (simp; omega)) _) | with_reducible refine Ge.trans ?_ (by assumption)))⟩)
    (first | (go_at_call 11; ((with_reducible refine (iFormatInt _ _ (by assumption) (by assumption)).mono ?_); rintro e w' ⟨rfl, rfl⟩)) | fail)
  go_wp2_with fail
  go_ret
  exact ⟨ret_str (faultTxt_eq _ _), by (repeat (first | with_reducible exact Ge.refl _ | assumption | with_reducible refine Ge.drew ?_ | with_reducible refine Ge.drewN ?_ _ | with_reducible refine Ge.alloc ?_ _ | (with_reducible refine Ge.setCell ?_ (by first | (simp; done) | omega | (simp; omega)) _) | with_reducible refine Ge.trans ?_ (by assumption)))⟩

end Go.Proofs.Ytipiiimemmkdgaa

namespace Go.Proofs.Ytipiiimemmkdgaa
set_option maxRecDepth 100000
open Go.ChangeShapes Go.WideShapes Go.ChangeAt Go.RowKit Go.Joins

def fTxts (xs : List Int) (k : Nat) : List (List UInt8) := (List.range k).map fun j => faultTxt (nth xs (j * 2)) (nth xs (j * 2 + 1))
theorem fTxts_succ (xs : List Int) (k : Nat) : fTxts xs (k + 1) = fTxts xs k ++ [faultTxt (nth xs (k * 2)) (nth xs (k * 2 + 1))] := by simp [fTxts, List.range_succ]
theorem fTxts_length (xs : List Int) (k : Nat) : (fTxts xs k).length = k := by simp [fTxts]
theorem fTxts_join (xs : List Int) (k : Nat) : (Lib.join (fTxts xs k) [32]).length ≤ 46 * k := by
  have h := join_le [32] (fTxts xs k) 45 (fun x hx => by
    simp only [fTxts, List.mem_map] at hx
    obtain ⟨j, _, rfl⟩ := hx
    have := fmtInt_length (nth xs (j * 2)); have := fmtInt_length (nth xs (j * 2 + 1))
    simp [faultTxt]; omega)
  rwa [fTxts_length] at h
def faultLine (n : Nat) (xs : List Int) : List UInt8 := if n = 0 then [110, 111, 110, 101] else Lib.join (fTxts xs n) [32]
theorem faultLine_0 {n : Nat} {xs : List Int} (h : n = 0) : bstr (faultLine n xs) = ⟨#[110, 111, 110, 101]⟩ := by simp [faultLine, h, bstr]
theorem faultLine_s {n : Nat} {xs : List Int} (h : ¬ n = 0) : bstr (faultLine n xs) = bstr (Lib.join (fTxts xs n) [32]) := by simp [faultLine, h]

set_option maxHeartbeats 1600000 in
theorem iFaultLine (v : Value) (n : Nat) (xs : List Int) (w : World) (hv : SlF w v n 2 xs) (hm : n ≤ 1048576) (hb : ∀ j, -9223372036854775808 ≤ nth xs j ∧ nth xs j ≤ 9223372036854775807) :
    Calls Try.prog 16 #[v] w fun e w' => e = .returned (.string (bstr (faultLine n xs))) ∧ Ge w w' := by
  obtain ⟨p, cap, rfl, hc⟩ := hv.open
  have HC := Lib.hid hc
  have HBd := Lib.hid hb
  clear hv hc hb
  go_enter Try.func16, Try.ntmps16
  go_wp2_with fail
  go_loopw [3, 9] (fun s i wr => ∃ k : Nat, k ≤ n ∧ i = .int .i64 k ∧ wr.ownsRow w.heap.size 9 1 s (fTxts xs k).length (scells (fTxts xs k)) ∧ Ge w wr) (fun _ i _ => n - (intOf i).toNat)
  case atStart => exact ⟨0, Nat.zero_le _, rfl, owns_lit0 _ _ _, by (repeat (first | with_reducible exact Ge.refl _ | assumption | with_reducible refine Ge.drew ?_ | with_reducible refine Ge.drewN ?_ _ | with_reducible refine Ge.alloc ?_ _ | (with_reducible refine Ge.setCell ?_ (by first | (simp; done) | omega | (simp; omega)) _) | with_reducible refine Ge.trans ?_ (by assumption)))⟩
  case round =>
    obtain ⟨k, hk, rfl, hown, hg⟩ := hrel
    by_cases hlt : k < n
    · obtain ⟨b, o, rfl, x0, x1⟩ := two_cells HC.out hlt
      have y0 := hg.keep x0
      have y1 := hg.keep x1
      clear x0 x1
      have B0 := HBd.out (k * 2)
      have B1 := HBd.out (k * 2 + 1)
      have HL : Hid ((fTxts xs k).length < 1099511627776) := by
        show _ < _
        rw [fTxts_length]; omega
      have HS : Hid (fTxts xs k ++ [faultTxt (nth xs (k * 2)) (nth xs (k * 2 + 1))] = fTxts xs (k + 1)) := (fTxts_succ _ _).symm
      generalize fTxts xs k = L at *
      generalize nth xs (k * 2) = X at *
      generalize nth xs (k * 2 + 1) = Y at *
      go_wp2_with (first
        | (go_at_call 30; ((with_reducible refine (iFormatFault _ _ _ B0 B1).mono ?_); rintro e w5 ⟨rfl, g5⟩; have own2 := Ge.owns g5 (hown.alloc _); have G5 : Ge w w5 := Ge.trans (Ge.alloc hg _) g5; have Z5 := G5.size))
        | (at_builtin; refine ap_str rfl _ _ rfl w.heap.size u3 L rfl own2 _ rfl HL.out Z5 ?_; intro v' w6 own6 hm6))
      go_roundw
      case rel => exact ⟨k + 1, by omega, by go_num, by have := own6; rwa [HS.out] at this, G5.mine own2 (Nat.le_refl _) hm6⟩
      case measure => simp [intOf]; omega
    · have hkn : k = n := by omega
      subst hkn
      have hown' := hown
      rw [fTxts_length] at hown
      have H1 : Hid ((fTxts xs k).length ≤ 140737488355328) := by
        show _ ≤ _
        rw [fTxts_length]; omega
      have H2 : Hid ((Lib.join (fTxts xs k) [32]).length ≤ 140737488355328) := by
        show _ ≤ _
        have := fTxts_join xs k; omega
      obtain ⟨p3, c3, rfl⟩ := owns_form hown
      by_cases hz : k = 0
      · have HF := Lib.hid (faultLine_0 (xs := xs) hz)
        have tz : ((k : Int) == 0) = true := by simp [hz]
        clear hz hown'
        go_wp2_with fail
        go_ret
        exact ⟨ret_str (by rw [HF.out]), by (repeat (first | with_reducible exact Ge.refl _ | assumption | with_reducible refine Ge.drew ?_ | with_reducible refine Ge.drewN ?_ _ | with_reducible refine Ge.alloc ?_ _ | (with_reducible refine Ge.setCell ?_ (by first | (simp; done) | omega | (simp; omega)) _) | with_reducible refine Ge.trans ?_ (by assumption)))⟩
      · have HF := Lib.hid (faultLine_s (xs := xs) hz)
        have tz : ((k : Int) == 0) = false := by simp [hz]
        have hJ : Calls Try.prog 28 #[.slice p3 k c3, .string ⟨#[32]⟩] wr fun en w' => en = .returned (.string (bstr (Lib.join (fTxts xs k) [32]))) ∧ Ge wr w' := iJoin w.heap.size 9 (.slice p3 k c3) (fTxts xs k) [32] _ hown' H1.out H2.out
        clear hz hown'
        go_wp2_with ((go_at_call 28; ((with_reducible refine (hJ).mono ?_); rintro e w5 ⟨rfl, g5⟩)))
        go_ret
        exact ⟨ret_str (by rw [HF.out]), by (repeat (first | with_reducible exact Ge.refl _ | assumption | with_reducible refine Ge.drew ?_ | with_reducible refine Ge.drewN ?_ _ | with_reducible refine Ge.alloc ?_ _ | (with_reducible refine Ge.setCell ?_ (by first | (simp; done) | omega | (simp; omega)) _) | with_reducible refine Ge.trans ?_ (by assumption)))⟩

end Go.Proofs.Ytipiiimemmkdgaa
