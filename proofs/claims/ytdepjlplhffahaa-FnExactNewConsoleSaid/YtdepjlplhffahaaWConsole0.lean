/- NewConsole. -/
import Derived.Test.YtdepjlplhffahaaWEqNet
namespace Go.Proofs.Ytdepjlplhffahaa
open Go.RowKit

def newNet : Nt := ⟨2, 2, 1, [⟨0, 1, 1⟩]⟩

def GivesNet (w : World) (n : Nt) (e : Ending) (w' : World) : Prop := ∃ v, e = .returned v ∧ OwnsNet w' w.heap.size v n ∧ Ge w w'

theorem iNewConsole (w : World) : Calls Try.prog 22 #[] w (GivesNet w newNet) := by
  go_enter Try.func22, Try.ntmps22
  go_wp2_with fail
  refine bodyPost_ret (v := .agg #[.int .i64 2, .int .i64 2, .int .i64 1, .slice (some ⟨w.heap.size + 1, 0, none⟩) 1 1]) (by simp [results, Try.results22, go_sem]) rfl ⟨_, rfl, ⟨_, rfl, ?_⟩, by (repeat (first | exact Ge.refl _ | assumption | with_reducible refine Ge.drew ?_ | with_reducible refine Ge.drewN ?_ _ | with_reducible refine Ge.alloc ?_ _ | with_reducible refine Ge.trans ?_ (by assumption) | with_reducible refine Ge.trans (by assumption) ?_ | (with_reducible refine Ge.setCell ?_ (by first | (simp; done) | omega | (simp; omega)) _)))⟩
  have h := World.ownsRow_lit (base := w.heap.size) (e := 50) (size := 3) (w.alloc (.cells #[.int .i64 2, .int .i64 2, .int .i64 1, .slice (some ⟨w.heap.size + 1, 0, none⟩) 1 1] 42)) #[.int .i64 0, .int .i64 1, .int .i64 1] 1 (by simp) (by unfold maxLen; omega) rfl
  rw [World.size_alloc] at h
  exact h

theorem sNewConsole (w : World) : Calls Try.prog 21 #[] w (GivesNet w newNet) := by
  go_enter Try.func21, Try.ntmps21
  go_wp2_with fail
  refine bodyPost_ret (v := .agg #[.int .i64 2, .int .i64 2, .int .i64 1, .slice (some ⟨w.heap.size + 1, 0, none⟩) 1 1]) (by simp [results, Try.results21, go_sem]) rfl ⟨_, rfl, ⟨_, rfl, ?_⟩, by (repeat (first | exact Ge.refl _ | assumption | with_reducible refine Ge.drew ?_ | with_reducible refine Ge.drewN ?_ _ | with_reducible refine Ge.alloc ?_ _ | with_reducible refine Ge.trans ?_ (by assumption) | with_reducible refine Ge.trans (by assumption) ?_ | (with_reducible refine Ge.setCell ?_ (by first | (simp; done) | omega | (simp; omega)) _)))⟩
  have h := World.ownsRow_lit (base := w.heap.size) (e := 50) (size := 3) (w.alloc (.cells #[.int .i64 2, .int .i64 2, .int .i64 1, .slice (some ⟨w.heap.size + 1, 0, none⟩) 1 1] 42)) #[.int .i64 0, .int .i64 1, .int .i64 1] 1 (by simp) (by unfold maxLen; omega) rfl
  rw [World.size_alloc] at h
  exact h


set_option maxHeartbeats 1600000 in
theorem lFnExactNewConsole (w : World) : Calls Try.prog 7 #[] w fun e w' => e = .returned (.bool true) ∧ Ge w w' := by
  have t : netEq newNet newNet = true := by simp [netEq]
  obtain ⟨n, hn⟩ : ∃ n, n = newNet := ⟨_, rfl⟩
  have hlen : n.wires.length = 1 := by rw [hn]; exact rfl
  rw [← hn] at t
  have HI := Lib.hid (fun w => by rw [hn]; exact iNewConsole w : ∀ w, Calls Try.prog 22 #[] w (GivesNet w n))
  have HSp := Lib.hid (fun w => by rw [hn]; exact sNewConsole w : ∀ w, Calls Try.prog 21 #[] w (GivesNet w n))
  clear hn
  obtain ⟨m, hm⟩ : ∃ m, n.wires.length = m := ⟨_, rfl⟩
  have hm1 : m ≤ 1 := by omega
  have HM := Lib.hid hm
  clear hm hlen
  go_enter Try.func7, Try.ntmps7
  go_wp2_with ((go_at_call 21; ((with_reducible refine (HSp.out _).mono ?_); rintro e w1 ⟨_, rfl, ⟨s1, rfl, q1⟩, g1⟩)); rw [HM.out] at q1; obtain ⟨p1, c1, rfl⟩ := owns_form q1)
  go_wp2_with ((go_at_call 22; ((with_reducible refine (HI.out _).mono ?_); rintro e w2 ⟨_, rfl, ⟨s2, rfl, q2⟩, g2⟩)); rw [HM.out] at q2; obtain ⟨p2, c2, rfl⟩ := owns_form q2; have A0 := Ge.keep g2 (a := ⟨w1.heap.size, 0, none⟩) (v := .int .i64 n.nodes) (by simp); have A1 := Ge.keep g2 (a := ⟨w1.heap.size, 1, none⟩) (v := .int .i64 n.ends) (by simp); have A2 := Ge.keep g2 (a := ⟨w1.heap.size, 2, none⟩) (v := .int .i64 n.scale) (by simp); have A3 := Ge.keep g2 (a := ⟨w1.heap.size, 3, none⟩) (v := .slice p1 m c1) (by simp); have z2 : w1.heap.size < w2.heap.size := (by have := g2.size; simp at this; omega))
  have i1 : IsNet w2 (.agg #[.int .i64 n.nodes, .int .i64 n.ends, .int .i64 n.scale, .slice p1 m c1]) n := ⟨_, rfl, by rw [HM.out]; exact SlF.of_owns ((Ge.trans (by (repeat (first | exact Ge.refl _ | assumption | with_reducible refine Ge.drew ?_ | with_reducible refine Ge.drewN ?_ _ | with_reducible refine Ge.alloc ?_ _ | with_reducible refine Ge.trans ?_ (by assumption) | with_reducible refine Ge.trans (by assumption) ?_ | (with_reducible refine Ge.setCell ?_ (by first | (simp; done) | omega | (simp; omega)) _)))) g2 : Ge w1 w2).owns q1)⟩
  have i2 : IsNet w2 (.agg #[.int .i64 n.nodes, .int .i64 n.ends, .int .i64 n.scale, .slice p2 m c2]) n := ⟨_, rfl, by rw [HM.out]; exact SlF.of_owns q2⟩
  have I1 := Lib.hid i1
  have I2 := Lib.hid i2
  clear i1 i2
  go_wp2_with ((go_at_call 23; ((with_reducible refine (lEqNet _ _ n n _ (I2.out.ge (by (repeat (first | exact Ge.refl _ | assumption | with_reducible refine Ge.drew ?_ | with_reducible refine Ge.drewN ?_ _ | with_reducible refine Ge.alloc ?_ _ | with_reducible refine Ge.trans ?_ (by assumption) | with_reducible refine Ge.trans (by assumption) ?_ | (with_reducible refine Ge.setCell ?_ (by first | (simp; done) | omega | (simp; omega)) _))))) (I1.out.ge (by (repeat (first | exact Ge.refl _ | assumption | with_reducible refine Ge.drew ?_ | with_reducible refine Ge.drewN ?_ _ | with_reducible refine Ge.alloc ?_ _ | with_reducible refine Ge.trans ?_ (by assumption) | with_reducible refine Ge.trans (by assumption) ?_ | (with_reducible refine Ge.setCell ?_ (by first | (simp; done) | omega | (simp; omega)) _))))) (by have := HM.out; omega)).mono ?_); rintro e w3 ⟨rfl, g3⟩)); have B0 := Ge.keep g3 (a := ⟨w2.heap.size, 0, none⟩) (v := .int .i64 n.nodes) (by simp); have B1 := Ge.keep g3 (a := ⟨w2.heap.size, 1, none⟩) (v := .int .i64 n.ends) (by simp); have B2 := Ge.keep g3 (a := ⟨w2.heap.size, 2, none⟩) (v := .int .i64 n.scale) (by simp); have B3 := Ge.keep g3 (a := ⟨w2.heap.size, 3, none⟩) (v := .slice p2 m c2) (by simp); have z3 : w2.heap.size < w3.heap.size := (by have := g3.size; simp at this; omega); have G3 : Ge w2 w3 := (Ge.trans (by (repeat (first | exact Ge.refl _ | assumption | with_reducible refine Ge.drew ?_ | with_reducible refine Ge.drewN ?_ _ | with_reducible refine Ge.alloc ?_ _ | with_reducible refine Ge.trans ?_ (by assumption) | with_reducible refine Ge.trans (by assumption) ?_ | (with_reducible refine Ge.setCell ?_ (by first | (simp; done) | omega | (simp; omega)) _)))) g3); have A0 := Ge.keep G3 A0; have A1 := Ge.keep G3 A1; have A2 := Ge.keep G3 A2; have A3 := Ge.keep G3 A3)
  have b2 : w1.heap.size + 1 ≤ w2.heap.size := z2
  have r2 := G3.owns q2
  have r1 := G3.owns ((Ge.trans (by (repeat (first | exact Ge.refl _ | assumption | with_reducible refine Ge.drew ?_ | with_reducible refine Ge.drewN ?_ _ | with_reducible refine Ge.alloc ?_ _ | with_reducible refine Ge.trans ?_ (by assumption) | with_reducible refine Ge.trans (by assumption) ?_ | (with_reducible refine Ge.setCell ?_ (by first | (simp; done) | omega | (simp; omega)) _)))) g2 : Ge w1 w2).owns q1)
  have hA := before_row q2 (b := w1.heap.size) (by simp)
  have hB := behind_row q2 (b := w2.heap.size) (Nat.le_refl _)
  have HA := Lib.hid hA
  have HB := Lib.hid hB
  clear hA hB
  go_wp2_with ((go_at_call 24; ((with_reducible refine (lMarkNet _ _ _ _ _ m _ 1 _ r2 (by omega) (by omega)).mono ?_); rintro e w4 ⟨rfl, m4, t2⟩)); have A0 := mine_cell m4 A0 HA.out; have A1 := mine_cell m4 A1 HA.out; have A2 := mine_cell m4 A2 HA.out; have A3 := mine_cell m4 A3 HA.out; have B0 := mine_cell m4 B0 HB.out; have B1 := mine_cell m4 B1 HB.out; have B2 := mine_cell m4 B2 HB.out; have B3 := mine_cell m4 B3 HB.out; have z4 : w3.heap.size ≤ w4.heap.size := World.grownBy.size m4)
  have t1 := owns_apart q1 r1 r2 (by simp) m4
  go_wp2_with ((go_at_call 25; ((with_reducible refine (lHeldNet _ _ _ _ m 1 _ (Sl.of_owns t2) (by omega) (by omega)).mono ?_); rintro e w5 ⟨rfl, g5⟩)); have A0 := Ge.keep g5 A0; have A1 := Ge.keep g5 A1; have A2 := Ge.keep g5 A2; have A3 := Ge.keep g5 A3; have B0 := Ge.keep g5 B0; have B1 := Ge.keep g5 B1; have B2 := Ge.keep g5 B2; have B3 := Ge.keep g5 B3; have z5 := g5.size)
  have t1 := g5.owns t1
  have t2 := g5.owns t2
  go_wp2_with ((go_at_call 22; ((with_reducible refine (HI.out _).mono ?_); rintro e w6 ⟨_, rfl, ⟨s6, rfl, q6⟩, g6⟩)); rw [HM.out] at q6; obtain ⟨p6, c6, rfl⟩ := owns_form q6; have A0 := Ge.keep g6 A0; have A1 := Ge.keep g6 A1; have A2 := Ge.keep g6 A2; have A3 := Ge.keep g6 A3; have B0 := Ge.keep g6 B0; have B1 := Ge.keep g6 B1; have B2 := Ge.keep g6 B2; have B3 := Ge.keep g6 B3; have z6 := g6.size; have y1 : w1.heap.size < w6.heap.size := (by omega); have y2 : w2.heap.size < w6.heap.size := (by omega))
  have t1 := g6.owns t1
  have t2 := g6.owns t2
  have j1 : IsNet w6 (.agg #[.int .i64 n.nodes, .int .i64 n.ends, .int .i64 n.scale, .slice p1 m c1]) n := ⟨_, rfl, by rw [HM.out]; exact SlF.of_owns t1⟩
  have j6 : IsNet w6 (.agg #[.int .i64 n.nodes, .int .i64 n.ends, .int .i64 n.scale, .slice p6 m c6]) n := ⟨_, rfl, by rw [HM.out]; exact SlF.of_owns q6⟩
  have J1 := Lib.hid j1
  have J6 := Lib.hid j6
  clear j1 j6
  go_wp2_with ((go_at_call 23; ((with_reducible refine (lEqNet _ _ n n _ (J6.out.ge (by (repeat (first | exact Ge.refl _ | assumption | with_reducible refine Ge.drew ?_ | with_reducible refine Ge.drewN ?_ _ | with_reducible refine Ge.alloc ?_ _ | with_reducible refine Ge.trans ?_ (by assumption) | with_reducible refine Ge.trans (by assumption) ?_ | (with_reducible refine Ge.setCell ?_ (by first | (simp; done) | omega | (simp; omega)) _))))) (J1.out.ge (by (repeat (first | exact Ge.refl _ | assumption | with_reducible refine Ge.drew ?_ | with_reducible refine Ge.drewN ?_ _ | with_reducible refine Ge.alloc ?_ _ | with_reducible refine Ge.trans ?_ (by assumption) | with_reducible refine Ge.trans (by assumption) ?_ | (with_reducible refine Ge.setCell ?_ (by first | (simp; done) | omega | (simp; omega)) _))))) (by have := HM.out; omega)).mono ?_); rintro e w7 ⟨rfl, g7⟩)); have G7 : Ge w6 w7 := (Ge.trans (by (repeat (first | exact Ge.refl _ | assumption | with_reducible refine Ge.drew ?_ | with_reducible refine Ge.drewN ?_ _ | with_reducible refine Ge.alloc ?_ _ | with_reducible refine Ge.trans ?_ (by assumption) | with_reducible refine Ge.trans (by assumption) ?_ | (with_reducible refine Ge.setCell ?_ (by first | (simp; done) | omega | (simp; omega)) _)))) g7); have A0 := Ge.keep G7 A0; have A1 := Ge.keep G7 A1; have A2 := Ge.keep G7 A2; have A3 := Ge.keep G7 A3; have B0 := Ge.keep G7 B0; have B1 := Ge.keep G7 B1; have B2 := Ge.keep G7 B2; have B3 := Ge.keep G7 B3)
  have t2 := G7.owns t2
  go_wp2_with ((go_at_call 25; ((with_reducible refine (lHeldNet _ _ _ _ m 1 _ (Sl.of_owns t2) (by omega) (by omega)).mono ?_); rintro e w8 ⟨rfl, g8⟩)))
  go_ret
  have F3 : Ge w w3 := (g1.trans (by (repeat (first | exact Ge.refl _ | assumption | with_reducible refine Ge.drew ?_ | with_reducible refine Ge.drewN ?_ _ | with_reducible refine Ge.alloc ?_ _ | with_reducible refine Ge.trans ?_ (by assumption) | with_reducible refine Ge.trans (by assumption) ?_ | (with_reducible refine Ge.setCell ?_ (by first | (simp; done) | omega | (simp; omega)) _))) : Ge w1 (w1.alloc _))).trans (g2.trans G3)
  exact ⟨rfl, ((((F3.mine r2 (by have := g1.size; simp; omega) m4).trans g5).trans g6).trans G7).trans g8⟩
end Go.Proofs.Ytdepjlplhffahaa
