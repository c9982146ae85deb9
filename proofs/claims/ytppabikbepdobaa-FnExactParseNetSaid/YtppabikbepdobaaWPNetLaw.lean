/- ParseNet: both sides, and the law. No condition. -/
import Derived.Test.YtppabikbepdobaaWPNetS
import Derived.Test.YtppabikbepdobaaWLaw
import Derived.Test.YtppabikbepdobaaWEqNet
namespace Go.Proofs.Ytppabikbepdobaa
set_option maxRecDepth 100000
open Go.ChangeShapes Go.WideShapes Go.ChangeAt Go.RowKit Go.Joins

/-- A network of its own memory, and whether there is one. -/
def GivesNB (w : World) (n : Nt) (B : Bool) (e : Ending) (w' : World) : Prop :=
  ∃ s, e = .returned (.tuple #[.agg #[.int .i64 n.nodes, .int .i64 n.ends, .int .i64 n.scale, s], .bool B]) ∧ w'.ownsRow w.heap.size 56 3 s n.wires.length (icells (flatW n.wires)) ∧ Ge w w'
noncomputable def wL (l : List (List UInt8)) : Nat → List Wr
  | 0 => []
  | k + 1 => wL l k ++ [⟨pv (tnth (pieces [45, 61] (tnth l (k + 1))) 0), pv (tnth (pieces [45, 61] (tnth l (k + 1))) 1), pv (tnth (pieces [45, 61] (tnth l (k + 1))) 2)⟩]
theorem wL_flat (l : List (List UInt8)) : ∀ k, flatW (wL l k) = wX l k ∧ (wL l k).length = k
  | 0 => ⟨rfl, rfl⟩
  | k + 1 => by
    obtain ⟨h1, h2⟩ := wL_flat l k
    refine ⟨?_, by simp [wL, h2]⟩
    simp only [wL, wX, flatW_append, h1, flatW]
/-- The network that a text names. -/
noncomputable def pnN (s : List UInt8) : Nt := ⟨pnV s 0, pnV s 1, pnV s 2, if pnB (hdI s) s = true then wL (pieces [32] s) ((pieces [32] s).length - 1) else []⟩
theorem pnN_w (s : List UInt8) : (pnN s).wires.length = pnM s ∧ flatW (pnN s).wires = pnX s := by
  unfold pnN pnM pnX
  simp only
  split
  · exact ⟨(wL_flat _ _).2, (wL_flat _ _).1⟩
  · exact ⟨rfl, rfl⟩
theorem pnM_le (s : List UInt8) : pnM s ≤ s.length + 1 := by
  unfold pnM
  have := pieces_len [32] s
  split <;> omega
theorem givesNB {w w' : World} {s : List UInt8} {e : Ending} (h : GivesP w s e w') : GivesNB w (pnN s) (pnB (hdI s) s) e w' := by
  obtain ⟨v, h1, h2, h3⟩ := h
  exact ⟨v, h1, by rw [(pnN_w s).1, (pnN_w s).2]; exact h2, h3⟩
theorem iParseNet (s : List UInt8) (w : World) (hm : s.length ≤ 1048576) : Calls Try.prog 24 #[.string (bstr s)] w (GivesNB w (pnN s) (pnB (hdI s) s)) := by
  cases h : hdOk (hdI s) with
  | true => exact (iParseNetB s w hm h).mono fun _ _ => givesNB
  | false => exact (iParseNetA s w hm h).mono fun _ _ => givesNB
theorem sParseNet (s : List UInt8) (w : World) (hm : s.length ≤ 1048576) : Calls Try.prog 23 #[.string (bstr s)] w (GivesNB w (pnN s) (pnB (hdI s) s)) := by
  cases h : hdOk (hdS s) with
  | true => exact (sParseNetB s w hm h).mono fun _ _ => givesNB
  | false => exact (sParseNetA s w hm h).mono fun _ _ => givesNB
theorem netEq_self (n : Nt) : netEq n n = true := by simp [netEq]

set_option maxHeartbeats 3200000 in
theorem lFnExactParseNet (s0 : ByteArray) (w : World) (hs0 : s0.size ≤ 9223372036854775807) : Calls Try.prog 5 #[.string s0] w fun e w' => e = .returned (.bool true) ∧ Ge w w' := by
  obtain ⟨s, hs⟩ : ∃ s : List UInt8, bstr s = s0 := ⟨s0.data.toList, bstr_toList s0⟩
  subst hs
  have hsz := bstr_size s
  rw [hsz] at hs0
  by_cases hbig : 1048576 < s.length
  · go_enter Try.func5, Try.ntmps5
    go_wp2_with fail
    go_ret
    exact ⟨rfl, Ge.refl _⟩
  have HI := Lib.hid (fun w => iParseNet s w (by omega))
  have HSp := Lib.hid (fun w => sParseNet s w (by omega))
  have hlen := pnM_le s
  rw [← (pnN_w s).1] at hlen
  generalize pnB (hdI s) s = B at *
  generalize pnN s = n at *
  have tB : (B != B) = false := by simp
  have t := netEq_self n
  obtain ⟨m, hm⟩ : ∃ m, n.wires.length = m := ⟨_, rfl⟩
  have hm1 : m ≤ 1048577 := by omega
  have HM := Lib.hid hm
  clear hm hlen
  go_enter Try.func5, Try.ntmps5
  go_wp2_with ((go_at_call 23; ((with_reducible refine (HSp.out _).mono ?_); rintro e w1 ⟨s1, rfl, q1, g1⟩)); rw [HM.out] at q1; obtain ⟨p1, c1, rfl⟩ := owns_form q1)
  go_wp2_with ((go_at_call 24; ((with_reducible refine (HI.out _).mono ?_); rintro e w2 ⟨s2, rfl, q2, g2⟩)); rw [HM.out] at q2; obtain ⟨p2, c2, rfl⟩ := owns_form q2; have A0 := Ge.keep g2 (a := ⟨w1.heap.size, 0, none⟩) (v := .int .i64 n.nodes) (by simp); have A1 := Ge.keep g2 (a := ⟨w1.heap.size, 1, none⟩) (v := .int .i64 n.ends) (by simp); have A2 := Ge.keep g2 (a := ⟨w1.heap.size, 2, none⟩) (v := .int .i64 n.scale) (by simp); have A3 := Ge.keep g2 (a := ⟨w1.heap.size, 3, none⟩) (v := .slice p1 m c1) (by simp); have z2 : w1.heap.size < w2.heap.size := (by have := g2.size; simp at this; omega))
  have i1 : IsNet w2 (.agg #[.int .i64 n.nodes, .int .i64 n.ends, .int .i64 n.scale, .slice p1 m c1]) n := ⟨_, rfl, by rw [HM.out]; exact SlF.of_owns ((Ge.trans (by (repeat (first | with_reducible exact Ge.refl _ | assumption | with_reducible refine Ge.drew ?_ | with_reducible refine Ge.drewN ?_ _ | with_reducible refine Ge.alloc ?_ _ | (with_reducible refine Ge.setCell ?_ (by first | (simp; done) | omega | (simp; omega)) _) | with_reducible refine Ge.trans ?_ (by assumption)))) g2 : Ge w1 w2).owns q1)⟩
  have i2 : IsNet w2 (.agg #[.int .i64 n.nodes, .int .i64 n.ends, .int .i64 n.scale, .slice p2 m c2]) n := ⟨_, rfl, by rw [HM.out]; exact SlF.of_owns q2⟩
  have I1 := Lib.hid i1
  have I2 := Lib.hid i2
  clear i1 i2
  go_wp2_with ((go_at_call 19; ((with_reducible refine (lEqNet _ _ n n _ (I2.out.ge (by (repeat (first | with_reducible exact Ge.refl _ | assumption | with_reducible refine Ge.drew ?_ | with_reducible refine Ge.drewN ?_ _ | with_reducible refine Ge.alloc ?_ _ | (with_reducible refine Ge.setCell ?_ (by first | (simp; done) | omega | (simp; omega)) _) | with_reducible refine Ge.trans ?_ (by assumption))))) (I1.out.ge (by (repeat (first | with_reducible exact Ge.refl _ | assumption | with_reducible refine Ge.drew ?_ | with_reducible refine Ge.drewN ?_ _ | with_reducible refine Ge.alloc ?_ _ | (with_reducible refine Ge.setCell ?_ (by first | (simp; done) | omega | (simp; omega)) _) | with_reducible refine Ge.trans ?_ (by assumption))))) (by have := HM.out; omega)).mono ?_); rintro e w3 ⟨rfl, g3⟩)); have B0 := Ge.keep g3 (a := ⟨w2.heap.size, 0, none⟩) (v := .int .i64 n.nodes) (by simp); have B1 := Ge.keep g3 (a := ⟨w2.heap.size, 1, none⟩) (v := .int .i64 n.ends) (by simp); have B2 := Ge.keep g3 (a := ⟨w2.heap.size, 2, none⟩) (v := .int .i64 n.scale) (by simp); have B3 := Ge.keep g3 (a := ⟨w2.heap.size, 3, none⟩) (v := .slice p2 m c2) (by simp); have z3 : w2.heap.size < w3.heap.size := (by have := g3.size; simp at this; omega); have G3 : Ge w2 w3 := (Ge.trans (by (repeat (first | with_reducible exact Ge.refl _ | assumption | with_reducible refine Ge.drew ?_ | with_reducible refine Ge.drewN ?_ _ | with_reducible refine Ge.alloc ?_ _ | (with_reducible refine Ge.setCell ?_ (by first | (simp; done) | omega | (simp; omega)) _) | with_reducible refine Ge.trans ?_ (by assumption)))) g3); have A0 := Ge.keep G3 A0; have A1 := Ge.keep G3 A1; have A2 := Ge.keep G3 A2; have A3 := Ge.keep G3 A3)
  have b2 : w1.heap.size + 1 ≤ w2.heap.size := z2
  have r2 := G3.owns q2
  have r1 := G3.owns ((Ge.trans (by (repeat (first | with_reducible exact Ge.refl _ | assumption | with_reducible refine Ge.drew ?_ | with_reducible refine Ge.drewN ?_ _ | with_reducible refine Ge.alloc ?_ _ | (with_reducible refine Ge.setCell ?_ (by first | (simp; done) | omega | (simp; omega)) _) | with_reducible refine Ge.trans ?_ (by assumption)))) g2 : Ge w1 w2).owns q1)
  have hA := before_row q2 (b := w1.heap.size) (by simp)
  have hB := behind_row q2 (b := w2.heap.size) (Nat.le_refl _)
  have HA := Lib.hid hA
  have HB := Lib.hid hB
  clear hA hB
  go_wp2_with ((go_at_call 25; ((with_reducible refine (lMarkNet _ _ _ _ _ m _ 1 _ r2 (by omega) (by omega)).mono ?_); rintro e w4 ⟨rfl, m4, t2⟩)); have A0 := mine_cell m4 A0 HA.out; have A1 := mine_cell m4 A1 HA.out; have A2 := mine_cell m4 A2 HA.out; have A3 := mine_cell m4 A3 HA.out; have B0 := mine_cell m4 B0 HB.out; have B1 := mine_cell m4 B1 HB.out; have B2 := mine_cell m4 B2 HB.out; have B3 := mine_cell m4 B3 HB.out; have z4 : w3.heap.size ≤ w4.heap.size := World.grownBy.size m4)
  have t1 := owns_apart q1 r1 r2 (by simp) m4
  go_wp2_with ((go_at_call 26; ((with_reducible refine (lHeldNet _ _ _ _ m 1 _ (Sl.of_owns t2) (by omega) (by omega)).mono ?_); rintro e w5 ⟨rfl, g5⟩)); have A0 := Ge.keep g5 A0; have A1 := Ge.keep g5 A1; have A2 := Ge.keep g5 A2; have A3 := Ge.keep g5 A3; have B0 := Ge.keep g5 B0; have B1 := Ge.keep g5 B1; have B2 := Ge.keep g5 B2; have B3 := Ge.keep g5 B3; have z5 := g5.size)
  have t1 := g5.owns t1
  have t2 := g5.owns t2
  go_wp2_with ((go_at_call 24; ((with_reducible refine (HI.out _).mono ?_); rintro e w6 ⟨s6, rfl, q6, g6⟩)); rw [HM.out] at q6; obtain ⟨p6, c6, rfl⟩ := owns_form q6; have A0 := Ge.keep g6 A0; have A1 := Ge.keep g6 A1; have A2 := Ge.keep g6 A2; have A3 := Ge.keep g6 A3; have B0 := Ge.keep g6 B0; have B1 := Ge.keep g6 B1; have B2 := Ge.keep g6 B2; have B3 := Ge.keep g6 B3; have z6 := g6.size; have y1 : w1.heap.size < w6.heap.size := (by omega); have y2 : w2.heap.size < w6.heap.size := (by omega))
  have t1 := g6.owns t1
  have t2 := g6.owns t2
  have j1 : IsNet w6 (.agg #[.int .i64 n.nodes, .int .i64 n.ends, .int .i64 n.scale, .slice p1 m c1]) n := ⟨_, rfl, by rw [HM.out]; exact SlF.of_owns t1⟩
  have j6 : IsNet w6 (.agg #[.int .i64 n.nodes, .int .i64 n.ends, .int .i64 n.scale, .slice p6 m c6]) n := ⟨_, rfl, by rw [HM.out]; exact SlF.of_owns q6⟩
  have J1 := Lib.hid j1
  have J6 := Lib.hid j6
  clear j1 j6
  go_wp2_with ((go_at_call 19; ((with_reducible refine (lEqNet _ _ n n _ (J6.out.ge (by (repeat (first | with_reducible exact Ge.refl _ | assumption | with_reducible refine Ge.drew ?_ | with_reducible refine Ge.drewN ?_ _ | with_reducible refine Ge.alloc ?_ _ | (with_reducible refine Ge.setCell ?_ (by first | (simp; done) | omega | (simp; omega)) _) | with_reducible refine Ge.trans ?_ (by assumption))))) (J1.out.ge (by (repeat (first | with_reducible exact Ge.refl _ | assumption | with_reducible refine Ge.drew ?_ | with_reducible refine Ge.drewN ?_ _ | with_reducible refine Ge.alloc ?_ _ | (with_reducible refine Ge.setCell ?_ (by first | (simp; done) | omega | (simp; omega)) _) | with_reducible refine Ge.trans ?_ (by assumption))))) (by have := HM.out; omega)).mono ?_); rintro e w7 ⟨rfl, g7⟩)); have G7 : Ge w6 w7 := (Ge.trans (by (repeat (first | with_reducible exact Ge.refl _ | assumption | with_reducible refine Ge.drew ?_ | with_reducible refine Ge.drewN ?_ _ | with_reducible refine Ge.alloc ?_ _ | (with_reducible refine Ge.setCell ?_ (by first | (simp; done) | omega | (simp; omega)) _) | with_reducible refine Ge.trans ?_ (by assumption)))) g7); have A0 := Ge.keep G7 A0; have A1 := Ge.keep G7 A1; have A2 := Ge.keep G7 A2; have A3 := Ge.keep G7 A3; have B0 := Ge.keep G7 B0; have B1 := Ge.keep G7 B1; have B2 := Ge.keep G7 B2; have B3 := Ge.keep G7 B3)
  have t2 := G7.owns t2
  go_wp2_with ((go_at_call 26; ((with_reducible refine (lHeldNet _ _ _ _ m 1 _ (Sl.of_owns t2) (by omega) (by omega)).mono ?_); rintro e w8 ⟨rfl, g8⟩)))
  go_ret
  have F3 : Ge w w3 := (g1.trans (by (repeat (first | with_reducible exact Ge.refl _ | assumption | with_reducible refine Ge.drew ?_ | with_reducible refine Ge.drewN ?_ _ | with_reducible refine Ge.alloc ?_ _ | (with_reducible refine Ge.setCell ?_ (by first | (simp; done) | omega | (simp; omega)) _) | with_reducible refine Ge.trans ?_ (by assumption))) : Ge w1 (w1.alloc _))).trans (g2.trans G3)
  exact ⟨rfl, ((((F3.mine r2 (by have := g1.size; simp; omega) m4).trans g5).trans g6).trans G7).trans g8⟩
end Go.Proofs.Ytppabikbepdobaa
