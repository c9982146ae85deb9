/- FnExactNetOfTiling, walked. No condition. What all rows of this seat share: a law that returns true and leaves old memory alone meets its row's post. A slice of structs of three integers as a law's argument. The law FnExactNetOfTiling returns true for all arguments. No condition. -/
import Derived.Test.YtenfkpdbfmeebaaJAh
import Derived.Test.YtenfkpdbfmeebaaWLaw
import Derived.Test.YtenfkpdbfmeebaaWBase
import Derived.Test.YtenfkpdbfmeebaaWFlat
import Derived.ProofKit
import Derived.Lib.SmallJoins
import Derived.Deep.Slices
namespace Go.Proofs.Ytenfkpdbfmeebaa
set_option maxRecDepth 100000
open Go.ChangeShapes Go.WideShapes Go.ChangeAt Go.RowKit Go.Joins

/-- A network of its own memory, and whether there is one. -/
def GivesNet (w : World) (n : Nt) (B : Bool) (e : Ending) (w' : World) : Prop :=
  ∃ s, e = .returned (.tuple #[.agg #[.int .i64 n.nodes, .int .i64 n.ends, .int .i64 n.scale, s], .bool B]) ∧ w'.ownsRow w.heap.size 71 3 s n.wires.length (icells (flatW n.wires)) ∧ Ge w w'
/-- The network, or none. -/
def oNet (b : Bool) (N E S : Int) (L : List Wr) : Nt := if b = true then ⟨N, E, S, L⟩ else ⟨0, 0, 0, []⟩
theorem GivesO.net {w w' : World} {b : Bool} {N E S : Int} {L : List Wr} {e : Ending} (h : GivesO w b N E S L e w') : GivesNet w (oNet b N E S L) b e w' := by
  obtain ⟨hg, h⟩ := h
  rcases h with ⟨rfl, u, rfl, ho⟩ | ⟨rfl, rfl⟩
  · exact ⟨u, rfl, ho, hg⟩
  · exact ⟨_, rfl, ⟨rfl, .inl ⟨rfl, rfl⟩⟩, hg⟩
noncomputable def notNet (n : Nat) (xs : List Int) : Nt := oNet (netB (notN n xs) 2 1 (notW n xs).length (flatW (notW n xs))) (notN n xs) 2 1 (notW n xs)
theorem notNet_len (n : Nat) (xs : List Int) : (notNet n xs).wires.length ≤ n := by
  unfold notNet oNet
  split
  · exact wirT_len _ _ _ _
  · exact Nat.zero_le _
theorem netEq_refl (n : Nt) : netEq n n = true := by simp [netEq]
theorem ty_wire_sq : 71 ≠ 45 := by decide

set_option maxHeartbeats 6400000 in
theorem lFnExactNetOfTiling (v : Value) (n : Nat) (l : List Int) (w : World) (hv : SlF w v n 3 l) (hm : n ≤ 9223372036854775807) (hb : ∀ j, -9223372036854775808 ≤ nth l j ∧ nth l j ≤ 9223372036854775807) :
    Calls Try.prog 4 #[v] w fun e w' => e = .returned (.bool true) ∧ Ge w w' := by
  obtain ⟨pv, cv', rfl, hc⟩ := hv.open
  by_cases hbig : 1048576 < n
  · clear hv hc hb
    have z1 : szI 1048576 n = -1 := by unfold szI; rw [if_pos (by omega)]
    go_enter Try.func4, Try.ntmps4
    go_wp2_with (go_at_call 5; ((with_reducible refine (lSzSquareS _ n _ _ _ hm (by decide) (by decide)).mono ?_); rintro e w' ⟨rfl, rfl⟩))
    go_ret
    exact ⟨rfl, Ge.refl _⟩
  have hle : n ≤ 1048576 := by omega
  have HV := Lib.hid hv
  have HLe := Lib.hid hle
  have HB := Lib.hid hb
  have hsm : n ≤ 9223372036854775807 := hm
  have z1 : szI 1048576 n = 1048576 - n := by unfold szI; rw [if_neg (by omega)]
  have z2 : ¬ (1048576 - (n : Int) < 0) := by omega
  have hsm2 : n ≤ 4611686018427387904 := by omega
  have HSm := Lib.hid hsm2
  have HI := Lib.hid (fun v w hv hc => (iNetOfTiling v n l w hv hsm HB.out hc).mono (fun _ _ h => h.net))
  have HSp := Lib.hid (fun v w hv hc => (sNetOfTiling v n l w hv hsm HB.out hc).mono (fun _ _ h => h.net))
  have hlen := notNet_len n l
  change Hid (∀ v w, _ → _ → Calls _ _ _ _ (fun e w' => GivesNet w (notNet n l) _ e w')) at HI
  change Hid (∀ v w, _ → _ → Calls _ _ _ _ (fun e w' => GivesNet w (notNet n l) _ e w')) at HSp
  generalize notNet n l = r at *
  generalize netB (notN n l) 2 1 (notW n l).length (flatW (notW n l)) = B at *
  have tB : (B != B) = false := by simp
  have t := netEq_refl r
  have tl : decide (l = l) = true := by simp
  obtain ⟨m, hm'⟩ : ∃ m, r.wires.length = m := ⟨_, rfl⟩
  have hm1 : m ≤ 1048576 := by omega
  have HM := Lib.hid hm'
  have HEq := Lib.hid (fun va vb w (ha : IsNet w va r) (hb : IsNet w vb r) => lEqNet va vb r r w ha hb (by have := HM.out; omega))
  have k1 : (1 : Int) + n * 3 ≤ 4611686018427387904 := by omega
  clear hv hc hb hm hlen hm' hsm2
  go_enter Try.func4, Try.ntmps4
  go_wp2_with (first | (go_at_call 5; ((with_reducible refine (lSzSquareS _ n _ _ _ hsm (by decide) (by decide)).mono ?_); rintro e w' ⟨rfl, rfl⟩)) | (go_at_call 7; ((with_reducible refine (lToSquareS _ n l _ HV.out HLe.out).mono ?_); rintro e w1 ⟨v1, rfl, o1, g1⟩)))
  go_wp2_with ((go_at_call 14; ((with_reducible refine (HSp.out v1 _ (SlF.of_owns o1) (owns_capT o1)).mono ?_); rintro e w2 ⟨s2, rfl, q2, g2⟩)); rw [HM.out] at q2; obtain ⟨p2, c2, rfl⟩ := owns_form q2)
  have G2 : Ge w w2 := g1.trans g2
  go_wp2_with ((go_at_call 7; ((with_reducible refine (lToSquareS _ n l _ (SlF.ge HV.out (by (repeat (first | with_reducible exact Ge.refl _ | assumption | with_reducible refine Ge.drew ?_ | with_reducible refine Ge.drewN ?_ _ | with_reducible refine Ge.alloc ?_ _ | (with_reducible refine Ge.setCell ?_ (by first | (simp; done) | omega | (simp; omega)) _) | with_reducible refine Ge.trans ?_ (by assumption))))) HLe.out).mono ?_); rintro e w3 ⟨v3, rfl, o3, g3⟩)); have A0 := Ge.keep g3 (a := ⟨w2.heap.size, 0, none⟩) (v := .int .i64 r.nodes) (by simp); have A1 := Ge.keep g3 (a := ⟨w2.heap.size, 1, none⟩) (v := .int .i64 r.ends) (by simp); have A2 := Ge.keep g3 (a := ⟨w2.heap.size, 2, none⟩) (v := .int .i64 r.scale) (by simp); have A3 := Ge.keep g3 (a := ⟨w2.heap.size, 3, none⟩) (v := .slice p2 m c2) (by simp); have z3 : w2.heap.size < w3.heap.size := (by have := g3.size; simp at this; omega); have G3 : Ge w2 w3 := (Ge.trans (by (repeat (first | with_reducible exact Ge.refl _ | assumption | with_reducible refine Ge.drew ?_ | with_reducible refine Ge.drewN ?_ _ | with_reducible refine Ge.alloc ?_ _ | (with_reducible refine Ge.setCell ?_ (by first | (simp; done) | omega | (simp; omega)) _) | with_reducible refine Ge.trans ?_ (by assumption)))) g3))
  go_wp2_with ((go_at_call 15; ((with_reducible refine (HI.out v3 _ (SlF.of_owns o3) (owns_capT o3)).mono ?_); rintro e w4 ⟨s4, rfl, q4, g4⟩)); rw [HM.out] at q4; obtain ⟨p4, c4, rfl⟩ := owns_form q4; have A0 := Ge.keep g4 A0; have A1 := Ge.keep g4 A1; have A2 := Ge.keep g4 A2; have A3 := Ge.keep g4 A3; have z4 : w2.heap.size < w4.heap.size := (by have := g4.size; omega); have z34 : w3.heap.size ≤ w4.heap.size := g4.size)
  have i2 : IsNet w4 (.agg #[.int .i64 r.nodes, .int .i64 r.ends, .int .i64 r.scale, .slice p2 m c2]) r := ⟨_, rfl, by rw [HM.out]; exact SlF.of_owns (g4.owns (G3.owns q2))⟩
  have i4 : IsNet w4 (.agg #[.int .i64 r.nodes, .int .i64 r.ends, .int .i64 r.scale, .slice p4 m c4]) r := ⟨_, rfl, by rw [HM.out]; exact SlF.of_owns q4⟩
  have I2 := Lib.hid i2
  have I4 := Lib.hid i4
  clear i2 i4
  go_wp2_with ((go_at_call 16; ((with_reducible refine (HEq.out _ _ _ (I4.out.ge (by (repeat (first | with_reducible exact Ge.refl _ | assumption | with_reducible refine Ge.drew ?_ | with_reducible refine Ge.drewN ?_ _ | with_reducible refine Ge.alloc ?_ _ | (with_reducible refine Ge.setCell ?_ (by first | (simp; done) | omega | (simp; omega)) _) | with_reducible refine Ge.trans ?_ (by assumption))))) (I2.out.ge (by (repeat (first | with_reducible exact Ge.refl _ | assumption | with_reducible refine Ge.drew ?_ | with_reducible refine Ge.drewN ?_ _ | with_reducible refine Ge.alloc ?_ _ | (with_reducible refine Ge.setCell ?_ (by first | (simp; done) | omega | (simp; omega)) _) | with_reducible refine Ge.trans ?_ (by assumption)))))).mono ?_); rintro e w5 ⟨rfl, g5⟩)); have B0 := Ge.keep g5 (a := ⟨w4.heap.size, 0, none⟩) (v := .int .i64 r.nodes) (by simp); have B1 := Ge.keep g5 (a := ⟨w4.heap.size, 1, none⟩) (v := .int .i64 r.ends) (by simp); have B2 := Ge.keep g5 (a := ⟨w4.heap.size, 2, none⟩) (v := .int .i64 r.scale) (by simp); have B3 := Ge.keep g5 (a := ⟨w4.heap.size, 3, none⟩) (v := .slice p4 m c4) (by simp); have z5 : w4.heap.size < w5.heap.size := (by have := g5.size; simp at this; omega); have G5 : Ge w4 w5 := (Ge.trans (by (repeat (first | with_reducible exact Ge.refl _ | assumption | with_reducible refine Ge.drew ?_ | with_reducible refine Ge.drewN ?_ _ | with_reducible refine Ge.alloc ?_ _ | (with_reducible refine Ge.setCell ?_ (by first | (simp; done) | omega | (simp; omega)) _) | with_reducible refine Ge.trans ?_ (by assumption)))) g5); have A0 := Ge.keep G5 A0; have A1 := Ge.keep G5 A1; have A2 := Ge.keep G5 A2; have A3 := Ge.keep G5 A3)
  have G45 : Ge w w5 := ((G2.trans G3).trans g4).trans G5
  go_wp2_with ((go_at_call 7; ((with_reducible refine (lToSquareS _ n l _ (SlF.ge HV.out G45) HLe.out).mono ?_); rintro e w6 ⟨v6, rfl, o6, g6⟩)); have A0 := Ge.keep g6 A0; have A1 := Ge.keep g6 A1; have A2 := Ge.keep g6 A2; have A3 := Ge.keep g6 A3; have B0 := Ge.keep g6 B0; have B1 := Ge.keep g6 B1; have B2 := Ge.keep g6 B2; have B3 := Ge.keep g6 B3)
  have q3 := (g4.trans G5 |>.trans g6).owns o3
  go_wp2_with ((go_at_call 10; ((with_reducible refine (lEqSquareS v3 v6 n n l l _ (SlF.of_owns q3) (SlF.of_owns o6) HSm.out).mono ?_); rintro e w7 ⟨rfl, g7⟩)); have A0 := Ge.keep g7 A0; have A1 := Ge.keep g7 A1; have A2 := Ge.keep g7 A2; have A3 := Ge.keep g7 A3; have B0 := Ge.keep g7 B0; have B1 := Ge.keep g7 B1; have B2 := Ge.keep g7 B2; have B3 := Ge.keep g7 B3)
  have r3 := g7.owns q3
  have g47 := (G5.trans g6).trans g7
  have r4 := g47.owns q4
  have r2 := g47.owns (g4.owns (G3.owns q2))
  have G7 : Ge w w7 := (G45.trans g6).trans g7
  have HA := Lib.hid (before_row o3 (b := w2.heap.size) (by simp))
  have HB' := Lib.hid (behind_row o3 (b := w4.heap.size) z34)
  go_wp2_with ((go_at_call 11; ((with_reducible refine (lMarkSquareS _ _ v3 n l 1 _ r3 (by omega) k1).mono ?_); rintro e w8 ⟨rfl, m8, t3⟩)); have A0 := mine_cell m8 A0 HA.out; have A1 := mine_cell m8 A1 HA.out; have A2 := mine_cell m8 A2 HA.out; have A3 := mine_cell m8 A3 HA.out; have B0 := mine_cell m8 B0 HB'.out; have B1 := mine_cell m8 B1 HB'.out; have B2 := mine_cell m8 B2 HB'.out; have B3 := mine_cell m8 B3 HB'.out)
  have G8 : Ge w w8 := G7.mine r3 (by have := G2.size; simp; omega) m8
  have s4 := owns_typed r4 r3 ty_wire_sq m8
  have s2 := owns_typed r2 r3 ty_wire_sq m8
  have i2 : IsNet w8 (.agg #[.int .i64 r.nodes, .int .i64 r.ends, .int .i64 r.scale, .slice p2 m c2]) r := ⟨_, rfl, by rw [HM.out]; exact SlF.of_owns s2⟩
  have i4 : IsNet w8 (.agg #[.int .i64 r.nodes, .int .i64 r.ends, .int .i64 r.scale, .slice p4 m c4]) r := ⟨_, rfl, by rw [HM.out]; exact SlF.of_owns s4⟩
  have J2 := Lib.hid i2
  have J4 := Lib.hid i4
  clear i2 i4 I2 I4
  go_wp2_with ((go_at_call 16; ((with_reducible refine (HEq.out _ _ _ (J4.out.ge (by (repeat (first | with_reducible exact Ge.refl _ | assumption | with_reducible refine Ge.drew ?_ | with_reducible refine Ge.drewN ?_ _ | with_reducible refine Ge.alloc ?_ _ | (with_reducible refine Ge.setCell ?_ (by first | (simp; done) | omega | (simp; omega)) _) | with_reducible refine Ge.trans ?_ (by assumption))))) (J2.out.ge (by (repeat (first | with_reducible exact Ge.refl _ | assumption | with_reducible refine Ge.drew ?_ | with_reducible refine Ge.drewN ?_ _ | with_reducible refine Ge.alloc ?_ _ | (with_reducible refine Ge.setCell ?_ (by first | (simp; done) | omega | (simp; omega)) _) | with_reducible refine Ge.trans ?_ (by assumption)))))).mono ?_); rintro e w9 ⟨rfl, g9⟩)); have G9 : Ge w8 w9 := (Ge.trans (by (repeat (first | with_reducible exact Ge.refl _ | assumption | with_reducible refine Ge.drew ?_ | with_reducible refine Ge.drewN ?_ _ | with_reducible refine Ge.alloc ?_ _ | (with_reducible refine Ge.setCell ?_ (by first | (simp; done) | omega | (simp; omega)) _) | with_reducible refine Ge.trans ?_ (by assumption)))) g9); have A0 := Ge.keep G9 A0; have A1 := Ge.keep G9 A1; have A2 := Ge.keep G9 A2; have A3 := Ge.keep G9 A3; have B0 := Ge.keep G9 B0; have B1 := Ge.keep G9 B1; have B2 := Ge.keep G9 B2; have B3 := Ge.keep G9 B3)
  have u4 := G9.owns s4
  have u2 := G9.owns s2
  have KA := Lib.hid (before_row q4 (b := w2.heap.size) z3)
  have KB := Lib.hid (behind_row q4 (b := w4.heap.size) (Nat.le_refl _))
  go_wp2_with ((go_at_call 17; ((with_reducible refine (lMarkNet _ _ _ _ _ m _ 1 _ u4 (by omega) (by omega)).mono ?_); rintro e w10 ⟨rfl, m10, t4⟩)); have A0 := mine_cell m10 A0 KA.out; have A1 := mine_cell m10 A1 KA.out; have A2 := mine_cell m10 A2 KA.out; have A3 := mine_cell m10 A3 KA.out; have B0 := mine_cell m10 B0 KB.out; have B1 := mine_cell m10 B1 KB.out; have B2 := mine_cell m10 B2 KB.out; have B3 := mine_cell m10 B3 KB.out)
  have G10 : Ge w w10 := (G8.trans G9).mine u4 (by have := G2.size; omega) m10
  have t2 := owns_apart q2 u2 u4 (Nat.le_of_lt z3) m10
  go_wp2_with ((go_at_call 18; ((with_reducible refine (lHeldNet _ _ _ _ m 1 _ (Sl.of_owns t4) (by omega) (by omega)).mono ?_); rintro e w11 ⟨rfl, g11⟩)); have A0 := Ge.keep g11 A0; have A1 := Ge.keep g11 A1; have A2 := Ge.keep g11 A2; have A3 := Ge.keep g11 A3; have B0 := Ge.keep g11 B0; have B1 := Ge.keep g11 B1; have B2 := Ge.keep g11 B2; have B3 := Ge.keep g11 B3)
  have G11 := G10.trans g11
  go_wp2_with ((go_at_call 7; ((with_reducible refine (lToSquareS _ n l _ (SlF.ge HV.out G11) HLe.out).mono ?_); rintro e w12 ⟨v12, rfl, o12, g12⟩)); have A0 := Ge.keep g12 A0; have A1 := Ge.keep g12 A1; have A2 := Ge.keep g12 A2; have A3 := Ge.keep g12 A3; have B0 := Ge.keep g12 B0; have B1 := Ge.keep g12 B1; have B2 := Ge.keep g12 B2; have B3 := Ge.keep g12 B3)
  go_wp2_with ((go_at_call 15; ((with_reducible refine (HI.out v12 _ (SlF.of_owns o12) (owns_capT o12)).mono ?_); rintro e w13 ⟨s13, rfl, q13, g13⟩)); rw [HM.out] at q13; obtain ⟨p13, c13, rfl⟩ := owns_form q13; have A0 := Ge.keep g13 A0; have A1 := Ge.keep g13 A1; have A2 := Ge.keep g13 A2; have A3 := Ge.keep g13 A3; have B0 := Ge.keep g13 B0; have B1 := Ge.keep g13 B1; have B2 := Ge.keep g13 B2; have B3 := Ge.keep g13 B3; have z13 : w2.heap.size < w13.heap.size := (World.block_lt_of_cell? _ _ A0); have z14 : w4.heap.size < w13.heap.size := (World.block_lt_of_cell? _ _ B0))
  have g113 := (g11.trans g12).trans g13
  have x2 := g113.owns t2
  have x4 := g113.owns t4
  have i2 : IsNet w13 (.agg #[.int .i64 r.nodes, .int .i64 r.ends, .int .i64 r.scale, .slice p2 m c2]) r := ⟨_, rfl, by rw [HM.out]; exact SlF.of_owns x2⟩
  have i13 : IsNet w13 (.agg #[.int .i64 r.nodes, .int .i64 r.ends, .int .i64 r.scale, .slice p13 m c13]) r := ⟨_, rfl, by rw [HM.out]; exact SlF.of_owns q13⟩
  have L2 := Lib.hid i2
  have L13 := Lib.hid i13
  clear i2 i13
  go_wp2_with ((go_at_call 16; ((with_reducible refine (HEq.out _ _ _ (L13.out.ge (by (repeat (first | with_reducible exact Ge.refl _ | assumption | with_reducible refine Ge.drew ?_ | with_reducible refine Ge.drewN ?_ _ | with_reducible refine Ge.alloc ?_ _ | (with_reducible refine Ge.setCell ?_ (by first | (simp; done) | omega | (simp; omega)) _) | with_reducible refine Ge.trans ?_ (by assumption))))) (L2.out.ge (by (repeat (first | with_reducible exact Ge.refl _ | assumption | with_reducible refine Ge.drew ?_ | with_reducible refine Ge.drewN ?_ _ | with_reducible refine Ge.alloc ?_ _ | (with_reducible refine Ge.setCell ?_ (by first | (simp; done) | omega | (simp; omega)) _) | with_reducible refine Ge.trans ?_ (by assumption)))))).mono ?_); rintro e w14 ⟨rfl, g14⟩)); have G14 : Ge w13 w14 := (Ge.trans (by (repeat (first | with_reducible exact Ge.refl _ | assumption | with_reducible refine Ge.drew ?_ | with_reducible refine Ge.drewN ?_ _ | with_reducible refine Ge.alloc ?_ _ | (with_reducible refine Ge.setCell ?_ (by first | (simp; done) | omega | (simp; omega)) _) | with_reducible refine Ge.trans ?_ (by assumption)))) g14); have A0 := Ge.keep G14 A0; have A1 := Ge.keep G14 A1; have A2 := Ge.keep G14 A2; have A3 := Ge.keep G14 A3; have B0 := Ge.keep G14 B0; have B1 := Ge.keep G14 B1; have B2 := Ge.keep G14 B2; have B3 := Ge.keep G14 B3)
  have y4 := G14.owns x4
  go_wp2_with ((go_at_call 18; ((with_reducible refine (lHeldNet _ _ _ _ m 1 _ (Sl.of_owns y4) (by omega) (by omega)).mono ?_); rintro e w15 ⟨rfl, g15⟩)))
  go_ret
  exact ⟨rfl, (((G11.trans g12).trans g13).trans G14).trans g15⟩
end Go.Proofs.Ytenfkpdbfmeebaa

namespace Go.Proofs.Ytenfkpdbfmeebaa

open Go.ChangeShapes Go.WideShapes Go.ChangeAt Go.RowKit Go.Joins

theorem own_knob : ownKnob Try.prog.godebug = none := by kernel_rfl
theorem laid_out : laidOutB Try.prog = true := by kernel_rfl
def InInt (x : Int) : Prop := -9223372036854775808 ≤ x ∧ x ≤ 9223372036854775807
theorem i64_of_wf {x : Int} (h : (Lit.int .i64 x).wf = true) : InInt x := by
  simp [Lit.wf, IntKind.min, IntKind.max, IntKind.signed, IntKind.bits] at h
  unfold InInt
  omega

/-- Arguments read as they did. -/
theorem trodAll_stays {H : Type} {enc : TypeId × Value → H} {P : Program} (hl : laidOutB P = true) {W W' : World} (hg : Ge W W') :
    ∀ (ts : List TypeId) (vs : List Value) (ds : List (DataW H)) (p : List MemPlace), (∀ t ∈ ts, P.readableRec t = true ∧ t < P.types.size) →
      DataW.TrodAll enc P W 0 (fun _ => true) true ts vs ds p → (∀ x ∈ p, x.block < W.heap.size) →
      DataW.TrodAll enc P W' 0 (fun b => decide (b < W.heap.size)) true ts vs ds p := by
  intro ts
  induction ts with
  | nil =>
    intro vs ds p _ h _
    cases vs with
    | nil => cases ds with
      | nil => exact h
      | cons => exact h.elim
    | cons => exact h.elim
  | cons t ts ih =>
    intro vs ds p ht h hlt
    cases vs with
    | nil => exact h.elim
    | cons v vs => cases ds with
      | nil => exact h.elim
      | cons d ds =>
        obtain ⟨p1, p2, h1, h2, rfl⟩ := h
        obtain ⟨r1, r2⟩ := ht t (by simp)
        exact ⟨p1, p2, Below.trod hl r1 r2 h1 hg (fun x hx => hlt x (List.mem_append.2 (.inl hx))),
          ih vs ds p2 (fun t' h' => ht t' (List.mem_cons_of_mem _ h')) h2 (fun x hx => hlt x (List.mem_append.2 (.inr hx))), rfl⟩

/-- The end of a law: true came back, nothing that was there has turned. -/
theorem law_done {H : Type} {enc : TypeId × Value → H} {P : Program} {f : Func} {s : ChangeSpec} {W W' : World} {args : Array Value} {ds gs : List (DataW H)} {before : List MemPlace} {B : TypeId} {e : Ending}
    (he : e = .returned (.bool true)) (hl : laidOutB P = true) (hrt : f.resultTypes = #[B]) (hB : P.underlying B = some .bool)
    (hread : f.params.toList.all (fun t => P.readableRec t && decide (t < P.types.size)) = true)
    (hW : DataW.Whole enc P f.params.toList s.vars false W args.toList ds gs before) (hv : s.vars = [])
    (hfn : s.fn H (ds ++ gs) = { results := [.lit (.bool true)], args := ds }) (hg : Ge W W') :
    ∃ v, e = .returned v ∧ s.post enc P f false true false false W args v W' := by
  subst he
  refine ⟨.bool true, rfl, ?_⟩
  have hlt := fun x hx => hW.lt x hx
  have hW' := hW
  obtain ⟨p, q, hA, hV, rfl, hfz, hnd⟩ := hW'
  have hq : q = [] ∧ gs = [] := by
    rw [hv] at hV
    cases gs with
    | nil => exact ⟨hV, rfl⟩
    | cons => exact hV.elim
  obtain ⟨rfl, rfl⟩ := hq
  rw [List.all_eq_true] at hread
  have hread' : ∀ t ∈ f.params.toList, P.readableRec t = true ∧ t < P.types.size := by
    intro t ht
    have := hread t ht
    simp at this
    exact this
  refine ⟨ds, [], p ++ [], [], p, [], hW, ?_, ?_, ?_, Below.frame hg _, fun h => by cases h⟩
  · rw [hfn, hrt]
    exact trodAll_mk1 (shut_bool hB true)
  · rw [hfn]
    exact trodAll_stays hl hg _ _ _ _ hread' hA (fun x hx => hlt x (List.mem_append.2 (.inl hx)))
  · rw [hv, hfn]
    exact rfl
end Go.Proofs.Ytenfkpdbfmeebaa

namespace Go.Proofs.Ytenfkpdbfmeebaa

open Go.ChangeShapes Go.WideShapes Go.ChangeAt Go.RowKit Go.Joins Go.Deep

theorem arg_flat3 {H : Type} {enc : TypeId × Value → H} {P : Program} {W : World} {r : Reach} {b0 : Nat} {t e : TypeId} {f0 f1 f2 : Field} {v : Value} {d : DataW H} {ps : List MemPlace}
    (ht : P.underlying t = some (.slice e)) (he : P.underlying e = some (.struct #[f0, f1, f2])) (hone : oneCellFields P #[f0, f1, f2] = true) (hC : P.cellsOf e = 3)
    (hi0 : P.underlying f0.type = some (.int .i64)) (hi1 : P.underlying f1.type = some (.int .i64)) (hi2 : P.underlying f2.type = some (.int .i64)) (hval : Value.okWide P W r b0 t v)
    (h : DataW.Trod enc P W 0 (fun _ => true) true t v d ps) : ∃ n l, SlF W v n 3 l ∧ n ≤ 9223372036854775807 ∧ (∀ j, -9223372036854775808 ≤ nth l j ∧ nth l j ≤ 9223372036854775807) ∧ ∀ p c, v = .slice p n c → n ≤ c := by
  obtain ⟨a0, len, cap, rfl⟩ := okWide_slice ht hval
  obtain ⟨fuel, hf⟩ := h
  rcases Go.Deep.open_slice ht hf with ⟨hcs, hx⟩ | ⟨a, len', cap', m, n, D, Pl, hcs, hb, hl, hm, hmm, _, hx⟩
  · simp [Value.cells] at hcs
    obtain ⟨rfl, rfl, rfl⟩ := hcs
    exact ⟨0, [], ⟨rfl, none, 0, rfl, fun i u hu => by simp [icells] at hu⟩, by simp, by simp [nth], fun p c h => by omega⟩
  · simp [Value.cells] at hcs
    obtain ⟨rfl, rfl, rfl⟩ := hcs
    simp only [if_true] at hmm
    subst hmm
    unfold maxLen at hm
    have each : ∀ k, k < len * 3 → ∃ x : Int, W.cell? (a.add k) = some (.int .i64 x) ∧ InInt x := by
      intro k hk
      obtain ⟨cs', h1, h2⟩ := hx (k / 3) (by omega)
      rw [hC] at h1
      obtain ⟨_, hlen, hcell⟩ := World.cells?_some h1
      obtain ⟨y0, y1, y2, n', _, _, g0, g1, g2⟩ := trod_struct3 he h2
      obtain ⟨o0, k0⟩ := hone_of hone 0 f0 rfl
      obtain ⟨o1, k1⟩ := hone_of hone 1 f1 rfl
      obtain ⟨o2, k2⟩ := hone_of hone 2 f2 rfl
      match cs', hlen with
      | [v0, v1, v2], _ =>
        simp [o0, o1, o2, k0, k1, k2] at g0 g1 g2
        obtain ⟨x0, e0, _, w0⟩ := DataW.trod_int hi0 g0
        obtain ⟨x1, e1, _, w1⟩ := DataW.trod_int hi1 g1
        obtain ⟨x2, e2, _, w2⟩ := DataW.trod_int hi2 g2
        simp at e0 e1 e2
        subst e0 e1 e2
        have hadd : ∀ j, (a.add (k / 3 * 3)).add j = a.add (k / 3 * 3 + j) := fun j => Go.Deep.add_add _ _ _
        have c0 := hcell 0 (by omega)
        have c1 := hcell 1 (by omega)
        have c2 := hcell 2 (by omega)
        rw [hadd] at c0 c1 c2
        have h4 : k % 3 = 0 ∨ k % 3 = 1 ∨ k % 3 = 2 := by omega
        rcases h4 with h4 | h4 | h4
        · rw [show k / 3 * 3 + 0 = k by omega] at c0
          exact ⟨x0, by simpa using c0, i64_of_wf w0⟩
        · rw [show k / 3 * 3 + 1 = k by omega] at c1
          exact ⟨x1, by simpa using c1, i64_of_wf w1⟩
        · rw [show k / 3 * 3 + 2 = k by omega] at c2
          exact ⟨x2, by simpa using c2, i64_of_wf w2⟩
    obtain ⟨q, hq⟩ := Go.Deep.choose_lt each
    refine ⟨len, (List.range (len * 3)).map q, ⟨by simp [icells_length], some a, _, rfl, fun i u hu => ?_⟩, by omega, fun j => ?_, fun p c h => by simp at h; omega⟩
    · have hi : i < len * 3 := by
        have := (List.getElem?_eq_some_iff.1 hu).1
        simpa [icells_length] using this
      obtain ⟨hc', _⟩ := hq i hi
      obtain ⟨b, off, spot⟩ := a
      have hspot : spot = none := World.cell?_spot (by simpa [Addr.add] using (hq 0 (by omega)).1)
      subst hspot
      refine ⟨b, off, rfl, ?_⟩
      have hadd : (⟨b, off, none⟩ : Addr).add i = ⟨b, off + i, none⟩ := by unfold Addr.add; split <;> simp_all
      rw [hadd] at hc'
      rw [hc', ← hu]
      simp [icells, hi]
    · by_cases hj : j < len * 3
      · have := (hq j hj).2
        rw [nth_eq _ _ (by simpa using hj)]
        simpa [InInt] using this
      · simp [nth, hj]
theorem arg_flat2 {H : Type} {enc : TypeId × Value → H} {P : Program} {W : World} {r : Reach} {b0 : Nat} {t e : TypeId} {f0 f1 : Field} {v : Value} {d : DataW H} {ps : List MemPlace}
    (ht : P.underlying t = some (.slice e)) (he : P.underlying e = some (.struct #[f0, f1])) (hone : oneCellFields P #[f0, f1] = true) (hC : P.cellsOf e = 2)
    (hi0 : P.underlying f0.type = some (.int .i64)) (hi1 : P.underlying f1.type = some (.int .i64)) (hval : Value.okWide P W r b0 t v)
    (h : DataW.Trod enc P W 0 (fun _ => true) true t v d ps) : ∃ n l, SlF W v n 2 l ∧ n ≤ 9223372036854775807 ∧ (∀ j, -9223372036854775808 ≤ nth l j ∧ nth l j ≤ 9223372036854775807) ∧ ∀ p c, v = .slice p n c → n ≤ c := by
  obtain ⟨a0, len, cap, rfl⟩ := okWide_slice ht hval
  obtain ⟨fuel, hf⟩ := h
  rcases Go.Deep.open_slice ht hf with ⟨hcs, hx⟩ | ⟨a, len', cap', m, n, D, Pl, hcs, hb, hl, hm, hmm, _, hx⟩
  · simp [Value.cells] at hcs
    obtain ⟨rfl, rfl, rfl⟩ := hcs
    exact ⟨0, [], ⟨rfl, none, 0, rfl, fun i u hu => by simp [icells] at hu⟩, by simp, by simp [nth], fun p c h => by omega⟩
  · simp [Value.cells] at hcs
    obtain ⟨rfl, rfl, rfl⟩ := hcs
    simp only [if_true] at hmm
    subst hmm
    unfold maxLen at hm
    have each : ∀ k, k < len * 2 → ∃ x : Int, W.cell? (a.add k) = some (.int .i64 x) ∧ InInt x := by
      intro k hk
      obtain ⟨cs', h1, h2⟩ := hx (k / 2) (by omega)
      rw [hC] at h1
      obtain ⟨_, hlen, hcell⟩ := World.cells?_some h1
      obtain ⟨y0, y1, n', _, _, g0, g1⟩ := trod_struct2 he h2
      obtain ⟨o0, k0⟩ := hone_of hone 0 f0 rfl
      obtain ⟨o1, k1⟩ := hone_of hone 1 f1 rfl
      match cs', hlen with
      | [v0, v1], _ =>
        simp [o0, o1, k0, k1] at g0 g1
        obtain ⟨x0, e0, _, w0⟩ := DataW.trod_int hi0 g0
        obtain ⟨x1, e1, _, w1⟩ := DataW.trod_int hi1 g1
        simp at e0 e1
        subst e0 e1
        have hadd : ∀ j, (a.add (k / 2 * 2)).add j = a.add (k / 2 * 2 + j) := fun j => Go.Deep.add_add _ _ _
        have c0 := hcell 0 (by omega)
        have c1 := hcell 1 (by omega)
        rw [hadd] at c0 c1
        have h4 : k % 2 = 0 ∨ k % 2 = 1 := by omega
        rcases h4 with h4 | h4
        · rw [show k / 2 * 2 + 0 = k by omega] at c0
          exact ⟨x0, by simpa using c0, i64_of_wf w0⟩
        · rw [show k / 2 * 2 + 1 = k by omega] at c1
          exact ⟨x1, by simpa using c1, i64_of_wf w1⟩
    obtain ⟨q, hq⟩ := Go.Deep.choose_lt each
    refine ⟨len, (List.range (len * 2)).map q, ⟨by simp [icells_length], some a, _, rfl, fun i u hu => ?_⟩, by omega, fun j => ?_, fun p c h => by simp at h; omega⟩
    · have hi : i < len * 2 := by
        have := (List.getElem?_eq_some_iff.1 hu).1
        simpa [icells_length] using this
      obtain ⟨hc', _⟩ := hq i hi
      obtain ⟨b, off, spot⟩ := a
      have hspot : spot = none := World.cell?_spot (by simpa [Addr.add] using (hq 0 (by omega)).1)
      subst hspot
      refine ⟨b, off, rfl, ?_⟩
      have hadd : (⟨b, off, none⟩ : Addr).add i = ⟨b, off + i, none⟩ := by unfold Addr.add; split <;> simp_all
      rw [hadd] at hc'
      rw [hc', ← hu]
      simp [icells, hi]
    · by_cases hj : j < len * 2
      · have := (hq j hj).2
        rw [nth_eq _ _ (by simpa using hj)]
        simpa [InInt] using this
      · simp [nth, hj]
end Go.Proofs.Ytenfkpdbfmeebaa

namespace Go.Proofs.Ytenfkpdbfmeebaa

open Go.ChangeShapes Go.WideShapes Go.ChangeAt Go.RowKit Go.Joins

theorem fnExactNetOfTiling_cells_laws_Square : Try.prog.cellsOf 47 = 3 := by kernel_rfl

set_option maxRecDepth 100000 in
theorem fnExactNetOfTiling_lifted (os : Os) (started : os.Started) (H : Type) (enc : TypeId × Value → H) :
    ReturnsInHanded {} Try.checked os 4 .any (Rows.fnExactNetOfTilingSpec.pre6 enc Try.prog Try.f4 Rows.fnExactNetOfTilingRow.domain false) (Rows.fnExactNetOfTilingSpec.post enc Try.prog Try.f4 false true false false) := by
  refine returnsInHanded_of_change (C := Try.checked) own_knob started (by kernel_rfl) Try.func4
    (ChangeSpec.witness6 (enc := enc) (C := Try.checked) false ⟨#[], #[.slice none 0 0], []⟩ 8 (by kernel_rfl) (by kernel_rfl) (by kernel_rfl) (by kernel_rfl)) ?_
  intro W base args ds gs before hval0 hW hcnd _
  have hval : ∀ (j : Nat) t v, Try.f4.params[j]? = some t → args[j]? = some v → Value.okWide Try.prog W .any base t v := hval0
  have hW' := hW
  obtain ⟨p, q, hA0, hV, rfl, hfz, hnd⟩ := hW
  have hA : DataW.TrodAll enc Try.prog W 0 (fun _ => true) true Try.f4.params.toList args.toList ds p := hA0
  rw [Try.params4] at hA hval
  obtain ⟨v0, d0, rfl, rfl, h0⟩ := trodAll_one hA
  obtain ⟨rfl, rfl⟩ := trodVars_none hV
  obtain ⟨nl, ll, sl, ml, bl, _⟩ := arg_flat3 Try.underlying22 Try.underlying47 (by kernel_rfl) fnExactNetOfTiling_cells_laws_Square Try.underlying3 Try.underlying3 Try.underlying3 (hval 0 22 v0 rfl rfl) h0
  clear hA0 hval0
  exact (lFnExactNetOfTiling v0 nl ll W sl ml bl).mono fun e W' ⟨he, hg⟩ =>
    law_done (B := 4) he laid_out (by kernel_rfl) Try.underlying4 (by kernel_rfl) hW' rfl rfl hg

theorem fnExactNetOfTiling_holds : Rows.FnExactNetOfTilingSaid :=
  OpenClaim.holds_of_wide 4 Try.f4 rfl rfl rfl rfl rfl rfl rfl ⟨rfl, rfl, rfl, rfl, rfl⟩ rfl rfl rfl rfl rfl (by kernel_rfl) Try.func4 (by kernel_rfl)
    (of_decide_eq_true (by kernel_rfl)) (by unfold Func.isWrapper; first | (rw [if_pos (by decide +kernel)]; kernel_rfl) | (rw [if_neg (by decide +kernel)]; exact ⟨rfl, rfl⟩))
    (fun os started H enc _ => fnExactNetOfTiling_lifted os started H enc)
#print axioms fnExactNetOfTiling_holds

end Go.Proofs.Ytenfkpdbfmeebaa
