/- The law of CutTiling, walked. No condition. -/
import Derived.Test.YtjogeicoofdlgaaWCutS
import Derived.Test.YtjogeicoofdlgaaWSqMark
namespace Go.Proofs.Ytjogeicoofdlgaa
set_option maxRecDepth 100000
open Go.ChangeShapes Go.WideShapes Go.ChangeAt Go.RowKit Go.Joins

theorem GivesC.row {w w' : World} {o : Option Nat} {a b : Int} {e : Ending} (h : GivesC w o a b e w' ∧ Ge w w') : ∃ v, e = .returned (.tuple #[v, .bool o.isSome]) ∧ w'.ownsRow w.heap.size 52 3 v (o.getD 0) (icells (cutX a.toNat b.toNat (o.getD 0))) ∧ Ge w w' := by
  obtain ⟨h, hg⟩ := h
  cases o with
  | none =>
    have h1 : e = .returned (.tuple #[.slice none 0 0, .bool false]) := h
    exact ⟨_, h1, World.ownsRow_nil _ _ _ _, hg⟩
  | some k =>
    obtain ⟨v, h1, h2⟩ := h
    exact ⟨v, h1, h2, hg⟩
theorem cutO_le (a b : Int) : (cutO a b).getD 0 ≤ 12 := by
  unfold cutO
  split
  · unfold cutR
    cases h : (List.range 13).find? (fun k => decide (stopC a.toNat b.toNat k)) with
    | none => simp
    | some k =>
      have := List.mem_of_find?_eq_some h
      simp at this
      simp; omega
  · simp
set_option maxHeartbeats 1600000 in
theorem lFnExactCutTiling (a b : Int) (w : World) : Calls Try.prog 3 #[.int .i64 a, .int .i64 b] w fun e w' => e = .returned (.bool true) ∧ Ge w w' := by
  have HI := Lib.hid (fun w => (iCut a b w).mono (fun e w' h => GivesC.row h))
  have HSp := Lib.hid (fun w => (sCut a b w).mono (fun e w' h => GivesC.row h))
  have hlen := cutO_le a b
  generalize hn : (cutO a b).getD 0 = n at *
  generalize cutX a.toNat b.toNat n = l at *
  generalize (cutO a b).isSome = B at *
  clear hn
  have tB : (B != B) = false := by simp
  have HE : Hid (n ≤ 4611686018427387904) := by show _ ≤ _; omega
  go_enter Try.func3, Try.ntmps3
  go_wp2_with (go_at_call 7; ((with_reducible refine (HSp.out _).mono ?_); rintro e w1 ⟨v1, rfl, o1, g1⟩))
  go_wp2_with (go_at_call 8; ((with_reducible refine (HI.out _).mono ?_); rintro e w2 ⟨v2, rfl, o2, g2⟩))
  have o1' := g2.owns o1
  go_wp2_with (go_at_call 9; ((with_reducible refine (lEqSquareS v2 v1 n l _ (SlF.of_owns o2) (SlF.of_owns o1') HE.out).mono ?_); rintro e w3 ⟨rfl, g3⟩))
  have p2 := g3.owns o2
  have p1 := g3.owns o1'
  go_wp2_with (go_at_call 10; ((with_reducible refine (lMarkSquareS _ _ v2 n l 1 _ p2 (by omega) (by omega)).mono ?_); rintro e w4 ⟨rfl, m4, q2⟩))
  have q1 := owns_apart o1 p1 p2 (Nat.le_refl _) m4
  go_wp2_with (go_at_call 11; ((with_reducible refine (lHeldSquareS v2 n 1 _ (Sl.of_owns q2) (by omega) (by omega)).mono ?_); rintro e w5 ⟨rfl, rfl⟩))
  go_wp2_with (go_at_call 8; ((with_reducible refine (HI.out _).mono ?_); rintro e w6 ⟨v6, rfl, o6, g6⟩))
  have r1 := g6.owns q1
  have r2 := g6.owns q2
  go_wp2_with (go_at_call 9; ((with_reducible refine (lEqSquareS v6 v1 n l _ (SlF.of_owns o6) (SlF.of_owns r1) HE.out).mono ?_); rintro e w7 ⟨rfl, g7⟩))
  have s2 := g7.owns r2
  go_wp2_with (go_at_call 11; ((with_reducible refine (lHeldSquareS v2 n 1 _ (Sl.of_owns s2) (by omega) (by omega)).mono ?_); rintro e w8 ⟨rfl, rfl⟩))
  go_ret
  exact ⟨rfl, ((((g1.trans g2).trans g3).mine p2 g1.size m4).trans g6).trans g7⟩
end Go.Proofs.Ytjogeicoofdlgaa
