/- The law of ParseRow, walked. No condition. -/
import Derived.Test.YtndbdbcbnipmaaaWParseRow
namespace Go.Proofs.Ytndbdbcbnipmaaa
set_option maxRecDepth 100000
open Go.ChangeShapes Go.WideShapes Go.ChangeAt Go.RowKit Go.Joins

set_option maxHeartbeats 1600000 in
theorem lFnExactParseRow (s0 : ByteArray) (w : World) (hs0 : s0.size ≤ 9223372036854775807) : Calls Try.prog 3 #[.string s0] w fun e w' => e = .returned (.bool true) ∧ Ge w w' := by
  obtain ⟨s, hs⟩ : ∃ s : List UInt8, bstr s = s0 := ⟨s0.data.toList, bstr_toList s0⟩
  subst hs
  have hsz := bstr_size s
  rw [hsz] at hs0
  by_cases hbig : 1048576 < s.length
  · go_enter Try.func3, Try.ntmps3
    go_wp2_with fail
    go_ret
    exact ⟨rfl, Ge.refl _⟩
  have HI := Lib.hid (fun w => iParseRow s w (by omega))
  have HSp := Lib.hid (fun w => sParseRow s w (by omega))
  have hlen : rowC s ≤ 1048577 := by have := rowC_le s; omega
  unfold GivesR at HI HSp
  generalize rowC s = n at *
  generalize rowX s = l at *
  generalize rowB s = B at *
  have tB : (B != B) = false := by simp
  have HE : Hid (n ≤ 4611686018427387904) := by show _ ≤ _; omega
  go_enter Try.func3, Try.ntmps3
  go_wp2_with (go_at_call 15; ((with_reducible refine (HSp.out _).mono ?_); rintro e w1 ⟨v1, rfl, o1, g1⟩))
  go_wp2_with (go_at_call 16; ((with_reducible refine (HI.out _).mono ?_); rintro e w2 ⟨v2, rfl, o2, g2⟩))
  have o1' := g2.owns o1
  go_wp2_with (go_at_call 17; ((with_reducible refine (lEqRatioS v2 v1 n l _ (SlF.of_owns o2) (SlF.of_owns o1') HE.out).mono ?_); rintro e w3 ⟨rfl, g3⟩))
  have p2 := g3.owns o2
  have p1 := g3.owns o1'
  go_wp2_with (go_at_call 18; ((with_reducible refine (lMarkRatioS _ _ v2 n l 1 _ p2 (by omega) (by omega)).mono ?_); rintro e w4 ⟨rfl, m4, q2⟩))
  have q1 := owns_apart o1 p1 p2 (Nat.le_refl _) m4
  go_wp2_with (go_at_call 19; ((with_reducible refine (lHeldRatioS v2 n 1 _ (Sl.of_owns q2) (by omega) (by omega)).mono ?_); rintro e w5 ⟨rfl, rfl⟩))
  go_wp2_with (go_at_call 16; ((with_reducible refine (HI.out _).mono ?_); rintro e w6 ⟨v6, rfl, o6, g6⟩))
  have r1 := g6.owns q1
  have r2 := g6.owns q2
  go_wp2_with (go_at_call 17; ((with_reducible refine (lEqRatioS v6 v1 n l _ (SlF.of_owns o6) (SlF.of_owns r1) HE.out).mono ?_); rintro e w7 ⟨rfl, g7⟩))
  have s2 := g7.owns r2
  go_wp2_with (go_at_call 19; ((with_reducible refine (lHeldRatioS v2 n 1 _ (Sl.of_owns s2) (by omega) (by omega)).mono ?_); rintro e w8 ⟨rfl, rfl⟩))
  go_ret
  exact ⟨rfl, ((((g1.trans g2).trans g3).mine p2 g1.size m4).trans g6).trans g7⟩
end Go.Proofs.Ytndbdbcbnipmaaa
