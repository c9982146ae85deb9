/- The law of UnitValues, walked. No condition. -/
import Derived.Test.YtmcnfhpjjmbdmaaWValS
import Derived.Test.YtmcnfhpjjmbdmaaWRatioArg
import Derived.Test.YtmcnfhpjjmbdmaaWMarkRatio
namespace Go.Proofs.Ytmcnfhpjjmbdmaa
set_option maxRecDepth 100000
open Go.ChangeShapes Go.WideShapes Go.ChangeAt Go.RowKit Go.Joins

theorem unitL_le (m : Int) : (unitL m).length ≤ 53 := by
  by_cases h : 1 ≤ m ∧ m ≤ 6
  · obtain ⟨k, rfl⟩ := Int.eq_ofNat_of_zero_le (show 0 ≤ m by omega)
    rw [unitL_t (by omega)]
    exact val_le k
  · rw [unitL_f h]; decide
set_option maxHeartbeats 1600000 in
theorem lFnExactUnitValues (m : Int) (w : World) : Calls Try.prog 3 #[.int .i64 m] w fun e w' => e = .returned (.bool true) ∧ Ge w w' := by
  have HI := Lib.hid (fun w => iUnitValues m w)
  have HSp := Lib.hid (fun w => sUnitValues m w)
  have hlen := unitL_le m
  unfold OwR at HI HSp
  obtain ⟨n, hn⟩ : ∃ n, (unitL m).length = n := ⟨_, rfl⟩
  rw [hn] at HI HSp hlen
  clear hn
  generalize fl (unitL m) = l at *
  have HE : Hid (n ≤ 4611686018427387904) := by show _ ≤ _; omega
  go_enter Try.func3, Try.ntmps3
  go_wp2_with (go_at_call 6; ((with_reducible refine (HSp.out _).mono ?_); rintro e w1 ⟨v1, rfl, o1, g1⟩))
  go_wp2_with (go_at_call 7; ((with_reducible refine (HI.out _).mono ?_); rintro e w2 ⟨v2, rfl, o2, g2⟩))
  have o1' := g2.owns o1
  go_wp2_with (go_at_call 8; ((with_reducible refine (lEqRatioS v2 v1 n l _ (SlF.of_owns o2) (SlF.of_owns o1') HE.out).mono ?_); rintro e w3 ⟨rfl, g3⟩))
  have p2 := g3.owns o2
  have p1 := g3.owns o1'
  go_wp2_with (go_at_call 9; ((with_reducible refine (lMarkRatioS _ _ v2 n l 1 _ p2 (by omega) (by omega)).mono ?_); rintro e w4 ⟨rfl, m4, q2⟩))
  have q1 := owns_apart o1 p1 p2 (Nat.le_refl _) m4
  go_wp2_with (go_at_call 10; ((with_reducible refine (lHeldRatioS v2 n 1 _ (Sl.of_owns q2) (by omega) (by omega)).mono ?_); rintro e w5 ⟨rfl, rfl⟩))
  go_wp2_with (go_at_call 7; ((with_reducible refine (HI.out _).mono ?_); rintro e w6 ⟨v6, rfl, o6, g6⟩))
  have r1 := g6.owns q1
  have r2 := g6.owns q2
  go_wp2_with (go_at_call 8; ((with_reducible refine (lEqRatioS v6 v1 n l _ (SlF.of_owns o6) (SlF.of_owns r1) HE.out).mono ?_); rintro e w7 ⟨rfl, g7⟩))
  have s2 := g7.owns r2
  go_wp2_with (go_at_call 10; ((with_reducible refine (lHeldRatioS v2 n 1 _ (Sl.of_owns s2) (by omega) (by omega)).mono ?_); rintro e w8 ⟨rfl, rfl⟩))
  go_ret
  exact ⟨rfl, ((((g1.trans g2).trans g3).mine p2 g1.size m4).trans g6).trans g7⟩
end Go.Proofs.Ytmcnfhpjjmbdmaa
