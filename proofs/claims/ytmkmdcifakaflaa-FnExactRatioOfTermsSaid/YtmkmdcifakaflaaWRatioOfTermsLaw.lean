/- The law of RatioOfTerms, walked. No condition. -/
import Derived.Test.YtmkmdcifakaflaaWLadder
import Derived.Test.YtmkmdcifakaflaaWToInt
namespace Go.Proofs.Ytmkmdcifakaflaa
set_option maxRecDepth 100000
open Go.ChangeShapes Go.WideShapes Go.ChangeAt Go.RowKit Go.Joins

set_option maxHeartbeats 800000 in
theorem lFnExactRatioOfTerms (v : Value) (l : List Int) (w : World) (hv : SlI w v l) (hm : l.length ≤ 9223372036854775807) : Calls Try.prog 9 #[v] w fun e w' => e = .returned (.bool true) ∧ Ge w w' := by
  obtain ⟨n, hn⟩ : ∃ n, l.length = n := ⟨_, rfl⟩
  by_cases hbig : 1048576 < n
  · obtain ⟨pv, cv', rfl, hc⟩ := hv.openN hn
    rw [hn] at hm
    clear hv hc
    go_enter Try.func9, Try.ntmps9
    go_wp2_with fail
    go_ret
    exact ⟨rfl, Ge.refl _⟩
  have hle : l.length ≤ 1048576 := by omega
  have HV := Lib.hid hv
  have HLe := Lib.hid hle
  have hsm : l.length ≤ 9223372036854775807 := by omega
  obtain ⟨pv, cv', rfl, hc⟩ := hv.openN hn
  have e1 : (valOk l != valOk l) = false := by simp
  clear hv hc hm hle hn
  go_enter Try.func9, Try.ntmps9
  go_wp2_with (go_at_call 38; ((with_reducible refine (lToIntS _ l _ HV.out HLe.out).mono ?_); rintro e w1 ⟨v1, rfl, o1, g1⟩))
  go_wp2_with (go_at_call 37; ((with_reducible refine (sRatioOfTerms v1 l _ (SlI.of_owns o1) hsm).mono ?_); rintro e w2 ⟨rfl, g2⟩))
  have G2 : Ge w w2 := g1.trans g2
  have G2' : Ge w (w2.alloc (.cells #[.int .i64 (valOf l).n, .int .i64 (valOf l).d] 49)) := G2.alloc _
  go_wp2_with (go_at_call 38; ((with_reducible refine (lToIntS _ l _ (SlI.ge HV.out G2') HLe.out).mono ?_); rintro e w3 ⟨v3, rfl, o3, g3⟩))
  have c0 := Ge.keep g3 (a := ⟨w2.heap.size, 0, none⟩) (v := .int .i64 (valOf l).n) (by simp); have c1 := Ge.keep g3 (a := ⟨w2.heap.size, 1, none⟩) (v := .int .i64 (valOf l).d) (by simp)
  have z3 := g3.size
  simp at z3
  obtain ⟨p3, cap3, rfl⟩ := owns_form o3
  go_wp2_with (go_at_call 39; ((with_reducible refine (iRatioOfTerms _ l _ (SlI.of_owns o3) hsm).mono ?_); rintro e w4 ⟨rfl, g4⟩; have c0 := Ge.keep g4 c0; have c1 := Ge.keep g4 c1; have z4 : w2.heap.size < w4.heap.size := (by have := g4.size; omega)))
  go_wp2_with (go_at_call 36; ((with_reducible refine (lEqRatio _ _ _).mono ?_); rintro e w5 ⟨rfl, g5⟩))
  have G5 : Ge w w5 := (G2'.trans g3).trans ((g4.alloc _).trans g5)
  have o3' := Ge.owns ((g4.alloc _).trans g5) o3
  go_wp2_with (go_at_call 38; ((with_reducible refine (lToIntS _ l _ (SlI.ge HV.out G5) HLe.out).mono ?_); rintro e w6 ⟨v6, rfl, o6, g6⟩))
  go_wp2_with (go_at_call 25; ((with_reducible refine (lEqIntS _ v6 l l _ (SlI.of_owns (g6.owns o3')) (SlI.of_owns o6) hsm).mono ?_); rintro e w7 ⟨rfl, g7⟩))
  go_ret
  exact ⟨rfl, (G5.trans g6).trans g7⟩
end Go.Proofs.Ytmkmdcifakaflaa
