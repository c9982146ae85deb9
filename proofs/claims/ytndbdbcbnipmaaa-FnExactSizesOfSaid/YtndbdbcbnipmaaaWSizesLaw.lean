/- The law of SizesOf, walked. No condition. -/
import Derived.Test.YtndbdbcbnipmaaaWTileLaws
import Derived.Test.YtndbdbcbnipmaaaWSizes
namespace Go.Proofs.Ytndbdbcbnipmaaa
set_option maxRecDepth 100000
open Go.ChangeShapes Go.WideShapes Go.ChangeAt Go.RowKit Go.Joins

/-- A younger row is not touched by what is done to an older one. -/
theorem owns_apart2 {w2 w w' : World} {b1 b2 e1 e2 s1 s2 : Nat} {v1 v2 : Value} {n1 n2 : Nat} {x1 x2 : List Value}
    (h2 : w2.ownsRow b2 e2 s2 v2 n2 x2) (h1 : w.ownsRow b1 e1 s1 v1 n1 x1) (hb : w2.heap.size ≤ b1) (hm : Mine w w' v2) : w'.ownsRow b1 e1 s1 v1 n1 x1 := by
  refine h1.kept hm ?_
  cases hv : v1.ownBlock with
  | none => exact .inl rfl
  | some k =>
    right
    intro e
    have := (h1.lt k hv).1
    have := (h2.lt k e.symm).2
    omega

set_option maxHeartbeats 800000 in
theorem lMarkSquareS (base e : Nat) (v : Value) (n : Nat) (xs : List Int) (k : Int) (w : World) (h : w.ownsRow base e 3 v n (icells xs)) (hk0 : 0 ≤ k) (hk : k + n * 3 ≤ 4611686018427387904) :
    Calls Try.prog 33 #[v, .int .i64 k] w fun en w' => en = .returned (.int .i64 (k + n * 3)) ∧ Mine w w' v ∧ w'.ownsRow base e 3 v n (icells (upFrom k (n * 3))) := by
  have hlen : xs.length = n * 3 := by have := h.1; rwa [icells_length] at this
  rcases owns_cases h with ⟨rfl, rfl⟩ | ⟨g, cap, rfl⟩
  · go_enter Try.func33, Try.ntmps33
    go_wp2_with fail
    go_loopw [1, 5] (fun m i wr => m = .int .i64 k ∧ i = .int .i64 0 ∧ w = wr) (fun _ _ _ => 0)
    case atStart => exact ⟨rfl, rfl, rfl⟩
    case round =>
      obtain ⟨rfl, rfl, rfl⟩ := hrel
      go_wp2_with fail
      go_ret
      have hx : xs = upFrom k 0 := by simpa [upFrom] using hlen
      exact ⟨ret_int (by simp), World.grownBy.refl _ _, by rw [← hx]; exact h⟩
  · have HN := Lib.hid hlen
    clear hlen
    go_enter Try.func33, Try.ntmps33
    go_wp2_with fail
    go_loopw [1, 5] (fun m i wr => ∃ j : Nat, j ≤ n ∧ i = .int .i64 j ∧ m = .int .i64 (k + j * 3) ∧ wr.ownsRow base e 3 (.slice (some ⟨g, 0, none⟩) n cap) n (icells (marked xs k (j * 3))) ∧ w.grownBy wr (some g)) (fun _ i _ => n - (intOf i).toNat)
    case atStart => exact ⟨0, Nat.zero_le _, rfl, by simp, by rw [Nat.zero_mul, marked_zero]; exact h, World.grownBy.refl _ _⟩
    case round =>
      obtain ⟨j, hj, rfl, rfl, hown, hg⟩ := hrel
      by_cases hlt : j < n
      · have st1 := hown.stored (j * 3) (.int .i64 (k + j * 3))
        have st2 := st1.1.stored (j * 3 + 1) (.int .i64 (k + j * 3 + 1))
        have st3 := st2.1.stored (j * 3 + 2) (.int .i64 (k + j * 3 + 1 + 1))
        have f1 := hown.frozenAt (j * 3)
        have f2 := hown.frozenAt (j * 3 + 1)
        have f3 := hown.frozenAt (j * 3 + 2)
        obtain ⟨u1, c1⟩ : ∃ u, wr.cell? ⟨g, j * 3, none⟩ = some u := by
          rw [hown.cellAt (j * 3) (by omega)]; exact ⟨_, List.getElem?_eq_getElem (by have := hown.1; omega)⟩
        obtain ⟨u2, c2⟩ : ∃ u, wr.cell? ⟨g, j * 3 + 1, none⟩ = some u := by
          rw [hown.cellAt (j * 3 + 1) (by omega)]; exact ⟨_, List.getElem?_eq_getElem (by have := hown.1; omega)⟩
        obtain ⟨u3, c3⟩ : ∃ u, wr.cell? ⟨g, j * 3 + 2, none⟩ = some u := by
          rw [hown.cellAt (j * 3 + 2) (by omega)]; exact ⟨_, List.getElem?_eq_getElem (by have := hown.1; omega)⟩
        have T1 := Lib.hid st1.2
        have T2 := Lib.hid st2.2
        have T3 := Lib.hid st3
        clear st1 st2 st3
        go_wp2_with fail
        go_roundw
        case rel =>
          refine ⟨j + 1, by omega, by go_num, by go_num, ?_, grown_trans (grown_trans (grown_trans hg T1.out) T2.out) T3.out.2⟩
          have := T3.out.1
          rwa [icells_set, icells_set, icells_set, marked_step3 xs k j (by have := HN.out; omega)] at this
        case measure => simp [intOf]; omega
      · have hjn : j = n := by omega
        have hfin : marked xs k (j * 3) = upFrom k (n * 3) := by rw [hjn, ← HN.out, marked_all]
        rw [hfin] at hown
        clear hfin
        go_wp2_with fail
        go_ret
        exact ⟨ret_int (by omega), hg, hown⟩


theorem sizesV_le (n : Nat) (xs : List Int) : (sizesV n xs).length ≤ 201 := by
  cases hB : tileB n xs with
  | false => rw [sizesV_f hB]; simp
  | true =>
    rw [sizesV_t hB, ← upJ_0]
    exact upJ_len xs n 200 0

set_option maxHeartbeats 1600000 in
theorem lFnExactSizesOf (v : Value) (n : Nat) (l : List Int) (w : World) (hv : SlF w v n 3 l) (hm : n ≤ 9223372036854775807) (hb : ∀ j, -9223372036854775808 ≤ nth l j ∧ nth l j ≤ 9223372036854775807) :
    Calls Try.prog 10 #[v] w fun e w' => e = .returned (.bool true) ∧ Ge w w' := by
  obtain ⟨pv, cv', rfl, hc⟩ := hv.open
  by_cases hbig : 1048576 < n
  · clear hv hc hb
    have z1 : szI 1048576 n = -1 := by unfold szI; rw [if_pos (by omega)]
    go_enter Try.func10, Try.ntmps10
    go_wp2_with (go_at_call 20; ((with_reducible refine (lSzSquareS _ n _ _ _ hm (by decide) (by decide)).mono ?_); rintro e w' ⟨rfl, rfl⟩))
    go_ret
    exact ⟨rfl, Ge.refl _⟩
  have hle : n ≤ 1048576 := by omega
  have HV := Lib.hid hv
  have HLe := Lib.hid hle
  have HB := Lib.hid hb
  have hsm : n ≤ 9223372036854775807 := hm
  have z1 : szI 1048576 n = 1048576 - n := by unfold szI; rw [if_neg (by omega)]
  have z2 : ¬ (1048576 - (n : Int) < 0) := by omega
  have hsm2 : n ≤ 4611686018427387904 := by omega
  have HSm := Lib.hid hsm2
  have HI := Lib.hid (fun v w hv hc => iSizesOf v n l w hv hsm HB.out hc)
  have HSp := Lib.hid (fun v w hv hc => sSizesOf v n l w hv hsm HB.out hc)
  have hS := sizesV_le n l
  generalize sizesV n l = R at *
  have tR : decide (R = R) = true := by simp
  have tl : decide (l = l) = true := by simp
  clear hv hc hm hb hsm2
  go_enter Try.func10, Try.ntmps10
  go_wp2_with (first | (go_at_call 20; ((with_reducible refine (lSzSquareS _ n _ _ _ hsm (by decide) (by decide)).mono ?_); rintro e w' ⟨rfl, rfl⟩)) | (go_at_call 22; ((with_reducible refine (lToSquareS _ n l _ HV.out HLe.out).mono ?_); rintro e w1 ⟨v1, rfl, o1, g1⟩)))
  go_wp2_with (go_at_call 37; ((with_reducible refine (HSp.out v1 _ (SlF.of_owns o1) (owns_cap o1)).mono ?_); rintro e w2 ⟨u2, rfl, o2, g2⟩))
  have G2 : Ge w w2 := g1.trans g2
  go_wp2_with (go_at_call 22; ((with_reducible refine (lToSquareS _ n l _ (SlF.ge HV.out G2) HLe.out).mono ?_); rintro e w3 ⟨v3, rfl, o3, g3⟩))
  go_wp2_with (go_at_call 38; ((with_reducible refine (HI.out v3 _ (SlF.of_owns o3) (owns_cap o3)).mono ?_); rintro e w4 ⟨u4, rfl, o4, g4⟩))
  have G34 := g3.trans g4
  have G4 : Ge w w4 := G2.trans G34
  have p2 := G34.owns o2
  have p3 := g4.owns o3
  go_wp2_with (go_at_call 39; ((with_reducible refine (lEqIntS u4 u2 R R _ (SlI.of_owns o4) (SlI.of_owns p2) (by omega)).mono ?_); rintro e w5 ⟨rfl, g5⟩))
  have G5 := G4.trans g5
  go_wp2_with (go_at_call 22; ((with_reducible refine (lToSquareS _ n l _ (SlF.ge HV.out G5) HLe.out).mono ?_); rintro e w6 ⟨v6, rfl, o6, g6⟩))
  have g56 := g5.trans g6
  have q2 := g56.owns p2
  have q3 := g56.owns p3
  have q4 := g56.owns o4
  go_wp2_with (go_at_call 24; ((with_reducible refine (lEqSquareS v3 v6 n n l l _ (SlF.of_owns q3) (SlF.of_owns o6) HSm.out).mono ?_); rintro e w7 ⟨rfl, g7⟩))
  have r2 := g7.owns q2
  have r3 := g7.owns q3
  have r4 := g7.owns q4
  have G7 : Ge w w7 := (G5.trans g6).trans g7
  have k1 : (1 : Int) + n * 3 ≤ 4611686018427387904 := by omega
  go_wp2_with (first
    | ((go_at_call 33; ((with_reducible refine (lMarkSquareS _ _ v3 n l 1 _ r3 (by omega) k1).mono ?_); rintro e w8 ⟨rfl, m8, t3⟩)); have G8 : Ge w w8 := G7.mine r3 (G2.size) m8; have s2 := owns_apart o2 r2 r3 (Nat.le_refl _) m8; have s4 := owns_apart2 o3 r4 (Nat.le_refl _) m8)
    | (go_at_call 39; ((with_reducible refine (lEqIntS u4 u2 R R _ (SlI.of_owns s4) (SlI.of_owns s2) (by omega)).mono ?_); rintro e w9 ⟨rfl, g9⟩)))
  have a2 := g9.owns s2
  have a4 := g9.owns s4
  have G9 := G8.trans g9
  have z24 := (g3.size)
  have z3w := (G2.trans g3).size
  go_wp2_with (go_at_call 40; ((with_reducible refine (lMarkIntS _ _ u4 R 1 _ a4 (by omega) (by omega)).mono ?_); rintro e w10 ⟨rfl, m10, b4⟩))
  have b2 := owns_apart o2 a2 a4 z24 m10
  have G10 : Ge w w10 := G9.mine a4 z3w m10
  go_wp2_with (go_at_call 41; ((with_reducible refine (lHeldIntS u4 _ 1 _ (Sl.of_owns b4) (by omega) (by omega)).mono ?_); rintro e w11 ⟨rfl, rfl⟩))
  go_wp2_with (go_at_call 22; ((with_reducible refine (lToSquareS _ n l _ (SlF.ge HV.out G10) HLe.out).mono ?_); rintro e w12 ⟨v12, rfl, o12, g12⟩))
  go_wp2_with (go_at_call 38; ((with_reducible refine (HI.out v12 _ (SlF.of_owns o12) (owns_cap o12)).mono ?_); rintro e w13 ⟨u13, rfl, o13, g13⟩))
  have g123 := g12.trans g13
  have c2 := g123.owns b2
  have c4 := g123.owns b4
  go_wp2_with (go_at_call 39; ((with_reducible refine (lEqIntS u13 u2 R R _ (SlI.of_owns o13) (SlI.of_owns c2) (by omega)).mono ?_); rintro e w14 ⟨rfl, g14⟩))
  have d4 := g14.owns c4
  go_wp2_with (go_at_call 41; ((with_reducible refine (lHeldIntS u4 _ 1 _ (Sl.of_owns d4) (by omega) (by omega)).mono ?_); rintro e w15 ⟨rfl, rfl⟩))
  go_ret
  exact ⟨rfl, (G10.trans g123).trans g14⟩
end Go.Proofs.Ytndbdbcbnipmaaa
