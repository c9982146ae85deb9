/- FnTimes, walked. No condition. The law FnTimes returns true for all arguments. No condition. -/
import Derived.Test.YtahicfpnmjofhabJDrw
import Derived.Test.YtahicfpnmjofhabRBase
import Derived.Test.YtahicfpnmjofhabRBytes
namespace Go.Proofs.Ytahicfpnmjofhab
set_option maxRecDepth 100000
open Go.ChangeShapes Go.WideShapes Go.ChangeAt Go.RowKit Go.Joins

set_option maxHeartbeats 12800000 in
theorem lFnTimes (p : Option Addr) (n0 cap : Nat) (w : World) (hb : SlB w p n0) (hm0 : n0 ≤ 9223372036854775807) : Calls Try.prog 3 #[.slice p n0 cap] w fun e w' => e = .returned (.bool true) ∧ Ge w w' := by
  by_cases hbig : 1048576 < n0
  · clear hb
    go_enter Try.func3, Try.ntmps3
    go_wp2_with fail
    go_ret
    exact ⟨rfl, Ge.refl _⟩
  have hn0 : n0 ≤ 1048576 := by omega
  have HB := Lib.hid hb
  clear hb hm0
  go_enter Try.func3, Try.ntmps3
  go_wp2_with ((go_at_call 4; ((with_reducible refine (dMake _ _ _ _ HB.out hn0).mono ?_); rintro e w1 ⟨n, E, S, m, xs, q, c, rfl, hdn, g1⟩)); have h2 := (hdn.dr.two); have h5 := (hdn.dr.five); have hm := (hdn.m10); have HDr := (Lib.hid hdn.dr); have N0 : (w1.alloc (.cells #[.int .i64 (n : Int), .int .i64 E, .int .i64 S, .slice q m c] 25)).cell? ⟨w1.heap.size, 0, none⟩ = some (.int .i64 (n : Int)) := (cell_new rfl rfl); have N1 : (w1.alloc (.cells #[.int .i64 (n : Int), .int .i64 E, .int .i64 S, .slice q m c] 25)).cell? ⟨w1.heap.size, 1, none⟩ = some (.int .i64 E) := (cell_new rfl rfl); have N2 : (w1.alloc (.cells #[.int .i64 (n : Int), .int .i64 E, .int .i64 S, .slice q m c] 25)).cell? ⟨w1.heap.size, 2, none⟩ = some (.int .i64 S) := (cell_new rfl rfl); have N3 : (w1.alloc (.cells #[.int .i64 (n : Int), .int .i64 E, .int .i64 S, .slice q m c] 25)).cell? ⟨w1.heap.size, 3, none⟩ = some (.slice q m c) := (cell_new rfl rfl); have HD := (Lib.hid (hdn.ge (Ge.alloc (Ge.refl w1) (.cells #[.int .i64 (n : Int), .int .i64 E, .int .i64 S, .slice q m c] 25)))); have gW : Ge w (w1.alloc (.cells #[.int .i64 (n : Int), .int .i64 E, .int .i64 S, .slice q m c] 25)) := (Ge.alloc g1 _); have HBw := (Lib.hid (HB.out.ge gW)))
  clear hdn g1 HB
  generalize w1.heap.size = B at *
  generalize (w1.alloc (.cells #[.int .i64 (n : Int), .int .i64 E, .int .i64 S, .slice q m c] 25)) = W1 at *
  have zB := World.block_lt_of_cell? _ _ N0
  simp only at zB
  have nz : ((n : Int) == 0) = false := by simp; omega
  have nz' : ¬ (n : Int) = 0 := by omega
  have nzN : ¬ n = 0 := by omega
  have nzM : ¬ (n : Int) = 1 := by omega
  have nzK : ¬ n = 1 := by omega
  have M0 := Lib.hid N0
  have M1 := Lib.hid N1
  have M2 := Lib.hid N2
  have M3 := Lib.hid N3
  refine wp_region_head (S := fun w' => w'.cell? ⟨B, 0, none⟩ = some (.int .i64 (n : Int))) 5 (by kernel_rfl) (by kernel_rfl) (cell_drew N0) (fun hHeld => ?_)
  refine head_take 0 (v := ?_) rfl (by kernel_rfl) (by kernel_rfl) (fun _ _ _ h => h) (by assumption) (yields_if (by rfl) ?_) ?_
  rotate_left
  focus (intro w' hSw; (try dsimp only at hSw); go_simp; (try with_reducible rfl))
  (try simp only [Act.put, List.setIfInBounds_toArray, List.set_cons_zero, List.set_cons_succ])
  refine head_take 2 (v := ?_) rfl (by kernel_rfl) (by kernel_rfl) (fun _ _ _ h => h) (by assumption) (yields_if (by rfl) ?_) ?_
  rotate_left
  focus (intro w' hSw; (try dsimp only at hSw); go_simp; (try with_reducible rfl))
  (try simp only [Act.put, List.setIfInBounds_toArray, List.set_cons_zero, List.set_cons_succ])
  refine head_take 3 (v := ?_) rfl (by kernel_rfl) (by kernel_rfl) (fun _ _ _ h => h) (by assumption) (yields_if (by rfl) ?_) ?_
  rotate_left
  focus (intro w' hSw; (try dsimp only at hSw); go_simp; (try with_reducible rfl))
  (try simp only [Act.put, List.setIfInBounds_toArray, List.set_cons_zero, List.set_cons_succ])
  refine head_one 1 rfl (by kernel_rfl) (fun K hK => ?_)
  go_simp
  (go_at_call 5; ((with_reducible refine (sMakeNum _ _ _ _ _ (HBw.out.ge (Ge.drew (Ge.refl _))) hn0 (by omega)).mono ?_); rintro e w2 ⟨x, rfl, x0, x1, g2⟩))
  have G2 : Ge W1 w2 := Ge.trans (Ge.drew (Ge.refl _)) g2
  have HB2 := Lib.hid (HBw.out.ge G2)
  have ax := tmod_bd (n := n) x0 (by omega)
  refine hK.out _ _ (G2.keep N0) (fun hHeld => ?_)
  clear hK K
  (try simp only [Act.put, List.setIfInBounds_toArray, List.set_cons_zero, List.set_cons_succ])
  refine head_take 4 (v := ?_) rfl (by kernel_rfl) (by kernel_rfl) (fun _ _ _ h => h) (by assumption) (yields_if (by rfl) ?_) ?_
  rotate_left
  focus (intro w' hSw; (try dsimp only at hSw); go_simp; (try with_reducible rfl))
  (try simp only [Act.put, List.setIfInBounds_toArray, List.set_cons_zero, List.set_cons_succ])
  generalize x.tmod (n : Int) = a at *
  obtain ⟨a0, a1⟩ := ax
  refine head_done (by kernel_rfl) ?_
  have N02 := G2.keep N0
  go_wp2_with fail
  have tw1 : IntKind.i64.wrap (a + 1) = a + 1 := IntWalk.i64_in _ (by omega)
  have tw2 : IntKind.i64.wrap ((n : Int) - 1) = (n : Int) - 1 := IntWalk.i64_in _ (by omega)
  have nz1 : (((n : Int) - 1) == 0) = false := by simp; omega
  have nz1' : ¬ (n : Int) - 1 = 0 := by omega
  refine wp_region_head (S := fun w' => w'.cell? ⟨B, 0, none⟩ = some (.int .i64 (n : Int))) 12 (by kernel_rfl) (by kernel_rfl) (cell_drew N02) (fun hHeld => ?_)
  refine head_take 0 (v := ?_) rfl (by kernel_rfl) (by kernel_rfl) (fun _ _ _ h => h) (by assumption) (yields_if (by rfl) ?_) ?_
  rotate_left
  focus (intro w' hSw; (try dsimp only at hSw); go_simp; (try with_reducible rfl))
  (try simp only [Act.put, List.setIfInBounds_toArray, List.set_cons_zero, List.set_cons_succ])
  refine head_take 1 (v := ?_) rfl (by kernel_rfl) (by kernel_rfl) (fun _ _ _ h => h) (by assumption) (yields_if (by rfl) ?_) ?_
  rotate_left
  focus (intro w' hSw; (try dsimp only at hSw); go_simp; (try with_reducible rfl))
  (try simp only [Act.put, List.setIfInBounds_toArray, List.set_cons_zero, List.set_cons_succ])
  refine head_take 2 (v := ?_) rfl (by kernel_rfl) (by kernel_rfl) (fun _ _ _ h => h) (by assumption) (yields_if (by rfl) ?_) ?_
  rotate_left
  focus (intro w' hSw; (try dsimp only at hSw); go_simp; (try with_reducible rfl))
  (try simp only [Act.put, List.setIfInBounds_toArray, List.set_cons_zero, List.set_cons_succ])
  refine head_take 4 (v := ?_) rfl (by kernel_rfl) (by kernel_rfl) (fun _ _ _ h => h) (by assumption) (yields_if (by rfl) ?_) ?_
  rotate_left
  focus (intro w' hSw; (try dsimp only at hSw); go_simp; (try with_reducible rfl))
  (try simp only [Act.put, List.setIfInBounds_toArray, List.set_cons_zero, List.set_cons_succ])
  refine head_take 5 (v := ?_) rfl (by kernel_rfl) (by kernel_rfl) (fun _ _ _ h => h) (by assumption) (yields_if (by rfl) ?_) ?_
  rotate_left
  focus (intro w' hSw; (try dsimp only at hSw); go_simp; (try with_reducible rfl))
  (try simp only [Act.put, List.setIfInBounds_toArray, List.set_cons_zero, List.set_cons_succ])
  refine head_take 6 (v := ?_) rfl (by kernel_rfl) (by kernel_rfl) (fun _ _ _ h => h) (by assumption) (yields_if (by rfl) ?_) ?_
  rotate_left
  focus (intro w' hSw; (try dsimp only at hSw); go_simp; (try with_reducible rfl))
  (try simp only [Act.put, List.setIfInBounds_toArray, List.set_cons_zero, List.set_cons_succ])
  refine head_take 9 (v := ?_) rfl (by kernel_rfl) (by kernel_rfl) (fun _ _ _ h => h) (by assumption) (yields_if (by rfl) ?_) ?_
  rotate_left
  focus (intro w' hSw; (try dsimp only at hSw); go_simp; (try with_reducible rfl))
  (try simp only [Act.put, List.setIfInBounds_toArray, List.set_cons_zero, List.set_cons_succ])
  refine head_take 10 (v := ?_) rfl (by kernel_rfl) (by kernel_rfl) (fun _ _ _ h => h) (by assumption) (yields_if (by rfl) ?_) ?_
  rotate_left
  focus (intro w' hSw; (try dsimp only at hSw); go_simp; (try with_reducible rfl))
  (try simp only [Act.put, List.setIfInBounds_toArray, List.set_cons_zero, List.set_cons_succ])
  refine head_one 3 rfl (by kernel_rfl) (fun K hK => ?_)
  go_simp
  (go_at_call 5; ((with_reducible refine (sMakeNum _ _ _ _ _ (HB2.out.ge (Ge.drew (Ge.refl _))) hn0 (by omega)).mono ?_); rintro e w3 ⟨y, rfl, y0, y1, g3⟩))
  have G3 : Ge W1 w3 := Ge.trans (Ge.drew G2) g3
  have ay := tmod_bd (n := n - 1) y0 (by omega)
  rw [show (((n - 1 : Nat)) : Int) = (n : Int) - 1 by omega] at ay
  refine hK.out _ _ (G3.keep N0) (fun hHeld => ?_)
  clear hK K
  (try simp only [Act.put, List.setIfInBounds_toArray, List.set_cons_zero, List.set_cons_succ])
  refine head_take 7 (v := ?_) rfl (by kernel_rfl) (by kernel_rfl) (fun _ _ _ h => h) (by assumption) (yields_if (by rfl) ?_) ?_
  rotate_left
  focus (intro w' hSw; (try dsimp only at hSw); go_simp; (try with_reducible rfl))
  (try simp only [Act.put, List.setIfInBounds_toArray, List.set_cons_zero, List.set_cons_succ])
  generalize y.tmod ((n : Int) - 1) = y' at *
  have tw3 : IntKind.i64.wrap (a + 1 + y') = a + 1 + y' := IntWalk.i64_in _ (by omega)
  have bx := tmod_other (n := n) ⟨a0, a1⟩ ay
  refine head_take 8 (v := ?_) rfl (by kernel_rfl) (by kernel_rfl) (fun _ _ _ h => h) (by assumption) (yields_if (by rfl) ?_) ?_
  rotate_left
  focus (intro w' hSw; (try dsimp only at hSw); go_simp; (try with_reducible rfl))
  (try simp only [Act.put, List.setIfInBounds_toArray, List.set_cons_zero, List.set_cons_succ])
  refine head_take 11 (v := ?_) rfl (by kernel_rfl) (by kernel_rfl) (fun _ _ _ h => h) (by assumption) (yields_if (by rfl) ?_) ?_
  rotate_left
  focus (intro w' hSw; (try dsimp only at hSw); go_simp; (try with_reducible rfl))
  (try simp only [Act.put, List.setIfInBounds_toArray, List.set_cons_zero, List.set_cons_succ])
  generalize (a + 1 + y').tmod (n : Int) = b at *
  refine head_done (by kernel_rfl) ?_
  obtain ⟨b0, b1, hab⟩ := bx
  have HDw := Lib.hid (HD.out.ge G3)
  have n0' := G3.keep N0
  have n1' := G3.keep N1
  have n2' := G3.keep N2
  have n3' := G3.keep N3
  have zB3 : B < w3.heap.size := Nat.lt_of_lt_of_le zB G3.size
  clear N0 N1 N2 N3
  have ha : 0 ≤ a ∧ a < (n : Int) := ⟨a0, a1⟩
  have hb : 0 ≤ b ∧ b < (n : Int) := ⟨b0, b1⟩
  have HT := Lib.hid (fun (w' : World) (g : Ge w3 w') (u v : Int) (hu : 0 ≤ u ∧ u < (n : Int)) (hv : 0 ≤ v ∧ v < (n : Int)) => dTime (HDw.out.ge g) hu hv)
  have HCo := Lib.hid (fun (w' : World) (g : Ge w3 w') => dComm (HDw.out.ge g) ha hb)
  have HZ := Lib.hid (times_self HDr.out a)
  have HXY := Lib.hid (qSum (times_both HDr.out ha hb))
  have t1 := tree_pos HDr.out
  have t2 := tree_le HDr.out
  have wa1 := wat_pos HDr.out ha
  have wa2 := (wat_24 HDr.out ha).2
  have zz := mul_nn (a := wat xs a m) (b := 2 * treeT n m xs) (A := 24) (B := 10616832) (by omega) wa2 (by omega) (by omega)
  have E7 := Lib.hid (show ratioOf (wat xs a m * (2 * treeT n m xs) + sumTo (fun (w : Nat) => wbet xs m a w * hitZ n m xs w b) 0) (wat xs a m * (2 * treeT n m xs)) = ⟨1, 1⟩ from by simp only [sumTo, Int.add_zero]; exact ratio_one (Int.mul_pos (by omega) (by omega)))
  have L7 := Lib.hid (times_mean HDr.out ha hb hab)
  have HZt := Lib.hid (fun (w' : World) (g : Ge w3 w') => (by have h := HT.out w' g a a ha ha; rw [HZ.out] at h; exact h : Calls Try.prog 6 #[.agg #[.int .i64 (n : Int), .int .i64 E, .int .i64 S, .slice q m c], .int .i64 a, .int .i64 a] w' (GR ⟨0, 1⟩ w')))
  have HTab := Lib.hid (fun (w' : World) (g : Ge w3 w') => HT.out w' g a b ha hb)
  have HTba := Lib.hid (fun (w' : World) (g : Ge w3 w') => HT.out w' g b a hb ha)
  obtain ⟨XR, hXR⟩ : ∃ r, ratioOf (hitZ n m xs a b) (2 * treeT n m xs) = r := ⟨_, rfl⟩
  rw [hXR] at HTab HXY L7
  clear hXR
  obtain ⟨YR, hYR⟩ : ∃ r, ratioOf (hitZ n m xs b a) (2 * treeT n m xs) = r := ⟨_, rfl⟩
  rw [hYR] at HTba HXY
  clear hYR
  obtain ⟨CR, hCR⟩ : ∃ r, ratioOf (wtAll xs m * forZ n m xs a b) (treeT n m xs) = r := ⟨_, rfl⟩
  rw [hCR] at HCo HXY
  clear hCR
  go_wp2_with ((go_at_call 6; ((with_reducible refine (HTab.out _ (Ge.refl _)).mono ?_); rintro e w4 ⟨rfl, g4⟩)); have n0' := (g4.keep n0'); have n1' := (g4.keep n1'); have n2' := (g4.keep n2'); have n3' := (g4.keep n3'); have zB4 : B < w4.heap.size := (Nat.lt_of_lt_of_le zB3 g4.size))
  go_wp2_with ((go_at_call 6; ((with_reducible refine (HTba.out _ (Ge.alloc g4 _)).mono ?_); rintro e w5 ⟨rfl, g5⟩)); have X5 := (Lib.hid ((Box2.new w4 XR _).ge g5)); have G5 : Ge w4 w5 := (Ge.trans (Ge.alloc (Ge.refl _) _) g5); have n0' := (G5.keep n0'); have n1' := (G5.keep n1'); have n2' := (G5.keep n2'); have n3' := (G5.keep n3'); have zB5 : B < w5.heap.size := (Nat.lt_of_lt_of_le zB4 G5.size))
  go_wp2_with ((go_at_call 7; ((with_reducible refine (HCo.out _ (Ge.alloc (g4.trans G5) _)).mono ?_); rintro e w6 ⟨rfl, g6⟩)); have Y6 := (Lib.hid ((Box2.new w5 YR _).ge g6)); have G6 : Ge w5 w6 := (Ge.trans (Ge.alloc (Ge.refl _) _) g6); have n0' := (G6.keep n0'); have n1' := (G6.keep n1'); have n2' := (G6.keep n2'); have n3' := (G6.keep n3'); have zB6 : B < w6.heap.size := (Nat.lt_of_lt_of_le zB5 G6.size))
  go_wp2_with ((go_at_call 6; ((with_reducible refine (HZt.out _ (Ge.alloc ((g4.trans G5).trans G6) _)).mono ?_); rintro e w7 ⟨rfl, g7⟩)); have C7 := (Lib.hid ((Box2.new w6 CR _).ge g7)); have G7 : Ge w6 w7 := (Ge.trans (Ge.alloc (Ge.refl _) _) g7); have GA : Ge w3 w7 := (((g4.trans G5).trans G6).trans G7); have X7 := (X5.out.ge (G6.trans G7)); have Y7 := (Y6.out.ge G7); obtain ⟨X70, X71⟩ := (X7); obtain ⟨Y70, Y71⟩ := (Y7); obtain ⟨C70, C71⟩ := (C7.out))
  have hS : ∀ w', Ge (w7.alloc (.cells #[.int .i64 0, .int .i64 1] 29)) w' → (w'.cell? ⟨w4.heap.size, 0, none⟩ = some (.int .i64 XR.n) ∧ w'.cell? ⟨w4.heap.size, 1, none⟩ = some (.int .i64 XR.d) ∧ w'.cell? ⟨w5.heap.size, 0, none⟩ = some (.int .i64 YR.n) ∧ w'.cell? ⟨w5.heap.size, 1, none⟩ = some (.int .i64 YR.d) ∧ w'.cell? ⟨w6.heap.size, 0, none⟩ = some (.int .i64 CR.n) ∧ w'.cell? ⟨w6.heap.size, 1, none⟩ = some (.int .i64 CR.d) ∧ w'.cell? ⟨w7.heap.size, 0, none⟩ = some (.int .i64 0) ∧ w'.cell? ⟨w7.heap.size, 1, none⟩ = some (.int .i64 1) ∧ Ge w7 w') := fun w' g => ⟨g.keep (by (repeat (first | assumption | with_reducible exact Ge.refl _ | with_reducible refine cv_drew ?_ | with_reducible refine cv_alloc ?_ | with_reducible refine cv_set ?_ | (with_reducible apply cv_some; assumption) | with_reducible refine cell_drew ?_ | with_reducible refine cell_drewN ?_ | ((with_reducible refine cell_new ?_ ?_); (focus (simp; done)); rfl) | with_reducible refine cell_alloc ?_ | with_reducible refine cell_same2 ?_ | ((with_reducible refine cell_set2 ?_ ?_); focus (first | (simp; done) | (intro hE; simp at hE; done) | (intro hE; simp at hE; omega))) | with_reducible refine Ge.drew ?_ | with_reducible refine Ge.drewN ?_ _ | with_reducible refine Ge.alloc ?_ _ | ((with_reducible refine Ge.setCell ?_ ?_ _); rotate_left; focus (first | (simp; done) | omega | (simp; omega))) | with_reducible refine Ge.trans ?_ (by assumption) | with_reducible refine Ge.keep (by assumption) ?_))), g.keep (by (repeat (first | assumption | with_reducible exact Ge.refl _ | with_reducible refine cv_drew ?_ | with_reducible refine cv_alloc ?_ | with_reducible refine cv_set ?_ | (with_reducible apply cv_some; assumption) | with_reducible refine cell_drew ?_ | with_reducible refine cell_drewN ?_ | ((with_reducible refine cell_new ?_ ?_); (focus (simp; done)); rfl) | with_reducible refine cell_alloc ?_ | with_reducible refine cell_same2 ?_ | ((with_reducible refine cell_set2 ?_ ?_); focus (first | (simp; done) | (intro hE; simp at hE; done) | (intro hE; simp at hE; omega))) | with_reducible refine Ge.drew ?_ | with_reducible refine Ge.drewN ?_ _ | with_reducible refine Ge.alloc ?_ _ | ((with_reducible refine Ge.setCell ?_ ?_ _); rotate_left; focus (first | (simp; done) | omega | (simp; omega))) | with_reducible refine Ge.trans ?_ (by assumption) | with_reducible refine Ge.keep (by assumption) ?_))), g.keep (by (repeat (first | assumption | with_reducible exact Ge.refl _ | with_reducible refine cv_drew ?_ | with_reducible refine cv_alloc ?_ | with_reducible refine cv_set ?_ | (with_reducible apply cv_some; assumption) | with_reducible refine cell_drew ?_ | with_reducible refine cell_drewN ?_ | ((with_reducible refine cell_new ?_ ?_); (focus (simp; done)); rfl) | with_reducible refine cell_alloc ?_ | with_reducible refine cell_same2 ?_ | ((with_reducible refine cell_set2 ?_ ?_); focus (first | (simp; done) | (intro hE; simp at hE; done) | (intro hE; simp at hE; omega))) | with_reducible refine Ge.drew ?_ | with_reducible refine Ge.drewN ?_ _ | with_reducible refine Ge.alloc ?_ _ | ((with_reducible refine Ge.setCell ?_ ?_ _); rotate_left; focus (first | (simp; done) | omega | (simp; omega))) | with_reducible refine Ge.trans ?_ (by assumption) | with_reducible refine Ge.keep (by assumption) ?_))), g.keep (by (repeat (first | assumption | with_reducible exact Ge.refl _ | with_reducible refine cv_drew ?_ | with_reducible refine cv_alloc ?_ | with_reducible refine cv_set ?_ | (with_reducible apply cv_some; assumption) | with_reducible refine cell_drew ?_ | with_reducible refine cell_drewN ?_ | ((with_reducible refine cell_new ?_ ?_); (focus (simp; done)); rfl) | with_reducible refine cell_alloc ?_ | with_reducible refine cell_same2 ?_ | ((with_reducible refine cell_set2 ?_ ?_); focus (first | (simp; done) | (intro hE; simp at hE; done) | (intro hE; simp at hE; omega))) | with_reducible refine Ge.drew ?_ | with_reducible refine Ge.drewN ?_ _ | with_reducible refine Ge.alloc ?_ _ | ((with_reducible refine Ge.setCell ?_ ?_ _); rotate_left; focus (first | (simp; done) | omega | (simp; omega))) | with_reducible refine Ge.trans ?_ (by assumption) | with_reducible refine Ge.keep (by assumption) ?_))), g.keep (by (repeat (first | assumption | with_reducible exact Ge.refl _ | with_reducible refine cv_drew ?_ | with_reducible refine cv_alloc ?_ | with_reducible refine cv_set ?_ | (with_reducible apply cv_some; assumption) | with_reducible refine cell_drew ?_ | with_reducible refine cell_drewN ?_ | ((with_reducible refine cell_new ?_ ?_); (focus (simp; done)); rfl) | with_reducible refine cell_alloc ?_ | with_reducible refine cell_same2 ?_ | ((with_reducible refine cell_set2 ?_ ?_); focus (first | (simp; done) | (intro hE; simp at hE; done) | (intro hE; simp at hE; omega))) | with_reducible refine Ge.drew ?_ | with_reducible refine Ge.drewN ?_ _ | with_reducible refine Ge.alloc ?_ _ | ((with_reducible refine Ge.setCell ?_ ?_ _); rotate_left; focus (first | (simp; done) | omega | (simp; omega))) | with_reducible refine Ge.trans ?_ (by assumption) | with_reducible refine Ge.keep (by assumption) ?_))), g.keep (by (repeat (first | assumption | with_reducible exact Ge.refl _ | with_reducible refine cv_drew ?_ | with_reducible refine cv_alloc ?_ | with_reducible refine cv_set ?_ | (with_reducible apply cv_some; assumption) | with_reducible refine cell_drew ?_ | with_reducible refine cell_drewN ?_ | ((with_reducible refine cell_new ?_ ?_); (focus (simp; done)); rfl) | with_reducible refine cell_alloc ?_ | with_reducible refine cell_same2 ?_ | ((with_reducible refine cell_set2 ?_ ?_); focus (first | (simp; done) | (intro hE; simp at hE; done) | (intro hE; simp at hE; omega))) | with_reducible refine Ge.drew ?_ | with_reducible refine Ge.drewN ?_ _ | with_reducible refine Ge.alloc ?_ _ | ((with_reducible refine Ge.setCell ?_ ?_ _); rotate_left; focus (first | (simp; done) | omega | (simp; omega))) | with_reducible refine Ge.trans ?_ (by assumption) | with_reducible refine Ge.keep (by assumption) ?_))), g.keep (by (repeat (first | assumption | with_reducible exact Ge.refl _ | with_reducible refine cv_drew ?_ | with_reducible refine cv_alloc ?_ | with_reducible refine cv_set ?_ | (with_reducible apply cv_some; assumption) | with_reducible refine cell_drew ?_ | with_reducible refine cell_drewN ?_ | ((with_reducible refine cell_new ?_ ?_); (focus (simp; done)); rfl) | with_reducible refine cell_alloc ?_ | with_reducible refine cell_same2 ?_ | ((with_reducible refine cell_set2 ?_ ?_); focus (first | (simp; done) | (intro hE; simp at hE; done) | (intro hE; simp at hE; omega))) | with_reducible refine Ge.drew ?_ | with_reducible refine Ge.drewN ?_ _ | with_reducible refine Ge.alloc ?_ _ | ((with_reducible refine Ge.setCell ?_ ?_ _); rotate_left; focus (first | (simp; done) | omega | (simp; omega))) | with_reducible refine Ge.trans ?_ (by assumption) | with_reducible refine Ge.keep (by assumption) ?_))), g.keep (by (repeat (first | assumption | with_reducible exact Ge.refl _ | with_reducible refine cv_drew ?_ | with_reducible refine cv_alloc ?_ | with_reducible refine cv_set ?_ | (with_reducible apply cv_some; assumption) | with_reducible refine cell_drew ?_ | with_reducible refine cell_drewN ?_ | ((with_reducible refine cell_new ?_ ?_); (focus (simp; done)); rfl) | with_reducible refine cell_alloc ?_ | with_reducible refine cell_same2 ?_ | ((with_reducible refine cell_set2 ?_ ?_); focus (first | (simp; done) | (intro hE; simp at hE; done) | (intro hE; simp at hE; omega))) | with_reducible refine Ge.drew ?_ | with_reducible refine Ge.drewN ?_ _ | with_reducible refine Ge.alloc ?_ _ | ((with_reducible refine Ge.setCell ?_ ?_ _); rotate_left; focus (first | (simp; done) | omega | (simp; omega))) | with_reducible refine Ge.trans ?_ (by assumption) | with_reducible refine Ge.keep (by assumption) ?_))), Ge.trans (by (repeat (first | assumption | with_reducible exact Ge.refl _ | with_reducible refine cv_drew ?_ | with_reducible refine cv_alloc ?_ | with_reducible refine cv_set ?_ | (with_reducible apply cv_some; assumption) | with_reducible refine cell_drew ?_ | with_reducible refine cell_drewN ?_ | ((with_reducible refine cell_new ?_ ?_); (focus (simp; done)); rfl) | with_reducible refine cell_alloc ?_ | with_reducible refine cell_same2 ?_ | ((with_reducible refine cell_set2 ?_ ?_); focus (first | (simp; done) | (intro hE; simp at hE; done) | (intro hE; simp at hE; omega))) | with_reducible refine Ge.drew ?_ | with_reducible refine Ge.drewN ?_ _ | with_reducible refine Ge.alloc ?_ _ | ((with_reducible refine Ge.setCell ?_ ?_ _); rotate_left; focus (first | (simp; done) | omega | (simp; omega))) | with_reducible refine Ge.trans ?_ (by assumption) | with_reducible refine Ge.keep (by assumption) ?_))) g⟩
  go_region_held3 (fun w' => w'.cell? ⟨w4.heap.size, 0, none⟩ = some (.int .i64 XR.n) ∧ w'.cell? ⟨w4.heap.size, 1, none⟩ = some (.int .i64 XR.d) ∧ w'.cell? ⟨w5.heap.size, 0, none⟩ = some (.int .i64 YR.n) ∧ w'.cell? ⟨w5.heap.size, 1, none⟩ = some (.int .i64 YR.d) ∧ w'.cell? ⟨w6.heap.size, 0, none⟩ = some (.int .i64 CR.n) ∧ w'.cell? ⟨w6.heap.size, 1, none⟩ = some (.int .i64 CR.d) ∧ w'.cell? ⟨w7.heap.size, 0, none⟩ = some (.int .i64 0) ∧ w'.cell? ⟨w7.heap.size, 1, none⟩ = some (.int .i64 1) ∧ Ge w7 w') (first | ((with_reducible refine hS _ ?_); (repeat (first | assumption | with_reducible exact Ge.refl _ | with_reducible refine cv_drew ?_ | with_reducible refine cv_alloc ?_ | with_reducible refine cv_set ?_ | (with_reducible apply cv_some; assumption) | with_reducible refine cell_drew ?_ | with_reducible refine cell_drewN ?_ | ((with_reducible refine cell_new ?_ ?_); (focus (simp; done)); rfl) | with_reducible refine cell_alloc ?_ | with_reducible refine cell_same2 ?_ | ((with_reducible refine cell_set2 ?_ ?_); focus (first | (simp; done) | (intro hE; simp at hE; done) | (intro hE; simp at hE; omega))) | with_reducible refine Ge.drew ?_ | with_reducible refine Ge.drewN ?_ _ | with_reducible refine Ge.alloc ?_ _ | ((with_reducible refine Ge.setCell ?_ ?_ _); rotate_left; focus (first | (simp; done) | omega | (simp; omega))) | with_reducible refine Ge.trans ?_ (by assumption) | with_reducible refine Ge.keep (by assumption) ?_)); done) | fail) (first | (go_at_call 8; ((with_reducible refine (HXY.out _).mono ?_); rintro e w8 ⟨rfl, g8⟩)) | fail)
  rename_i hHeldX
  obtain ⟨q0, q1, q2, q3, q4, q5, q6, q7, G8⟩ := hHeldX
  clear hS
  have XB : Hid (Box2 w8 w4.heap.size XR) := ⟨q0, q1⟩
  have GB := GA.trans G8
  have n08 := GB.keep (HDw.out.ge (Ge.refl _) |> fun _ => G3.keep M0.out)
  have n18 := GB.keep (G3.keep M1.out)
  have n28 := GB.keep (G3.keep M2.out)
  have n38 := GB.keep (G3.keep M3.out)
  have zB8 : B < w8.heap.size := World.block_lt_of_cell? _ _ n08
  have z48 : w4.heap.size < w8.heap.size := World.block_lt_of_cell? _ _ q0
  clear q0 q1 q2 q3 q4 q5 q6 q7 X70 X71 Y70 Y71 C70 C71
  go_wp2_with fail
  go_loopw [15] (fun i wr => ∃ k : Nat, k ≤ n ∧ i = .int .i64 k ∧ Hid (Box2 wr w8.heap.size (ratioOf (wat xs a m * (2 * treeT n m xs) + sumTo (fun (w : Nat) => wbet xs m a w * hitZ n m xs w b) k) (wat xs a m * (2 * treeT n m xs)))) ∧
      wr.frozen? ⟨w8.heap.size, 0, none⟩ = false ∧ wr.frozen? ⟨w8.heap.size, 1, none⟩ = false ∧ Ge w8 wr) (fun i _ => n - (intOf i).toNat)
  case atStart =>
    exact ⟨0, Nat.zero_le _, rfl, by rw [E7.out]; exact ⟨cell_new rfl rfl, cell_new rfl rfl⟩, froz_new (v := .int .i64 1) rfl rfl, froz_new (v := .int .i64 1) rfl rfl, Ge.alloc (Ge.refl _) _⟩
  case round =>
    obtain ⟨k, hk, rfl, X7, f70, f71, hg⟩ := hrel
    have m0 := hg.keep n08
    have m1 := hg.keep n18
    have m2 := hg.keep n28
    have m3 := hg.keep n38
    have z8 := World.block_lt_of_cell? _ _ X7.out.1
    simp only at z8
    have zBr : B < wr.heap.size := by omega
    by_cases hlt : k < n
    · have kb : 0 ≤ (k : Int) ∧ (k : Int) < (n : Int) := by omega
      have HP := Lib.hid (fun (w' : World) (g : Ge w3 w') => dStep (HDw.out.ge g) ha kb)
      have HX := Lib.hid (fun (w' : World) (g : Ge w3 w') => HT.out w' g k b kb hb)
      have HT3 := Lib.hid (qTimes (rfl : ratioTimes (ratioOf (wbet xs m a k) (wat xs a m)) (ratioOf (hitZ n m xs k b) (2 * treeT n m xs)) = _))
      have HSa2 := Lib.hid (qSum (mean_next HDr.out ha (fun (w : Nat) => hitZ n m xs w b) (F := 2 * treeT n m xs) (z := wat xs a m * (2 * treeT n m xs)) (by omega) (fun u hu => hitZ_bd HDr.out (a := (u : Int)) (by omega) hb) (by omega) hlt))
      generalize ratioOf (wat xs a m * (2 * treeT n m xs) + sumTo (fun (w : Nat) => wbet xs m a w * hitZ n m xs w b) k) (wat xs a m * (2 * treeT n m xs)) = A7 at *
      obtain ⟨A7', hA7⟩ : ∃ r, ratioOf (wat xs a m * (2 * treeT n m xs) + sumTo (fun (w : Nat) => wbet xs m a w * hitZ n m xs w b) (k + 1)) (wat xs a m * (2 * treeT n m xs)) = r := ⟨_, rfl⟩
      rw [hA7] at HSa2
      have HA7 := Lib.hid hA7
      clear hA7
      generalize ratioOf (wbet xs m a k) (wat xs a m) = P at *
      generalize ratioOf (hitZ n m xs k b) (2 * treeT n m xs) = X at *
      generalize ratioTimes P X = ZZ at *
      go_wp2_with ((go_at_call 9; ((with_reducible refine (HP.out _ (GB.trans hg)).mono ?_); rintro e w9 ⟨rfl, g9⟩)); have m0 := (g9.keep m0); have m1 := (g9.keep m1); have m2 := (g9.keep m2); have m3 := (g9.keep m3); have zB9 : B < w9.heap.size := (Nat.lt_of_lt_of_le zBr g9.size))
      go_wp2_with ((go_at_call 6; ((with_reducible refine (HX.out _ (Ge.alloc ((GB.trans hg).trans g9) _)).mono ?_); rintro e w10 ⟨rfl, g10⟩)); have P10 := (Lib.hid ((Box2.new w9 P _).ge g10)); have G10 : Ge w9 w10 := (Ge.trans (Ge.alloc (Ge.refl _) _) g10); have Gr : Ge wr (w10.alloc (.cells #[.int .i64 X.n, .int .i64 X.d] 29)) := (Ge.alloc (g9.trans G10) _); have V11 := (X7.out.ge Gr); have P11 := (P10.out.ge (Ge.alloc (Ge.refl _) (.cells #[.int .i64 X.n, .int .i64 X.d] 29))); have H11 := (Box2.new w10 X 29); have f70' := (Gr.keepF X7.out.1 f70); have f71' := (Gr.keepF X7.out.2 f71))
      refine wp_region_head (S := fun w' => w'.cell? ⟨w8.heap.size, 0, none⟩ = some (.int .i64 A7.n) ∧ w'.cell? ⟨w8.heap.size, 1, none⟩ = some (.int .i64 A7.d) ∧ w'.cell? ⟨w9.heap.size, 0, none⟩ = some (.int .i64 P.n) ∧ w'.cell? ⟨w9.heap.size, 1, none⟩ = some (.int .i64 P.d) ∧ w'.cell? ⟨w10.heap.size, 0, none⟩ = some (.int .i64 X.n) ∧ w'.cell? ⟨w10.heap.size, 1, none⟩ = some (.int .i64 X.d)) 5 (by kernel_rfl) (by kernel_rfl) (⟨cell_drew V11.1, cell_drew V11.2, cell_drew P11.1, cell_drew P11.2, cell_drew H11.1, cell_drew H11.2⟩) (fun hHeld => ?_)
      refine head_take 0 (v := ?_) rfl (by kernel_rfl) (by kernel_rfl) (fun _ _ _ h => h) (by assumption) (yields_if (by rfl) ?_) ?_
      rotate_left
      focus (intro w' hSw; (try dsimp only at hSw); go_simp; (try with_reducible rfl))
      (try simp only [Act.put, List.setIfInBounds_toArray, List.set_cons_zero, List.set_cons_succ])
      refine head_take 1 (v := ?_) rfl (by kernel_rfl) (by kernel_rfl) (fun _ _ _ h => h) (by assumption) (yields_if (by rfl) ?_) ?_
      rotate_left
      focus (intro w' hSw; (try dsimp only at hSw); go_simp; (try with_reducible rfl))
      (try simp only [Act.put, List.setIfInBounds_toArray, List.set_cons_zero, List.set_cons_succ])
      refine head_take 2 (v := ?_) rfl (by kernel_rfl) (by kernel_rfl) (fun _ _ _ h => h) (by assumption) (yields_if (by rfl) ?_) ?_
      rotate_left
      focus (intro w' hSw; (try dsimp only at hSw); go_simp; (try with_reducible rfl))
      (try simp only [Act.put, List.setIfInBounds_toArray, List.set_cons_zero, List.set_cons_succ])
      refine head_one 3 rfl (by kernel_rfl) (fun K hK => ?_)
      go_simp
      (go_at_call 10; ((with_reducible refine (HT3.out _).mono ?_); rintro e w12 ⟨rfl, g12⟩))
      have G12 : Ge (w10.alloc (.cells #[.int .i64 X.n, .int .i64 X.d] 29)) w12 := Ge.trans (Ge.drew (Ge.refl _)) g12
      refine hK.out _ _ ⟨G12.keep V11.1, G12.keep V11.2, G12.keep P11.1, G12.keep P11.2, G12.keep H11.1, G12.keep H11.2⟩ (fun hHeld => ?_)
      clear hK K
      (try simp only [Act.put, List.setIfInBounds_toArray, List.set_cons_zero, List.set_cons_succ])
      refine head_one 4 rfl (by kernel_rfl) (fun K hK => ?_)
      go_simp
      (go_at_call 8; ((with_reducible refine (HSa2.out _).mono ?_); rintro e w13 ⟨rfl, g13⟩))
      have G13 : Ge (w10.alloc (.cells #[.int .i64 X.n, .int .i64 X.d] 29)) w13 := G12.trans g13
      have v0 := G13.keep V11.1
      have v1 := G13.keep V11.2
      have f70e := G13.keepF V11.1 f70'
      have f71e := G13.keepF V11.2 f71'
      refine hK.out _ _ ⟨v0, v1, G13.keep P11.1, G13.keep P11.2, G13.keep H11.1, G13.keep H11.2⟩ (fun hHeld => ?_)
      clear hK K
      (try simp only [Act.put, List.setIfInBounds_toArray, List.set_cons_zero, List.set_cons_succ])
      refine head_done (by kernel_rfl) ?_
      go_wp2_with fail
      go_roundw
      case rel => exact ⟨k + 1, by omega, by go_num, by rw [HA7.out]; exact Box2.put (r := A7) ⟨v0, v1⟩ A7', froz_set (froz_set f70e), froz_set (froz_set f71e), Ge.setCell (Ge.setCell ((hg.trans Gr).trans G13) (Nat.le_refl _) _) (Nat.le_refl _) _⟩
      case measure => simp [intOf]; omega
    · have hkn : n = k := by omega
      subst hkn
      rw [L7.out] at X7
      obtain ⟨s0, s1⟩ := X7.out
      obtain ⟨x0', x1'⟩ := XB.out.ge hg
      go_wp2_with fail
      go_ret
      exact ⟨rfl, ((gW.trans G3).trans GB).trans hg⟩
end Go.Proofs.Ytahicfpnmjofhab

namespace Go.Proofs.Ytahicfpnmjofhab

open Go.ChangeShapes Go.WideShapes Go.ChangeAt Go.RowKit Go.Joins

theorem fnTimes_cells_byte : Try.prog.cellsOf 5 = 1 := by kernel_rfl

set_option maxRecDepth 100000 in
theorem fnTimes_lifted (os : Os) (started : os.Started) (H : Type) (enc : TypeId × Value → H) :
    ReturnsInHanded {} Try.checked os 3 .any (Rows.fnTimesSpec.pre6 enc Try.prog Try.f3 Rows.fnTimesRow.domain false) (Rows.fnTimesSpec.post enc Try.prog Try.f3 false true false false) := by
  refine returnsInHanded_of_change (C := Try.checked) own_knob started (by kernel_rfl) Try.func3
    (ChangeSpec.witness6 (enc := enc) (C := Try.checked) false ⟨#[], #[.slice none 0 0], []⟩ 8 (by kernel_rfl) (by kernel_rfl) (by kernel_rfl) (by kernel_rfl)) ?_
  intro W base args ds gs before hval0 hW hcnd _
  have hval : ∀ (j : Nat) t v, Try.f3.params[j]? = some t → args[j]? = some v → Value.okWide Try.prog W .any base t v := hval0
  have hW' := hW
  obtain ⟨p, q, hA0, hV, rfl, hfz, hnd⟩ := hW
  have hA : DataW.TrodAll enc Try.prog W 0 (fun _ => true) true Try.f3.params.toList args.toList ds p := hA0
  rw [Try.params3] at hA hval
  obtain ⟨v0, d0, rfl, rfl, h0⟩ := trodAll_one hA
  obtain ⟨rfl, rfl⟩ := trodVars_none hV
  obtain ⟨pa, na, ca, rfl, sa, ma⟩ := arg_bytes Try.underlying22 Try.underlying5 fnTimes_cells_byte (hval 0 22 v0 rfl rfl) h0
  clear hA0 hval0
  exact (lFnTimes pa na ca W sa ma).mono fun e W' ⟨he, hg⟩ =>
    law_done (B := 4) he laid_out (by kernel_rfl) Try.underlying4 (by kernel_rfl) hW' rfl rfl hg

theorem fnTimes_holds : Rows.FnTimesSaid :=
  OpenClaim.holds_of_wide 3 Try.f3 rfl rfl rfl rfl rfl rfl rfl ⟨rfl, rfl, rfl, rfl, rfl⟩ rfl rfl rfl rfl rfl (by kernel_rfl) Try.func3 (by kernel_rfl)
    (of_decide_eq_true (by kernel_rfl)) (by unfold Func.isWrapper; first | (rw [if_pos (by decide +kernel)]; kernel_rfl) | (rw [if_neg (by decide +kernel)]; exact ⟨rfl, rfl⟩))
    (fun os started H enc _ => fnTimes_lifted os started H enc)
#print axioms fnTimes_holds

end Go.Proofs.Ytahicfpnmjofhab
