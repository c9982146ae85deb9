/- FnWalks, walked. No condition. The law FnWalks returns true for all arguments. No condition. -/
import Derived.Test.YtoidbmlapdbjdaaJDrw
import Derived.Test.YtoidbmlapdbjdaaRBase
import Derived.Test.YtoidbmlapdbjdaaRBytes
namespace Go.Proofs.Ytoidbmlapdbjdaa
set_option maxRecDepth 100000
open Go.ChangeShapes Go.WideShapes Go.ChangeAt Go.RowKit Go.Joins

set_option maxHeartbeats 12800000 in
theorem lFnWalks (p : Option Addr) (n0 cap : Nat) (w : World) (hb : SlB w p n0) (hm0 : n0 ≤ 9223372036854775807) : Calls Try.prog 6 #[.slice p n0 cap] w fun e w' => e = .returned (.bool true) ∧ Ge w w' := by
  by_cases hbig : 1048576 < n0
  · clear hb
    go_enter Try.func6, Try.ntmps6
    go_wp2_with fail
    go_ret
    exact ⟨rfl, Ge.refl _⟩
  have hn0 : n0 ≤ 1048576 := by omega
  have HB := Lib.hid hb
  clear hb hm0
  go_enter Try.func6, Try.ntmps6
  go_wp2_with ((go_at_call 24; ((with_reducible refine (dMake _ _ _ _ HB.out hn0).mono ?_); rintro e w1 ⟨n, E, S, m, xs, q, c, rfl, hdn, g1⟩)); have h2 := (hdn.dr.two); have h5 := (hdn.dr.five); have hm := (hdn.m10); have HDr := (Lib.hid hdn.dr); have N0 : (w1.alloc (.cells #[.int .i64 (n : Int), .int .i64 E, .int .i64 S, .slice q m c] 36)).cell? ⟨w1.heap.size, 0, none⟩ = some (.int .i64 (n : Int)) := (cell_new rfl rfl); have N1 : (w1.alloc (.cells #[.int .i64 (n : Int), .int .i64 E, .int .i64 S, .slice q m c] 36)).cell? ⟨w1.heap.size, 1, none⟩ = some (.int .i64 E) := (cell_new rfl rfl); have N2 : (w1.alloc (.cells #[.int .i64 (n : Int), .int .i64 E, .int .i64 S, .slice q m c] 36)).cell? ⟨w1.heap.size, 2, none⟩ = some (.int .i64 S) := (cell_new rfl rfl); have N3 : (w1.alloc (.cells #[.int .i64 (n : Int), .int .i64 E, .int .i64 S, .slice q m c] 36)).cell? ⟨w1.heap.size, 3, none⟩ = some (.slice q m c) := (cell_new rfl rfl); have HD := (Lib.hid (hdn.ge (Ge.alloc (Ge.refl w1) (.cells #[.int .i64 (n : Int), .int .i64 E, .int .i64 S, .slice q m c] 36)))); have gW : Ge w (w1.alloc (.cells #[.int .i64 (n : Int), .int .i64 E, .int .i64 S, .slice q m c] 36)) := (Ge.alloc g1 _); have HBw := (Lib.hid (HB.out.ge gW)))
  clear hdn g1 HB
  generalize w1.heap.size = B at *
  generalize (w1.alloc (.cells #[.int .i64 (n : Int), .int .i64 E, .int .i64 S, .slice q m c] 36)) = W1 at *
  have zB := World.block_lt_of_cell? _ _ N0
  simp only at zB
  have nz : ((n : Int) == 0) = false := by simp; omega
  have nz' : ¬ (n : Int) = 0 := by omega
  have nzN : ¬ n = 0 := by omega
  have nzM : ¬ (n : Int) = 1 := by omega
  have nzK : ¬ n = 1 := by omega
  have M0 := Lib.hid N0
  have M1 := Lib.hid N1
  have M2 := Lib.hid N2
  have M3 := Lib.hid N3
  refine wp_region_head (S := fun w' => w'.cell? ⟨B, 0, none⟩ = some (.int .i64 (n : Int))) 5 (by kernel_rfl) (by kernel_rfl) (cell_drew N0) (fun hHeld => ?_)
  refine head_take 0 (v := ?_) rfl (by kernel_rfl) (by kernel_rfl) (fun _ _ _ h => h) (by assumption) (yields_if (by rfl) ?_) ?_
  rotate_left
  focus (intro w' hSw; (try dsimp only at hSw); go_simp; (try with_reducible rfl))
  (try simp only [Act.put, List.setIfInBounds_toArray, List.set_cons_zero, List.set_cons_succ])
  refine head_take 2 (v := ?_) rfl (by kernel_rfl) (by kernel_rfl) (fun _ _ _ h => h) (by assumption) (yields_if (by rfl) ?_) ?_
  rotate_left
  focus (intro w' hSw; (try dsimp only at hSw); go_simp; (try with_reducible rfl))
  (try simp only [Act.put, List.setIfInBounds_toArray, List.set_cons_zero, List.set_cons_succ])
  refine head_take 3 (v := ?_) rfl (by kernel_rfl) (by kernel_rfl) (fun _ _ _ h => h) (by assumption) (yields_if (by rfl) ?_) ?_
  rotate_left
  focus (intro w' hSw; (try dsimp only at hSw); go_simp; (try with_reducible rfl))
  (try simp only [Act.put, List.setIfInBounds_toArray, List.set_cons_zero, List.set_cons_succ])
  refine head_one 1 rfl (by kernel_rfl) (fun K hK => ?_)
  go_simp
  (go_at_call 19; ((with_reducible refine (sMakeNum _ _ _ _ _ (HBw.out.ge (Ge.drew (Ge.refl _))) hn0 (by omega)).mono ?_); rintro e w2 ⟨x, rfl, x0, x1, g2⟩))
  have G2 : Ge W1 w2 := Ge.trans (Ge.drew (Ge.refl _)) g2
  have HB2 := Lib.hid (HBw.out.ge G2)
  have ax := tmod_bd (n := n) x0 (by omega)
  refine hK.out _ _ (G2.keep N0) (fun hHeld => ?_)
  clear hK K
  (try simp only [Act.put, List.setIfInBounds_toArray, List.set_cons_zero, List.set_cons_succ])
  refine head_take 4 (v := ?_) rfl (by kernel_rfl) (by kernel_rfl) (fun _ _ _ h => h) (by assumption) (yields_if (by rfl) ?_) ?_
  rotate_left
  focus (intro w' hSw; (try dsimp only at hSw); go_simp; (try with_reducible rfl))
  (try simp only [Act.put, List.setIfInBounds_toArray, List.set_cons_zero, List.set_cons_succ])
  generalize x.tmod (n : Int) = a at *
  obtain ⟨a0, a1⟩ := ax
  refine head_done (by kernel_rfl) ?_
  have N02 := G2.keep N0
  go_wp2_with fail
  have tw1 : IntKind.i64.wrap (a + 1) = a + 1 := IntWalk.i64_in _ (by omega)
  have tw2 : IntKind.i64.wrap ((n : Int) - 1) = (n : Int) - 1 := IntWalk.i64_in _ (by omega)
  have nz1 : (((n : Int) - 1) == 0) = false := by simp; omega
  have nz1' : ¬ (n : Int) - 1 = 0 := by omega
  refine wp_region_head (S := fun w' => w'.cell? ⟨B, 0, none⟩ = some (.int .i64 (n : Int))) 12 (by kernel_rfl) (by kernel_rfl) (cell_drew N02) (fun hHeld => ?_)
  refine head_take 0 (v := ?_) rfl (by kernel_rfl) (by kernel_rfl) (fun _ _ _ h => h) (by assumption) (yields_if (by rfl) ?_) ?_
  rotate_left
  focus (intro w' hSw; (try dsimp only at hSw); go_simp; (try with_reducible rfl))
  (try simp only [Act.put, List.setIfInBounds_toArray, List.set_cons_zero, List.set_cons_succ])
  refine head_take 1 (v := ?_) rfl (by kernel_rfl) (by kernel_rfl) (fun _ _ _ h => h) (by assumption) (yields_if (by rfl) ?_) ?_
  rotate_left
  focus (intro w' hSw; (try dsimp only at hSw); go_simp; (try with_reducible rfl))
  (try simp only [Act.put, List.setIfInBounds_toArray, List.set_cons_zero, List.set_cons_succ])
  refine head_take 2 (v := ?_) rfl (by kernel_rfl) (by kernel_rfl) (fun _ _ _ h => h) (by assumption) (yields_if (by rfl) ?_) ?_
  rotate_left
  focus (intro w' hSw; (try dsimp only at hSw); go_simp; (try with_reducible rfl))
  (try simp only [Act.put, List.setIfInBounds_toArray, List.set_cons_zero, List.set_cons_succ])
  refine head_take 4 (v := ?_) rfl (by kernel_rfl) (by kernel_rfl) (fun _ _ _ h => h) (by assumption) (yields_if (by rfl) ?_) ?_
  rotate_left
  focus (intro w' hSw; (try dsimp only at hSw); go_simp; (try with_reducible rfl))
  (try simp only [Act.put, List.setIfInBounds_toArray, List.set_cons_zero, List.set_cons_succ])
  refine head_take 5 (v := ?_) rfl (by kernel_rfl) (by kernel_rfl) (fun _ _ _ h => h) (by assumption) (yields_if (by rfl) ?_) ?_
  rotate_left
  focus (intro w' hSw; (try dsimp only at hSw); go_simp; (try with_reducible rfl))
  (try simp only [Act.put, List.setIfInBounds_toArray, List.set_cons_zero, List.set_cons_succ])
  refine head_take 6 (v := ?_) rfl (by kernel_rfl) (by kernel_rfl) (fun _ _ _ h => h) (by assumption) (yields_if (by rfl) ?_) ?_
  rotate_left
  focus (intro w' hSw; (try dsimp only at hSw); go_simp; (try with_reducible rfl))
  (try simp only [Act.put, List.setIfInBounds_toArray, List.set_cons_zero, List.set_cons_succ])
  refine head_take 9 (v := ?_) rfl (by kernel_rfl) (by kernel_rfl) (fun _ _ _ h => h) (by assumption) (yields_if (by rfl) ?_) ?_
  rotate_left
  focus (intro w' hSw; (try dsimp only at hSw); go_simp; (try with_reducible rfl))
  (try simp only [Act.put, List.setIfInBounds_toArray, List.set_cons_zero, List.set_cons_succ])
  refine head_take 10 (v := ?_) rfl (by kernel_rfl) (by kernel_rfl) (fun _ _ _ h => h) (by assumption) (yields_if (by rfl) ?_) ?_
  rotate_left
  focus (intro w' hSw; (try dsimp only at hSw); go_simp; (try with_reducible rfl))
  (try simp only [Act.put, List.setIfInBounds_toArray, List.set_cons_zero, List.set_cons_succ])
  refine head_one 3 rfl (by kernel_rfl) (fun K hK => ?_)
  go_simp
  (go_at_call 19; ((with_reducible refine (sMakeNum _ _ _ _ _ (HB2.out.ge (Ge.drew (Ge.refl _))) hn0 (by omega)).mono ?_); rintro e w3 ⟨y, rfl, y0, y1, g3⟩))
  have G3 : Ge W1 w3 := Ge.trans (Ge.drew G2) g3
  have ay := tmod_bd (n := n - 1) y0 (by omega)
  rw [show (((n - 1 : Nat)) : Int) = (n : Int) - 1 by omega] at ay
  refine hK.out _ _ (G3.keep N0) (fun hHeld => ?_)
  clear hK K
  (try simp only [Act.put, List.setIfInBounds_toArray, List.set_cons_zero, List.set_cons_succ])
  refine head_take 7 (v := ?_) rfl (by kernel_rfl) (by kernel_rfl) (fun _ _ _ h => h) (by assumption) (yields_if (by rfl) ?_) ?_
  rotate_left
  focus (intro w' hSw; (try dsimp only at hSw); go_simp; (try with_reducible rfl))
  (try simp only [Act.put, List.setIfInBounds_toArray, List.set_cons_zero, List.set_cons_succ])
  generalize y.tmod ((n : Int) - 1) = y' at *
  have tw3 : IntKind.i64.wrap (a + 1 + y') = a + 1 + y' := IntWalk.i64_in _ (by omega)
  have bx := tmod_other (n := n) ⟨a0, a1⟩ ay
  refine head_take 8 (v := ?_) rfl (by kernel_rfl) (by kernel_rfl) (fun _ _ _ h => h) (by assumption) (yields_if (by rfl) ?_) ?_
  rotate_left
  focus (intro w' hSw; (try dsimp only at hSw); go_simp; (try with_reducible rfl))
  (try simp only [Act.put, List.setIfInBounds_toArray, List.set_cons_zero, List.set_cons_succ])
  refine head_take 11 (v := ?_) rfl (by kernel_rfl) (by kernel_rfl) (fun _ _ _ h => h) (by assumption) (yields_if (by rfl) ?_) ?_
  rotate_left
  focus (intro w' hSw; (try dsimp only at hSw); go_simp; (try with_reducible rfl))
  (try simp only [Act.put, List.setIfInBounds_toArray, List.set_cons_zero, List.set_cons_succ])
  generalize (a + 1 + y').tmod (n : Int) = b at *
  refine head_done (by kernel_rfl) ?_
  obtain ⟨b0, b1, hab⟩ := bx
  have HDw := Lib.hid (HD.out.ge G3)
  have n0' := G3.keep N0
  have n1' := G3.keep N1
  have n2' := G3.keep N2
  have n3' := G3.keep N3
  have zB3 : B < w3.heap.size := Nat.lt_of_lt_of_le zB G3.size
  clear N0 N1 N2 N3
  have ha : 0 ≤ a ∧ a < (n : Int) := ⟨a0, a1⟩
  have hb : 0 ≤ b ∧ b < (n : Int) := ⟨b0, b1⟩
  have hba : ¬ b = a := fun e => hab e.symm
  have HSa := Lib.hid (fun (w' : World) (g : Ge w3 w') => dShare (HDw.out.ge g) ha)
  have HEs := Lib.hid (fun (w' : World) (g : Ge w3 w') => dEsc (HDw.out.ge g) ha hb hab)
  have E6 : Hid (ratioOf (sumTo (fun (w : Nat) => wbet xs m a w) 0) (wat xs a m) = ⟨0, 1⟩) := ratio_zero (wat_pos HDr.out ha)
  have hF := for_pos HDr.out hb ha hba
  have hF2 := (for_le HDr.out hb ha).2
  have E7 : Hid (ratioOf (0 + sumTo (fun (w : Nat) => wbet xs m a w * potV n m xs b a w) 0) (wat xs a m * forZ n m xs b a) = ⟨0, 1⟩) := ratio_zero (Int.mul_pos (wat_pos HDr.out ha) hF)
  have L6 := Lib.hid (show ratioOf (sumTo (fun (w : Nat) => wbet xs m a w) n) (wat xs a m) = ⟨1, 1⟩ from by rw [step_all HDr.out ha]; exact ratio_one (wat_pos HDr.out ha))
  have L7 := Lib.hid (show ratioOf (0 + sumTo (fun (w : Nat) => wbet xs m a w * potV n m xs b a w) n) (wat xs a m * forZ n m xs b a) = ratioOf (treeT n m xs) (wat xs a m * forZ n m xs a b) from by rw [away_all HDr.out ha hb hab, forZ_symm n m xs b a, Int.zero_add])
  go_wp2_with ((go_at_call 30; ((with_reducible refine (HSa.out _ (Ge.alloc (Ge.alloc (Ge.refl _) _) _)).mono ?_); rintro e w4 ⟨rfl, g4⟩)); have G4 : Ge w3 w4 := (Ge.trans (Ge.alloc (Ge.alloc (Ge.refl _) _) _) g4); have X6 : Hid (Box2 w4 w3.heap.size ⟨0, 1⟩) := (⟨g4.keep (cell_alloc (cell_new rfl rfl)), g4.keep (cell_alloc (cell_new rfl rfl))⟩); have X7 : Hid (Box2 w4 (w3.heap.size + 1) ⟨0, 1⟩) := (⟨g4.keep (cell_new (by simp) rfl), g4.keep (cell_new (by simp) rfl)⟩); have f60 : w4.frozen? ⟨w3.heap.size, 0, none⟩ = false := (g4.keepF (cell_alloc (cell_new (v := .int .i64 0) rfl rfl)) (Ge.keepF (Ge.alloc (Ge.refl _) _) (cell_new (v := .int .i64 0) rfl rfl) (froz_new (v := .int .i64 0) rfl rfl))); have f61 : w4.frozen? ⟨w3.heap.size, 1, none⟩ = false := (g4.keepF (cell_alloc (cell_new (v := .int .i64 1) rfl rfl)) (Ge.keepF (Ge.alloc (Ge.refl _) _) (cell_new (v := .int .i64 1) rfl rfl) (froz_new (v := .int .i64 1) rfl rfl))); have f70 : w4.frozen? ⟨w3.heap.size + 1, 0, none⟩ = false := (g4.keepF (cell_new (v := .int .i64 0) (by simp) rfl) (froz_new (v := .int .i64 0) (by simp) rfl)); have f71 : w4.frozen? ⟨w3.heap.size + 1, 1, none⟩ = false := (g4.keepF (cell_new (v := .int .i64 1) (by simp) rfl) (froz_new (v := .int .i64 1) (by simp) rfl)); have F60 := (Lib.hid f60); have F61 := (Lib.hid f61); have F70 := (Lib.hid f70); have F71 := (Lib.hid f71); have z4 : w3.heap.size + 1 < w4.heap.size := (World.block_lt_of_cell? _ _ X7.out.1); have n0w := (G4.keep n0'); have zB4 : B < w4.heap.size := (by omega))
  clear f60 f61 f70 f71
  go_loopw [10] (fun i wr => ∃ k : Nat, k ≤ n ∧ i = .int .i64 k ∧ Hid (Box2 wr w3.heap.size (ratioOf (sumTo (fun (w : Nat) => wbet xs m a w) k) (wat xs a m))) ∧ Hid (Box2 wr (w3.heap.size + 1) (ratioOf (0 + sumTo (fun (w : Nat) => wbet xs m a w * potV n m xs b a w) k) (wat xs a m * forZ n m xs b a))) ∧
      wr.frozen? ⟨w3.heap.size, 0, none⟩ = false ∧ wr.frozen? ⟨w3.heap.size, 1, none⟩ = false ∧ wr.frozen? ⟨w3.heap.size + 1, 0, none⟩ = false ∧ wr.frozen? ⟨w3.heap.size + 1, 1, none⟩ = false ∧ Hid (Box2 wr w4.heap.size (ratioOf (wat xs a m) (wtAll xs m))) ∧ Ge w3 wr) (fun i _ => n - (intOf i).toNat)
  case atStart =>
    have gA : ∀ o, Ge w4 (w4.alloc o) := fun o => Ge.alloc (Ge.refl _) o
    exact ⟨0, Nat.zero_le _, rfl, by rw [E6.out]; exact X6.out.ge (gA _), by rw [E7.out]; exact X7.out.ge (gA _), Ge.keepF (gA _) X6.out.1 F60.out, Ge.keepF (gA _) X6.out.2 F61.out, Ge.keepF (gA _) X7.out.1 F70.out, Ge.keepF (gA _) X7.out.2 F71.out, Box2.new _ _ _, G4.trans (gA _)⟩
  case round =>
    clear X6 X7 F60 F61 F70 F71 E6 E7 n0w
    obtain ⟨k, hk, rfl, X6, X7, f60, f61, f70, f71, X8, hg⟩ := hrel
    have m0 := hg.keep n0'
    have m1 := hg.keep n1'
    have m2 := hg.keep n2'
    have m3 := hg.keep n3'
    have z8 := World.block_lt_of_cell? _ _ X8.out.1
    simp only at z8
    have zBr : B < wr.heap.size := by omega
    have z6r : w3.heap.size < wr.heap.size := by omega
    have z7r : w3.heap.size + 1 < wr.heap.size := by omega
    by_cases hlt : k < n
    · have kb : 0 ≤ (k : Int) ∧ (k : Int) < (n : Int) := by omega
      have HP := Lib.hid (fun (w' : World) (g : Ge w3 w') => dStep (HDw.out.ge g) ha kb)
      have HQ := Lib.hid (fun (w' : World) (g : Ge w3 w') => dStep (HDw.out.ge g) kb ha)
      have HS := Lib.hid (fun (w' : World) (g : Ge w3 w') => dShare (HDw.out.ge g) kb)
      have HH := Lib.hid (fun (w' : World) (g : Ge w3 w') => dHit (HDw.out.ge g) kb hb ha hba)
      have HT1 := Lib.hid (qTimes (share_same HDr.out ha kb))
      have HT2 := Lib.hid (qTimes (rfl : ratioTimes (ratioOf (wat xs k m) (wtAll xs m)) (ratioOf (wbet xs m k a) (wat xs k m)) = _))
      have HSm := Lib.hid (qSum (step_next HDr.out ha hlt))
      have HT3 := Lib.hid (qTimes (rfl : ratioTimes (ratioOf (wbet xs m a k) (wat xs a m)) (ratioOf (potV n m xs b a k) (forZ n m xs b a)) = _))
      have HSa2 := Lib.hid (qSum (mean_next HDr.out ha (fun (w : Nat) => potV n m xs b a w) (F := forZ n m xs b a) (z := 0) (by omega) (fun u hu => by have := pot_bd HDr.out hb ha (v := (u : Int)) (by omega) hba; omega) (by omega) hlt))
      generalize ratioOf (sumTo (fun (w : Nat) => wbet xs m a w) k) (wat xs a m) = A6 at *
      obtain ⟨A6', hA6⟩ : ∃ r, ratioOf (sumTo (fun (w : Nat) => wbet xs m a w) (k + 1)) (wat xs a m) = r := ⟨_, rfl⟩
      obtain ⟨A7', hA7⟩ : ∃ r, ratioOf (0 + sumTo (fun (w : Nat) => wbet xs m a w * potV n m xs b a w) (k + 1)) (wat xs a m * forZ n m xs b a) = r := ⟨_, rfl⟩
      rw [hA6] at HSm
      rw [hA7] at HSa2
      have HA6 := Lib.hid hA6
      have HA7 := Lib.hid hA7
      clear hA6 hA7
      generalize ratioOf (0 + sumTo (fun (w : Nat) => wbet xs m a w * potV n m xs b a w) k) (wat xs a m * forZ n m xs b a) = A7 at *
      generalize ratioOf (wat xs a m) (wtAll xs m) = SH at *
      generalize ratioOf (wbet xs m a k) (wat xs a m) = P at *
      generalize ratioOf (wbet xs m k a) (wat xs k m) = Q at *
      generalize ratioOf (wat xs k m) (wtAll xs m) = SK at *
      generalize ratioOf (potV n m xs b a k) (forZ n m xs b a) = H at *
      generalize ratioTimes SK Q = XX at *
      generalize ratioTimes P H = ZZ at *
      go_wp2_with ((go_at_call 31; ((with_reducible refine (HP.out _ hg).mono ?_); rintro e w5 ⟨rfl, g5⟩)); have G5 : Ge w3 w5 := (hg.trans g5); have m0 := (g5.keep m0); have m1 := (g5.keep m1); have m2 := (g5.keep m2); have m3 := (g5.keep m3); have zB5 : B < w5.heap.size := (Nat.lt_of_lt_of_le zBr g5.size))
      go_wp2_with ((go_at_call 31; ((with_reducible refine (HQ.out _ (Ge.alloc G5 _)).mono ?_); rintro e w6 ⟨rfl, g6⟩)); have P6 := (Lib.hid ((Box2.new w5 P _).ge g6)); have G6 : Ge w5 w6 := (Ge.trans (Ge.alloc (Ge.refl _) _) g6); have m0 := (G6.keep m0); have m1 := (G6.keep m1); have m2 := (G6.keep m2); have m3 := (G6.keep m3); have zB6 : B < w6.heap.size := (Nat.lt_of_lt_of_le zB5 G6.size))
      go_wp2_with ((go_at_call 30; ((with_reducible refine (HS.out _ (Ge.alloc (G5.trans G6) _)).mono ?_); rintro e w7 ⟨rfl, g7⟩)); have Q7 := (Lib.hid ((Box2.new w6 Q _).ge g7)); have G7 : Ge w6 w7 := (Ge.trans (Ge.alloc (Ge.refl _) _) g7); have m0 := (G7.keep m0); have m1 := (G7.keep m1); have m2 := (G7.keep m2); have m3 := (G7.keep m3); have zB7 : B < w7.heap.size := (Nat.lt_of_lt_of_le zB6 G7.size))
      go_wp2_with ((go_at_call 32; ((with_reducible refine (HH.out _ (Ge.alloc ((G5.trans G6).trans G7) _)).mono ?_); rintro e w8 ⟨rfl, g8⟩)); have S8 := ((Box2.new w7 SK _).ge g8); have G8 : Ge w7 w8 := (Ge.trans (Ge.alloc (Ge.refl _) _) g8); have P8 := (P6.out.ge (G7.trans G8)); have Q8 := (Q7.out.ge G8); have GA : Ge wr w8 := (((g5.trans G6).trans G7).trans G8); have U8 := (X8.out.ge GA); obtain ⟨S80, S81⟩ := (S8); obtain ⟨P80, P81⟩ := (P8); obtain ⟨Q80, Q81⟩ := (Q8); obtain ⟨U80, U81⟩ := (U8))
      have hS : ∀ w', Ge (w8.alloc (.cells #[.int .i64 H.n, .int .i64 H.d] 39)) w' → (w'.cell? ⟨w4.heap.size, 0, none⟩ = some (.int .i64 SH.n) ∧ w'.cell? ⟨w4.heap.size, 1, none⟩ = some (.int .i64 SH.d) ∧ w'.cell? ⟨w5.heap.size, 0, none⟩ = some (.int .i64 P.n) ∧ w'.cell? ⟨w5.heap.size, 1, none⟩ = some (.int .i64 P.d) ∧ w'.cell? ⟨w7.heap.size, 0, none⟩ = some (.int .i64 SK.n) ∧ w'.cell? ⟨w7.heap.size, 1, none⟩ = some (.int .i64 SK.d) ∧ w'.cell? ⟨w6.heap.size, 0, none⟩ = some (.int .i64 Q.n) ∧ w'.cell? ⟨w6.heap.size, 1, none⟩ = some (.int .i64 Q.d) ∧ w'.cell? ⟨w8.heap.size, 0, none⟩ = some (.int .i64 H.n) ∧ w'.cell? ⟨w8.heap.size, 1, none⟩ = some (.int .i64 H.d) ∧ Ge w8 w') := fun w' g => ⟨g.keep (by (repeat (first | assumption | with_reducible exact Ge.refl _ | with_reducible refine cv_drew ?_ | with_reducible refine cv_alloc ?_ | with_reducible refine cv_set ?_ | (with_reducible apply cv_some; assumption) | with_reducible refine cell_drew ?_ | with_reducible refine cell_drewN ?_ | ((with_reducible refine cell_new ?_ ?_); (focus (simp; done)); rfl) | with_reducible refine cell_alloc ?_ | with_reducible refine cell_same2 ?_ | ((with_reducible refine cell_set2 ?_ ?_); focus (first | (simp; done) | (intro hE; simp at hE; done) | (intro hE; simp at hE; omega))) | with_reducible refine Ge.drew ?_ | with_reducible refine Ge.drewN ?_ _ | with_reducible refine Ge.alloc ?_ _ | ((with_reducible refine Ge.setCell ?_ ?_ _); rotate_left; focus (first | (simp; done) | omega | (simp; omega))) | with_reducible refine Ge.trans ?_ (by assumption) | with_reducible refine Ge.keep (by assumption) ?_))), g.keep (by (repeat (first | assumption | with_reducible exact Ge.refl _ | with_reducible refine cv_drew ?_ | with_reducible refine cv_alloc ?_ | with_reducible refine cv_set ?_ | (with_reducible apply cv_some; assumption) | with_reducible refine cell_drew ?_ | with_reducible refine cell_drewN ?_ | ((with_reducible refine cell_new ?_ ?_); (focus (simp; done)); rfl) | with_reducible refine cell_alloc ?_ | with_reducible refine cell_same2 ?_ | ((with_reducible refine cell_set2 ?_ ?_); focus (first | (simp; done) | (intro hE; simp at hE; done) | (intro hE; simp at hE; omega))) | with_reducible refine Ge.drew ?_ | with_reducible refine Ge.drewN ?_ _ | with_reducible refine Ge.alloc ?_ _ | ((with_reducible refine Ge.setCell ?_ ?_ _); rotate_left; focus (first | (simp; done) | omega | (simp; omega))) | with_reducible refine Ge.trans ?_ (by assumption) | with_reducible refine Ge.keep (by assumption) ?_))), g.keep (by (repeat (first | assumption | with_reducible exact Ge.refl _ | with_reducible refine cv_drew ?_ | with_reducible refine cv_alloc ?_ | with_reducible refine cv_set ?_ | (with_reducible apply cv_some; assumption) | with_reducible refine cell_drew ?_ | with_reducible refine cell_drewN ?_ | ((with_reducible refine cell_new ?_ ?_); (focus (simp; done)); rfl) | with_reducible refine cell_alloc ?_ | with_reducible refine cell_same2 ?_ | ((with_reducible refine cell_set2 ?_ ?_); focus (first | (simp; done) | (intro hE; simp at hE; done) | (intro hE; simp at hE; omega))) | with_reducible refine Ge.drew ?_ | with_reducible refine Ge.drewN ?_ _ | with_reducible refine Ge.alloc ?_ _ | ((with_reducible refine Ge.setCell ?_ ?_ _); rotate_left; focus (first | (simp; done) | omega | (simp; omega))) | with_reducible refine Ge.trans ?_ (by assumption) | with_reducible refine Ge.keep (by assumption) ?_))), g.keep (by (repeat (first | assumption | with_reducible exact Ge.refl _ | with_reducible refine cv_drew ?_ | with_reducible refine cv_alloc ?_ | with_reducible refine cv_set ?_ | (with_reducible apply cv_some; assumption) | with_reducible refine cell_drew ?_ | with_reducible refine cell_drewN ?_ | ((with_reducible refine cell_new ?_ ?_); (focus (simp; done)); rfl) | with_reducible refine cell_alloc ?_ | with_reducible refine cell_same2 ?_ | ((with_reducible refine cell_set2 ?_ ?_); focus (first | (simp; done) | (intro hE; simp at hE; done) | (intro hE; simp at hE; omega))) | with_reducible refine Ge.drew ?_ | with_reducible refine Ge.drewN ?_ _ | with_reducible refine Ge.alloc ?_ _ | ((with_reducible refine Ge.setCell ?_ ?_ _); rotate_left; focus (first | (simp; done) | omega | (simp; omega))) | with_reducible refine Ge.trans ?_ (by assumption) | with_reducible refine Ge.keep (by assumption) ?_))), g.keep (by (repeat (first | assumption | with_reducible exact Ge.refl _ | with_reducible refine cv_drew ?_ | with_reducible refine cv_alloc ?_ | with_reducible refine cv_set ?_ | (with_reducible apply cv_some; assumption) | with_reducible refine cell_drew ?_ | with_reducible refine cell_drewN ?_ | ((with_reducible refine cell_new ?_ ?_); (focus (simp; done)); rfl) | with_reducible refine cell_alloc ?_ | with_reducible refine cell_same2 ?_ | ((with_reducible refine cell_set2 ?_ ?_); focus (first | (simp; done) | (intro hE; simp at hE; done) | (intro hE; simp at hE; omega))) | with_reducible refine Ge.drew ?_ | with_reducible refine Ge.drewN ?_ _ | with_reducible refine Ge.alloc ?_ _ | ((with_reducible refine Ge.setCell ?_ ?_ _); rotate_left; focus (first | (simp; done) | omega | (simp; omega))) | with_reducible refine Ge.trans ?_ (by assumption) | with_reducible refine Ge.keep (by assumption) ?_))), g.keep (by (repeat (first | assumption | with_reducible exact Ge.refl _ | with_reducible refine cv_drew ?_ | with_reducible refine cv_alloc ?_ | with_reducible refine cv_set ?_ | (with_reducible apply cv_some; assumption) | with_reducible refine cell_drew ?_ | with_reducible refine cell_drewN ?_ | ((with_reducible refine cell_new ?_ ?_); (focus (simp; done)); rfl) | with_reducible refine cell_alloc ?_ | with_reducible refine cell_same2 ?_ | ((with_reducible refine cell_set2 ?_ ?_); focus (first | (simp; done) | (intro hE; simp at hE; done) | (intro hE; simp at hE; omega))) | with_reducible refine Ge.drew ?_ | with_reducible refine Ge.drewN ?_ _ | with_reducible refine Ge.alloc ?_ _ | ((with_reducible refine Ge.setCell ?_ ?_ _); rotate_left; focus (first | (simp; done) | omega | (simp; omega))) | with_reducible refine Ge.trans ?_ (by assumption) | with_reducible refine Ge.keep (by assumption) ?_))), g.keep (by (repeat (first | assumption | with_reducible exact Ge.refl _ | with_reducible refine cv_drew ?_ | with_reducible refine cv_alloc ?_ | with_reducible refine cv_set ?_ | (with_reducible apply cv_some; assumption) | with_reducible refine cell_drew ?_ | with_reducible refine cell_drewN ?_ | ((with_reducible refine cell_new ?_ ?_); (focus (simp; done)); rfl) | with_reducible refine cell_alloc ?_ | with_reducible refine cell_same2 ?_ | ((with_reducible refine cell_set2 ?_ ?_); focus (first | (simp; done) | (intro hE; simp at hE; done) | (intro hE; simp at hE; omega))) | with_reducible refine Ge.drew ?_ | with_reducible refine Ge.drewN ?_ _ | with_reducible refine Ge.alloc ?_ _ | ((with_reducible refine Ge.setCell ?_ ?_ _); rotate_left; focus (first | (simp; done) | omega | (simp; omega))) | with_reducible refine Ge.trans ?_ (by assumption) | with_reducible refine Ge.keep (by assumption) ?_))), g.keep (by (repeat (first | assumption | with_reducible exact Ge.refl _ | with_reducible refine cv_drew ?_ | with_reducible refine cv_alloc ?_ | with_reducible refine cv_set ?_ | (with_reducible apply cv_some; assumption) | with_reducible refine cell_drew ?_ | with_reducible refine cell_drewN ?_ | ((with_reducible refine cell_new ?_ ?_); (focus (simp; done)); rfl) | with_reducible refine cell_alloc ?_ | with_reducible refine cell_same2 ?_ | ((with_reducible refine cell_set2 ?_ ?_); focus (first | (simp; done) | (intro hE; simp at hE; done) | (intro hE; simp at hE; omega))) | with_reducible refine Ge.drew ?_ | with_reducible refine Ge.drewN ?_ _ | with_reducible refine Ge.alloc ?_ _ | ((with_reducible refine Ge.setCell ?_ ?_ _); rotate_left; focus (first | (simp; done) | omega | (simp; omega))) | with_reducible refine Ge.trans ?_ (by assumption) | with_reducible refine Ge.keep (by assumption) ?_))), g.keep (by (repeat (first | assumption | with_reducible exact Ge.refl _ | with_reducible refine cv_drew ?_ | with_reducible refine cv_alloc ?_ | with_reducible refine cv_set ?_ | (with_reducible apply cv_some; assumption) | with_reducible refine cell_drew ?_ | with_reducible refine cell_drewN ?_ | ((with_reducible refine cell_new ?_ ?_); (focus (simp; done)); rfl) | with_reducible refine cell_alloc ?_ | with_reducible refine cell_same2 ?_ | ((with_reducible refine cell_set2 ?_ ?_); focus (first | (simp; done) | (intro hE; simp at hE; done) | (intro hE; simp at hE; omega))) | with_reducible refine Ge.drew ?_ | with_reducible refine Ge.drewN ?_ _ | with_reducible refine Ge.alloc ?_ _ | ((with_reducible refine Ge.setCell ?_ ?_ _); rotate_left; focus (first | (simp; done) | omega | (simp; omega))) | with_reducible refine Ge.trans ?_ (by assumption) | with_reducible refine Ge.keep (by assumption) ?_))), g.keep (by (repeat (first | assumption | with_reducible exact Ge.refl _ | with_reducible refine cv_drew ?_ | with_reducible refine cv_alloc ?_ | with_reducible refine cv_set ?_ | (with_reducible apply cv_some; assumption) | with_reducible refine cell_drew ?_ | with_reducible refine cell_drewN ?_ | ((with_reducible refine cell_new ?_ ?_); (focus (simp; done)); rfl) | with_reducible refine cell_alloc ?_ | with_reducible refine cell_same2 ?_ | ((with_reducible refine cell_set2 ?_ ?_); focus (first | (simp; done) | (intro hE; simp at hE; done) | (intro hE; simp at hE; omega))) | with_reducible refine Ge.drew ?_ | with_reducible refine Ge.drewN ?_ _ | with_reducible refine Ge.alloc ?_ _ | ((with_reducible refine Ge.setCell ?_ ?_ _); rotate_left; focus (first | (simp; done) | omega | (simp; omega))) | with_reducible refine Ge.trans ?_ (by assumption) | with_reducible refine Ge.keep (by assumption) ?_))), Ge.trans (by (repeat (first | assumption | with_reducible exact Ge.refl _ | with_reducible refine cv_drew ?_ | with_reducible refine cv_alloc ?_ | with_reducible refine cv_set ?_ | (with_reducible apply cv_some; assumption) | with_reducible refine cell_drew ?_ | with_reducible refine cell_drewN ?_ | ((with_reducible refine cell_new ?_ ?_); (focus (simp; done)); rfl) | with_reducible refine cell_alloc ?_ | with_reducible refine cell_same2 ?_ | ((with_reducible refine cell_set2 ?_ ?_); focus (first | (simp; done) | (intro hE; simp at hE; done) | (intro hE; simp at hE; omega))) | with_reducible refine Ge.drew ?_ | with_reducible refine Ge.drewN ?_ _ | with_reducible refine Ge.alloc ?_ _ | ((with_reducible refine Ge.setCell ?_ ?_ _); rotate_left; focus (first | (simp; done) | omega | (simp; omega))) | with_reducible refine Ge.trans ?_ (by assumption) | with_reducible refine Ge.keep (by assumption) ?_))) g⟩
      go_region_held3 (fun w' => w'.cell? ⟨w4.heap.size, 0, none⟩ = some (.int .i64 SH.n) ∧ w'.cell? ⟨w4.heap.size, 1, none⟩ = some (.int .i64 SH.d) ∧ w'.cell? ⟨w5.heap.size, 0, none⟩ = some (.int .i64 P.n) ∧ w'.cell? ⟨w5.heap.size, 1, none⟩ = some (.int .i64 P.d) ∧ w'.cell? ⟨w7.heap.size, 0, none⟩ = some (.int .i64 SK.n) ∧ w'.cell? ⟨w7.heap.size, 1, none⟩ = some (.int .i64 SK.d) ∧ w'.cell? ⟨w6.heap.size, 0, none⟩ = some (.int .i64 Q.n) ∧ w'.cell? ⟨w6.heap.size, 1, none⟩ = some (.int .i64 Q.d) ∧ w'.cell? ⟨w8.heap.size, 0, none⟩ = some (.int .i64 H.n) ∧ w'.cell? ⟨w8.heap.size, 1, none⟩ = some (.int .i64 H.d) ∧ Ge w8 w') (first | ((with_reducible refine hS _ ?_); (repeat (first | assumption | with_reducible exact Ge.refl _ | with_reducible refine cv_drew ?_ | with_reducible refine cv_alloc ?_ | with_reducible refine cv_set ?_ | (with_reducible apply cv_some; assumption) | with_reducible refine cell_drew ?_ | with_reducible refine cell_drewN ?_ | ((with_reducible refine cell_new ?_ ?_); (focus (simp; done)); rfl) | with_reducible refine cell_alloc ?_ | with_reducible refine cell_same2 ?_ | ((with_reducible refine cell_set2 ?_ ?_); focus (first | (simp; done) | (intro hE; simp at hE; done) | (intro hE; simp at hE; omega))) | with_reducible refine Ge.drew ?_ | with_reducible refine Ge.drewN ?_ _ | with_reducible refine Ge.alloc ?_ _ | ((with_reducible refine Ge.setCell ?_ ?_ _); rotate_left; focus (first | (simp; done) | omega | (simp; omega))) | with_reducible refine Ge.trans ?_ (by assumption) | with_reducible refine Ge.keep (by assumption) ?_)); done) | fail) (first | (go_at_call 27; ((with_reducible refine (HT1.out _).mono ?_); rintro e w9 ⟨rfl, g9⟩)) | (go_at_call 27; ((with_reducible refine (HT2.out _).mono ?_); rintro e w10 ⟨rfl, g10⟩)) | fail)
      rename_i hHeldX
      obtain ⟨q0, q1, q2, q3, q4, q5, q6, q7, q8, q9, G10⟩ := hHeldX
      clear hS
      have GB := GA.trans G10
      obtain ⟨s0, s1⟩ := X6.out.ge GB
      have f60 := GB.keepF X6.out.1 f60
      have f61 := GB.keepF X6.out.2 f61
      have f70 := GB.keepF X7.out.1 f70
      have f71 := GB.keepF X7.out.2 f71
      have P10 : Hid (Box2 _ w5.heap.size P) := ⟨q2, q3⟩
      have H10 : Hid (Box2 _ w8.heap.size H) := ⟨q8, q9⟩
      have V10 := Lib.hid (X7.out.ge GB)
      have U10 := Lib.hid (X8.out.ge GB)
      clear q0 q1 q4 q5 q6 q7 q8 q9 S80 S81 P80 P81 Q80 Q81 U80 U81 m0 m1 m2 m3
      have z5w : w3.heap.size + 1 < w5.heap.size := Nat.lt_of_lt_of_le z7r g5.size
      have z8w : w3.heap.size + 1 < w8.heap.size := Nat.lt_of_lt_of_le z7r GA.size
      have z4w : w3.heap.size + 1 < w4.heap.size := z4
      go_wp2_with ((go_at_call 29; ((with_reducible refine (HSm.out _).mono ?_); rintro e w11 ⟨rfl, g11⟩)); have s0 := g11.keep s0; have s1 := g11.keep s1; have f60' := g11.keepF (GB.keep X6.out.1) f60; have f61' := g11.keepF (GB.keep X6.out.2) f61)
      have GC : Ge wr w11 := GB.trans g11
      have V11 := (V10.out.ge g11).set (d := w3.heap.size) (x := .int .i64 A6'.n) (y := .int .i64 A6'.d) (by omega)
      have P11 := (P10.out.ge g11).set (d := w3.heap.size) (x := .int .i64 A6'.n) (y := .int .i64 A6'.d) (by omega)
      have H11 := (H10.out.ge g11).set (d := w3.heap.size) (x := .int .i64 A6'.n) (y := .int .i64 A6'.d) (by omega)
      have U11 := (U10.out.ge g11).set (d := w3.heap.size) (x := .int .i64 A6'.n) (y := .int .i64 A6'.d) (by omega)
      have S11 := Box2.put (w := w11) (b := w3.heap.size) (r := A6) ⟨s0, s1⟩ A6'
      have f70' := froz_set (b := ⟨w3.heap.size, 1, none⟩) (u := .int .i64 A6'.d) (froz_set (b := ⟨w3.heap.size, 0, none⟩) (u := .int .i64 A6'.n) (g11.keepF V10.out.1 f70))
      have f71' := froz_set (b := ⟨w3.heap.size, 1, none⟩) (u := .int .i64 A6'.d) (froz_set (b := ⟨w3.heap.size, 0, none⟩) (u := .int .i64 A6'.n) (g11.keepF V10.out.2 f71))
      have f60w := froz_set (b := ⟨w3.heap.size, 1, none⟩) (u := .int .i64 A6'.d) (froz_set (b := ⟨w3.heap.size, 0, none⟩) (u := .int .i64 A6'.n) f60')
      have f61w := froz_set (b := ⟨w3.heap.size, 1, none⟩) (u := .int .i64 A6'.d) (froz_set (b := ⟨w3.heap.size, 0, none⟩) (u := .int .i64 A6'.n) f61')
      have GD : Ge w3 ((w11.setCell ⟨w3.heap.size, 0, none⟩ (.int .i64 A6'.n)).setCell ⟨w3.heap.size, 1, none⟩ (.int .i64 A6'.d)) := Ge.setCell (Ge.setCell (hg.trans GC) (Nat.le_refl _) _) (Nat.le_refl _) _
      generalize ((w11.setCell ⟨w3.heap.size, 0, none⟩ (.int .i64 A6'.n)).setCell ⟨w3.heap.size, 1, none⟩ (.int .i64 A6'.d)) = WS at *
      refine wp_region_head (S := fun w' => w'.cell? ⟨w3.heap.size + 1, 0, none⟩ = some (.int .i64 A7.n) ∧ w'.cell? ⟨w3.heap.size + 1, 1, none⟩ = some (.int .i64 A7.d) ∧ w'.cell? ⟨w5.heap.size, 0, none⟩ = some (.int .i64 P.n) ∧ w'.cell? ⟨w5.heap.size, 1, none⟩ = some (.int .i64 P.d) ∧ w'.cell? ⟨w8.heap.size, 0, none⟩ = some (.int .i64 H.n) ∧ w'.cell? ⟨w8.heap.size, 1, none⟩ = some (.int .i64 H.d)) 5 (by kernel_rfl) (by kernel_rfl) (⟨cell_drew V11.1, cell_drew V11.2, cell_drew P11.1, cell_drew P11.2, cell_drew H11.1, cell_drew H11.2⟩) (fun hHeld => ?_)
      refine head_take 0 (v := ?_) rfl (by kernel_rfl) (by kernel_rfl) (fun _ _ _ h => h) (by assumption) (yields_if (by rfl) ?_) ?_
      rotate_left
      focus (intro w' hSw; (try dsimp only at hSw); go_simp; (try with_reducible rfl))
      (try simp only [Act.put, List.setIfInBounds_toArray, List.set_cons_zero, List.set_cons_succ])
      refine head_take 1 (v := ?_) rfl (by kernel_rfl) (by kernel_rfl) (fun _ _ _ h => h) (by assumption) (yields_if (by rfl) ?_) ?_
      rotate_left
      focus (intro w' hSw; (try dsimp only at hSw); go_simp; (try with_reducible rfl))
      (try simp only [Act.put, List.setIfInBounds_toArray, List.set_cons_zero, List.set_cons_succ])
      refine head_take 2 (v := ?_) rfl (by kernel_rfl) (by kernel_rfl) (fun _ _ _ h => h) (by assumption) (yields_if (by rfl) ?_) ?_
      rotate_left
      focus (intro w' hSw; (try dsimp only at hSw); go_simp; (try with_reducible rfl))
      (try simp only [Act.put, List.setIfInBounds_toArray, List.set_cons_zero, List.set_cons_succ])
      refine head_one 3 rfl (by kernel_rfl) (fun K hK => ?_)
      go_simp
      (go_at_call 27; ((with_reducible refine (HT3.out _).mono ?_); rintro e w12 ⟨rfl, g12⟩))
      have G12 : Ge WS w12 := Ge.trans (Ge.drew (Ge.refl _)) g12
      refine hK.out _ _ ⟨G12.keep V11.1, G12.keep V11.2, G12.keep P11.1, G12.keep P11.2, G12.keep H11.1, G12.keep H11.2⟩ (fun hHeld => ?_)
      clear hK K
      (try simp only [Act.put, List.setIfInBounds_toArray, List.set_cons_zero, List.set_cons_succ])
      refine head_one 4 rfl (by kernel_rfl) (fun K hK => ?_)
      go_simp
      (go_at_call 29; ((with_reducible refine (HSa2.out _).mono ?_); rintro e w13 ⟨rfl, g13⟩))
      have G13 : Ge WS w13 := G12.trans g13
      have v0 := G13.keep V11.1
      have v1 := G13.keep V11.2
      have f70e := G13.keepF V11.1 f70'
      have f71e := G13.keepF V11.2 f71'
      refine hK.out _ _ ⟨v0, v1, G13.keep P11.1, G13.keep P11.2, G13.keep H11.1, G13.keep H11.2⟩ (fun hHeld => ?_)
      clear hK K
      (try simp only [Act.put, List.setIfInBounds_toArray, List.set_cons_zero, List.set_cons_succ])
      refine head_done (by kernel_rfl) ?_
      go_wp2_with fail
      go_roundw
      case rel => exact ⟨k + 1, by omega, by go_num, by rw [HA6.out]; exact (S11.ge G13).set (by omega), by rw [HA7.out]; exact Box2.put (r := A7) ⟨v0, v1⟩ A7', froz_set (froz_set (G13.keepF S11.1 f60w)), froz_set (froz_set (G13.keepF S11.2 f61w)), froz_set (froz_set f70e), froz_set (froz_set f71e), (U11.ge G13).set (by omega), Ge.setCell (Ge.setCell (GD.trans G13) (by simp) _) (by simp) _⟩
      case measure => simp [intOf]; omega
    · have hkn : n = k := by omega
      subst hkn
      rw [L6.out] at X6
      rw [L7.out] at X7
      generalize ratioOf (treeT n m xs) (wat xs a m * forZ n m xs a b) = ER at *
      go_wp2_with ((go_at_call 33; ((with_reducible refine (HEs.out _ hg).mono ?_); rintro e w5 ⟨rfl, g5⟩)); obtain ⟨s0, s1⟩ := X6.out.ge g5; obtain ⟨v0, v1⟩ := X7.out.ge g5; have z6e : w3.heap.size < w5.heap.size := Nat.lt_of_lt_of_le z6r g5.size; have z7e : w3.heap.size + 1 < w5.heap.size := Nat.lt_of_lt_of_le z7r g5.size)
      go_ret
      exact ⟨rfl, by first | exact Ge.alloc (((gW.trans G3).trans hg).trans g5) _ | exact ((gW.trans G3).trans hg).trans g5⟩
end Go.Proofs.Ytoidbmlapdbjdaa

namespace Go.Proofs.Ytoidbmlapdbjdaa

open Go.ChangeShapes Go.WideShapes Go.ChangeAt Go.RowKit Go.Joins

theorem fnWalks_cells_byte : Try.prog.cellsOf 5 = 1 := by kernel_rfl

set_option maxRecDepth 100000 in
theorem fnWalks_lifted (os : Os) (started : os.Started) (H : Type) (enc : TypeId × Value → H) :
    ReturnsInHanded {} Try.checked os 6 .any (Rows.fnWalksSpec.pre6 enc Try.prog Try.f6 Rows.fnWalksRow.domain false) (Rows.fnWalksSpec.post enc Try.prog Try.f6 false true false false) := by
  refine returnsInHanded_of_change (C := Try.checked) own_knob started (by kernel_rfl) Try.func6
    (ChangeSpec.witness6 (enc := enc) (C := Try.checked) false ⟨#[], #[.slice none 0 0], []⟩ 8 (by kernel_rfl) (by kernel_rfl) (by kernel_rfl) (by kernel_rfl)) ?_
  intro W base args ds gs before hval0 hW hcnd _
  have hval : ∀ (j : Nat) t v, Try.f6.params[j]? = some t → args[j]? = some v → Value.okWide Try.prog W .any base t v := hval0
  have hW' := hW
  obtain ⟨p, q, hA0, hV, rfl, hfz, hnd⟩ := hW
  have hA : DataW.TrodAll enc Try.prog W 0 (fun _ => true) true Try.f6.params.toList args.toList ds p := hA0
  rw [Try.params6] at hA hval
  obtain ⟨v0, d0, rfl, rfl, h0⟩ := trodAll_one hA
  obtain ⟨rfl, rfl⟩ := trodVars_none hV
  obtain ⟨pa, na, ca, rfl, sa, ma⟩ := arg_bytes Try.underlying28 Try.underlying5 fnWalks_cells_byte (hval 0 28 v0 rfl rfl) h0
  clear hA0 hval0
  exact (lFnWalks pa na ca W sa ma).mono fun e W' ⟨he, hg⟩ =>
    law_done (B := 4) he laid_out (by kernel_rfl) Try.underlying4 (by kernel_rfl) hW' rfl rfl hg

theorem fnWalks_holds : Rows.FnWalksSaid :=
  OpenClaim.holds_of_wide 6 Try.f6 rfl rfl rfl rfl rfl rfl rfl ⟨rfl, rfl, rfl, rfl, rfl⟩ rfl rfl rfl rfl rfl (by kernel_rfl) Try.func6 (by kernel_rfl)
    (of_decide_eq_true (by kernel_rfl)) (by unfold Func.isWrapper; first | (rw [if_pos (by decide +kernel)]; kernel_rfl) | (rw [if_neg (by decide +kernel)]; exact ⟨rfl, rfl⟩))
    (fun os started H enc _ => fnWalks_lifted os started H enc)
#print axioms fnWalks_holds

end Go.Proofs.Ytoidbmlapdbjdaa
