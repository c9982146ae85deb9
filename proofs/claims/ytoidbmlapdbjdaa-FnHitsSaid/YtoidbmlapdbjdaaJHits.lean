/- FnHits, walked. No condition. The law FnHits returns true for all arguments. No condition. -/
import Derived.Test.YtoidbmlapdbjdaaJDrw
import Derived.Test.YtoidbmlapdbjdaaRBase
import Derived.Test.YtoidbmlapdbjdaaRBytes
namespace Go.Proofs.Ytoidbmlapdbjdaa
set_option maxRecDepth 100000
open Go.ChangeShapes Go.WideShapes Go.ChangeAt Go.RowKit Go.Joins

set_option maxHeartbeats 12800000 in
theorem lFnHits (p : Option Addr) (n0 cap : Nat) (w : World) (hb : SlB w p n0) (hm0 : n0 ≤ 9223372036854775807) : Calls Try.prog 7 #[.slice p n0 cap] w fun e w' => e = .returned (.bool true) ∧ Ge w w' := by
  by_cases hbig : 1048576 < n0
  · clear hb
    go_enter Try.func7, Try.ntmps7
    go_wp2_with fail
    go_ret
    exact ⟨rfl, Ge.refl _⟩
  have hn0 : n0 ≤ 1048576 := by omega
  have HB := Lib.hid hb
  clear hb hm0
  go_enter Try.func7, Try.ntmps7
  go_wp2_with ((go_at_call 24; ((with_reducible refine (dMake _ _ _ _ HB.out hn0).mono ?_); rintro e w1 ⟨n, E, S, m, xs, q, c, rfl, hdn, g1⟩)); have h2 := (hdn.dr.two); have h5 := (hdn.dr.five); have hm := (hdn.m10); have HDr := (Lib.hid hdn.dr); have N0 : (w1.alloc (.cells #[.int .i64 (n : Int), .int .i64 E, .int .i64 S, .slice q m c] 36)).cell? ⟨w1.heap.size, 0, none⟩ = some (.int .i64 (n : Int)) := (cell_new rfl rfl); have N1 : (w1.alloc (.cells #[.int .i64 (n : Int), .int .i64 E, .int .i64 S, .slice q m c] 36)).cell? ⟨w1.heap.size, 1, none⟩ = some (.int .i64 E) := (cell_new rfl rfl); have N2 : (w1.alloc (.cells #[.int .i64 (n : Int), .int .i64 E, .int .i64 S, .slice q m c] 36)).cell? ⟨w1.heap.size, 2, none⟩ = some (.int .i64 S) := (cell_new rfl rfl); have N3 : (w1.alloc (.cells #[.int .i64 (n : Int), .int .i64 E, .int .i64 S, .slice q m c] 36)).cell? ⟨w1.heap.size, 3, none⟩ = some (.slice q m c) := (cell_new rfl rfl); have HD := (Lib.hid (hdn.ge (Ge.alloc (Ge.refl w1) (.cells #[.int .i64 (n : Int), .int .i64 E, .int .i64 S, .slice q m c] 36)))); have gW : Ge w (w1.alloc (.cells #[.int .i64 (n : Int), .int .i64 E, .int .i64 S, .slice q m c] 36)) := (Ge.alloc g1 _); have HBw := (Lib.hid (HB.out.ge gW)))
  clear hdn g1 HB
  generalize w1.heap.size = B at *
  generalize (w1.alloc (.cells #[.int .i64 (n : Int), .int .i64 E, .int .i64 S, .slice q m c] 36)) = W1 at *
  have zB := World.block_lt_of_cell? _ _ N0
  simp only at zB
  have nz : ((n : Int) == 0) = false := by simp; omega
  have nz' : ¬ (n : Int) = 0 := by omega
  have nzN : ¬ n = 0 := by omega
  have nzM : ¬ (n : Int) = 1 := by omega
  have nzK : ¬ n = 1 := by omega
  have M0 := Lib.hid N0
  have M1 := Lib.hid N1
  have M2 := Lib.hid N2
  have M3 := Lib.hid N3
  refine wp_region_head (S := fun w' => w'.cell? ⟨B, 0, none⟩ = some (.int .i64 (n : Int))) 5 (by kernel_rfl) (by kernel_rfl) (cell_drew N0) (fun hHeld => ?_)
  refine head_take 0 (v := ?_) rfl (by kernel_rfl) (by kernel_rfl) (fun _ _ _ h => h) (by assumption) (yields_if (by rfl) ?_) ?_
  rotate_left
  focus (intro w' hSw; (try dsimp only at hSw); go_simp; (try with_reducible rfl))
  (try simp only [Act.put, List.setIfInBounds_toArray, List.set_cons_zero, List.set_cons_succ])
  refine head_take 2 (v := ?_) rfl (by kernel_rfl) (by kernel_rfl) (fun _ _ _ h => h) (by assumption) (yields_if (by rfl) ?_) ?_
  rotate_left
  focus (intro w' hSw; (try dsimp only at hSw); go_simp; (try with_reducible rfl))
  (try simp only [Act.put, List.setIfInBounds_toArray, List.set_cons_zero, List.set_cons_succ])
  refine head_take 3 (v := ?_) rfl (by kernel_rfl) (by kernel_rfl) (fun _ _ _ h => h) (by assumption) (yields_if (by rfl) ?_) ?_
  rotate_left
  focus (intro w' hSw; (try dsimp only at hSw); go_simp; (try with_reducible rfl))
  (try simp only [Act.put, List.setIfInBounds_toArray, List.set_cons_zero, List.set_cons_succ])
  refine head_one 1 rfl (by kernel_rfl) (fun K hK => ?_)
  go_simp
  (go_at_call 19; ((with_reducible refine (sMakeNum _ _ _ _ _ (HBw.out.ge (Ge.drew (Ge.refl _))) hn0 (by omega)).mono ?_); rintro e w2 ⟨x, rfl, x0, x1, g2⟩))
  have G2 : Ge W1 w2 := Ge.trans (Ge.drew (Ge.refl _)) g2
  have HB2 := Lib.hid (HBw.out.ge G2)
  have ax := tmod_bd (n := n) x0 (by omega)
  refine hK.out _ _ (G2.keep N0) (fun hHeld => ?_)
  clear hK K
  (try simp only [Act.put, List.setIfInBounds_toArray, List.set_cons_zero, List.set_cons_succ])
  refine head_take 4 (v := ?_) rfl (by kernel_rfl) (by kernel_rfl) (fun _ _ _ h => h) (by assumption) (yields_if (by rfl) ?_) ?_
  rotate_left
  focus (intro w' hSw; (try dsimp only at hSw); go_simp; (try with_reducible rfl))
  (try simp only [Act.put, List.setIfInBounds_toArray, List.set_cons_zero, List.set_cons_succ])
  generalize x.tmod (n : Int) = a at *
  obtain ⟨a0, a1⟩ := ax
  refine head_done (by kernel_rfl) ?_
  have N02 := G2.keep N0
  go_wp2_with fail
  have tw1 : IntKind.i64.wrap (a + 1) = a + 1 := IntWalk.i64_in _ (by omega)
  have tw2 : IntKind.i64.wrap ((n : Int) - 1) = (n : Int) - 1 := IntWalk.i64_in _ (by omega)
  have nz1 : (((n : Int) - 1) == 0) = false := by simp; omega
  have nz1' : ¬ (n : Int) - 1 = 0 := by omega
  refine wp_region_head (S := fun w' => w'.cell? ⟨B, 0, none⟩ = some (.int .i64 (n : Int))) 12 (by kernel_rfl) (by kernel_rfl) (cell_drew N02) (fun hHeld => ?_)
  refine head_take 0 (v := ?_) rfl (by kernel_rfl) (by kernel_rfl) (fun _ _ _ h => h) (by assumption) (yields_if (by rfl) ?_) ?_
  rotate_left
  focus (intro w' hSw; (try dsimp only at hSw); go_simp; (try with_reducible rfl))
  (try simp only [Act.put, List.setIfInBounds_toArray, List.set_cons_zero, List.set_cons_succ])
  refine head_take 1 (v := ?_) rfl (by kernel_rfl) (by kernel_rfl) (fun _ _ _ h => h) (by assumption) (yields_if (by rfl) ?_) ?_
  rotate_left
  focus (intro w' hSw; (try dsimp only at hSw); go_simp; (try with_reducible rfl))
  (try simp only [Act.put, List.setIfInBounds_toArray, List.set_cons_zero, List.set_cons_succ])
  refine head_take 2 (v := ?_) rfl (by kernel_rfl) (by kernel_rfl) (fun _ _ _ h => h) (by assumption) (yields_if (by rfl) ?_) ?_
  rotate_left
  focus (intro w' hSw; (try dsimp only at hSw); go_simp; (try with_reducible rfl))
  (try simp only [Act.put, List.setIfInBounds_toArray, List.set_cons_zero, List.set_cons_succ])
  refine head_take 4 (v := ?_) rfl (by kernel_rfl) (by kernel_rfl) (fun _ _ _ h => h) (by assumption) (yields_if (by rfl) ?_) ?_
  rotate_left
  focus (intro w' hSw; (try dsimp only at hSw); go_simp; (try with_reducible rfl))
  (try simp only [Act.put, List.setIfInBounds_toArray, List.set_cons_zero, List.set_cons_succ])
  refine head_take 5 (v := ?_) rfl (by kernel_rfl) (by kernel_rfl) (fun _ _ _ h => h) (by assumption) (yields_if (by rfl) ?_) ?_
  rotate_left
  focus (intro w' hSw; (try dsimp only at hSw); go_simp; (try with_reducible rfl))
  (try simp only [Act.put, List.setIfInBounds_toArray, List.set_cons_zero, List.set_cons_succ])
  refine head_take 6 (v := ?_) rfl (by kernel_rfl) (by kernel_rfl) (fun _ _ _ h => h) (by assumption) (yields_if (by rfl) ?_) ?_
  rotate_left
  focus (intro w' hSw; (try dsimp only at hSw); go_simp; (try with_reducible rfl))
  (try simp only [Act.put, List.setIfInBounds_toArray, List.set_cons_zero, List.set_cons_succ])
  refine head_take 9 (v := ?_) rfl (by kernel_rfl) (by kernel_rfl) (fun _ _ _ h => h) (by assumption) (yields_if (by rfl) ?_) ?_
  rotate_left
  focus (intro w' hSw; (try dsimp only at hSw); go_simp; (try with_reducible rfl))
  (try simp only [Act.put, List.setIfInBounds_toArray, List.set_cons_zero, List.set_cons_succ])
  refine head_take 10 (v := ?_) rfl (by kernel_rfl) (by kernel_rfl) (fun _ _ _ h => h) (by assumption) (yields_if (by rfl) ?_) ?_
  rotate_left
  focus (intro w' hSw; (try dsimp only at hSw); go_simp; (try with_reducible rfl))
  (try simp only [Act.put, List.setIfInBounds_toArray, List.set_cons_zero, List.set_cons_succ])
  refine head_one 3 rfl (by kernel_rfl) (fun K hK => ?_)
  go_simp
  (go_at_call 19; ((with_reducible refine (sMakeNum _ _ _ _ _ (HB2.out.ge (Ge.drew (Ge.refl _))) hn0 (by omega)).mono ?_); rintro e w3 ⟨y, rfl, y0, y1, g3⟩))
  have G3 : Ge W1 w3 := Ge.trans (Ge.drew G2) g3
  have ay := tmod_bd (n := n - 1) y0 (by omega)
  rw [show (((n - 1 : Nat)) : Int) = (n : Int) - 1 by omega] at ay
  refine hK.out _ _ (G3.keep N0) (fun hHeld => ?_)
  clear hK K
  (try simp only [Act.put, List.setIfInBounds_toArray, List.set_cons_zero, List.set_cons_succ])
  refine head_take 7 (v := ?_) rfl (by kernel_rfl) (by kernel_rfl) (fun _ _ _ h => h) (by assumption) (yields_if (by rfl) ?_) ?_
  rotate_left
  focus (intro w' hSw; (try dsimp only at hSw); go_simp; (try with_reducible rfl))
  (try simp only [Act.put, List.setIfInBounds_toArray, List.set_cons_zero, List.set_cons_succ])
  generalize y.tmod ((n : Int) - 1) = y' at *
  have tw3 : IntKind.i64.wrap (a + 1 + y') = a + 1 + y' := IntWalk.i64_in _ (by omega)
  have bx := tmod_other (n := n) ⟨a0, a1⟩ ay
  refine head_take 8 (v := ?_) rfl (by kernel_rfl) (by kernel_rfl) (fun _ _ _ h => h) (by assumption) (yields_if (by rfl) ?_) ?_
  rotate_left
  focus (intro w' hSw; (try dsimp only at hSw); go_simp; (try with_reducible rfl))
  (try simp only [Act.put, List.setIfInBounds_toArray, List.set_cons_zero, List.set_cons_succ])
  refine head_take 11 (v := ?_) rfl (by kernel_rfl) (by kernel_rfl) (fun _ _ _ h => h) (by assumption) (yields_if (by rfl) ?_) ?_
  rotate_left
  focus (intro w' hSw; (try dsimp only at hSw); go_simp; (try with_reducible rfl))
  (try simp only [Act.put, List.setIfInBounds_toArray, List.set_cons_zero, List.set_cons_succ])
  generalize (a + 1 + y').tmod (n : Int) = b at *
  refine head_done (by kernel_rfl) ?_
  obtain ⟨b0, b1, hab⟩ := bx
  have HDw := Lib.hid (HD.out.ge G3)
  have n0' := G3.keep N0
  have n1' := G3.keep N1
  have n2' := G3.keep N2
  have n3' := G3.keep N3
  have zB3 : B < w3.heap.size := Nat.lt_of_lt_of_le zB G3.size
  clear N0 N1 N2 N3
  have ha : 0 ≤ a ∧ a < (n : Int) := ⟨a0, a1⟩
  have hb : 0 ≤ b ∧ b < (n : Int) := ⟨b0, b1⟩
  have hba : ¬ b = a := fun e => hab e.symm
  have hF := for_pos HDr.out ha hb hab
  have hF2 := (for_le HDr.out ha hb).2
  go_wp2_with fail
  go_loopw [6] (fun i wr => ∃ k : Nat, k ≤ n ∧ i = .int .i64 k ∧ Ge w3 wr) (fun i _ => n - (intOf i).toNat)
  case atStart => exact ⟨0, Nat.zero_le _, rfl, Ge.refl _⟩
  case round =>
    obtain ⟨v, hv, rfl, hg⟩ := hrel
    have m0 := hg.keep n0'
    have m1 := hg.keep n1'
    have m2 := hg.keep n2'
    have m3 := hg.keep n3'
    have zBr : B < wr.heap.size := Nat.lt_of_lt_of_le zB3 hg.size
    by_cases hlt : v < n
    · have kb : 0 ≤ (v : Int) ∧ (v : Int) < (n : Int) := by omega
      have HH1 := Lib.hid (fun (w' : World) (g : Ge w3 w') => dHit (HDw.out.ge g) kb ha hb hab)
      have HH2 := Lib.hid (fun (w' : World) (g : Ge w3 w') => dHit (HDw.out.ge g) kb hb ha hba)
      have HS2 := Lib.hid (fun (w' : World) => (qSum (hits_sum HDr.out ha hb kb hab) w' : Calls Try.prog 29 _ w' fun e w'' => e = .returned (.agg #[.int .i64 1, .int .i64 1]) ∧ Ge w' w''))
      have tn : decide ((ratioOf (potV n m xs a b v) (forZ n m xs a b)).n < 0) = false := by
        have := ratioOf_nn (b := forZ n m xs a b) (by omega) (pot_bd HDr.out ha hb kb hab).1
        simp; omega
      have HA : Hid ((v : Int) = a → ((ratioOf (potV n m xs a b v) (forZ n m xs a b)).n != 1) = false) := fun e => by
        rw [e, pot_a HDr.out ha hb hab, ratio_one (by omega)]; rfl
      have HB' : Hid ((v : Int) = b → ((ratioOf (potV n m xs a b v) (forZ n m xs a b)).n != 0) = false) := fun e => by
        rw [e, pot_b, ratio_zero (by omega)]; rfl
      have HM : Hid (¬ (v : Int) = a → ¬ (v : Int) = b → ratioOf (0 + sumTo (fun (w : Nat) => wbet xs m v w * potV n m xs a b w) n) (wat xs v m * forZ n m xs a b) = ratioOf (potV n m xs a b v) (forZ n m xs a b)) := fun h1 h2 => by
        rw [Int.zero_add]; exact hits_mean HDr.out ha hb kb hab h1 h2
      have E7 : Hid (ratioOf (0 + sumTo (fun (w : Nat) => wbet xs m v w * potV n m xs a b w) 0) (wat xs v m * forZ n m xs a b) = ⟨0, 1⟩) := ratio_zero (Int.mul_pos (wat_pos HDr.out kb) (by omega))
      generalize ratioOf (potV n m xs a b v) (forZ n m xs a b) = HR at *
      generalize ratioOf (potV n m xs b a v) (forZ n m xs b a) = KR at *
      have A1 := Lib.hid (fun (w4 : World) (g4 : Ge wr w4) => And.intro (g4.keep m0) (And.intro (g4.keep m1) (And.intro (g4.keep m2) (And.intro (g4.keep m3) (Nat.lt_of_lt_of_le zBr g4.size)))))
      by_cases e1 : (v : Int) = a
      · have b1' : ((v : Int) == a) = true := by simp [e1]
        have tH := HA.out e1
        have b2' : ((v : Int) == b) = false := by simp; omega
        clear e1
        go_wp2_with ((go_at_call 32; ((with_reducible refine (HH1.out _ hg).mono ?_); rintro e w4 ⟨rfl, g4⟩)); obtain ⟨m0, m1, m2, m3, zB4⟩ := A1.out _ g4)
        go_wp2_with ((go_at_call 32; ((with_reducible refine (HH2.out _ (Ge.alloc (hg.trans g4) _)).mono ?_); rintro e w5 ⟨rfl, g5⟩)); obtain ⟨h0, h1⟩ := (Box2.new w4 HR _).ge g5; have z45 : w4.heap.size < w5.heap.size := World.block_lt_of_cell? _ _ h0; have G5 : Ge w4 w5 := Ge.trans (Ge.alloc (Ge.refl _) _) g5)
        go_wp2_with ((go_at_call 29; ((with_reducible refine (HS2.out _).mono ?_); rintro e w6 ⟨rfl, g6⟩)); have h0 := g6.keep (cell_alloc h0); have h1 := g6.keep (cell_alloc h1))
        go_roundw
        case rel => exact ⟨v + 1, by omega, by go_num, ((hg.trans g4).trans G5).trans (Ge.trans (Ge.alloc (Ge.refl _) _) g6)⟩
        case measure => simp [intOf]; omega
      · have b1' : ((v : Int) == a) = false := by simp [e1]
        by_cases e2 : (v : Int) = b
        · have b2' : ((v : Int) == b) = true := by simp [e2]
          have tH := HB'.out e2
          clear e1 e2
          go_wp2_with ((go_at_call 32; ((with_reducible refine (HH1.out _ hg).mono ?_); rintro e w4 ⟨rfl, g4⟩)); obtain ⟨m0, m1, m2, m3, zB4⟩ := A1.out _ g4)
          go_wp2_with ((go_at_call 32; ((with_reducible refine (HH2.out _ (Ge.alloc (hg.trans g4) _)).mono ?_); rintro e w5 ⟨rfl, g5⟩)); obtain ⟨h0, h1⟩ := (Box2.new w4 HR _).ge g5; have z45 : w4.heap.size < w5.heap.size := World.block_lt_of_cell? _ _ h0; have G5 : Ge w4 w5 := Ge.trans (Ge.alloc (Ge.refl _) _) g5)
          go_wp2_with ((go_at_call 29; ((with_reducible refine (HS2.out _).mono ?_); rintro e w6 ⟨rfl, g6⟩)); have h0 := g6.keep (cell_alloc h0); have h1 := g6.keep (cell_alloc h1))
          go_roundw
          case rel => exact ⟨v + 1, by omega, by go_num, ((hg.trans g4).trans G5).trans (Ge.trans (Ge.alloc (Ge.refl _) _) g6)⟩
          case measure => simp [intOf]; omega
        · have b2' : ((v : Int) == b) = false := by simp [e2]
          have L7 := Lib.hid (HM.out e1 e2)
          clear e1 e2
          go_wp2_with ((go_at_call 32; ((with_reducible refine (HH1.out _ hg).mono ?_); rintro e w4 ⟨rfl, g4⟩)); obtain ⟨m0, m1, m2, m3, zB4⟩ := A1.out _ g4)
          go_wp2_with ((go_at_call 32; ((with_reducible refine (HH2.out _ (Ge.alloc (hg.trans g4) _)).mono ?_); rintro e w5 ⟨rfl, g5⟩)); obtain ⟨h0, h1⟩ := (Box2.new w4 HR _).ge g5; have z45 : w4.heap.size < w5.heap.size := World.block_lt_of_cell? _ _ h0; have G5 : Ge w4 w5 := Ge.trans (Ge.alloc (Ge.refl _) _) g5)
          go_wp2_with ((go_at_call 29; ((with_reducible refine (HS2.out _).mono ?_); rintro e w6 ⟨rfl, g6⟩)); have h0 := g6.keep (cell_alloc h0); have h1 := g6.keep (cell_alloc h1))
          have G6 : Ge wr w6 := (g4.trans G5).trans (Ge.trans (Ge.alloc (Ge.refl _) _) g6)
          have XB : Hid (Box2 w6 w4.heap.size HR) := ⟨h0, h1⟩
          obtain ⟨m06, m16, m26, m36, zB6⟩ := A1.out _ G6
          clear m0 m1 m2 m3 h0 h1
          obtain ⟨wo, hwo⟩ : ∃ wo : World, wo = wr := ⟨_, rfl⟩
          subst hwo
          go_loopw [12] (fun i wr => ∃ k : Nat, k ≤ n ∧ i = .int .i64 k ∧ Hid (Box2 wr w6.heap.size (ratioOf (0 + sumTo (fun (w : Nat) => wbet xs m v w * potV n m xs a b w) k) (wat xs v m * forZ n m xs a b))) ∧
              wr.frozen? ⟨w6.heap.size, 0, none⟩ = false ∧ wr.frozen? ⟨w6.heap.size, 1, none⟩ = false ∧ Ge w6 wr) (fun i _ => n - (intOf i).toNat)
          case atStart =>
            exact ⟨0, Nat.zero_le _, rfl, by rw [E7.out]; exact ⟨cell_new rfl rfl, cell_new rfl rfl⟩, froz_new (v := .int .i64 0) rfl rfl, froz_new (v := .int .i64 1) rfl rfl, Ge.alloc (Ge.refl _) _⟩
          case round =>
            obtain ⟨k, hk, rfl, X7, f70, f71, hgi⟩ := hrel
            have m0 := hgi.keep m06
            have m1 := hgi.keep m16
            have m2 := hgi.keep m26
            have m3 := hgi.keep m36
            have z8 := World.block_lt_of_cell? _ _ X7.out.1
            simp only at z8
            have zBr2 : B < wr.heap.size := by omega
            by_cases hlt2 : k < n
            · have kb2 : 0 ≤ (k : Int) ∧ (k : Int) < (n : Int) := by omega
              have HP := Lib.hid (fun (w' : World) (g : Ge w3 w') => dStep (HDw.out.ge g) kb kb2)
              have HX := Lib.hid (fun (w' : World) (g : Ge w3 w') => dHit (HDw.out.ge g) kb2 ha hb hab)
              have HT3 := Lib.hid (qTimes (rfl : ratioTimes (ratioOf (wbet xs m v k) (wat xs v m)) (ratioOf (potV n m xs a b k) (forZ n m xs a b)) = _))
              have HSa2 := Lib.hid (qSum (mean_next HDr.out kb (fun (w : Nat) => potV n m xs a b w) (F := forZ n m xs a b) (z := 0) (by omega) (fun u hu => by have := pot_bd HDr.out ha hb (v := (u : Int)) (by omega) hab; omega) (by omega) hlt2))
              generalize ratioOf (0 + sumTo (fun (w : Nat) => wbet xs m v w * potV n m xs a b w) k) (wat xs v m * forZ n m xs a b) = A7 at *
              obtain ⟨A7', hA7⟩ : ∃ r, ratioOf (0 + sumTo (fun (w : Nat) => wbet xs m v w * potV n m xs a b w) (k + 1)) (wat xs v m * forZ n m xs a b) = r := ⟨_, rfl⟩
              rw [hA7] at HSa2
              have HA7 := Lib.hid hA7
              clear hA7
              generalize ratioOf (wbet xs m v k) (wat xs v m) = P at *
              generalize ratioOf (potV n m xs a b k) (forZ n m xs a b) = X at *
              generalize ratioTimes P X = ZZ at *
              go_wp2_with ((go_at_call 31; ((with_reducible refine (HP.out _ ((hg.trans G6).trans hgi)).mono ?_); rintro e w9 ⟨rfl, g9⟩)); have m0 := (g9.keep m0); have m1 := (g9.keep m1); have m2 := (g9.keep m2); have m3 := (g9.keep m3); have zB9 : B < w9.heap.size := (Nat.lt_of_lt_of_le zBr2 g9.size))
              go_wp2_with ((go_at_call 32; ((with_reducible refine (HX.out _ (Ge.alloc (((hg.trans G6).trans hgi).trans g9) _)).mono ?_); rintro e w10 ⟨rfl, g10⟩)); have P10 := (Lib.hid ((Box2.new w9 P _).ge g10)); have G10 : Ge w9 w10 := (Ge.trans (Ge.alloc (Ge.refl _) _) g10); have Gr : Ge wr (w10.alloc (.cells #[.int .i64 X.n, .int .i64 X.d] 39)) := (Ge.alloc (g9.trans G10) _); have V11 := (X7.out.ge Gr); have P11 := (P10.out.ge (Ge.alloc (Ge.refl _) (.cells #[.int .i64 X.n, .int .i64 X.d] 39))); have H11 := (Box2.new w10 X 39); have f70' := (Gr.keepF X7.out.1 f70); have f71' := (Gr.keepF X7.out.2 f71))
              refine wp_region_head (S := fun w' => w'.cell? ⟨w6.heap.size, 0, none⟩ = some (.int .i64 A7.n) ∧ w'.cell? ⟨w6.heap.size, 1, none⟩ = some (.int .i64 A7.d) ∧ w'.cell? ⟨w9.heap.size, 0, none⟩ = some (.int .i64 P.n) ∧ w'.cell? ⟨w9.heap.size, 1, none⟩ = some (.int .i64 P.d) ∧ w'.cell? ⟨w10.heap.size, 0, none⟩ = some (.int .i64 X.n) ∧ w'.cell? ⟨w10.heap.size, 1, none⟩ = some (.int .i64 X.d)) 5 (by kernel_rfl) (by kernel_rfl) (⟨cell_drew V11.1, cell_drew V11.2, cell_drew P11.1, cell_drew P11.2, cell_drew H11.1, cell_drew H11.2⟩) (fun hHeld => ?_)
              refine head_take 0 (v := ?_) rfl (by kernel_rfl) (by kernel_rfl) (fun _ _ _ h => h) (by assumption) (yields_if (by rfl) ?_) ?_
              rotate_left
              focus (intro w' hSw; (try dsimp only at hSw); go_simp; (try with_reducible rfl))
              (try simp only [Act.put, List.setIfInBounds_toArray, List.set_cons_zero, List.set_cons_succ])
              refine head_take 1 (v := ?_) rfl (by kernel_rfl) (by kernel_rfl) (fun _ _ _ h => h) (by assumption) (yields_if (by rfl) ?_) ?_
              rotate_left
              focus (intro w' hSw; (try dsimp only at hSw); go_simp; (try with_reducible rfl))
              (try simp only [Act.put, List.setIfInBounds_toArray, List.set_cons_zero, List.set_cons_succ])
              refine head_take 2 (v := ?_) rfl (by kernel_rfl) (by kernel_rfl) (fun _ _ _ h => h) (by assumption) (yields_if (by rfl) ?_) ?_
              rotate_left
              focus (intro w' hSw; (try dsimp only at hSw); go_simp; (try with_reducible rfl))
              (try simp only [Act.put, List.setIfInBounds_toArray, List.set_cons_zero, List.set_cons_succ])
              refine head_one 3 rfl (by kernel_rfl) (fun K hK => ?_)
              go_simp
              (go_at_call 27; ((with_reducible refine (HT3.out _).mono ?_); rintro e w12 ⟨rfl, g12⟩))
              have G12 : Ge (w10.alloc (.cells #[.int .i64 X.n, .int .i64 X.d] 39)) w12 := Ge.trans (Ge.drew (Ge.refl _)) g12
              refine hK.out _ _ ⟨G12.keep V11.1, G12.keep V11.2, G12.keep P11.1, G12.keep P11.2, G12.keep H11.1, G12.keep H11.2⟩ (fun hHeld => ?_)
              clear hK K
              (try simp only [Act.put, List.setIfInBounds_toArray, List.set_cons_zero, List.set_cons_succ])
              refine head_one 4 rfl (by kernel_rfl) (fun K hK => ?_)
              go_simp
              (go_at_call 29; ((with_reducible refine (HSa2.out _).mono ?_); rintro e w13 ⟨rfl, g13⟩))
              have G13 : Ge (w10.alloc (.cells #[.int .i64 X.n, .int .i64 X.d] 39)) w13 := G12.trans g13
              have v0 := G13.keep V11.1
              have v1 := G13.keep V11.2
              have f70e := G13.keepF V11.1 f70'
              have f71e := G13.keepF V11.2 f71'
              refine hK.out _ _ ⟨v0, v1, G13.keep P11.1, G13.keep P11.2, G13.keep H11.1, G13.keep H11.2⟩ (fun hHeld => ?_)
              clear hK K
              (try simp only [Act.put, List.setIfInBounds_toArray, List.set_cons_zero, List.set_cons_succ])
              refine head_done (by kernel_rfl) ?_
              go_wp2_with fail
              go_roundw
              case rel => exact ⟨k + 1, by omega, by go_num, by rw [HA7.out]; exact Box2.put (r := A7) ⟨v0, v1⟩ A7', froz_set (froz_set f70e), froz_set (froz_set f71e), Ge.setCell (Ge.setCell ((hgi.trans Gr).trans G13) (Nat.le_refl _) _) (Nat.le_refl _) _⟩
              case measure => simp [intOf]; omega
            · have hkn : n = k := by omega
              subst hkn
              rw [L7.out] at X7
              obtain ⟨s0, s1⟩ := X7.out
              obtain ⟨x0', x1'⟩ := XB.out.ge hgi
              go_wp2_with fail
              go_roundw
              case rel => exact ⟨v + 1, by omega, by go_num, (hg.trans G6).trans hgi⟩
              case measure => simp [intOf]; omega
    · have hvn : n = v := by omega
      subst hvn
      go_wp2_with fail
      go_ret
      exact ⟨rfl, (gW.trans G3).trans hg⟩
end Go.Proofs.Ytoidbmlapdbjdaa

namespace Go.Proofs.Ytoidbmlapdbjdaa

open Go.ChangeShapes Go.WideShapes Go.ChangeAt Go.RowKit Go.Joins

theorem fnHits_cells_byte : Try.prog.cellsOf 5 = 1 := by kernel_rfl

set_option maxRecDepth 100000 in
theorem fnHits_lifted (os : Os) (started : os.Started) (H : Type) (enc : TypeId × Value → H) :
    ReturnsInHanded {} Try.checked os 7 .any (Rows.fnHitsSpec.pre6 enc Try.prog Try.f7 Rows.fnHitsRow.domain false) (Rows.fnHitsSpec.post enc Try.prog Try.f7 false true false false) := by
  refine returnsInHanded_of_change (C := Try.checked) own_knob started (by kernel_rfl) Try.func7
    (ChangeSpec.witness6 (enc := enc) (C := Try.checked) false ⟨#[], #[.slice none 0 0], []⟩ 8 (by kernel_rfl) (by kernel_rfl) (by kernel_rfl) (by kernel_rfl)) ?_
  intro W base args ds gs before hval0 hW hcnd _
  have hval : ∀ (j : Nat) t v, Try.f7.params[j]? = some t → args[j]? = some v → Value.okWide Try.prog W .any base t v := hval0
  have hW' := hW
  obtain ⟨p, q, hA0, hV, rfl, hfz, hnd⟩ := hW
  have hA : DataW.TrodAll enc Try.prog W 0 (fun _ => true) true Try.f7.params.toList args.toList ds p := hA0
  rw [Try.params7] at hA hval
  obtain ⟨v0, d0, rfl, rfl, h0⟩ := trodAll_one hA
  obtain ⟨rfl, rfl⟩ := trodVars_none hV
  obtain ⟨pa, na, ca, rfl, sa, ma⟩ := arg_bytes Try.underlying28 Try.underlying5 fnHits_cells_byte (hval 0 28 v0 rfl rfl) h0
  clear hA0 hval0
  exact (lFnHits pa na ca W sa ma).mono fun e W' ⟨he, hg⟩ =>
    law_done (B := 4) he laid_out (by kernel_rfl) Try.underlying4 (by kernel_rfl) hW' rfl rfl hg

theorem fnHits_holds : Rows.FnHitsSaid :=
  OpenClaim.holds_of_wide 7 Try.f7 rfl rfl rfl rfl rfl rfl rfl ⟨rfl, rfl, rfl, rfl, rfl⟩ rfl rfl rfl rfl rfl (by kernel_rfl) Try.func7 (by kernel_rfl)
    (of_decide_eq_true (by kernel_rfl)) (by unfold Func.isWrapper; first | (rw [if_pos (by decide +kernel)]; kernel_rfl) | (rw [if_neg (by decide +kernel)]; exact ⟨rfl, rfl⟩))
    (fun os started H enc _ => fnHits_lifted os started H enc)
#print axioms fnHits_holds

end Go.Proofs.Ytoidbmlapdbjdaa
