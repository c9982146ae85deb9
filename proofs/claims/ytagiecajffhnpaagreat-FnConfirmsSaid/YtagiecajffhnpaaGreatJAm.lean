/- TriangleStar of impl where it succeeds as far as the table. No condition. -/
import Derived.Test.YtagiecajffhnpaaGreatJAl
namespace Go.Proofs.YtagiecajffhnpaaGreat
set_option maxRecDepth 100000
open Go.ChangeShapes Go.WideShapes Go.ChangeAt Go.RowKit Go.Joins

set_option maxHeartbeats 12800000 in
theorem iTriT (n e : Nat) (S a b c : Int) (s : Value) (m : Nat) (xs : List Int) (w : World) (hs : SlF w s m 3 xs) (hB : netB n e S m xs = true) (hG : trG n a b c ∧ trX m xs a b c) :
    Calls Tryz.prog 39 #[.agg #[.int .i64 (n : Int), .int .i64 (e : Int), .int .i64 S, s], .int .i64 a, .int .i64 b, .int .i64 c] w (GivesO w (trB n e S m xs a b c) ((n + 1 : Nat) : Int) e (trS n m xs a b c S) (trL n m xs a b c S)) := by
  obtain ⟨⟨h1, h5⟩, ⟨e1, e2⟩, ⟨s1, s2⟩, hok, _⟩ := netP_of hB
  have hm : m ≤ 10 := prs_len (by omega) hok
  have HV := Lib.hid hs
  have HK := Lib.hid hok
  have hTb : ∀ a b : Nat, 0 ≤ wbet xs m (a : Int) (b : Int) ∧ wbet xs m (a : Int) (b : Int) ≤ 200 := fun a b => wbet_bd hok _ _
  obtain ⟨p, cap, rfl, _⟩ := hs.open
  have HNo := Lib.hid (fun w' (g : Ge w w') => iNetOk n e S (.slice p m cap) m xs w' (HV.out.ge g) (by omega))
  rw [hB] at HNo
  have HTa := Lib.hid (fun w' (g : Ge w w') => iTable n e S (.slice p m cap) m xs w' (HV.out.ge g) hm (by omega) (by omega) HK.out)
  have HWab := Lib.hid (fun w' (g : Ge w w') => iWeightBetween n e S (.slice p m cap) m xs a b w' (HV.out.ge g) hm HK.out)
  have HWbc := Lib.hid (fun w' (g : Ge w w') => iWeightBetween n e S (.slice p m cap) m xs b c w' (HV.out.ge g) hm HK.out)
  have HWac := Lib.hid (fun w' (g : Ge w w') => iWeightBetween n e S (.slice p m cap) m xs a c w' (HV.out.ge g) hm HK.out)
  have hwx := wbet_bd hok a b
  have hwy := wbet_bd hok b c
  have hwz := wbet_bd hok a c
  clear hs hok hB
  obtain ⟨NB0, R0⟩ := in_res w n e S (.slice p m cap)
  have zR : w.heap.size + 1 < ((w.alloc (.cells #[.int .i64 n, .int .i64 e, .int .i64 S, .slice p m cap] 33)).alloc (.cells #[.int .i64 0, .int .i64 0, .int .i64 0, .slice none 0 0] 33)).heap.size := by simp
  obtain ⟨⟨⟨ha, hab, hbc, hcn⟩, hn5⟩, hX0, hY0, hZ0⟩ := id hG
  obtain ⟨a, rfl⟩ := Int.eq_ofNat_of_zero_le ha
  obtain ⟨b, rfl⟩ := Int.eq_ofNat_of_zero_le (show 0 ≤ b by omega)
  obtain ⟨c, rfl⟩ := Int.eq_ofNat_of_zero_le (show 0 ≤ c by omega)
  rw [trB_t hG]
  have hi : a < n := by omega
  have hj : b < n := by omega
  have hk : c < n := by omega
  have nab : a < b := by omega
  have hn4 : n ≤ 4 := by omega
  have nbc : b < c := by omega
  obtain ⟨T, hT⟩ : ∃ T : Nat → Nat → Int, (fun (a b : Nat) => wbet xs m (a : Int) (b : Int)) = T := ⟨_, rfl⟩
  have hTb' : ∀ a b : Nat, 0 ≤ T a b ∧ T a b ≤ 200 := fun a b => by rw [← hT]; exact hTb a b
  have hbd := triT_bd hTb' hwx hwy hwz n a b c
  have HMe : Hid (∀ (Z : Int → Int → Int), (∀ i j : Nat, Z i j = triT T n a b c (wbet xs m a b) (wbet xs m b c) (wbet xs m a c) i j) → tabC (fun i j => Z i j) (n + 1) (n + 1) = trM n m xs a b c) := fun Z hZ => by unfold trM; rw [hT]; exact tabC_congr (fun i j _ _ => hZ i j)
  have HPe : Hid (trP m xs a b c S = S * wbet xs m a b * wbet xs m b c * wbet xs m a c) := rfl
  have HSe : Hid (trS n m xs a b c S = (trP m xs a b c S).tdiv (gcdF (trP m xs a b c S) (trM n m xs a b c))) := rfl
  have HLe : Hid (trL n m xs a b c S = cutW (gcdF (trP m xs a b c S) (trM n m xs a b c)) (trM n m xs a b c)) := rfl
  rw [hT] at HTa
  have HTb := Lib.hid hTb'
  have HBd := Lib.hid hbd
  generalize wbet xs m (a : Int) (b : Int) = X at *
  generalize wbet xs m (b : Int) (c : Int) = Y at *
  generalize wbet xs m (a : Int) (c : Int) = Z at *
  generalize trS n m xs a b c S = SS at *
  generalize trL n m xs a b c S = LL at *
  generalize trP m xs a b c S = PP at *
  generalize trM n m xs a b c = MM at *
  have t0 : decide ((a : Int) < 0) = false := by simp
  have t1 : decide ((b : Int) ≤ (a : Int)) = false := by simp; omega
  have t1b : decide (b ≤ a) = false := by simp; omega
  have t2 : decide ((c : Int) ≤ (b : Int)) = false := by simp; omega
  have t2b : decide (c ≤ b) = false := by simp; omega
  have t3 : decide ((n : Int) ≤ (c : Int)) = false := by simp; omega
  have t3b : decide (n ≤ c) = false := by simp; omega
  have t4 : ((n : Int) == 5) = false := by simp; omega
  have t4b : (n == 5) = false := by simp; omega
  have t4c : decide (n = 5) = false := by simp; omega
  have t5 : (X == 0) = false := by simpa using hX0
  have t6 : (Y == 0) = false := by simpa using hY0
  have t7 : (Z == 0) = false := by simpa using hZ0
  obtain ⟨⟨v1, v2⟩, v3, v4⟩ := prod3_bd hwx hwy hwz
  obtain ⟨⟨v5, v6⟩, _⟩ := prod3_bd hwy hwz hwx
  obtain ⟨⟨v7, v8⟩, _⟩ := prod3_bd hwz hwx hwy
  have HU1 : Hid (wrap64 (X * Y) = X * Y) := IntWalk.wrap64_in _ ⟨by omega, by omega⟩
  have HU2 : Hid (wrap64 (X * Y * Z) = X * Y * Z) := IntWalk.wrap64_in _ ⟨by omega, by omega⟩
  have HVs : Hid ((0 ≤ X * Y ∧ X * Y ≤ 200 * 200) ∧ 0 ≤ X * Y * Z ∧ X * Y * Z ≤ 200 * 200 * 200) := ⟨⟨v1, v2⟩, v3, v4⟩
  have HW : Hid ((0 ≤ X ∧ X ≤ 200) ∧ (0 ≤ Y ∧ Y ≤ 200) ∧ (0 ≤ Z ∧ Z ≤ 200)) := ⟨hwx, hwy, hwz⟩
  have HPd := Lib.hid (fun i j => (⟨Int.mul_nonneg (hTb' i j).1 v3, Int.mul_le_mul (hTb' i j).2 v4 v3 (by omega)⟩ : 0 ≤ T i j * (X * Y * Z) ∧ T i j * (X * Y * Z) ≤ 200 * (200 * 200 * 200)))
  have HTn : Hid (wrap64 ((n : Int) + 1) = (n : Int) + 1) := IntWalk.wrap64_in _ ⟨by omega, by omega⟩
  have HX0 : Hid ((0 < X ∧ 0 < Y) ∧ 0 < Z) := ⟨⟨by omega, by omega⟩, by omega⟩
  clear hTb hTb' hT hbd ha hab hbc hcn hn5 hX0 hY0 hZ0 hG v1 v2 v3 v4 v5 v6 v7 v8 hwx hwy hwz
  go_enter Tryz.func39, Tryz.ntmps39
  go_upto_region 9 with (first | ((go_at_call 43; ((with_reducible refine (HNo.out _ (kge)).mono ?_); rintro r w1 ⟨rfl, g1⟩)); have NB1 := NB0.ge g1; have R1 := R0.ge g1; have gw1 : Ge w w1 := (kge); obtain ⟨b0, b1, b2, b3⟩ := NB1; obtain ⟨r0, p0, f0⟩ := R1 0 (by omega); obtain ⟨r1, p1, f1⟩ := R1 1 (by omega); obtain ⟨r2, p2, f2⟩ := R1 2 (by omega); obtain ⟨r3, p3, f3⟩ := R1 3 (by omega); have z1 := Nat.lt_of_lt_of_le zR g1.size) | ((go_at_call 75; ((with_reducible refine (HWab.out _ gw1).mono ?_); rintro r w2 ⟨rfl, g2⟩)); have gw1 := Ge.trans gw1 g2; have b0 := Ge.keep g2 b0; have b1 := Ge.keep g2 b1; have b2 := Ge.keep g2 b2; have b3 := Ge.keep g2 b3; have R1 := R1.ge g2; obtain ⟨r0, p0, f0⟩ := R1 0 (by omega); obtain ⟨r1, p1, f1⟩ := R1 1 (by omega); obtain ⟨r2, p2, f2⟩ := R1 2 (by omega); obtain ⟨r3, p3, f3⟩ := R1 3 (by omega); have z1 := Nat.lt_of_lt_of_le z1 g2.size) | ((go_at_call 75; ((with_reducible refine (HWbc.out _ gw1).mono ?_); rintro r w2 ⟨rfl, g2⟩)); have gw1 := Ge.trans gw1 g2; have b0 := Ge.keep g2 b0; have b1 := Ge.keep g2 b1; have b2 := Ge.keep g2 b2; have b3 := Ge.keep g2 b3; have R1 := R1.ge g2; obtain ⟨r0, p0, f0⟩ := R1 0 (by omega); obtain ⟨r1, p1, f1⟩ := R1 1 (by omega); obtain ⟨r2, p2, f2⟩ := R1 2 (by omega); obtain ⟨r3, p3, f3⟩ := R1 3 (by omega); have z1 := Nat.lt_of_lt_of_le z1 g2.size) | ((go_at_call 75; ((with_reducible refine (HWac.out _ gw1).mono ?_); rintro r w2 ⟨rfl, g2⟩)); have gw1 := Ge.trans gw1 g2; have b0 := Ge.keep g2 b0; have b1 := Ge.keep g2 b1; have b2 := Ge.keep g2 b2; have b3 := Ge.keep g2 b3; have R1 := R1.ge g2; obtain ⟨r0, p0, f0⟩ := R1 0 (by omega); obtain ⟨r1, p1, f1⟩ := R1 1 (by omega); obtain ⟨r2, p2, f2⟩ := R1 2 (by omega); obtain ⟨r3, p3, f3⟩ := R1 3 (by omega); have z1 := Nat.lt_of_lt_of_le z1 g2.size) | ((go_at_call 70; ((with_reducible refine (HTa.out _ gw1).mono ?_); rintro r w3 ⟨G, f, cs, rfl, hO, g3⟩)); have HO := Lib.hid hO; have NB3 := Lib.hid (NetIn.ge (w := w2) (B := w.heap.size) (n := n) (e := e) (S := S) (v := .slice p m cap) ⟨b0, b1, b2, b3⟩ g3); have R3 := Lib.hid (R1.ge g3); have gw3 := Ge.trans gw1 g3; have lB := z1; clear hO))
  have HO0 : Hid (∃ q cp, OMx w3 w2.heap.size G n n q cp (triK T (X * Y * Z) n 0 0)) := ⟨_, _, (OMx.of HO.out).congr (triK_zero T (X * Y * Z) n)⟩
  clear b0 b1 b2 b3 R1 R0 NB0 HO p0 f0 p1 f1 p2 f2 p3 f3 HWab HWbc HWac HTa HNo
  generalize hBB : w2.heap.size = BB at *
  clear hBB
  go_wp2_with fail
  go_loopw [75] (fun i' wr => ∃ i : Nat, i ≤ n ∧ i' = .int .i64 i ∧ Hid (∃ q cp, OMx wr BB G n n q cp (triK T (X * Y * Z) n i 0)) ∧ Hid (NetIn wr w.heap.size n e S (.slice p m cap)) ∧ Hid (ResD wr (w.heap.size + 1)) ∧ Ge w wr) (fun i _ => n - (intOf i).toNat)
  case atStart => exact ⟨0, Nat.zero_le _, rfl, HO0.out, NB3.out, R3.out, gw3⟩
  case round =>
    clear HO0 NB3 R3
    obtain ⟨i, hi', rfl, HOx, HNi, HRi, hg⟩ := hrel
    by_cases hlt : i < n
    · go_wp2_with fail
      go_loopw [80] (fun j' wr => ∃ j : Nat, j ≤ n ∧ j' = .int .i64 j ∧ Hid (∃ q cp, OMx wr BB G n n q cp (triK T (X * Y * Z) n i j)) ∧ Hid (NetIn wr w.heap.size n e S (.slice p m cap)) ∧ Hid (ResD wr (w.heap.size + 1)) ∧ Ge w wr) (fun i _ => n - (intOf i).toNat)
      case atStart => exact ⟨0, Nat.zero_le _, rfl, HOx.out, HNi.out, HRi.out, hg⟩
      case round =>
        clear HOx HNi HRi hg
        obtain ⟨j, hj', rfl, ⟨q, cp, HO⟩, HNi, HRi, hg⟩ := hrel
        have HOi := Lib.hid HO
        clear HO
        by_cases hjn : j < n
        · have x0 := HOi.out.row hlt
          have y0 := HOi.out.entry hlt (j := j) (by rw [triK_len]; exact hjn)
          rw [triK_len] at x0
          rw [triK_at T _ hjn] at y0
          have yf := HOi.out.froz hlt j
          have hl := HOi.out.lt
          have HE := Lib.hid ((HOi.out.setE j hlt (T i j * (X * Y * Z))).congr (triK_set T (X * Y * Z) hjn))
          have fi := hl.2.2 i hlt
          have hpd := HPd.out i j
          have hv := HVs.out
          have u3 : wrap64 (T i j * (X * Y * Z)) = T i j * (X * Y * Z) := IntWalk.wrap64_in _ ⟨by omega, by omega⟩
          have k0 : ∀ y : Nat, (⟨q i, j, none⟩ : Addr) ≠ ⟨w.heap.size, y, none⟩ := fun y ee => by have := congrArg Addr.block ee; simp at this; omega
          have k1 : ∀ y : Nat, (⟨q i, j, none⟩ : Addr) ≠ ⟨w.heap.size + 1, y, none⟩ := fun y ee => by have := congrArg Addr.block ee; simp at this; omega
          have HNe : Hid (NetIn (wr.setCell ⟨q i, j, none⟩ (.int .i64 (T i j * (X * Y * Z)))) w.heap.size n e S (.slice p m cap)) := by
            obtain ⟨b0, b1, b2, b3⟩ := HNi.out
            exact ⟨cell_set2 (k0 0) b0, cell_set2 (k0 1) b1, cell_set2 (k0 2) b2, cell_set2 (k0 3) b3⟩
          have HRe : Hid (ResD (wr.setCell ⟨q i, j, none⟩ (.int .i64 (T i j * (X * Y * Z)))) (w.heap.size + 1)) := fun y hy => by
            obtain ⟨u, r1, r2⟩ := HRi.out y hy
            exact ⟨u, cell_set2 (k1 y) r1, froz_set r2⟩
          have hgE := Ge.setCell hg (p := ⟨q i, j, none⟩) (by show w.heap.size ≤ q i; omega) (.int .i64 (T i j * (X * Y * Z)))
          clear hl HOi HNi HRi k0 k1 hpd
          generalize T i j = TT at *
          clear hv HVs HW HTb HBd HPd HMe HPe HSe HLe HV HK HTn t0 t1 t1b t2 t2b t3 t3b t4 t4b t4c t5 t6 t7
          have u1 := HU1.out
          have u2 := HU2.out
          go_wp2_with fail
          clear u1 u2 u3
          go_roundw
          case rel => exact ⟨j + 1, by omega, by go_num, ⟨q, cp, HE.out⟩, HNe.out, HRe.out, hgE⟩
          case measure => simp [intOf]; omega
        · have hjn' : n = j := by omega
          subst hjn'
          have x0 := HOi.out.row hlt
          rw [triK_len] at x0
          have HRow := Lib.hid (HOi.out.own hlt)
          rw [triK_len] at HRow
          have hl := HOi.out.lt
          have fi := hl.2.2 i hlt
          have xf := HOi.out.frozG i
          have HNx := Lib.hid (triK_next T (X * Y * Z) n i)
          have kq : ∀ y : Nat, y ≠ q i → ∀ k, (Value.slice (some ⟨q i, 0, none⟩) n (cp i)).ownBlock = some k → y ≠ k := fun y hy k hk => by
            simp only [Value.ownBlock, Option.some.injEq] at hk
            rw [← hk]; exact hy
          have KQ := Lib.hid kq
          have lG := hl.1
          have lG2 := hl.2.1
          clear hl kq HU1 HU2 HVs HW HTb HBd HPd HMe HPe HSe HLe HV HK HTn t0 t1 t1b t2 t2b t3 t3b t4 t4b t4c t5 t6 t7
          go_wp2_with (at_builtin; refine ap_intX rfl _ _ rfl BB (q i) n (cp i) _ rfl HRow.out 0 rfl rfl (by omega) (by omega) ?_; intro g' c' w7 own7 m7 hb7; have x7 := mine_cell m7 x0 (KQ.out G (by omega)); have f7 := mine_frozN m7 x0 xf (KQ.out G (by omega)))
          have HE : Hid (∃ q' cp', OMx (w7.setCell ⟨G, i, none⟩ (.slice (some ⟨g', 0, none⟩) (n + 1) c')) BB G n n q' cp' (triK T (X * Y * Z) n (i + 1) 0)) := by
            have own8 := own7
            have m8 := m7
            have hk := HOi.out.appRow (w1 := wr) (w' := w7) (g' := g') (c' := c') hlt (Ge.refl _) 0 (by rw [triK_len]; exact own8) (by rw [triK_len]; exact m8) hb7
            rw [triK_len] at hk
            exact ⟨_, _, hk.congr HNx.out⟩
          have HNe : Hid (NetIn (w7.setCell ⟨G, i, none⟩ (.slice (some ⟨g', 0, none⟩) (n + 1) c')) w.heap.size n e S (.slice p m cap)) := by
            obtain ⟨b0, b1, b2, b3⟩ := HNi.out
            have k0 : ∀ y : Nat, (⟨G, i, none⟩ : Addr) ≠ ⟨w.heap.size, y, none⟩ := fun y ee => by have := congrArg Addr.block ee; simp at this; omega
            exact ⟨cell_set2 (k0 0) (mine_cell m7 b0 (KQ.out w.heap.size (by omega))), cell_set2 (k0 1) (mine_cell m7 b1 (KQ.out w.heap.size (by omega))), cell_set2 (k0 2) (mine_cell m7 b2 (KQ.out w.heap.size (by omega))), cell_set2 (k0 3) (mine_cell m7 b3 (KQ.out w.heap.size (by omega)))⟩
          have HRe : Hid (ResD (w7.setCell ⟨G, i, none⟩ (.slice (some ⟨g', 0, none⟩) (n + 1) c')) (w.heap.size + 1)) := fun y hy => by
            obtain ⟨u, r1, r2⟩ := HRi.out y hy
            exact ⟨u, cell_set2 (fun ee => by have := congrArg Addr.block ee; simp at this; omega) (mine_cell m7 r1 (KQ.out (w.heap.size + 1) (by omega))), froz_set (mine_frozN m7 r1 r2 (KQ.out (w.heap.size + 1) (by omega)))⟩
          have hgE := Ge.setCell (Ge.mine hg HRow.out (by omega) m7) (p := ⟨G, i, none⟩) (by show w.heap.size ≤ G; omega) (.slice (some ⟨g', 0, none⟩) (n + 1) c')
          clear HNi HRi HOi KQ own7 m7 HNx HRow hb7
          go_wp2_with fail
          go_roundw
          case rel => exact ⟨i + 1, by omega, by go_num, HE.out, HNe.out, HRe.out, hgE⟩
          case measure => simp [intOf]; omega
    · have hin : n = i := by omega
      subst hin
      obtain ⟨q, cp, HO⟩ := HOx.out
      have HOn := Lib.hid HO
      clear HO HOx
      obtain ⟨b0, b1, b2, b3⟩ := HNi.out
      have hl := HOn.out.lt
      have lG := hl.1
      have lG2 := hl.2.1
      obtain ⟨N1, HN1⟩ : ∃ N1, Hid (N1 = n + 1) := ⟨_, rfl⟩
      have hN5 : N1 ≤ 6 := by have := HN1.out; omega
      have oB : BB ≤ wr.heap.size := by omega
      have HEn : Hid ((n : Int) + 1 = (N1 : Int)) := by have := HN1.out; show _ = _; omega
      clear hl t0 t1 t1b t2 t2b t3 t3b t4 t4b t4c t5 t6 t7
      go_wp2_with (first | (at_make; refine mk1 rfl _ _ _ rfl 3 _ 1 8 Tryz.underlying51 inf_int (by decide) N1 (congrArg (Value.int .i64) HEn.out) (congrArg (Value.int .i64) HEn.out) (by omega) ?_; intro w5 own5 g5; rw [made_ints] at own5; have z5 := g5.size; have HO5 := Lib.hid own5; clear own5) | (at_builtin; refine ap_omx rfl _ _ rfl BB G n n q cp _ rfl HOn.out g5 (List.replicate N1 0) wr.heap.size N1 N1 (by simp) (owns_mono HO5.out (by omega)) (Nat.le_refl _) rfl rfl (by omega) (by omega) ?_; intro G2 c2 w6 hO6 m6; rw [← HN1.out]))
      have KG : ∀ y : Nat, y ≠ G → ∀ k, (Value.slice (some ⟨G, 0, none⟩) n n).ownBlock = some k → y ≠ k := fun y hy k hk => by
        simp only [Value.ownBlock, Option.some.injEq] at hk
        rw [← hk]; exact hy
      have HNi6 : Hid (NetIn w6 w.heap.size n e S (.slice p m cap)) := ⟨mine_cell m6 (g5.keep b0) (KG w.heap.size (by omega)), mine_cell m6 (g5.keep b1) (KG w.heap.size (by omega)), mine_cell m6 (g5.keep b2) (KG w.heap.size (by omega)), mine_cell m6 (g5.keep b3) (KG w.heap.size (by omega))⟩
      have HRi6 : Hid (ResD w6 (w.heap.size + 1)) := fun y hy => by
        obtain ⟨u, r1, r2⟩ := HRi.out.ge g5 y hy
        exact ⟨u, mine_cell m6 r1 (KG (w.heap.size + 1) (by omega)), mine_frozN m6 r1 r2 (KG (w.heap.size + 1) (by omega))⟩
      have hg6 : Ge w w6 := Ge.of_same (hg.trans g5) m6 (fun k hk => by have := KG k; simp only [Value.ownBlock, Option.some.injEq] at hk; omega)
      obtain ⟨q6, cp6, HO6⟩ : ∃ q6 cp6, Hid (OMx w6 BB G2 N1 c2 q6 cp6 (fun i => mapR N1 (triZ T (X * Y * Z) n a b c 0 i))) := ⟨_, _, by
        have h1 := HN1.out
        subst h1
        exact hO6.congr (triM_rows T (X * Y * Z) n)⟩
      clear hO6 m6 b0 b1 b2 b3 HNi HRi hg g5 HO5 HOn KG lG lG2 z5
      clear hi' oB hN5
      have hN6 : n < N1 := by have := HN1.out; omega
      have g7 : Ge w6 (w6.alloc (.cells #[.int .i64 (a : Int), .int .i64 (b : Int), .int .i64 (b : Int), .int .i64 (c : Int), .int .i64 (a : Int), .int .i64 (c : Int)] 121)) := Ge.alloc (Ge.refl _) _
      have HO7 := Lib.hid (HO6.out.ge g7)
      have HN7 := Lib.hid (HNi6.out.ge g7)
      have HR7 := Lib.hid (HRi6.out.ge g7)
      have hg7 := hg6.trans g7
      have HP7 : Hid (PrAt (w6.alloc (.cells #[.int .i64 (a : Int), .int .i64 (b : Int), .int .i64 (b : Int), .int .i64 (c : Int), .int .i64 (a : Int), .int .i64 (c : Int)] 121)) w6.heap.size a b c) := fun k u hk => cell_new rfl (by
        match k, hk with
        | 0, hk => simp at hk; subst hk; rfl
        | 1, hk => simp at hk; subst hk; rfl
        | 2, hk => simp at hk; subst hk; rfl
        | 3, hk => simp at hk; subst hk; rfl
        | 4, hk => simp at hk; subst hk; rfl
        | 5, hk => simp at hk; subst hk; rfl)
      have HQ6 : Hid (∀ x, x < N1 → ¬ w6.heap.size = q6 x) := fun x hx => by have := (HO6.out.lt.2.2 x hx).2.1; omega
      have lG := HO6.out.lt.1
      have lP : BB ≤ w6.heap.size := by have := HO6.out.lt.2.1; omega
      clear HO6 HNi6 HRi6 hg6 g7
      generalize hW7 : (w6.alloc (.cells #[.int .i64 (a : Int), .int .i64 (b : Int), .int .i64 (b : Int), .int .i64 (c : Int), .int .i64 (a : Int), .int .i64 (c : Int)] 121)) = W7 at *
      clear hW7
      generalize hPB : w6.heap.size = PB at *
      clear hPB
      clear HTn HEn
      go_loopw [126] (fun k' wr => ∃ k : Nat, k ≤ 3 ∧ k' = .int .i64 k ∧ Hid (OMx wr BB G2 N1 c2 q6 cp6 (fun i => mapR N1 (triZ T (X * Y * Z) n a b c k i))) ∧ Hid (NetIn wr w.heap.size n e S (.slice p m cap)) ∧ Hid (ResD wr (w.heap.size + 1)) ∧ Hid (PrAt wr PB a b c) ∧ Ge w wr) (fun i _ => 3 - (intOf i).toNat)
      case atStart => exact ⟨0, by omega, rfl, HO7.out, HN7.out, HR7.out, HP7.out, hg7⟩
      case round =>
        clear HO7 HN7 HR7 HP7 hg7
        obtain ⟨k, hk3, rfl, HOi, HNi, HRi, HPi, hg⟩ := hrel
        by_cases hlt : k < 3
        · rcases (by omega : k = 0 ∨ k = 1 ∨ k = 2) with rfl | rfl | rfl
          · have e0 := HPi.out 0 _ rfl
            have e1 := HPi.out 1 _ rfl
            have ia : a < N1 := by omega
            have ib : b < N1 := by omega
            have ic : c < N1 := by omega
            have qn1 := HOi.out.ne (i := a) (j := b) (by omega) (by omega) (by omega)
            have qn2 := HOi.out.ne (i := b) (j := a) (by omega) (by omega) (by omega)
            have p0 := HOi.out.rowM (i := a) (by omega)
            have p1 := HOi.out.rowM (i := b) (by omega)
            have yf := HOi.out.froz (i := a) (by omega) b
            have hl := HOi.out.lt
            have lp := hl.2.2 a (by omega)
            have lr := hl.2.2 b (by omega)
            have y0 := HOi.out.entM (i := a) (j := b) (by omega) (by omega)
            have y02 := HOi.out.entM (i := b) (j := a) (by omega) (by omega)
            have yf2 := HOi.out.froz (i := b) (by omega) a
            have g8 : Ge wr (wr.alloc (.cells #[.int .i64 (a : Int), .int .i64 (b : Int)] 121)) := Ge.alloc (Ge.refl _) _
            have d0 : (wr.alloc (.cells #[.int .i64 (a : Int), .int .i64 (b : Int)] 121)).cell? ⟨wr.heap.size, 0, none⟩ = some (.int .i64 (a : Int)) := cell_new rfl rfl
            have d1 : (wr.alloc (.cells #[.int .i64 (a : Int), .int .i64 (b : Int)] 121)).cell? ⟨wr.heap.size, 1, none⟩ = some (.int .i64 (b : Int)) := cell_new rfl rfl
            go_upto_region 23 with fail
            clear e0 e1
            have HO8 := Lib.hid (HOi.out.ge (g8.trans (Ge.drew (Ge.refl _))))
            have HE1 := Lib.hid (HO8.out.setM (i := a) (j := b) (by omega) (by omega) 0)
            have HE2 := Lib.hid ((HE1.out.ge (Ge.drew (Ge.refl _))).setM (i := b) (j := a) (by omega) (by omega) 0)
            have HN8 := Lib.hid (HNi.out.ge g8)
            have HR8 := Lib.hid (HRi.out.ge g8)
            have HP8 := Lib.hid (HPi.out.ge g8)
            have hg8 := hg.trans g8
            have x0 := g8.keep p0
            have x1 := g8.keep p1
            have y1 := g8.keep y0
            have yg := g8.keepF y0 yf
            have y12 := g8.keep y02
            have yg2 := g8.keepF y02 yf2
            have zz := World.block_lt_of_cell? _ _ d0
            clear p0 p1 y0 yf y02 yf2 g8 HOi HNi HRi HPi hg HO8 hl
            generalize hWW : wr.alloc (.cells #[.int .i64 (a : Int), .int .i64 (b : Int)] 121) = W8 at *
            clear hWW
            generalize hZZ : wr.heap.size = zb at *
            clear hZZ
            have kp : ∀ y : Nat, ¬ y = q6 a → ∀ z : Nat, (⟨q6 a, b, none⟩ : Addr) ≠ ⟨y, z, none⟩ := fun y hy z ee => by have := congrArg Addr.block ee; simp at this; omega
            have kr : ∀ y : Nat, ¬ y = q6 b → ∀ z : Nat, (⟨q6 b, a, none⟩ : Addr) ≠ ⟨y, z, none⟩ := fun y hy z ee => by have := congrArg Addr.block ee; simp at this; omega
            refine wp_region_head (S := fun w' => w'.cell? ⟨zb, 0, none⟩ = some (.int .i64 (a : Int)) ∧ w'.cell? ⟨zb, 1, none⟩ = some (.int .i64 (b : Int)) ∧ w'.cell? ⟨G2, a, none⟩ = some (.slice (some ⟨q6 a, 0, none⟩) N1 (cp6 a))) 8 (by kernel_rfl) (by kernel_rfl) (⟨cell_drew d0, cell_drew d1, cell_drew x0⟩) (fun hHeld => ?_)
            refine head_takeR 0 (v := ?_) rfl ?_ ?_; rotate_left; (focus (intro w' hSw; (try dsimp only at hSw); go_simp; (try with_reducible rfl))); (try simp only [Act.put, hnA, hnB, hnC])
            refine head_takeR 1 (v := ?_) rfl ?_ ?_; rotate_left; (focus (intro w' hSw; (try dsimp only at hSw); go_simp; (try with_reducible rfl))); (try simp only [Act.put, hnA, hnB, hnC])
            refine head_takeR 2 (v := ?_) rfl ?_ ?_; rotate_left; (focus (intro w' hSw; (try dsimp only at hSw); go_simp; (try with_reducible rfl))); (try simp only [Act.put, hnA, hnB, hnC])
            refine head_takeR 3 (v := ?_) rfl ?_ ?_; rotate_left; (focus (intro w' hSw; (try dsimp only at hSw); go_simp; (try with_reducible rfl))); (try simp only [Act.put, hnA, hnB, hnC])
            refine head_takeR 4 (v := ?_) rfl ?_ ?_; rotate_left; (focus (intro w' hSw; (try dsimp only at hSw); go_simp; (try with_reducible rfl))); (try simp only [Act.put, hnA, hnB, hnC])
            refine head_takeR 5 (v := ?_) rfl ?_ ?_; rotate_left; (focus (intro w' hSw; (try dsimp only at hSw); go_simp; (try with_reducible rfl))); (try simp only [Act.put, hnA, hnB, hnC])
            refine head_takeR 6 (v := ?_) rfl ?_ ?_; rotate_left; (focus (intro w' hSw; (try dsimp only at hSw); go_simp; (try with_reducible rfl))); (try simp only [Act.put, hnA, hnB, hnC])
            refine head_takeR 7 (v := ?_) rfl ?_ ?_; rotate_left; (focus (intro w' hSw; (try dsimp only at hSw); go_simp; (try with_reducible rfl))); (try simp only [Act.put, hnA, hnB, hnC])
            refine head_done (by kernel_rfl) ?_
            have v0 : (W8.drew.setCell ⟨q6 a, b, none⟩ (.int .i64 0)).drew.cell? ⟨zb, 0, none⟩ = some (.int .i64 (a : Int)) := cell_drew (cell_set2 (kp _ (by omega) _) (cell_drew d0))
            have v1 : (W8.drew.setCell ⟨q6 a, b, none⟩ (.int .i64 0)).drew.cell? ⟨zb, 1, none⟩ = some (.int .i64 (b : Int)) := cell_drew (cell_set2 (kp _ (by omega) _) (cell_drew d1))
            have v2 : (W8.drew.setCell ⟨q6 a, b, none⟩ (.int .i64 0)).drew.cell? ⟨G2, b, none⟩ = some (.slice (some ⟨q6 b, 0, none⟩) N1 (cp6 b)) := cell_drew (cell_set2 (kp _ (by omega) _) (cell_drew x1))
            have v3 := HE1.out.entM (i := b) (j := a) (by omega) (by omega)
            have v4 := HE1.out.froz (i := b) (by omega) a
            go_upto_region 24 with fail
            refine wp_region_head (S := fun w' => w'.cell? ⟨zb, 0, none⟩ = some (.int .i64 (a : Int)) ∧ w'.cell? ⟨zb, 1, none⟩ = some (.int .i64 (b : Int)) ∧ w'.cell? ⟨G2, b, none⟩ = some (.slice (some ⟨q6 b, 0, none⟩) N1 (cp6 b))) 8 (by kernel_rfl) (by kernel_rfl) (⟨v0, v1, v2⟩) (fun hHeld => ?_)
            refine head_takeR 0 (v := ?_) rfl ?_ ?_; rotate_left; (focus (intro w' hSw; (try dsimp only at hSw); go_simp; (try with_reducible rfl))); (try simp only [Act.put, hnA, hnB, hnC])
            refine head_takeR 1 (v := ?_) rfl ?_ ?_; rotate_left; (focus (intro w' hSw; (try dsimp only at hSw); go_simp; (try with_reducible rfl))); (try simp only [Act.put, hnA, hnB, hnC])
            refine head_takeR 2 (v := ?_) rfl ?_ ?_; rotate_left; (focus (intro w' hSw; (try dsimp only at hSw); go_simp; (try with_reducible rfl))); (try simp only [Act.put, hnA, hnB, hnC])
            refine head_takeR 3 (v := ?_) rfl ?_ ?_; rotate_left; (focus (intro w' hSw; (try dsimp only at hSw); go_simp; (try with_reducible rfl))); (try simp only [Act.put, hnA, hnB, hnC])
            refine head_takeR 4 (v := ?_) rfl ?_ ?_; rotate_left; (focus (intro w' hSw; (try dsimp only at hSw); go_simp; (try with_reducible rfl))); (try simp only [Act.put, hnA, hnB, hnC])
            refine head_takeR 5 (v := ?_) rfl ?_ ?_; rotate_left; (focus (intro w' hSw; (try dsimp only at hSw); go_simp; (try with_reducible rfl))); (try simp only [Act.put, hnA, hnB, hnC])
            refine head_takeR 6 (v := ?_) rfl ?_ ?_; rotate_left; (focus (intro w' hSw; (try dsimp only at hSw); go_simp; (try with_reducible rfl))); (try simp only [Act.put, hnA, hnB, hnC])
            refine head_takeR 7 (v := ?_) rfl ?_ ?_; rotate_left; (focus (intro w' hSw; (try dsimp only at hSw); go_simp; (try with_reducible rfl))); (try simp only [Act.put, hnA, hnB, hnC])
            refine head_done (by kernel_rfl) ?_
            have HNe : Hid (NetIn ((W8.drew.setCell ⟨q6 a, b, none⟩ (.int .i64 0)).drew.setCell ⟨q6 b, a, none⟩ (.int .i64 0)) w.heap.size n e S (.slice p m cap)) := by
              obtain ⟨b0, b1, b2, b3⟩ := HN8.out
              exact ⟨cell_set2 (kr _ (by omega) _) (cell_drew (cell_set2 (kp _ (by omega) _) (cell_drew b0))), cell_set2 (kr _ (by omega) _) (cell_drew (cell_set2 (kp _ (by omega) _) (cell_drew b1))), cell_set2 (kr _ (by omega) _) (cell_drew (cell_set2 (kp _ (by omega) _) (cell_drew b2))), cell_set2 (kr _ (by omega) _) (cell_drew (cell_set2 (kp _ (by omega) _) (cell_drew b3)))⟩
            have HRe : Hid (ResD ((W8.drew.setCell ⟨q6 a, b, none⟩ (.int .i64 0)).drew.setCell ⟨q6 b, a, none⟩ (.int .i64 0)) (w.heap.size + 1)) := fun y hy => by
              obtain ⟨u, r1, r2⟩ := HR8.out y hy
              exact ⟨u, cell_set2 (kr _ (by omega) _) (cell_drew (cell_set2 (kp _ (by omega) _) (cell_drew r1))), froz_set (froz_drew (froz_set (froz_drew r2)))⟩
            have HPe2 : Hid (PrAt ((W8.drew.setCell ⟨q6 a, b, none⟩ (.int .i64 0)).drew.setCell ⟨q6 b, a, none⟩ (.int .i64 0)) PB a b c) := fun k u hk => by
              have := HP8.out k u hk
              exact cell_set2 (kr _ (HQ6.out b (by omega)) _) (cell_drew (cell_set2 (kp _ (HQ6.out a (by omega)) _) (cell_drew this)))
            have hgE := Ge.setCell (Ge.drew (Ge.setCell (Ge.drew hg8) (p := ⟨q6 a, b, none⟩) (by show w.heap.size ≤ q6 a; omega) (.int .i64 0))) (p := ⟨q6 b, a, none⟩) (by show w.heap.size ≤ q6 b; omega) (.int .i64 0)
            clear HN8 HR8 HP8 kp kr
            go_wp2_with fail
            go_roundw
            case rel => exact ⟨1, by omega, rfl, HE2.out, HNe.out, HRe.out, HPe2.out, hgE⟩
            case measure => simp [intOf]
          · have e0 := HPi.out 2 _ rfl
            have e1 := HPi.out 3 _ rfl
            have ia : a < N1 := by omega
            have ib : b < N1 := by omega
            have ic : c < N1 := by omega
            have qn1 := HOi.out.ne (i := b) (j := c) (by omega) (by omega) (by omega)
            have qn2 := HOi.out.ne (i := c) (j := b) (by omega) (by omega) (by omega)
            have p0 := HOi.out.rowM (i := b) (by omega)
            have p1 := HOi.out.rowM (i := c) (by omega)
            have yf := HOi.out.froz (i := b) (by omega) c
            have hl := HOi.out.lt
            have lp := hl.2.2 b (by omega)
            have lr := hl.2.2 c (by omega)
            have y0 := HOi.out.entM (i := b) (j := c) (by omega) (by omega)
            have y02 := HOi.out.entM (i := c) (j := b) (by omega) (by omega)
            have yf2 := HOi.out.froz (i := c) (by omega) b
            have g8 : Ge wr (wr.alloc (.cells #[.int .i64 (b : Int), .int .i64 (c : Int)] 121)) := Ge.alloc (Ge.refl _) _
            have d0 : (wr.alloc (.cells #[.int .i64 (b : Int), .int .i64 (c : Int)] 121)).cell? ⟨wr.heap.size, 0, none⟩ = some (.int .i64 (b : Int)) := cell_new rfl rfl
            have d1 : (wr.alloc (.cells #[.int .i64 (b : Int), .int .i64 (c : Int)] 121)).cell? ⟨wr.heap.size, 1, none⟩ = some (.int .i64 (c : Int)) := cell_new rfl rfl
            go_upto_region 23 with fail
            clear e0 e1
            have HO8 := Lib.hid (HOi.out.ge (g8.trans (Ge.drew (Ge.refl _))))
            have HE1 := Lib.hid (HO8.out.setM (i := b) (j := c) (by omega) (by omega) 0)
            have HE2 := Lib.hid ((HE1.out.ge (Ge.drew (Ge.refl _))).setM (i := c) (j := b) (by omega) (by omega) 0)
            have HN8 := Lib.hid (HNi.out.ge g8)
            have HR8 := Lib.hid (HRi.out.ge g8)
            have HP8 := Lib.hid (HPi.out.ge g8)
            have hg8 := hg.trans g8
            have x0 := g8.keep p0
            have x1 := g8.keep p1
            have y1 := g8.keep y0
            have yg := g8.keepF y0 yf
            have y12 := g8.keep y02
            have yg2 := g8.keepF y02 yf2
            have zz := World.block_lt_of_cell? _ _ d0
            clear p0 p1 y0 yf y02 yf2 g8 HOi HNi HRi HPi hg HO8 hl
            generalize hWW : wr.alloc (.cells #[.int .i64 (b : Int), .int .i64 (c : Int)] 121) = W8 at *
            clear hWW
            generalize hZZ : wr.heap.size = zb at *
            clear hZZ
            have kp : ∀ y : Nat, ¬ y = q6 b → ∀ z : Nat, (⟨q6 b, c, none⟩ : Addr) ≠ ⟨y, z, none⟩ := fun y hy z ee => by have := congrArg Addr.block ee; simp at this; omega
            have kr : ∀ y : Nat, ¬ y = q6 c → ∀ z : Nat, (⟨q6 c, b, none⟩ : Addr) ≠ ⟨y, z, none⟩ := fun y hy z ee => by have := congrArg Addr.block ee; simp at this; omega
            refine wp_region_head (S := fun w' => w'.cell? ⟨zb, 0, none⟩ = some (.int .i64 (b : Int)) ∧ w'.cell? ⟨zb, 1, none⟩ = some (.int .i64 (c : Int)) ∧ w'.cell? ⟨G2, b, none⟩ = some (.slice (some ⟨q6 b, 0, none⟩) N1 (cp6 b))) 8 (by kernel_rfl) (by kernel_rfl) (⟨cell_drew d0, cell_drew d1, cell_drew x0⟩) (fun hHeld => ?_)
            refine head_takeR 0 (v := ?_) rfl ?_ ?_; rotate_left; (focus (intro w' hSw; (try dsimp only at hSw); go_simp; (try with_reducible rfl))); (try simp only [Act.put, hnA, hnB, hnC])
            refine head_takeR 1 (v := ?_) rfl ?_ ?_; rotate_left; (focus (intro w' hSw; (try dsimp only at hSw); go_simp; (try with_reducible rfl))); (try simp only [Act.put, hnA, hnB, hnC])
            refine head_takeR 2 (v := ?_) rfl ?_ ?_; rotate_left; (focus (intro w' hSw; (try dsimp only at hSw); go_simp; (try with_reducible rfl))); (try simp only [Act.put, hnA, hnB, hnC])
            refine head_takeR 3 (v := ?_) rfl ?_ ?_; rotate_left; (focus (intro w' hSw; (try dsimp only at hSw); go_simp; (try with_reducible rfl))); (try simp only [Act.put, hnA, hnB, hnC])
            refine head_takeR 4 (v := ?_) rfl ?_ ?_; rotate_left; (focus (intro w' hSw; (try dsimp only at hSw); go_simp; (try with_reducible rfl))); (try simp only [Act.put, hnA, hnB, hnC])
            refine head_takeR 5 (v := ?_) rfl ?_ ?_; rotate_left; (focus (intro w' hSw; (try dsimp only at hSw); go_simp; (try with_reducible rfl))); (try simp only [Act.put, hnA, hnB, hnC])
            refine head_takeR 6 (v := ?_) rfl ?_ ?_; rotate_left; (focus (intro w' hSw; (try dsimp only at hSw); go_simp; (try with_reducible rfl))); (try simp only [Act.put, hnA, hnB, hnC])
            refine head_takeR 7 (v := ?_) rfl ?_ ?_; rotate_left; (focus (intro w' hSw; (try dsimp only at hSw); go_simp; (try with_reducible rfl))); (try simp only [Act.put, hnA, hnB, hnC])
            refine head_done (by kernel_rfl) ?_
            have v0 : (W8.drew.setCell ⟨q6 b, c, none⟩ (.int .i64 0)).drew.cell? ⟨zb, 0, none⟩ = some (.int .i64 (b : Int)) := cell_drew (cell_set2 (kp _ (by omega) _) (cell_drew d0))
            have v1 : (W8.drew.setCell ⟨q6 b, c, none⟩ (.int .i64 0)).drew.cell? ⟨zb, 1, none⟩ = some (.int .i64 (c : Int)) := cell_drew (cell_set2 (kp _ (by omega) _) (cell_drew d1))
            have v2 : (W8.drew.setCell ⟨q6 b, c, none⟩ (.int .i64 0)).drew.cell? ⟨G2, c, none⟩ = some (.slice (some ⟨q6 c, 0, none⟩) N1 (cp6 c)) := cell_drew (cell_set2 (kp _ (by omega) _) (cell_drew x1))
            have v3 := HE1.out.entM (i := c) (j := b) (by omega) (by omega)
            have v4 := HE1.out.froz (i := c) (by omega) b
            go_upto_region 24 with fail
            refine wp_region_head (S := fun w' => w'.cell? ⟨zb, 0, none⟩ = some (.int .i64 (b : Int)) ∧ w'.cell? ⟨zb, 1, none⟩ = some (.int .i64 (c : Int)) ∧ w'.cell? ⟨G2, c, none⟩ = some (.slice (some ⟨q6 c, 0, none⟩) N1 (cp6 c))) 8 (by kernel_rfl) (by kernel_rfl) (⟨v0, v1, v2⟩) (fun hHeld => ?_)
            refine head_takeR 0 (v := ?_) rfl ?_ ?_; rotate_left; (focus (intro w' hSw; (try dsimp only at hSw); go_simp; (try with_reducible rfl))); (try simp only [Act.put, hnA, hnB, hnC])
            refine head_takeR 1 (v := ?_) rfl ?_ ?_; rotate_left; (focus (intro w' hSw; (try dsimp only at hSw); go_simp; (try with_reducible rfl))); (try simp only [Act.put, hnA, hnB, hnC])
            refine head_takeR 2 (v := ?_) rfl ?_ ?_; rotate_left; (focus (intro w' hSw; (try dsimp only at hSw); go_simp; (try with_reducible rfl))); (try simp only [Act.put, hnA, hnB, hnC])
            refine head_takeR 3 (v := ?_) rfl ?_ ?_; rotate_left; (focus (intro w' hSw; (try dsimp only at hSw); go_simp; (try with_reducible rfl))); (try simp only [Act.put, hnA, hnB, hnC])
            refine head_takeR 4 (v := ?_) rfl ?_ ?_; rotate_left; (focus (intro w' hSw; (try dsimp only at hSw); go_simp; (try with_reducible rfl))); (try simp only [Act.put, hnA, hnB, hnC])
            refine head_takeR 5 (v := ?_) rfl ?_ ?_; rotate_left; (focus (intro w' hSw; (try dsimp only at hSw); go_simp; (try with_reducible rfl))); (try simp only [Act.put, hnA, hnB, hnC])
            refine head_takeR 6 (v := ?_) rfl ?_ ?_; rotate_left; (focus (intro w' hSw; (try dsimp only at hSw); go_simp; (try with_reducible rfl))); (try simp only [Act.put, hnA, hnB, hnC])
            refine head_takeR 7 (v := ?_) rfl ?_ ?_; rotate_left; (focus (intro w' hSw; (try dsimp only at hSw); go_simp; (try with_reducible rfl))); (try simp only [Act.put, hnA, hnB, hnC])
            refine head_done (by kernel_rfl) ?_
            have HNe : Hid (NetIn ((W8.drew.setCell ⟨q6 b, c, none⟩ (.int .i64 0)).drew.setCell ⟨q6 c, b, none⟩ (.int .i64 0)) w.heap.size n e S (.slice p m cap)) := by
              obtain ⟨b0, b1, b2, b3⟩ := HN8.out
              exact ⟨cell_set2 (kr _ (by omega) _) (cell_drew (cell_set2 (kp _ (by omega) _) (cell_drew b0))), cell_set2 (kr _ (by omega) _) (cell_drew (cell_set2 (kp _ (by omega) _) (cell_drew b1))), cell_set2 (kr _ (by omega) _) (cell_drew (cell_set2 (kp _ (by omega) _) (cell_drew b2))), cell_set2 (kr _ (by omega) _) (cell_drew (cell_set2 (kp _ (by omega) _) (cell_drew b3)))⟩
            have HRe : Hid (ResD ((W8.drew.setCell ⟨q6 b, c, none⟩ (.int .i64 0)).drew.setCell ⟨q6 c, b, none⟩ (.int .i64 0)) (w.heap.size + 1)) := fun y hy => by
              obtain ⟨u, r1, r2⟩ := HR8.out y hy
              exact ⟨u, cell_set2 (kr _ (by omega) _) (cell_drew (cell_set2 (kp _ (by omega) _) (cell_drew r1))), froz_set (froz_drew (froz_set (froz_drew r2)))⟩
            have HPe2 : Hid (PrAt ((W8.drew.setCell ⟨q6 b, c, none⟩ (.int .i64 0)).drew.setCell ⟨q6 c, b, none⟩ (.int .i64 0)) PB a b c) := fun k u hk => by
              have := HP8.out k u hk
              exact cell_set2 (kr _ (HQ6.out c (by omega)) _) (cell_drew (cell_set2 (kp _ (HQ6.out b (by omega)) _) (cell_drew this)))
            have hgE := Ge.setCell (Ge.drew (Ge.setCell (Ge.drew hg8) (p := ⟨q6 b, c, none⟩) (by show w.heap.size ≤ q6 b; omega) (.int .i64 0))) (p := ⟨q6 c, b, none⟩) (by show w.heap.size ≤ q6 c; omega) (.int .i64 0)
            clear HN8 HR8 HP8 kp kr
            go_wp2_with fail
            go_roundw
            case rel => exact ⟨2, by omega, rfl, HE2.out, HNe.out, HRe.out, HPe2.out, hgE⟩
            case measure => simp [intOf]
          · have e0 := HPi.out 4 _ rfl
            have e1 := HPi.out 5 _ rfl
            have ia : a < N1 := by omega
            have ib : b < N1 := by omega
            have ic : c < N1 := by omega
            have qn1 := HOi.out.ne (i := a) (j := c) (by omega) (by omega) (by omega)
            have qn2 := HOi.out.ne (i := c) (j := a) (by omega) (by omega) (by omega)
            have p0 := HOi.out.rowM (i := a) (by omega)
            have p1 := HOi.out.rowM (i := c) (by omega)
            have yf := HOi.out.froz (i := a) (by omega) c
            have hl := HOi.out.lt
            have lp := hl.2.2 a (by omega)
            have lr := hl.2.2 c (by omega)
            have y0 := HOi.out.entM (i := a) (j := c) (by omega) (by omega)
            have y02 := HOi.out.entM (i := c) (j := a) (by omega) (by omega)
            have yf2 := HOi.out.froz (i := c) (by omega) a
            have g8 : Ge wr (wr.alloc (.cells #[.int .i64 (a : Int), .int .i64 (c : Int)] 121)) := Ge.alloc (Ge.refl _) _
            have d0 : (wr.alloc (.cells #[.int .i64 (a : Int), .int .i64 (c : Int)] 121)).cell? ⟨wr.heap.size, 0, none⟩ = some (.int .i64 (a : Int)) := cell_new rfl rfl
            have d1 : (wr.alloc (.cells #[.int .i64 (a : Int), .int .i64 (c : Int)] 121)).cell? ⟨wr.heap.size, 1, none⟩ = some (.int .i64 (c : Int)) := cell_new rfl rfl
            go_upto_region 23 with fail
            clear e0 e1
            have HO8 := Lib.hid (HOi.out.ge (g8.trans (Ge.drew (Ge.refl _))))
            have HE1 := Lib.hid (HO8.out.setM (i := a) (j := c) (by omega) (by omega) 0)
            have HE2 := Lib.hid ((HE1.out.ge (Ge.drew (Ge.refl _))).setM (i := c) (j := a) (by omega) (by omega) 0)
            have HN8 := Lib.hid (HNi.out.ge g8)
            have HR8 := Lib.hid (HRi.out.ge g8)
            have HP8 := Lib.hid (HPi.out.ge g8)
            have hg8 := hg.trans g8
            have x0 := g8.keep p0
            have x1 := g8.keep p1
            have y1 := g8.keep y0
            have yg := g8.keepF y0 yf
            have y12 := g8.keep y02
            have yg2 := g8.keepF y02 yf2
            have zz := World.block_lt_of_cell? _ _ d0
            clear p0 p1 y0 yf y02 yf2 g8 HOi HNi HRi HPi hg HO8 hl
            generalize hWW : wr.alloc (.cells #[.int .i64 (a : Int), .int .i64 (c : Int)] 121) = W8 at *
            clear hWW
            generalize hZZ : wr.heap.size = zb at *
            clear hZZ
            have kp : ∀ y : Nat, ¬ y = q6 a → ∀ z : Nat, (⟨q6 a, c, none⟩ : Addr) ≠ ⟨y, z, none⟩ := fun y hy z ee => by have := congrArg Addr.block ee; simp at this; omega
            have kr : ∀ y : Nat, ¬ y = q6 c → ∀ z : Nat, (⟨q6 c, a, none⟩ : Addr) ≠ ⟨y, z, none⟩ := fun y hy z ee => by have := congrArg Addr.block ee; simp at this; omega
            refine wp_region_head (S := fun w' => w'.cell? ⟨zb, 0, none⟩ = some (.int .i64 (a : Int)) ∧ w'.cell? ⟨zb, 1, none⟩ = some (.int .i64 (c : Int)) ∧ w'.cell? ⟨G2, a, none⟩ = some (.slice (some ⟨q6 a, 0, none⟩) N1 (cp6 a))) 8 (by kernel_rfl) (by kernel_rfl) (⟨cell_drew d0, cell_drew d1, cell_drew x0⟩) (fun hHeld => ?_)
            refine head_takeR 0 (v := ?_) rfl ?_ ?_; rotate_left; (focus (intro w' hSw; (try dsimp only at hSw); go_simp; (try with_reducible rfl))); (try simp only [Act.put, hnA, hnB, hnC])
            refine head_takeR 1 (v := ?_) rfl ?_ ?_; rotate_left; (focus (intro w' hSw; (try dsimp only at hSw); go_simp; (try with_reducible rfl))); (try simp only [Act.put, hnA, hnB, hnC])
            refine head_takeR 2 (v := ?_) rfl ?_ ?_; rotate_left; (focus (intro w' hSw; (try dsimp only at hSw); go_simp; (try with_reducible rfl))); (try simp only [Act.put, hnA, hnB, hnC])
            refine head_takeR 3 (v := ?_) rfl ?_ ?_; rotate_left; (focus (intro w' hSw; (try dsimp only at hSw); go_simp; (try with_reducible rfl))); (try simp only [Act.put, hnA, hnB, hnC])
            refine head_takeR 4 (v := ?_) rfl ?_ ?_; rotate_left; (focus (intro w' hSw; (try dsimp only at hSw); go_simp; (try with_reducible rfl))); (try simp only [Act.put, hnA, hnB, hnC])
            refine head_takeR 5 (v := ?_) rfl ?_ ?_; rotate_left; (focus (intro w' hSw; (try dsimp only at hSw); go_simp; (try with_reducible rfl))); (try simp only [Act.put, hnA, hnB, hnC])
            refine head_takeR 6 (v := ?_) rfl ?_ ?_; rotate_left; (focus (intro w' hSw; (try dsimp only at hSw); go_simp; (try with_reducible rfl))); (try simp only [Act.put, hnA, hnB, hnC])
            refine head_takeR 7 (v := ?_) rfl ?_ ?_; rotate_left; (focus (intro w' hSw; (try dsimp only at hSw); go_simp; (try with_reducible rfl))); (try simp only [Act.put, hnA, hnB, hnC])
            refine head_done (by kernel_rfl) ?_
            have v0 : (W8.drew.setCell ⟨q6 a, c, none⟩ (.int .i64 0)).drew.cell? ⟨zb, 0, none⟩ = some (.int .i64 (a : Int)) := cell_drew (cell_set2 (kp _ (by omega) _) (cell_drew d0))
            have v1 : (W8.drew.setCell ⟨q6 a, c, none⟩ (.int .i64 0)).drew.cell? ⟨zb, 1, none⟩ = some (.int .i64 (c : Int)) := cell_drew (cell_set2 (kp _ (by omega) _) (cell_drew d1))
            have v2 : (W8.drew.setCell ⟨q6 a, c, none⟩ (.int .i64 0)).drew.cell? ⟨G2, c, none⟩ = some (.slice (some ⟨q6 c, 0, none⟩) N1 (cp6 c)) := cell_drew (cell_set2 (kp _ (by omega) _) (cell_drew x1))
            have v3 := HE1.out.entM (i := c) (j := a) (by omega) (by omega)
            have v4 := HE1.out.froz (i := c) (by omega) a
            go_upto_region 24 with fail
            refine wp_region_head (S := fun w' => w'.cell? ⟨zb, 0, none⟩ = some (.int .i64 (a : Int)) ∧ w'.cell? ⟨zb, 1, none⟩ = some (.int .i64 (c : Int)) ∧ w'.cell? ⟨G2, c, none⟩ = some (.slice (some ⟨q6 c, 0, none⟩) N1 (cp6 c))) 8 (by kernel_rfl) (by kernel_rfl) (⟨v0, v1, v2⟩) (fun hHeld => ?_)
            refine head_takeR 0 (v := ?_) rfl ?_ ?_; rotate_left; (focus (intro w' hSw; (try dsimp only at hSw); go_simp; (try with_reducible rfl))); (try simp only [Act.put, hnA, hnB, hnC])
            refine head_takeR 1 (v := ?_) rfl ?_ ?_; rotate_left; (focus (intro w' hSw; (try dsimp only at hSw); go_simp; (try with_reducible rfl))); (try simp only [Act.put, hnA, hnB, hnC])
            refine head_takeR 2 (v := ?_) rfl ?_ ?_; rotate_left; (focus (intro w' hSw; (try dsimp only at hSw); go_simp; (try with_reducible rfl))); (try simp only [Act.put, hnA, hnB, hnC])
            refine head_takeR 3 (v := ?_) rfl ?_ ?_; rotate_left; (focus (intro w' hSw; (try dsimp only at hSw); go_simp; (try with_reducible rfl))); (try simp only [Act.put, hnA, hnB, hnC])
            refine head_takeR 4 (v := ?_) rfl ?_ ?_; rotate_left; (focus (intro w' hSw; (try dsimp only at hSw); go_simp; (try with_reducible rfl))); (try simp only [Act.put, hnA, hnB, hnC])
            refine head_takeR 5 (v := ?_) rfl ?_ ?_; rotate_left; (focus (intro w' hSw; (try dsimp only at hSw); go_simp; (try with_reducible rfl))); (try simp only [Act.put, hnA, hnB, hnC])
            refine head_takeR 6 (v := ?_) rfl ?_ ?_; rotate_left; (focus (intro w' hSw; (try dsimp only at hSw); go_simp; (try with_reducible rfl))); (try simp only [Act.put, hnA, hnB, hnC])
            refine head_takeR 7 (v := ?_) rfl ?_ ?_; rotate_left; (focus (intro w' hSw; (try dsimp only at hSw); go_simp; (try with_reducible rfl))); (try simp only [Act.put, hnA, hnB, hnC])
            refine head_done (by kernel_rfl) ?_
            have HNe : Hid (NetIn ((W8.drew.setCell ⟨q6 a, c, none⟩ (.int .i64 0)).drew.setCell ⟨q6 c, a, none⟩ (.int .i64 0)) w.heap.size n e S (.slice p m cap)) := by
              obtain ⟨b0, b1, b2, b3⟩ := HN8.out
              exact ⟨cell_set2 (kr _ (by omega) _) (cell_drew (cell_set2 (kp _ (by omega) _) (cell_drew b0))), cell_set2 (kr _ (by omega) _) (cell_drew (cell_set2 (kp _ (by omega) _) (cell_drew b1))), cell_set2 (kr _ (by omega) _) (cell_drew (cell_set2 (kp _ (by omega) _) (cell_drew b2))), cell_set2 (kr _ (by omega) _) (cell_drew (cell_set2 (kp _ (by omega) _) (cell_drew b3)))⟩
            have HRe : Hid (ResD ((W8.drew.setCell ⟨q6 a, c, none⟩ (.int .i64 0)).drew.setCell ⟨q6 c, a, none⟩ (.int .i64 0)) (w.heap.size + 1)) := fun y hy => by
              obtain ⟨u, r1, r2⟩ := HR8.out y hy
              exact ⟨u, cell_set2 (kr _ (by omega) _) (cell_drew (cell_set2 (kp _ (by omega) _) (cell_drew r1))), froz_set (froz_drew (froz_set (froz_drew r2)))⟩
            have HPe2 : Hid (PrAt ((W8.drew.setCell ⟨q6 a, c, none⟩ (.int .i64 0)).drew.setCell ⟨q6 c, a, none⟩ (.int .i64 0)) PB a b c) := fun k u hk => by
              have := HP8.out k u hk
              exact cell_set2 (kr _ (HQ6.out c (by omega)) _) (cell_drew (cell_set2 (kp _ (HQ6.out a (by omega)) _) (cell_drew this)))
            have hgE := Ge.setCell (Ge.drew (Ge.setCell (Ge.drew hg8) (p := ⟨q6 a, c, none⟩) (by show w.heap.size ≤ q6 a; omega) (.int .i64 0))) (p := ⟨q6 c, a, none⟩) (by show w.heap.size ≤ q6 c; omega) (.int .i64 0)
            clear HN8 HR8 HP8 kp kr
            go_wp2_with fail
            go_roundw
            case rel => exact ⟨3, by omega, rfl, HE2.out, HNe.out, HRe.out, HPe2.out, hgE⟩
            case measure => simp [intOf]
        · have hk4 : k = 3 := by omega
          subst hk4
          obtain ⟨hwx, hwy, hwz⟩ := HW.out
          obtain ⟨⟨v1, v2⟩, v3, v4⟩ := prod3_bd hwx hwy hwz
          obtain ⟨⟨v5, v6⟩, _⟩ := prod3_bd hwy hwz hwx
          obtain ⟨⟨v7, v8⟩, _⟩ := prod3_bd hwz hwx hwy
          have hs : 0 ≤ X * Y + Y * Z + Z * X ∧ X * Y + Y * Z + Z * X ≤ 120000 := by omega
          have hSX : 0 ≤ S ∧ S ≤ 1000 := by omega
          obtain ⟨U, HU⟩ : ∃ U, Hid (X * Y + Y * Z + Z * X = U) := ⟨_, rfl⟩
          have huS : 0 ≤ U ∧ U ≤ 120000 := by rw [← HU.out]; exact hs
          obtain ⟨⟨r1, r2⟩, r3, r4⟩ := prod3_bd huS hwx hwz
          obtain ⟨_, r5, r6⟩ := prod3_bd huS hwx hwy
          obtain ⟨⟨r7, r8⟩, r9, r10⟩ := prod3_bd huS hwy hwz
          obtain ⟨⟨s3, s4⟩, s5, s6⟩ := prod3_bd hSX hwx hwy
          have s7 : 0 ≤ S * X * Y * Z := Int.mul_nonneg s5 hwz.1
          have s8 : S * X * Y * Z ≤ 1000 * 200 * 200 * 200 := Int.mul_le_mul s6 hwz.2 hwz.1 (by omega)
          obtain ⟨XY, HXY⟩ : ∃ t, Hid (X * Y = t) := ⟨_, rfl⟩
          obtain ⟨YZ, HYZ⟩ : ∃ t, Hid (Y * Z = t) := ⟨_, rfl⟩
          obtain ⟨ZX, HZX⟩ : ∃ t, Hid (Z * X = t) := ⟨_, rfl⟩
          obtain ⟨S1, HS1⟩ : ∃ t, Hid (XY + YZ = t) := ⟨_, rfl⟩
          obtain ⟨UX, HUX⟩ : ∃ t, Hid (U * X = t) := ⟨_, rfl⟩
          obtain ⟨UY, HUY⟩ : ∃ t, Hid (U * Y = t) := ⟨_, rfl⟩
          obtain ⟨Q1, HQ1⟩ : ∃ t, Hid (UX * Z = t) := ⟨_, rfl⟩
          obtain ⟨Q2, HQ2⟩ : ∃ t, Hid (UX * Y = t) := ⟨_, rfl⟩
          obtain ⟨Q3, HQ3⟩ : ∃ t, Hid (UY * Z = t) := ⟨_, rfl⟩
          obtain ⟨SX, HSX⟩ : ∃ t, Hid (S * X = t) := ⟨_, rfl⟩
          obtain ⟨SXY, HSXY⟩ : ∃ t, Hid (SX * Y = t) := ⟨_, rfl⟩
          have XYW : Hid (wrap64 (X * Y) = XY) := (IntWalk.wrap64_in _ ⟨by omega, by omega⟩).trans HXY.out
          have YZW : Hid (wrap64 (Y * Z) = YZ) := (IntWalk.wrap64_in _ ⟨by omega, by omega⟩).trans HYZ.out
          have ZXW : Hid (wrap64 (Z * X) = ZX) := (IntWalk.wrap64_in _ ⟨by omega, by omega⟩).trans HZX.out
          have S1W : Hid (wrap64 (XY + YZ) = S1) := by rw [← HS1.out, ← HXY.out, ← HYZ.out]; exact IntWalk.wrap64_in _ ⟨by omega, by omega⟩
          have UW : Hid (wrap64 (S1 + ZX) = U) := by rw [← HS1.out, ← HXY.out, ← HYZ.out, ← HZX.out, ← HU.out]; exact IntWalk.wrap64_in _ ⟨by omega, by omega⟩
          have UXW : Hid (IntKind.i64.wrap (U * X) = UX) := (IntWalk.i64_in _ (by omega)).trans HUX.out
          have UYW : Hid (IntKind.i64.wrap (U * Y) = UY) := (IntWalk.i64_in _ (by omega)).trans HUY.out
          have Q1W : Hid (IntKind.i64.wrap (UX * Z) = Q1) := by rw [← HQ1.out, ← HUX.out]; exact IntWalk.i64_in _ (by omega)
          have Q2W : Hid (IntKind.i64.wrap (UX * Y) = Q2) := by rw [← HQ2.out, ← HUX.out]; exact IntWalk.i64_in _ (by omega)
          have Q3W : Hid (IntKind.i64.wrap (UY * Z) = Q3) := by rw [← HQ3.out, ← HUY.out]; exact IntWalk.i64_in _ (by omega)
          have UXV : Hid (wrap64 (U * X) = UX) := (IntWalk.wrap64_in _ ⟨by omega, by omega⟩).trans HUX.out
          have UYV : Hid (wrap64 (U * Y) = UY) := (IntWalk.wrap64_in _ ⟨by omega, by omega⟩).trans HUY.out
          have Q1V : Hid (wrap64 (UX * Z) = Q1) := by rw [← HQ1.out, ← HUX.out]; exact IntWalk.wrap64_in _ ⟨by omega, by omega⟩
          have Q2V : Hid (wrap64 (UX * Y) = Q2) := by rw [← HQ2.out, ← HUX.out]; exact IntWalk.wrap64_in _ ⟨by omega, by omega⟩
          have Q3V : Hid (wrap64 (UY * Z) = Q3) := by rw [← HQ3.out, ← HUY.out]; exact IntWalk.wrap64_in _ ⟨by omega, by omega⟩
          have SXW : Hid (wrap64 (S * X) = SX) := (IntWalk.wrap64_in _ ⟨by omega, by omega⟩).trans HSX.out
          have SXYW : Hid (wrap64 (SX * Y) = SXY) := by rw [← HSXY.out, ← HSX.out]; exact IntWalk.wrap64_in _ ⟨by omega, by omega⟩
          have PPW : Hid (wrap64 (SXY * Z) = PP) := by rw [← HSXY.out, ← HSX.out, HPe.out]; exact IntWalk.wrap64_in _ ⟨by omega, by omega⟩
          have s9 : Hid (0 < PP ∧ PP ≤ 1000000000000) := by
            rw [HPe.out]
            have t1 : 0 < S * X := Int.mul_pos (by omega) (by have := HX0.out; omega)
            have t2 : 0 < S * X * Y := Int.mul_pos t1 (by have := HX0.out; omega)
            have t3 : 0 < S * X * Y * Z := Int.mul_pos t2 (by have := HX0.out; omega)
            exact ⟨t3, by omega⟩
          have HTE : Hid (setM (setM (setM (triZ T (X * Y * Z) n a b c 3) a n Q1) b n Q2) c n Q3 = triT T n a b c X Y Z) := by
            rw [← HQ1.out, ← HQ2.out, ← HQ3.out, ← HUX.out, ← HUY.out, ← HU.out]; rfl
          clear hwx hwy hwz v1 v2 v3 v4 v5 v6 v7 v8 hs hSX huS r1 r2 r3 r4 r5 r6 r7 r8 r9 r10 s3 s4 s5 s6 s7 s8
          have XYX := XYW.out
          have YZX := YZW.out
          have ZXX := ZXW.out
          have S1X := S1W.out
          have UXX := UW.out
          go_upto_region 27 with fail
          rw [UW.out]
          clear XYX YZX ZXX S1X UXX
          have p0 := HOi.out.rowM (i := a) (by omega)
          have y0 := HOi.out.entM (i := a) (j := n) (by omega) hN6
          have yf := HOi.out.froz (i := a) (by omega) n
          obtain ⟨b0, b1, b2, b3⟩ := HNi.out
          have lv := HOi.out.lt.2.2 a (by omega)
          have iv : a < N1 := by omega
          have z1 : IntKind.i64.wrap (U * X) = UX := UXW.out
          have z2 : IntKind.i64.wrap (UX * Z) = Q1 := Q1W.out
          have z3 : wrap64 (U * X) = UX := UXV.out
          have z4 : wrap64 (UX * Z) = Q1 := Q1V.out
          refine wp_region_head (S := fun w' => w'.cell? ⟨G2, a, none⟩ = some (.slice (some ⟨q6 a, 0, none⟩) N1 (cp6 a)) ∧ w'.cell? ⟨w.heap.size, 0, none⟩ = some (.int .i64 (n : Int))) 12 (by kernel_rfl) (by kernel_rfl) (⟨cell_drew p0, cell_drew b0⟩) (fun hHeld => ?_)
          refine head_takeR 0 (v := ?_) rfl ?_ ?_; rotate_left; (focus (intro w' hSw; (try dsimp only at hSw); go_simp; (try with_reducible rfl))); (try simp only [Act.put, hnA, hnB, hnC])
          refine head_takeR 1 (v := ?_) rfl ?_ ?_; rotate_left; (focus (intro w' hSw; (try dsimp only at hSw); go_simp; (try with_reducible rfl))); (try simp only [Act.put, hnA, hnB, hnC])
          refine head_takeR 2 (v := ?_) rfl ?_ ?_; rotate_left; (focus (intro w' hSw; (try dsimp only at hSw); go_simp; (try with_reducible rfl))); (try simp only [Act.put, hnA, hnB, hnC])
          refine head_takeR 3 (v := ?_) rfl ?_ ?_; rotate_left; (focus (intro w' hSw; (try dsimp only at hSw); go_simp; (try with_reducible rfl))); (try simp only [Act.put, hnA, hnB, hnC])
          refine head_takeR 4 (v := ?_) rfl ?_ ?_; rotate_left; (focus (intro w' hSw; (try dsimp only at hSw); go_simp; (try with_reducible rfl))); (try simp only [Act.put, hnA, hnB, hnC])
          refine head_takeR 5 (v := ?_) rfl ?_ ?_; rotate_left; (focus (intro w' hSw; (try dsimp only at hSw); go_simp; (try with_reducible rfl))); (try simp only [Act.put, hnA, hnB, hnC])
          refine head_takeR 6 (v := ?_) rfl ?_ ?_; rotate_left; (focus (intro w' hSw; (try dsimp only at hSw); go_simp; (try with_reducible rfl))); (try simp only [Act.put, hnA, hnB, hnC])
          refine head_takeR 7 (v := ?_) rfl ?_ ?_; rotate_left; (focus (intro w' hSw; (try dsimp only at hSw); go_simp; (try with_reducible rfl))); (try simp only [Act.put, hnA, hnB, hnC])
          refine head_takeR 8 (v := ?_) rfl ?_ ?_; rotate_left; (focus (intro w' hSw; (try dsimp only at hSw); go_simp; (try with_reducible rfl))); (try simp only [Act.put, hnA, hnB, hnC])
          refine head_takeR 9 (v := ?_) rfl ?_ ?_; rotate_left; (focus (intro w' hSw; (try dsimp only at hSw); go_simp; (try with_reducible rfl))); (try simp only [Act.put, hnA, hnB, hnC])
          refine head_takeR 10 (v := ?_) rfl ?_ ?_; rotate_left; (focus (intro w' hSw; (try dsimp only at hSw); go_simp; (try with_reducible rfl))); (try simp only [Act.put, hnA, hnB, hnC])
          refine head_takeR 11 (v := ?_) rfl ?_ ?_; rotate_left; (focus (intro w' hSw; (try dsimp only at hSw); go_simp; (try with_reducible rfl))); (try simp only [Act.put, hnA, hnB, hnC])
          refine head_done (by kernel_rfl) ?_
          have HE : Hid (OMx (wr.drew.setCell ⟨q6 a, n, none⟩ (.int .i64 Q1)) BB G2 N1 c2 q6 cp6 (fun i => mapR N1 (setM (triZ T (X * Y * Z) n a b c 3) a n Q1 i))) := (HOi.out.ge (Ge.drew (Ge.refl _))).setM (i := a) (j := n) iv hN6 Q1
          have kv : ∀ y : Nat, ¬ y = q6 a → ∀ z : Nat, (⟨q6 a, n, none⟩ : Addr) ≠ ⟨y, z, none⟩ := fun y hy z ee => by have := congrArg Addr.block ee; simp at this; omega
          have HNe : Hid (NetIn (wr.drew.setCell ⟨q6 a, n, none⟩ (.int .i64 Q1)) w.heap.size n e S (.slice p m cap)) := ⟨cell_set2 (kv _ (by omega) _) (cell_drew b0), cell_set2 (kv _ (by omega) _) (cell_drew b1), cell_set2 (kv _ (by omega) _) (cell_drew b2), cell_set2 (kv _ (by omega) _) (cell_drew b3)⟩
          have HRe : Hid (ResD (wr.drew.setCell ⟨q6 a, n, none⟩ (.int .i64 Q1)) (w.heap.size + 1)) := fun y hy => by
            obtain ⟨u, r1, r2⟩ := HRi.out y hy
            exact ⟨u, cell_set2 (kv _ (by omega) _) (cell_drew r1), froz_set (froz_drew r2)⟩
          have hgE := Ge.setCell (Ge.drew hg) (p := ⟨q6 a, n, none⟩) (by show w.heap.size ≤ q6 a; omega) (.int .i64 Q1)
          clear HOi HNi HRi hg kv b0 b1 b2 b3 p0
          go_upto_region 28 with fail
          clear y0 yf lv iv z1 z2 z3 z4
          have HOi := HE
          have HNi := HNe
          have HRi := HRe
          have hg := hgE
          clear HE HNe HRe hgE
          have ew : wr.drew.setCell ⟨q6 a, n, none⟩ (.int .i64 Q1) = (wr.setCell ⟨q6 a, n, none⟩ (.int .i64 Q1)).drew := rfl
          rw [ew] at HOi HNi HRi hg
          clear ew
          generalize (wr.setCell ⟨q6 a, n, none⟩ (.int .i64 Q1)).drew = W1 at *
          have p0 := HOi.out.rowM (i := b) (by omega)
          have y0 := HOi.out.entM (i := b) (j := n) (by omega) hN6
          have yf := HOi.out.froz (i := b) (by omega) n
          obtain ⟨b0, b1, b2, b3⟩ := HNi.out
          have lv := HOi.out.lt.2.2 b (by omega)
          have iv : b < N1 := by omega
          have z1 : IntKind.i64.wrap (U * X) = UX := UXW.out
          have z2 : IntKind.i64.wrap (UX * Y) = Q2 := Q2W.out
          have z3 : wrap64 (U * X) = UX := UXV.out
          have z4 : wrap64 (UX * Y) = Q2 := Q2V.out
          refine wp_region_head (S := fun w' => w'.cell? ⟨G2, b, none⟩ = some (.slice (some ⟨q6 b, 0, none⟩) N1 (cp6 b)) ∧ w'.cell? ⟨w.heap.size, 0, none⟩ = some (.int .i64 (n : Int))) 12 (by kernel_rfl) (by kernel_rfl) (⟨cell_drew p0, cell_drew b0⟩) (fun hHeld => ?_)
          refine head_takeR 0 (v := ?_) rfl ?_ ?_; rotate_left; (focus (intro w' hSw; (try dsimp only at hSw); go_simp; (try with_reducible rfl))); (try simp only [Act.put, hnA, hnB, hnC])
          refine head_takeR 1 (v := ?_) rfl ?_ ?_; rotate_left; (focus (intro w' hSw; (try dsimp only at hSw); go_simp; (try with_reducible rfl))); (try simp only [Act.put, hnA, hnB, hnC])
          refine head_takeR 2 (v := ?_) rfl ?_ ?_; rotate_left; (focus (intro w' hSw; (try dsimp only at hSw); go_simp; (try with_reducible rfl))); (try simp only [Act.put, hnA, hnB, hnC])
          refine head_takeR 3 (v := ?_) rfl ?_ ?_; rotate_left; (focus (intro w' hSw; (try dsimp only at hSw); go_simp; (try with_reducible rfl))); (try simp only [Act.put, hnA, hnB, hnC])
          refine head_takeR 4 (v := ?_) rfl ?_ ?_; rotate_left; (focus (intro w' hSw; (try dsimp only at hSw); go_simp; (try with_reducible rfl))); (try simp only [Act.put, hnA, hnB, hnC])
          refine head_takeR 5 (v := ?_) rfl ?_ ?_; rotate_left; (focus (intro w' hSw; (try dsimp only at hSw); go_simp; (try with_reducible rfl))); (try simp only [Act.put, hnA, hnB, hnC])
          refine head_takeR 6 (v := ?_) rfl ?_ ?_; rotate_left; (focus (intro w' hSw; (try dsimp only at hSw); go_simp; (try with_reducible rfl))); (try simp only [Act.put, hnA, hnB, hnC])
          refine head_takeR 7 (v := ?_) rfl ?_ ?_; rotate_left; (focus (intro w' hSw; (try dsimp only at hSw); go_simp; (try with_reducible rfl))); (try simp only [Act.put, hnA, hnB, hnC])
          refine head_takeR 8 (v := ?_) rfl ?_ ?_; rotate_left; (focus (intro w' hSw; (try dsimp only at hSw); go_simp; (try with_reducible rfl))); (try simp only [Act.put, hnA, hnB, hnC])
          refine head_takeR 9 (v := ?_) rfl ?_ ?_; rotate_left; (focus (intro w' hSw; (try dsimp only at hSw); go_simp; (try with_reducible rfl))); (try simp only [Act.put, hnA, hnB, hnC])
          refine head_takeR 10 (v := ?_) rfl ?_ ?_; rotate_left; (focus (intro w' hSw; (try dsimp only at hSw); go_simp; (try with_reducible rfl))); (try simp only [Act.put, hnA, hnB, hnC])
          refine head_takeR 11 (v := ?_) rfl ?_ ?_; rotate_left; (focus (intro w' hSw; (try dsimp only at hSw); go_simp; (try with_reducible rfl))); (try simp only [Act.put, hnA, hnB, hnC])
          refine head_done (by kernel_rfl) ?_
          have HE : Hid (OMx (W1.drew.setCell ⟨q6 b, n, none⟩ (.int .i64 Q2)) BB G2 N1 c2 q6 cp6 (fun i => mapR N1 (setM (setM (triZ T (X * Y * Z) n a b c 3) a n Q1) b n Q2 i))) := (HOi.out.ge (Ge.drew (Ge.refl _))).setM (i := b) (j := n) iv hN6 Q2
          have kv : ∀ y : Nat, ¬ y = q6 b → ∀ z : Nat, (⟨q6 b, n, none⟩ : Addr) ≠ ⟨y, z, none⟩ := fun y hy z ee => by have := congrArg Addr.block ee; simp at this; omega
          have HNe : Hid (NetIn (W1.drew.setCell ⟨q6 b, n, none⟩ (.int .i64 Q2)) w.heap.size n e S (.slice p m cap)) := ⟨cell_set2 (kv _ (by omega) _) (cell_drew b0), cell_set2 (kv _ (by omega) _) (cell_drew b1), cell_set2 (kv _ (by omega) _) (cell_drew b2), cell_set2 (kv _ (by omega) _) (cell_drew b3)⟩
          have HRe : Hid (ResD (W1.drew.setCell ⟨q6 b, n, none⟩ (.int .i64 Q2)) (w.heap.size + 1)) := fun y hy => by
            obtain ⟨u, r1, r2⟩ := HRi.out y hy
            exact ⟨u, cell_set2 (kv _ (by omega) _) (cell_drew r1), froz_set (froz_drew r2)⟩
          have hgE := Ge.setCell (Ge.drew hg) (p := ⟨q6 b, n, none⟩) (by show w.heap.size ≤ q6 b; omega) (.int .i64 Q2)
          clear HOi HNi HRi hg kv b0 b1 b2 b3 p0
          go_upto_region 29 with fail
          clear y0 yf lv iv z1 z2 z3 z4
          have HOi := HE
          have HNi := HNe
          have HRi := HRe
          have hg := hgE
          clear HE HNe HRe hgE
          have ew : W1.drew.setCell ⟨q6 b, n, none⟩ (.int .i64 Q2) = (W1.setCell ⟨q6 b, n, none⟩ (.int .i64 Q2)).drew := rfl
          rw [ew] at HOi HNi HRi hg
          clear ew
          generalize (W1.setCell ⟨q6 b, n, none⟩ (.int .i64 Q2)).drew = W2 at *
          have p0 := HOi.out.rowM (i := c) (by omega)
          have y0 := HOi.out.entM (i := c) (j := n) (by omega) hN6
          have yf := HOi.out.froz (i := c) (by omega) n
          obtain ⟨b0, b1, b2, b3⟩ := HNi.out
          have lv := HOi.out.lt.2.2 c (by omega)
          have iv : c < N1 := by omega
          have z1 : IntKind.i64.wrap (U * Y) = UY := UYW.out
          have z2 : IntKind.i64.wrap (UY * Z) = Q3 := Q3W.out
          have z3 : wrap64 (U * Y) = UY := UYV.out
          have z4 : wrap64 (UY * Z) = Q3 := Q3V.out
          refine wp_region_head (S := fun w' => w'.cell? ⟨G2, c, none⟩ = some (.slice (some ⟨q6 c, 0, none⟩) N1 (cp6 c)) ∧ w'.cell? ⟨w.heap.size, 0, none⟩ = some (.int .i64 (n : Int))) 12 (by kernel_rfl) (by kernel_rfl) (⟨cell_drew p0, cell_drew b0⟩) (fun hHeld => ?_)
          refine head_takeR 0 (v := ?_) rfl ?_ ?_; rotate_left; (focus (intro w' hSw; (try dsimp only at hSw); go_simp; (try with_reducible rfl))); (try simp only [Act.put, hnA, hnB, hnC])
          refine head_takeR 1 (v := ?_) rfl ?_ ?_; rotate_left; (focus (intro w' hSw; (try dsimp only at hSw); go_simp; (try with_reducible rfl))); (try simp only [Act.put, hnA, hnB, hnC])
          refine head_takeR 2 (v := ?_) rfl ?_ ?_; rotate_left; (focus (intro w' hSw; (try dsimp only at hSw); go_simp; (try with_reducible rfl))); (try simp only [Act.put, hnA, hnB, hnC])
          refine head_takeR 3 (v := ?_) rfl ?_ ?_; rotate_left; (focus (intro w' hSw; (try dsimp only at hSw); go_simp; (try with_reducible rfl))); (try simp only [Act.put, hnA, hnB, hnC])
          refine head_takeR 4 (v := ?_) rfl ?_ ?_; rotate_left; (focus (intro w' hSw; (try dsimp only at hSw); go_simp; (try with_reducible rfl))); (try simp only [Act.put, hnA, hnB, hnC])
          refine head_takeR 5 (v := ?_) rfl ?_ ?_; rotate_left; (focus (intro w' hSw; (try dsimp only at hSw); go_simp; (try with_reducible rfl))); (try simp only [Act.put, hnA, hnB, hnC])
          refine head_takeR 6 (v := ?_) rfl ?_ ?_; rotate_left; (focus (intro w' hSw; (try dsimp only at hSw); go_simp; (try with_reducible rfl))); (try simp only [Act.put, hnA, hnB, hnC])
          refine head_takeR 7 (v := ?_) rfl ?_ ?_; rotate_left; (focus (intro w' hSw; (try dsimp only at hSw); go_simp; (try with_reducible rfl))); (try simp only [Act.put, hnA, hnB, hnC])
          refine head_takeR 8 (v := ?_) rfl ?_ ?_; rotate_left; (focus (intro w' hSw; (try dsimp only at hSw); go_simp; (try with_reducible rfl))); (try simp only [Act.put, hnA, hnB, hnC])
          refine head_takeR 9 (v := ?_) rfl ?_ ?_; rotate_left; (focus (intro w' hSw; (try dsimp only at hSw); go_simp; (try with_reducible rfl))); (try simp only [Act.put, hnA, hnB, hnC])
          refine head_takeR 10 (v := ?_) rfl ?_ ?_; rotate_left; (focus (intro w' hSw; (try dsimp only at hSw); go_simp; (try with_reducible rfl))); (try simp only [Act.put, hnA, hnB, hnC])
          refine head_takeR 11 (v := ?_) rfl ?_ ?_; rotate_left; (focus (intro w' hSw; (try dsimp only at hSw); go_simp; (try with_reducible rfl))); (try simp only [Act.put, hnA, hnB, hnC])
          refine head_done (by kernel_rfl) ?_
          have HE : Hid (OMx (W2.drew.setCell ⟨q6 c, n, none⟩ (.int .i64 Q3)) BB G2 N1 c2 q6 cp6 (fun i => mapR N1 (setM (setM (setM (triZ T (X * Y * Z) n a b c 3) a n Q1) b n Q2) c n Q3 i))) := (HOi.out.ge (Ge.drew (Ge.refl _))).setM (i := c) (j := n) iv hN6 Q3
          have kv : ∀ y : Nat, ¬ y = q6 c → ∀ z : Nat, (⟨q6 c, n, none⟩ : Addr) ≠ ⟨y, z, none⟩ := fun y hy z ee => by have := congrArg Addr.block ee; simp at this; omega
          have HNe : Hid (NetIn (W2.drew.setCell ⟨q6 c, n, none⟩ (.int .i64 Q3)) w.heap.size n e S (.slice p m cap)) := ⟨cell_set2 (kv _ (by omega) _) (cell_drew b0), cell_set2 (kv _ (by omega) _) (cell_drew b1), cell_set2 (kv _ (by omega) _) (cell_drew b2), cell_set2 (kv _ (by omega) _) (cell_drew b3)⟩
          have HRe : Hid (ResD (W2.drew.setCell ⟨q6 c, n, none⟩ (.int .i64 Q3)) (w.heap.size + 1)) := fun y hy => by
            obtain ⟨u, r1, r2⟩ := HRi.out y hy
            exact ⟨u, cell_set2 (kv _ (by omega) _) (cell_drew r1), froz_set (froz_drew r2)⟩
          have hgE := Ge.setCell (Ge.drew hg) (p := ⟨q6 c, n, none⟩) (by show w.heap.size ≤ q6 c; omega) (.int .i64 Q3)
          clear HOi HNi HRi hg kv b0 b1 b2 b3 p0
          go_upto_region 30 with fail
          clear y0 yf lv iv z1 z2 z3 z4
          have HOi := HE
          have HNi := HNe
          have HRi := HRe
          have hg := hgE
          clear HE HNe HRe hgE
          have ew : W2.drew.setCell ⟨q6 c, n, none⟩ (.int .i64 Q3) = (W2.setCell ⟨q6 c, n, none⟩ (.int .i64 Q3)).drew := rfl
          rw [ew] at HOi HNi HRi hg
          clear ew
          generalize (W2.setCell ⟨q6 c, n, none⟩ (.int .i64 Q3)).drew = W3 at *
          rw [HTE.out] at HOi
          have HM : Hid (SlMM W3 (.slice (some ⟨G2, 0, none⟩) N1 c2) N1 (fun (x y : Int) => triT T n a b c X Y Z x.toNat y.toNat)) := HOi.out.slMM (fun i _ => mapR_length _ _) (fun x y _ hy => by rw [mapR_nth hy]; simp)
          have HZ := HMe.out (fun (x y : Int) => triT T n a b c X Y Z x.toNat y.toNat) (fun i j => by simp)
          rw [← HN1.out] at HZ
          have HN6 := Lib.hid (iNetOf N1 e PP (fun (x y : Int) => triT T n a b c X Y Z x.toNat y.toNat) _ W3 HM.out (by have := HN1.out; omega) s9.out.1 s9.out.2 (fun x y _ _ => by have := HBd.out (x : Int).toNat (y : Int).toNat; omega))
          rw [HZ, ← HSe.out, ← cutW_length (gcdF PP MM) MM, ← HLe.out] at HN6
          clear HOi HM HZ HMe HBd HTE
          have z6 : w.heap.size + 1 < W3.heap.size := by obtain ⟨u, r1, _⟩ := HRi.out 0 (by omega); exact World.block_lt_of_cell? _ _ r1
          obtain ⟨b0, b1, b2, b3⟩ := HNi.out
          obtain ⟨r0, p0, f0⟩ := HRi.out 0 (by omega)
          obtain ⟨r1, p1, f1⟩ := HRi.out 1 (by omega)
          obtain ⟨r2, p2, f2⟩ := HRi.out 2 (by omega)
          obtain ⟨r3, p3, f3⟩ := HRi.out 3 (by omega)
          have HG6 := Lib.hid hg
          have SXX := SXW.out
          have SXYX := SXYW.out
          have PPX := PPW.out
          clear HNi HRi
          cases hBB : netB (N1 : Int) e SS LL.length (flatW LL) with
          | true =>
            rw [hBB] at HN6
            have HT1 : Hid (∀ u w', w'.ownsRow w.heap.size 45 3 u LL.length (icells (flatW LL)) → Ge w w' → GivesO w (netB ((n + 1 : Nat) : Int) e SS LL.length (flatW LL)) ((n + 1 : Nat) : Int) e SS LL (.returned (.tuple #[.agg #[.int .i64 (N1 : Int), .int .i64 (e : Int), .int .i64 SS, u], .bool true])) w') := fun u w' ho g => by
              have h1 := HN1.out
              subst h1
              exact GivesO.t hBB ho g
            have HNt := Lib.hid (HN6.out.mono (fun e w' h => h.tt))
            clear hBB
            go_wp2_with ((go_at_call 71; ((with_reducible refine (HNt.out).mono ?_); rintro r w9 ⟨u9, rfl, o9, g9⟩)); obtain ⟨pu, cu, rfl⟩ := owns_form o9; have q0 := g9.keep p0; have q1 := g9.keep p1; have q2 := g9.keep p2; have q3 := g9.keep p3; have h0 := g9.keepF p0 f0; have h1 := g9.keepF p1 f1; have h2 := g9.keepF p2 f2; have h3 := g9.keepF p3 f3; have gw9 := HG6.out.trans g9; have O9 := Lib.hid o9; clear o9)
            clear SXX SXYX PPX
            exact bodyPost_ret (v := .tuple #[.agg #[.int .i64 (N1 : Int), .int .i64 (e : Int), .int .i64 SS, .slice pu LL.length cu], .bool true]) (by simp [results, Tryz.results39, go_sem, *]) rfl (HT1.out _ _ (by refine owns_mono (base := W3.heap.size) ?_ (by omega); repeat (first | exact O9.out | refine own_setD ?_ (by omega))) (kge))
          | false =>
            rw [hBB] at HN6
            have HT1 : Hid (∀ w', Ge w w' → GivesO w (netB ((n + 1 : Nat) : Int) e SS LL.length (flatW LL)) ((n + 1 : Nat) : Int) e SS LL (.returned (.tuple #[.agg #[.int .i64 0, .int .i64 0, .int .i64 0, .slice none 0 0], .bool false])) w') := fun w' g => by
              have h1 := HN1.out
              subst h1
              exact GivesO.f hBB g
            have HNt := Lib.hid (HN6.out.mono (fun e w' h => h.ff))
            clear hBB
            go_wp2_with ((go_at_call 71; ((with_reducible refine (HNt.out).mono ?_); rintro r w9 ⟨rfl, g9⟩)); have q0 := g9.keep p0; have q1 := g9.keep p1; have q2 := g9.keep p2; have q3 := g9.keep p3; have h0 := g9.keepF p0 f0; have h1 := g9.keepF p1 f1; have h2 := g9.keepF p2 f2; have h3 := g9.keepF p3 f3; have gw9 := HG6.out.trans g9)
            clear SXX SXYX PPX
            exact bodyPost_ret (v := .tuple #[.agg #[.int .i64 0, .int .i64 0, .int .i64 0, .slice none 0 0], .bool false]) (by simp [results, Tryz.results39, go_sem, *]) rfl (HT1.out _ (kge))
theorem iTriangleStar (n e : Nat) (S a b c : Int) (s : Value) (m : Nat) (xs : List Int) (w : World) (hs : SlF w s m 3 xs) (hB : netB n e S m xs = true) :
    Calls Tryz.prog 39 #[.agg #[.int .i64 (n : Int), .int .i64 (e : Int), .int .i64 S, s], .int .i64 a, .int .i64 b, .int .i64 c] w (GivesO w (trB n e S m xs a b c) ((n + 1 : Nat) : Int) e (trS n m xs a b c S) (trL n m xs a b c S)) := by
  by_cases hG : trG n a b c ∧ trX m xs a b c
  · exact iTriT n e S a b c s m xs w hs hB hG
  · exact iTriF n e S a b c s m xs w hs hB hG
end Go.Proofs.YtagiecajffhnpaaGreat
