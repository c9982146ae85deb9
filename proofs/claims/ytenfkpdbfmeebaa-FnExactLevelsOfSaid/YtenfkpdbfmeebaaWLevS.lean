/- l13Covered, LevelsOf of the reference; LevelsOf of both sides for all lists. No condition. -/
import Derived.Test.YtenfkpdbfmeebaaWLevI
import Derived.Test.YtenfkpdbfmeebaaWTile3
import Derived.Test.YtenfkpdbfmeebaaWTile5
namespace Go.Proofs.Ytenfkpdbfmeebaa
set_option maxRecDepth 100000
open Go.ChangeShapes Go.WideShapes Go.ChangeAt Go.RowKit Go.Joins

theorem covN_mono {xs : List Int} {y x : Int} {k : Nat} (h : covN xs y x k = true) : ∀ {n : Nat}, k ≤ n → covN xs y x n = true
  | 0, hk => by rwa [show k = 0 by omega] at h
  | n + 1, hk => by
    by_cases e : k = n + 1
    · rwa [e] at h
    · rw [covN, covN_mono h (n := n) (by omega), Bool.true_or]
theorem covN_hit {xs : List Int} {y x : Int} {k n : Nat} (hk : k < n) (h1 : sy xs k = y ∨ sy xs k + ss xs k = y) (h2 : sx xs k ≤ x) (h3 : x < sx xs k + ss xs k) : covN xs y x n = true :=
  covN_mono (k := k + 1) (by rw [covN]; simp [onY, h1, h2, h3]) hk
theorem covN_miss {xs : List Int} {y x : Int} {k : Nat} (h : covN xs y x k = false) (h1 : ¬ ((sy xs k = y ∨ sy xs k + ss xs k = y) ∧ sx xs k ≤ x ∧ x < sx xs k + ss xs k)) : covN xs y x (k + 1) = false := by
  rw [covN, h, Bool.false_or, Bool.eq_false_iff]
  simp only [onY, ne_eq, Bool.and_eq_true, Bool.or_eq_true, decide_eq_true_eq, and_assoc]
  exact h1

set_option maxHeartbeats 3200000 in
theorem sL13Covered (v : Value) (n : Nat) (xs : List Int) (y x : Int) (w : World) (hv : SlF w v n 3 xs) (hn : n ≤ 12) (hok : ∀ k, k < n → okSq xs k) :
    Calls Try.prog 22 #[v, .int .i64 y, .int .i64 x] w fun e w' => e = .returned (.bool (covN xs y x n)) ∧ Ge w w' := by
  obtain ⟨p, cap, rfl, hc⟩ := hv.open
  have HC := Lib.hid hc
  have HK := Lib.hid hok
  clear hv hc hok
  have H1 := Lib.hid (fun k (hk : k < n) => covN_hit (xs := xs) (y := y) (x := x) hk)
  have H2 := Lib.hid (fun k => covN_miss (xs := xs) (y := y) (x := x) (k := k))
  go_enter Try.func22, Try.ntmps22
  go_wp2_with fail
  go_loopw [11] (fun i wr => ∃ k : Nat, k ≤ n ∧ i = .int .i64 (k : Int) ∧ Hid (covN xs y x k = false) ∧ Ge w wr) (fun i _ => 13 - (intOf i).toNat)
  case atStart => exact ⟨0, Nat.zero_le _, rfl, rfl, Ge.refl _⟩
  case round =>
    obtain ⟨k, hk, rfl, HV, hg⟩ := hrel
    by_cases hlt : k < n
    · obtain ⟨b, ofs, rfl, x0, x1, x2⟩ := three_cells HC.out hlt
      have y0 := hg.keep x0
      have y1 := hg.keep x1
      have y2 := hg.keep x2
      clear x0 x1 x2
      obtain ⟨q0, q1, q2, q3, q4, q5⟩ := HK.out k hlt
      have K1 := Lib.hid (H1.out k hlt)
      have K2 := Lib.hid (H2.out k HV.out)
      clear H1 H2 HV
      change wr.cell? _ = some (.int .i64 (sx xs k)) at y0
      change wr.cell? _ = some (.int .i64 (sy xs k)) at y1
      change wr.cell? _ = some (.int .i64 (ss xs k)) at y2
      generalize sx xs k = X at *
      generalize sy xs k = Y at *
      generalize ss xs k = Z at *
      by_cases hY1 : Y = y
      · have tY : (Y == y) = true := by simpa using hY1
        by_cases hX : X ≤ x
        · have tX : decide (X ≤ x) = true := by simpa using hX
          by_cases hZ : x < X + Z
          · have tZ : decide (x < X + Z) = true := by simpa using hZ
            have HH := Lib.hid (K1.out (.inl hY1) hX hZ)
            clear K1 K2
            go_wp2_with fail
            go_ret
            exact ⟨ret_bool HH.out.symm, by (repeat (first | with_reducible exact Ge.refl _ | assumption | with_reducible refine Ge.drew ?_ | with_reducible refine Ge.drewN ?_ _ | with_reducible refine Ge.alloc ?_ _ | (with_reducible refine Ge.setCell ?_ (by first | (simp; done) | omega | (simp; omega)) _) | with_reducible refine Ge.trans ?_ (by assumption)))⟩
          · have tZ : decide (x < X + Z) = false := by simpa using hZ
            have HM := Lib.hid (K2.out (fun h => by omega))
            clear K1 K2
            go_wp2_with fail
            go_roundw
            case rel => exact ⟨k + 1, by omega, by go_num, HM.out, by (repeat (first | with_reducible exact Ge.refl _ | assumption | with_reducible refine Ge.drew ?_ | with_reducible refine Ge.drewN ?_ _ | with_reducible refine Ge.alloc ?_ _ | (with_reducible refine Ge.setCell ?_ (by first | (simp; done) | omega | (simp; omega)) _) | with_reducible refine Ge.trans ?_ (by assumption)))⟩
            case measure => simp [intOf]; omega
        · have tX : decide (X ≤ x) = false := by simpa using hX
          have HM := Lib.hid (K2.out (fun h => by omega))
          clear K1 K2
          go_wp2_with fail
          go_roundw
          case rel => exact ⟨k + 1, by omega, by go_num, HM.out, by (repeat (first | with_reducible exact Ge.refl _ | assumption | with_reducible refine Ge.drew ?_ | with_reducible refine Ge.drewN ?_ _ | with_reducible refine Ge.alloc ?_ _ | (with_reducible refine Ge.setCell ?_ (by first | (simp; done) | omega | (simp; omega)) _) | with_reducible refine Ge.trans ?_ (by assumption)))⟩
          case measure => simp [intOf]; omega
      · have tY : (Y == y) = false := by simpa using hY1
        by_cases hY2 : Y + Z = y
        · have tY2 : (Y + Z == y) = true := by simpa using hY2
          by_cases hX : X ≤ x
          · have tX : decide (X ≤ x) = true := by simpa using hX
            by_cases hZ : x < X + Z
            · have tZ : decide (x < X + Z) = true := by simpa using hZ
              have HH := Lib.hid (K1.out (.inr hY2) hX hZ)
              clear K1 K2
              go_wp2_with fail
              go_ret
              exact ⟨ret_bool HH.out.symm, by (repeat (first | with_reducible exact Ge.refl _ | assumption | with_reducible refine Ge.drew ?_ | with_reducible refine Ge.drewN ?_ _ | with_reducible refine Ge.alloc ?_ _ | (with_reducible refine Ge.setCell ?_ (by first | (simp; done) | omega | (simp; omega)) _) | with_reducible refine Ge.trans ?_ (by assumption)))⟩
            · have tZ : decide (x < X + Z) = false := by simpa using hZ
              have HM := Lib.hid (K2.out (fun h => by omega))
              clear K1 K2
              go_wp2_with fail
              go_roundw
              case rel => exact ⟨k + 1, by omega, by go_num, HM.out, by (repeat (first | with_reducible exact Ge.refl _ | assumption | with_reducible refine Ge.drew ?_ | with_reducible refine Ge.drewN ?_ _ | with_reducible refine Ge.alloc ?_ _ | (with_reducible refine Ge.setCell ?_ (by first | (simp; done) | omega | (simp; omega)) _) | with_reducible refine Ge.trans ?_ (by assumption)))⟩
              case measure => simp [intOf]; omega
          · have tX : decide (X ≤ x) = false := by simpa using hX
            have HM := Lib.hid (K2.out (fun h => by omega))
            clear K1 K2
            go_wp2_with fail
            go_roundw
            case rel => exact ⟨k + 1, by omega, by go_num, HM.out, by (repeat (first | with_reducible exact Ge.refl _ | assumption | with_reducible refine Ge.drew ?_ | with_reducible refine Ge.drewN ?_ _ | with_reducible refine Ge.alloc ?_ _ | (with_reducible refine Ge.setCell ?_ (by first | (simp; done) | omega | (simp; omega)) _) | with_reducible refine Ge.trans ?_ (by assumption)))⟩
            case measure => simp [intOf]; omega
        · have tY2 : (Y + Z == y) = false := by simpa using hY2
          have HM := Lib.hid (K2.out (fun h => by omega))
          clear K1 K2
          go_wp2_with fail
          go_roundw
          case rel => exact ⟨k + 1, by omega, by go_num, HM.out, by (repeat (first | with_reducible exact Ge.refl _ | assumption | with_reducible refine Ge.drew ?_ | with_reducible refine Ge.drewN ?_ _ | with_reducible refine Ge.alloc ?_ _ | (with_reducible refine Ge.setCell ?_ (by first | (simp; done) | omega | (simp; omega)) _) | with_reducible refine Ge.trans ?_ (by assumption)))⟩
          case measure => simp [intOf]; omega
    · have hkn : k = n := by omega
      subst hkn
      go_wp2_with fail
      go_ret
      exact ⟨ret_bool HV.out.symm, by (repeat (first | with_reducible exact Ge.refl _ | assumption | with_reducible refine Ge.drew ?_ | with_reducible refine Ge.drewN ?_ _ | with_reducible refine Ge.alloc ?_ _ | (with_reducible refine Ge.setCell ?_ (by first | (simp; done) | omega | (simp; omega)) _) | with_reducible refine Ge.trans ?_ (by assumption)))⟩
theorem OwnL.size {w : World} {b : Nat} {v : Value} {L : List (List Int)} (h : OwnL w b v L) (hL : 0 < L.length) : b ≤ w.heap.size := by
  obtain ⟨cs, hx⟩ := h.own
  obtain ⟨g, c, rfl⟩ := Go.Joins.ownsRow_form hx hL
  exact Nat.le_of_lt (Nat.lt_of_le_of_lt (hx.lt g rfl).1 (hx.lt g rfl).2)
theorem scan_on {c : Nat → Bool} {x : Nat} (h : c x = true) (h2 : (scanS c x).2 < 0) : scanS c (x + 1) = ((scanS c x).1, (x : Int)) := by simp only [scanS, if_pos h, if_pos h2]
theorem scan_in {c : Nat → Bool} {x : Nat} (h : c x = true) (h2 : ¬ (scanS c x).2 < 0) : scanS c (x + 1) = scanS c x := by simp only [scanS, if_pos h, if_neg h2]
theorem scan_off {c : Nat → Bool} {x : Nat} (h : c x = false) (h2 : 0 ≤ (scanS c x).2) : scanS c (x + 1) = ((scanS c x).1 ++ [((scanS c x).2, (x : Int))], -1) := by simp only [scanS, if_neg (show ¬ c x = true by rw [h]; decide), if_pos h2]
theorem scan_out {c : Nat → Bool} {x : Nat} (h : c x = false) (h2 : ¬ 0 ≤ (scanS c x).2) : scanS c (x + 1) = scanS c x := by simp only [scanS, if_neg (show ¬ c x = true by rw [h]; decide), if_neg h2]

set_option maxHeartbeats 6400000 in
theorem sLevT (v : Value) (n : Nat) (xs : List Int) (w : World) (hv : SlF w v n 3 xs) (hm : n ≤ 9223372036854775807) (hb : ∀ j, -9223372036854775808 ≤ nth xs j ∧ nth xs j ≤ 9223372036854775807) (hcap : ∀ p c, v = .slice p n c → n ≤ c) (hB : tileB n xs = true) :
    Calls Try.prog 6 #[v] w fun e w' => ∃ u, e = .returned u ∧ OwnL w' w.heap.size u (levT xs n) ∧ Ge w w' := by
  obtain ⟨p, cap, rfl, hc⟩ := hv.open
  have HV := Lib.hid hv
  have HBd := Lib.hid hb
  have HCap := Lib.hid hcap
  clear hv hc hb hcap
  have HT := Lib.hid (fun w' (g : Ge w w') => sTilingOk (.slice p n cap) n xs w' (HV.out.ge g) hm HBd.out HCap.out)
  rw [hB] at HT
  obtain ⟨h0, h12, hsq, _⟩ : tileP n xs := by
    unfold tileB at hB
    split at hB
    · assumption
    · cases hB
  have HOK : Hid (∀ i, i < n → okSq xs i) := fun i hi => (hsq i hi).1
  have HR := Lib.hid (fun w' (g : Ge w w') => sL13Right (.slice p n cap) n xs w' (HV.out.ge g) h12 HOK.out)
  have HL := Lib.hid (fun w' (g : Ge w w') => sL13Low (.slice p n cap) n xs w' (HV.out.ge g) h12 HOK.out)
  have HCv := Lib.hid (fun y x w' (g : Ge w w') => sL13Covered (.slice p n cap) n xs y x w' (HV.out.ge g) h12 HOK.out)
  have hr := right_bd n HOK.out
  have hl := low_bd n HOK.out
  have HF : Hid (levT xs n = levU xs n (rightSq xs n).toNat ((lowSq xs n).toNat + 1)) := rfl
  obtain ⟨W, hW⟩ : ∃ W : Nat, rightSq xs n = W := ⟨(rightSq xs n).toNat, by omega⟩
  obtain ⟨H, hH⟩ : ∃ H : Nat, lowSq xs n = H := ⟨(lowSq xs n).toNat, by omega⟩
  rw [hW] at HR HF hr
  rw [hH] at HL HF hl
  simp only [Int.toNat_natCast] at HF
  generalize levT xs n = LT at *
  clear hB hsq hW hH HBd HCap HOK
  go_enter Try.func6, Try.ntmps6
  go_upto_region 3 with ((go_at_call 19; ((with_reducible refine (HT.out _ (Ge.refl _)).mono ?_); rintro e w1 ⟨rfl, g1⟩)); have G1 := Lib.hid g1; have z1 := g1.size; clear g1)
  have oN := OwnL.nil w1
  have HN := Lib.hid oN
  clear oN
  have gN := Ge.alloc (Ge.refl w1) (.cells #[] 43)
  go_upto_region 4 with (fail)
  have GA := Lib.hid (G1.out.trans gN)
  generalize w1.alloc (.cells #[] 43) = wA at *
  obtain ⟨bs, hbs⟩ : ∃ bs, bs = w1.heap.size := ⟨_, rfl⟩
  rw [← hbs] at HN z1 ⊢
  clear gN hbs
  go_wp2_with ((go_at_call 20; ((with_reducible refine (HR.out _ GA.out).mono ?_); rintro e w2 ⟨rfl, g2⟩)); have G2 := Lib.hid (GA.out.trans g2); have HN2 := Lib.hid (HN.out.ge g2); clear g2)
  obtain ⟨wz, hwz⟩ : ∃ wz, wz = w2 := ⟨_, rfl⟩
  subst hwz
  clear HN HR HT G1 GA
  go_loopw [3, 5] (fun o y wr => ∃ (k : Nat) (u : Value), y = .int .i64 (k : Int) ∧ k ≤ H + 1 ∧ o = u ∧ OwnL wr bs u (levU xs n W k) ∧ Ge w wr ∧ bs ≤ wr.heap.size) (fun _ y _ => 402 - (intOf y).toNat)
  case atStart => exact ⟨0, _, rfl, by omega, rfl, HN2.out, G2.out, (by obtain ⟨cs, hx⟩ := HN2.out.own; exact Nat.le_of_lt (Nat.lt_of_le_of_lt (hx.lt _ rfl).1 (hx.lt _ rfl).2))⟩
  case round =>
    obtain ⟨y, u, rfl, hy, rfl, hown, hg, hbw⟩ := hrel
    clear HN2 G2
    have HO := Lib.hid hown
    have HG := Lib.hid hg
    clear hown hg
    by_cases hyH : y ≤ H
    · have hyB : (y : Int) ≤ (H : Int) := by omega
      have hyD : decide ((y : Int) ≤ (H : Int)) = true := by simp; omega
      have hF2 := levU_len xs n W y
      have hF3 : y * (W + 1) ≤ 401 * 401 := Nat.mul_le_mul (by omega) (by omega)
      have HLU : Hid (levU xs n W (y + 1) = levU xs n W y ++ (scanS (covU xs n W y) (W + 1)).1.map (rowY y)) := rfl
      have HCl : Hid (∀ x, x < W → covU xs n W y x = covN xs y x n) := fun x hx => by simp [covU, hx]
      have HCw : Hid (covU xs n W y W = false) := by show _ = _; simp [covU]
      have HSl := Lib.hid (scan_len (covU xs n W y))
      have HCy := Lib.hid (HCv.out (y : Int))
      generalize hc : covU xs n W (y : Int) = c at *
      clear hc
      generalize levU xs n W y = LU at *
      go_wp2_with ((go_at_call 21; ((with_reducible refine (HL.out _ HG.out).mono ?_); rintro e w5 ⟨rfl, g5⟩)); have HG5 := Lib.hid (HG.out.trans g5); have HO5 := Lib.hid (HO.out.ge g5); have z5 := g5.size; clear g5)
      clear HO HG
      have hbw5 : bs ≤ w5.heap.size := by omega
      go_loopw [3, 6, 7] (fun o f i wq => ∃ (x : Nat) (u : Value), i = .int .i64 (x : Int) ∧ x ≤ W + 1 ∧ f = .int .i64 (scanS c x).2 ∧ o = u ∧ OwnL wq bs u (LU ++ (scanS c x).1.map (rowY (y : Int))) ∧ Ge w wq ∧ bs ≤ wq.heap.size) (fun _ _ i _ => 402 - (intOf i).toNat)
      case atStart => exact ⟨0, _, rfl, by omega, rfl, rfl, by simpa [scanS] using HO5.out, HG5.out, hbw5⟩
      case round =>
        obtain ⟨x, u, rfl, hx, rfl, rfl, hown, hg, hbq⟩ := hrel
        clear HO5 HG5
        have HO := Lib.hid hown
        have HG := Lib.hid hg
        by_cases hxW : x ≤ W
        · have hxB : (x : Int) ≤ (W : Int) := by omega
          have hxD : decide ((x : Int) ≤ (W : Int)) = true := by simp; omega
          have HS1 := Lib.hid (scan_on (c := c) (x := x))
          have HS2 := Lib.hid (scan_in (c := c) (x := x))
          have HS3 := Lib.hid (scan_off (c := c) (x := x))
          have HS4 := Lib.hid (scan_out (c := c) (x := x))
          have hsl := HSl.out x
          obtain ⟨pv, cv, hfe⟩ := OwnL.read hown rfl
          obtain ⟨rfl, _⟩ := hfe
          clear hown hg
          generalize hR : scanS c x = R at *
          obtain ⟨R1, f⟩ := R
          have HR := Lib.hid hR
          clear hR
          simp only at HO hsl HS1 HS2 HS3 HS4 ⊢
          have hMl : (LU ++ R1.map (rowY (y : Int))).length ≤ 200000 := by rw [List.length_append, List.length_map]; omega
          have HM1 : Hid (LU ++ R1.map (rowY (y : Int)) ++ [[(y : Int), f, (x : Int)]] = LU ++ (R1 ++ [(f, (x : Int))]).map (rowY (y : Int))) := by show _ = _; simp [rowY]
          generalize hM : LU ++ R1.map (rowY (y : Int)) = M at *
          have HM := Lib.hid hM
          clear hM
          by_cases hxw : x < W
          · have hwI : (x : Int) < (W : Int) := by omega
            have hwD : decide ((x : Int) < (W : Int)) = true := by simp; omega
            have HCc := Lib.hid (HCy.out (x : Int) wr HG.out)
            rw [← HCl.out x hxw] at HCc
            cases hcx : c x with
            | true =>
              rw [hcx] at HCc
              by_cases hf : f < 0
              · have hfD : decide (f < 0) = true := by simpa using hf
                have HN := Lib.hid (HS1.out hcx hf)
                clear HS1 HS2 HS3 HS4
                go_wp2_with ((go_at_call 22; ((with_reducible refine (HCc.out).mono ?_); rintro e w6 ⟨rfl, g6⟩)); have HG6 := Lib.hid (HG.out.trans g6); have HO6 := Lib.hid (HO.out.ge g6); have z6 := g6.size; clear g6)
                go_roundw
                case rel => exact ⟨x + 1, _, by go_num, by omega, by rw [HN.out], rfl, by rw [HN.out]; show OwnL _ _ _ (LU ++ R1.map _); rw [HM.out]; exact HO6.out, HG6.out, by omega⟩
                case measure => simp [intOf]; omega
              · have hfD : decide (f < 0) = false := by simpa using hf
                have HN := Lib.hid (HS2.out hcx hf)
                clear HS1 HS2 HS3 HS4
                go_wp2_with ((go_at_call 22; ((with_reducible refine (HCc.out).mono ?_); rintro e w6 ⟨rfl, g6⟩)); have HG6 := Lib.hid (HG.out.trans g6); have HO6 := Lib.hid (HO.out.ge g6); have z6 := g6.size; clear g6)
                go_roundw
                case rel => exact ⟨x + 1, _, by go_num, by omega, by rw [HN.out], rfl, by rw [HN.out]; show OwnL _ _ _ (LU ++ R1.map _); rw [HM.out]; exact HO6.out, HG6.out, by omega⟩
                case measure => simp [intOf]; omega
            | false =>
              rw [hcx] at HCc
              by_cases hf : 0 ≤ f
              · have hfD : decide (f ≥ 0) = true := by simpa using hf
                have HN := Lib.hid (HS3.out hcx hf)
                clear HS1 HS2 HS3 HS4
                go_wp2_with (first | ((go_at_call 22; ((with_reducible refine (HCc.out).mono ?_); rintro e w6 ⟨rfl, g6⟩)); have HG6 := Lib.hid (HG.out.trans g6); have HO6 := Lib.hid (HO.out.ge g6); have z6 := g6.size; clear g6) | (at_builtin; refine ap_listB rfl _ _ rfl bs _ M (by rfl) (HO6.out.ge (Ge.alloc (Ge.refl _) _)) [(y : Int), f, (x : Int)] ⟨w6.heap.size, 0, none⟩ 3 3 rfl (lit3 w6 0 (y : Int) f (x : Int) (Nat.zero_le _)) rfl (by simp) (by omega) (by simp; omega) ?_; intro v7 w7 own7 g7; have HO7 := Lib.hid own7; have HG7 := Lib.hid (g7 w (HG6.out.trans (Ge.alloc (Ge.refl _) _)) z1); have HZ7 := Lib.hid (HO7.out.size (by simp)); clear own7 g7))
                go_roundw
                case rel => exact ⟨x + 1, _, by go_num, by omega, by rw [HN.out], rfl, by rw [HN.out, ← HM1.out]; exact HO7.out, HG7.out, HZ7.out⟩
                case measure => simp [intOf]; omega
              · have hfD : decide (f ≥ 0) = false := by simpa using hf
                have HN := Lib.hid (HS4.out hcx hf)
                clear HS1 HS2 HS3 HS4
                go_wp2_with ((go_at_call 22; ((with_reducible refine (HCc.out).mono ?_); rintro e w6 ⟨rfl, g6⟩)); have HG6 := Lib.hid (HG.out.trans g6); have HO6 := Lib.hid (HO.out.ge g6); have z6 := g6.size; clear g6)
                go_roundw
                case rel => exact ⟨x + 1, _, by go_num, by omega, by rw [HN.out], rfl, by rw [HN.out]; show OwnL _ _ _ (LU ++ R1.map _); rw [HM.out]; exact HO6.out, HG6.out, by omega⟩
                case measure => simp [intOf]; omega
          · have hxe : x = W := by omega
            have hcx : c x = false := by rw [hxe]; exact HCw.out
            have hwD : decide ((x : Int) < (W : Int)) = false := by simp; omega
            have hwI : ¬ (x : Int) < (W : Int) := by omega
            clear hxe
            skip
            by_cases hf : 0 ≤ f
            · have hfD : decide (f ≥ 0) = true := by simpa using hf
              have HN := Lib.hid (HS3.out hcx hf)
              clear HS1 HS2 HS3 HS4
              go_wp2_with (at_builtin; refine ap_listB rfl _ _ rfl bs _ M (by rfl) (HO.out.ge (Ge.alloc (Ge.refl _) _)) [(y : Int), f, (x : Int)] ⟨wr.heap.size, 0, none⟩ 3 3 rfl (lit3 wr 0 (y : Int) f (x : Int) (Nat.zero_le _)) rfl (by simp) (by omega) (by simp; omega) ?_; intro v7 w7 own7 g7; have HO7 := Lib.hid own7; have HG7 := Lib.hid (g7 w (HG.out.trans (Ge.alloc (Ge.refl _) _)) z1); have HZ7 := Lib.hid (HO7.out.size (by simp)); clear own7 g7)
              go_roundw
              case rel => exact ⟨x + 1, _, by go_num, by omega, by rw [HN.out], rfl, by rw [HN.out, ← HM1.out]; exact HO7.out, HG7.out, HZ7.out⟩
              case measure => simp [intOf]; omega
            · have hfD : decide (f ≥ 0) = false := by simpa using hf
              have HN := Lib.hid (HS4.out hcx hf)
              clear HS1 HS2 HS3 HS4
              go_wp2_with fail
              go_roundw
              case rel => exact ⟨x + 1, _, by go_num, by omega, by rw [HN.out], rfl, by rw [HN.out]; show OwnL _ _ _ (LU ++ R1.map _); rw [HM.out]; exact HO.out, HG.out, by omega⟩
              case measure => simp [intOf]; omega
        · have hxe : x = W + 1 := by omega
          have hxD : decide ((x : Int) ≤ (W : Int)) = false := by simp; omega
          have hxI : ¬ (x : Int) ≤ (W : Int) := by omega
          go_wp2_with fail
          go_roundw
          case rel => exact ⟨y + 1, _, by go_num, by omega, rfl, by rw [HLU.out, ← hxe]; exact hown, hg, hbq⟩
          case measure => simp [intOf]; omega
    · have hyH2 : y = H + 1 := by omega
      have hyD : decide ((y : Int) ≤ (H : Int)) = false := by simp; omega
      have hyI : ¬ (y : Int) ≤ (H : Int) := by omega
      go_wp2_with ((go_at_call 21; ((with_reducible refine (HL.out _ HG.out).mono ?_); rintro e w5 ⟨rfl, g5⟩)); have HG5 := Lib.hid (HG.out.trans g5); have HO5 := Lib.hid (HO.out.ge g5); clear g5)
      go_ret
      exact ⟨_, rfl, by rw [HF.out, ← hyH2]; exact HO5.out.mono z1, HG5.out⟩
end Go.Proofs.Ytenfkpdbfmeebaa
