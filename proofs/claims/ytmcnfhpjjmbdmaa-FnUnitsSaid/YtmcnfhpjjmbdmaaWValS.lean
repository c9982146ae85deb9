/- UnitValues of both sides. No condition. -/
import Derived.Test.YtmcnfhpjjmbdmaaWValI
import Derived.Test.YtmcnfhpjjmbdmaaPlUnits3
import Derived.Test.YtmcnfhpjjmbdmaaWIn
namespace Go.Proofs.Ytmcnfhpjjmbdmaa
set_option maxRecDepth 100000
open Go.ChangeShapes Go.WideShapes Go.ChangeAt Go.RowKit Go.Joins

/-- A copy by append. -/
theorem ap_copR {w : World} {ops : Array Oper} {rest : List Oper} {o : Oper} {a : Act} {Q : Exit → Act → World → Prop} (hgd : o.guard = none) (s x : Operand)
    (ho : o.op = .call { callee := .builtin .append, args := #[s, x], argTypes := #[22, 22] })
    (hs : a.eval s = .slice (some ⟨w.heap.size, 0, none⟩) 0 0) (g m c b : Nat) (l : List Rt) (hx : a.eval x = .slice (some ⟨g, 0, none⟩) m c) (hy : OwR w b (.slice (some ⟨g, 0, none⟩) m c) l) (hm : l.length = m) (hn : m < 1000)
    (h : ∀ v' w', OwR w' w.heap.size v' l → Ge w w' → wpList Try.prog ops Q rest (a.put o.dst v') w') : wpList Try.prog ops Q (o :: rest) a (w.alloc (.cells #[] 30)) := by
  obtain ⟨i, hi1, hi2, hi3, hi4⟩ := info_parts inf_ratU
  have hy2 := hy.ge (Ge.alloc (Ge.refl w) (.cells #[] 30))
  refine wpList_plain hgd fun _ hK => wp_append_own _ s x 22 ho w.heap.size 30 i _ 2 16 Try.underlying22 hi1 hi2 hi3 hi4 rfl (by decide) _ 0 [] hs (owns_lit0 w _ 2) ⟨g, 0, none⟩ m c (icells (fl l)) hx (by rw [icells_length, fl_len, hm]) (fun j u hu => ?_) (fun u hu => ?_) (by unfold maxLen; omega) (by omega) (by simp) (fun v' w' h2 h3 h4 => ?_)
  · have hadd : (⟨g, 0, none⟩ : Addr).add j = ⟨g, j, none⟩ := by unfold Addr.add; split <;> simp_all
    have hj : j < (icells (fl l)).length := (List.getElem?_eq_some_iff.1 hu).1
    have hy3 : World.ownsRow _ b 30 2 (.slice (some ⟨g, 0, none⟩) m c) l.length (icells (fl l)) := hy2
    rw [hm] at hy3
    rw [hadd, hy3.cellAt j (by rw [icells_length, fl_len] at hj; omega)]
    exact hu
  · simp only [icells, List.mem_map] at hu
    obtain ⟨_, _, rfl⟩ := hu
    rfl
  · refine hK _ _ (h v' w' ?_ (Ge.grown (Ge.alloc (Ge.refl w) _) h3 (fun k hk => by simp [Value.ownBlock] at hk; omega)))
    rw [Nat.zero_add] at h2
    subst hm
    exact h2

set_option maxHeartbeats 6400000 in
theorem sUnitT (m : Nat) (w : World) (h1 : 1 ≤ m) (h6 : m ≤ 6) :
    Calls Try.prog 6 #[.int .i64 (m : Int)] w fun e w' => ∃ v, e = .returned v ∧ OwR w' w.heap.size v (valV m) ∧ Ge w w' := by
  have HS : Hid (OwnV (((w.alloc (.cells #[] 30)).alloc (.cells #[.int .i64 1, .int .i64 1] 30)).alloc (.cells #[.slice (some ⟨w.heap.size, 0, none⟩) 0 0, .slice (some ⟨w.heap.size + 1, 0, none⟩) 1 1] 22)) w.heap.size (.slice (some ⟨w.heap.size + 1 + 1, 0, none⟩) 2 2) 2) := by
    have h := own_start (w.alloc (.cells #[] 30)) w.heap.size (some ⟨w.heap.size, 0, none⟩) (owns_lit0 w _ 2) (by simp)
    simp only [World.size_alloc] at h
    exact h
  have tI : inB (m : Int) 1 6 = true := inB_true (by omega) (by omega)
  go_enter Try.func6, Try.ntmps6
  go_wp2_with ((go_at_call 20; ((with_reducible refine (sL01In _ _ _ _).mono ?_); rintro e w0 ⟨rfl, rfl⟩)))
  go_loopw [3, 4] (fun o i wr => ∃ (n : Nat) (u : Value), 2 ≤ n ∧ n ≤ m + 1 ∧ i = .int .i64 n ∧ o = u ∧ OwnV wr w.heap.size u n ∧ Ge w wr) (fun _ i _ => 8 - (intOf i).toNat)
  case atStart => exact ⟨2, _, Nat.le_refl _, by omega, rfl, rfl, HS.out, by (repeat (first | with_reducible exact Ge.refl _ | assumption | with_reducible refine Ge.drew ?_ | with_reducible refine Ge.drewN ?_ _ | with_reducible refine Ge.alloc ?_ _ | (with_reducible refine Ge.setCell ?_ (by first | (simp; done) | omega | (simp; omega)) _) | with_reducible refine Ge.trans ?_ (by assumption)))⟩
  case round =>
    obtain ⟨n, u, hn2, hnm, rfl, rfl, hown, hg⟩ := hrel
    clear HS
    by_cases hlt : n ≤ m
    · obtain ⟨g0, c0, rfl, hrows⟩ := hown.open (by omega) (by omega)
      have HO := Lib.hid hown
      have HR := Lib.hid hrows
      have HG := Lib.hid hg
      have zg := hg.size
      clear hown hrows hg
      go_wp2_with fail
      obtain ⟨wa, hwa⟩ : ∃ wa, wa = wr := ⟨_, rfl⟩
      subst hwa
      go_loopw [5, 6] (fun l k wq => ∃ (kk k' : Nat) (u : Value), Hid (kk = k' + 1) ∧ k' ≤ n / 2 ∧ k = .int .i64 kk ∧ l = u ∧ OwR wq wa.heap.size u (foldR (allK n k')) ∧ Ge wa wq) (fun _ i _ => 8 - (intOf i).toNat)
      case atStart => exact ⟨1, 0, _, rfl, Nat.zero_le _, rfl, rfl, owns_lit0 _ _ _, by (repeat (first | with_reducible exact Ge.refl _ | assumption | with_reducible refine Ge.drew ?_ | with_reducible refine Ge.drewN ?_ _ | with_reducible refine Ge.alloc ?_ _ | (with_reducible refine Ge.setCell ?_ (by first | (simp; done) | omega | (simp; omega)) _) | with_reducible refine Ge.trans ?_ (by assumption)))⟩
      case round =>
        obtain ⟨k, k', u, hkk, hk, rfl, rfl, hl, hq⟩ := hrel
        have hkk' := hkk.out
        by_cases hlk : 2 * k ≤ n
        · have hlkB : decide (2 * (k : Int) ≤ (n : Int)) = true := by simp; omega
          have hlkI : 2 * (k : Int) ≤ (n : Int) := by omega
          obtain ⟨ga, ca, xa, ra⟩ := HR.out k (by omega) (by omega)
          obtain ⟨gb, cb, xb, rb⟩ := HR.out (n - k) (by omega) (by omega)
          have ya := hq.keep xa
          have yb := hq.keep xb
          have hla := val_le k
          have hlb := val_le (n - k)
          have HK : Hid (allK n k = allK n k' ++ matC (valV k) (valV (n - k)) (valV k).length) := by
            show _ = _
            rw [hkk']; rfl
          have HGA : Hid (∀ x, x ∈ allK n k' ++ matC (valV k) (valV (n - k)) (valV k).length → goodF x) := by
            show ∀ x, _ → _
            rw [← HK.out]
            exact good_all hn2 (by omega) (by omega)
          have hNl : (allK n k').length ≤ 30000 := by have := allK_le n k'; omega
          have HNl := Lib.hid hNl
          have HL := Lib.hid hl
          have HQ := Lib.hid hq
          have HXB := Lib.hid xb
          have HA := Lib.hid ra
          have HB := Lib.hid rb
          have hk1 : 1 ≤ k := by omega
          have hk2 : k ≤ n / 2 := by omega
          clear hl hq xa xb ra rb hNl hkk'
          generalize valV k = A at *
          generalize valV (n - k) = B at *
          generalize allK n k' = N0 at *
          obtain ⟨la, hla2⟩ : ∃ la, A.length = la := ⟨_, rfl⟩
          obtain ⟨lb, hlb2⟩ : ∃ lb, B.length = lb := ⟨_, rfl⟩
          have HLA := Lib.hid hla2
          have HLB := Lib.hid hlb2
          rw [hla2] at ya hla HK HA HGA
          rw [hlb2] at yb hlb HB HXB
          clear hla2 hlb2
          go_wp2_with fail
          obtain ⟨wb, hwb⟩ : ∃ wb, wb = wr := ⟨_, rfl⟩
          subst hwb
          have HM0 : Hid (matC A B 0 = []) := rfl
          have HML := Lib.hid (matC_len A B)
          go_loopw [5, 35] (fun l s wq => ∃ (i : Nat) (u : Value), i ≤ la ∧ s = .int .i64 i ∧ l = u ∧ OwR wq wa.heap.size u (foldR (N0 ++ matC A B i)) ∧ Ge wa wq) (fun _ s _ => 60 - (intOf s).toNat)
          case atStart => exact ⟨0, _, Nat.zero_le _, rfl, rfl, by rw [HM0.out, List.append_nil]; exact HL.out, HQ.out⟩
          case round =>
            obtain ⟨i, u, hi, rfl, rfl, hl, hq⟩ := hrel
            by_cases hli : i < la
            · obtain ⟨xa, xb⟩ := (HA.out.ge hq).cell (k := i) (by rw [HLA.out]; exact hli)
              have HMi : Hid (matC A B (i + 1) = matC A B i ++ rowC A[i]! B lb) := by
                show _ = _
                rw [← HLB.out]; rfl
              have HN1 : Hid ((N0 ++ matC A B i).length ≤ 60000) := by
                show _ ≤ _
                have h1 := HNl.out
                have h2 := HML.out i
                have h3 : i * (B.length * 2) ≤ 53 * (53 * 2) := Nat.mul_le_mul (by omega) (by rw [HLB.out]; omega)
                rw [List.length_append]
                omega
              have HMe : Hid (N0 ++ matC A B (i + 1) = (N0 ++ matC A B i) ++ rowC A[i]! B lb) := by
                show _ = _
                rw [HMi.out, List.append_assoc]
              have HGi : Hid (∀ x, x ∈ (N0 ++ matC A B i) ++ rowC A[i]! B lb → goodF x) := by
                show ∀ x, _ → _
                rw [← HLB.out]
                exact good_mat hli HGA.out
              have yb2 := hq.keep HXB.out
              have zb := World.block_lt_of_cell? _ _ yb2
              (try simp at zb)
              have HQ2 := Lib.hid hq
              have HL2 := Lib.hid hl
              clear hl hq HL HQ ya yb HMi
              generalize A[i]! = a at *
              generalize N0 ++ matC A B i = N1 at *
              obtain ⟨an, ad⟩ := a
              simp only at xa xb
              go_wp2_with fail
              have gW := Ge.alloc (Ge.refl wr) (.cells #[.int .i64 an, .int .i64 ad] 30)
              have cW0 : (wr.alloc (.cells #[.int .i64 an, .int .i64 ad] 30)).cell? ⟨wr.heap.size, 0, none⟩ = some (.int .i64 an) := by simp
              have cW1 : (wr.alloc (.cells #[.int .i64 an, .int .i64 ad] 30)).cell? ⟨wr.heap.size, 1, none⟩ = some (.int .i64 ad) := by simp
              generalize wr.alloc (.cells #[.int .i64 an, .int .i64 ad] 30) = wz at *
              have hR0 : Hid (rowC ⟨an, ad⟩ B 0 = []) := rfl
              have hRL := Lib.hid (rowC_len ⟨an, ad⟩ B)
              have hZ := HQ2.out.trans gW
              have HL3 := Lib.hid (HL2.out.ge gW)
              obtain ⟨p8, hp8⟩ : ∃ p8, p8 = wr.heap.size := ⟨_, rfl⟩
              rw [← hp8] at cW0 cW1 ⊢
              have zp8 := World.block_lt_of_cell? _ _ cW0
              (try simp at zp8)
              clear xa xb yb2 zb HL2 HQ2 gW hp8
              go_loopw [5, 46] (fun l s wq => ∃ (j : Nat) (u : Value), j ≤ lb ∧ s = .int .i64 j ∧ l = u ∧ OwR wq wa.heap.size u (foldR (N1 ++ rowC ⟨an, ad⟩ B j)) ∧ Ge wz wq) (fun _ s _ => 60 - (intOf s).toNat)
              case atStart => exact ⟨0, _, Nat.zero_le _, rfl, rfl, by rw [hR0.out, List.append_nil]; exact HL3.out, Ge.refl _⟩
              case round =>
                obtain ⟨j, u, hj, rfl, rfl, hl, hq⟩ := hrel
                by_cases hlj : j < lb
                · obtain ⟨xa, xb⟩ := (HB.out.ge (hZ.trans hq)).cell (k := j) (by rw [HLB.out]; exact hlj)
                  have HRj : Hid (rowC ⟨an, ad⟩ B (j + 1) = rowC ⟨an, ad⟩ B j ++ [seriesR ⟨an, ad⟩ B[j]!, parallelR ⟨an, ad⟩ B[j]!]) := rfl
                  have HN2 : Hid ((N1 ++ rowC ⟨an, ad⟩ B j).length ≤ 90000) := by
                    show _ ≤ _
                    have h1 := HN1.out
                    have h2 := hRL.out j
                    rw [List.length_append]
                    omega
                  have HGj := Lib.hid (good_row hlj HGi.out)
                  have HRe : Hid (N1 ++ rowC ⟨an, ad⟩ B (j + 1) = (N1 ++ rowC ⟨an, ad⟩ B j) ++ [seriesR ⟨an, ad⟩ B[j]!, parallelR ⟨an, ad⟩ B[j]!]) := by
                    show _ = _
                    rw [HRj.out, List.append_assoc]
                  have HLj := Lib.hid hl
                  have e0 := hq.keep cW0
                  have e1 := hq.keep cW1
                  have HQ3 := Lib.hid (hZ.trans hq)
                  have zq2 := (hZ.trans hq).size
                  have zp9 := World.block_lt_of_cell? _ _ e0
                  (try simp at zp9)
                  have HQz := Lib.hid hq
                  clear hl hq HRj
                  generalize B[j]! = b at *
                  generalize N1 ++ rowC ⟨an, ad⟩ B j = N2 at *
                  obtain ⟨bn, bd⟩ := b
                  simp only at xa xb
                  have HSe := Lib.hid (fun w' => sSeriesRatio an ad bn bd w')
                  have HPa := Lib.hid (fun w' => sParallelRatio an ad bn bd w')
                  have HF2 := Lib.hid (ins_two N2 (seriesR ⟨an, ad⟩ ⟨bn, bd⟩) (parallelR ⟨an, ad⟩ ⟨bn, bd⟩))
                  rw [← HRe.out] at HF2
                  generalize seriesR ⟨an, ad⟩ ⟨bn, bd⟩ = SS at *
                  generalize parallelR ⟨an, ad⟩ ⟨bn, bd⟩ = PP at *
                  have HgS : Hid (goodF SS) := HGj.out _ (by simp)
                  have HgP : Hid (goodF PP) := HGj.out _ (by simp)
                  have HgN : Hid (∀ x ∈ foldR N2, goodF x) := fun x hx => HGj.out _ (List.mem_append_left _ (foldR_mem hx))
                  have HFl : Hid ((foldR N2).length ≤ 90000) := Nat.le_trans (foldR_len N2) HN2.out
                  have HI1 := Lib.hid (fun v w' (o : OwR w' wa.heap.size v (foldR N2)) => sL14Insert wa.heap.size v (foldR N2) SS w' o (by have := HFl.out; omega) HgN.out HgS.out)
                  have HI2 := Lib.hid (fun b v w' (o : OwR w' b v (insR (foldR N2) SS)) => sL14Insert b v (insR (foldR N2) SS) PP w' o (by have := HFl.out; have := insR_len (foldR N2) SS; omega) (fun x hx => by rcases insR_mem _ _ x hx with h | h; exact HgN.out x h; rw [h]; exact HgS.out) HgP.out)
                  clear HGj HRe HN2
                  go_wp2_with (first | (go_at_call 22; ((with_reducible refine (HSe.out _).mono ?_); rintro e w5 ⟨rfl, g5⟩); have q0 := g5.keep (cell_alloc e0); have q1 := g5.keep (cell_alloc e1); have k0 := g5.keep (show (wr.alloc (.cells #[.int .i64 bn, .int .i64 bd] 30)).cell? ⟨wr.heap.size, 0, none⟩ = some (.int .i64 bn) by simp); have k1 := g5.keep (show (wr.alloc (.cells #[.int .i64 bn, .int .i64 bd] 30)).cell? ⟨wr.heap.size, 1, none⟩ = some (.int .i64 bd) by simp); have GX := Lib.hid ((Ge.alloc (Ge.refl wr) _).trans g5); have HL5 := Lib.hid (HLj.out.ge GX.out); clear g5) | (go_at_call 23; ((with_reducible refine (HPa.out _).mono ?_); rintro e w7 ⟨rfl, g7⟩); have HL7 := Lib.hid (HL6.out.ge g7); have GY := Lib.hid (G6.out.trans g7); clear g7) | (go_at_call 21; ((with_reducible refine (HI2.out _ _ _ HL7.out).mono ?_); rintro e w8 ⟨v8, rfl, o8, g8⟩); have HL8 := Lib.hid o8; have G8 := Lib.hid (GY.out.trans g8); have ZY := GY.out.size; clear o8 g8) | (go_at_call 21; ((with_reducible refine (HI1.out _ _ HL5.out).mono ?_); rintro e w6 ⟨v6, rfl, o6, g6⟩); have q0 := g6.keep q0; have q1 := g6.keep q1; have k0 := g6.keep k0; have k1 := g6.keep k1; have HL6 := Lib.hid o6; have G6 := Lib.hid (GX.out.trans g6); clear o6 g6))
                  go_roundw
                  case rel => exact ⟨j + 1, _, by omega, by go_num, rfl, by rw [HF2.out]; exact OwR.mono HL8.out (by omega), HQz.out.trans G8.out⟩
                  case measure => simp [intOf]; omega
                · have hjn : j = lb := by omega
                  subst hjn
                  go_wp2_with fail
                  go_roundw
                  case rel => exact ⟨i + 1, _, by omega, by go_num, rfl, by rw [HMe.out]; exact hl, hZ.trans hq⟩
                  case measure => simp [intOf]; omega
            · have hil : i = la := by omega
              subst hil
              go_wp2_with fail
              go_roundw
              case rel => exact ⟨k + 1, k, _, rfl, hk2, by go_num, rfl, by rw [HK.out]; exact hl, hq⟩
              case measure => simp [intOf]; omega
        · have hkn : k' = n / 2 := by omega
          subst hkn
          have hV : foldR (allK n (n / 2)) = valV n := unit_ins hn2 (by omega)
          rw [hV] at hl
          obtain ⟨gl, cl, rfl⟩ := owns_form hl
          obtain ⟨L, hL⟩ : ∃ L, (valV n).length = L := ⟨_, rfl⟩
          rw [hL] at hl ⊢
          have HQ9 := Lib.hid hq
          have HL9 := Lib.hid hl
          have HLl := Lib.hid hL
          have zq9 := hq.size
          clear hl hq hL hV
          go_wp2_with (at_builtin; refine ap_rats rfl _ _ rfl w.heap.size _ n rfl (HO.out.ge HQ9.out) gl L cl HLl.out (OwR.mono HL9.out zg) rfl (by omega) (by omega) ?_; intro v7 w7 own7 g7; have HO7 := Lib.hid own7; have HG7 := Lib.hid (g7 w (HG.out.trans HQ9.out) (Nat.le_refl _)); clear own7 g7)
          go_roundw
          case rel => exact ⟨n + 1, _, by omega, by omega, by go_num, rfl, HO7.out, HG7.out⟩
          case measure => simp [intOf]; omega
    · have hnm2 : n = m + 1 := by omega
      subst hnm2
      obtain ⟨g0, c0, rfl, hrows⟩ := hown.open (by omega) (by omega)
      obtain ⟨ga, ca, xa, ra⟩ := hrows m (by omega) (by omega)
      obtain ⟨L, hL⟩ : ∃ L, (valV m).length = L := ⟨_, rfl⟩
      have hL2 := val_le m
      rw [hL] at xa ra hL2
      have HR := Lib.hid ra
      have HLl := Lib.hid hL
      have HG := Lib.hid hg
      have zg := hg.size
      have zx := World.block_lt_of_cell? _ _ xa
      simp only at zx
      clear hown hrows hg hL ra
      go_wp2_with (at_builtin; refine ap_copR rfl _ _ rfl rfl ga L ca _ (valV m) rfl HR.out HLl.out (by omega) ?_; intro v7 w7 own7 g7; have HO7 := Lib.hid own7; have HG7 := Lib.hid (HG.out.trans g7); clear own7 g7)
      go_ret
      exact ⟨_, rfl, OwR.mono HO7.out zg, HG7.out⟩

set_option maxHeartbeats 1600000 in
theorem sUnitValues (m : Int) (w : World) : Calls Try.prog 6 #[.int .i64 m] w fun e w' => ∃ v, e = .returned v ∧ OwR w' w.heap.size v (unitL m) ∧ Ge w w' := by
  by_cases h : 1 ≤ m ∧ m ≤ 6
  · obtain ⟨k, rfl⟩ := Int.eq_ofNat_of_zero_le (show 0 ≤ m by omega)
    rw [unitL_t (by omega)]
    exact sUnitT k w (by omega) (by omega)
  · have HU : Hid (unitL m = []) := unitL_f h
    have tI : inB m 1 6 = false := inB_false (by omega)
    clear h
    go_enter Try.func6, Try.ntmps6
    go_wp2_with ((go_at_call 20; ((with_reducible refine (sL01In _ _ _ _).mono ?_); rintro e w0 ⟨rfl, rfl⟩)))
    go_ret
    exact ⟨_, rfl, by rw [HU.out]; exact ⟨rfl, .inl ⟨rfl, rfl⟩⟩, Ge.refl _⟩

set_option maxHeartbeats 1600000 in
theorem iUnitValues (m : Int) (w : World) : Calls Try.prog 7 #[.int .i64 m] w fun e w' => ∃ v, e = .returned v ∧ OwR w' w.heap.size v (unitL m) ∧ Ge w w' := by
  by_cases h : 1 ≤ m ∧ m ≤ 6
  · obtain ⟨k, rfl⟩ := Int.eq_ofNat_of_zero_le (show 0 ≤ m by omega)
    rw [unitL_t (by omega)]
    have h1 : ¬ (k : Int) < 1 := by omega
    have h2 : ¬ (k : Int) > 6 := by omega
    have h2' : ¬ 6 < (k : Int) := by omega
    have HV := Lib.hid (fun w' => iValues k w' (by omega) (by omega))
    have hk1 : 1 ≤ k := by omega
    have hk6 : k ≤ 6 := by omega
    clear h
    go_enter Try.func7, Try.ntmps7
    go_wp2_with (go_at_call 24; ((with_reducible refine (HV.out _).mono ?_); rintro e w5 ⟨v, rfl, own, g⟩); obtain ⟨g0, c0, rfl, hrows⟩ := own.open (by omega) (by omega); obtain ⟨ga, ca, xa, ra⟩ := hrows k (by omega) (by omega); have HR := Lib.hid ra; have HG := Lib.hid g; have zx := World.block_lt_of_cell? _ _ xa; clear own hrows ra g)
    go_ret
    exact ⟨_, rfl, HR.out, HG.out⟩
  · have HU : Hid (unitL m = []) := unitL_f h
    by_cases h1 : m < 1
    · go_enter Try.func7, Try.ntmps7
      go_wp2_with fail
      go_ret
      exact ⟨_, rfl, by rw [HU.out]; exact ⟨rfl, .inl ⟨rfl, rfl⟩⟩, Ge.refl _⟩
    · have h2 : 6 < m := by omega
      have h2' : m > 6 := by omega
      go_enter Try.func7, Try.ntmps7
      go_wp2_with fail
      go_ret
      exact ⟨_, rfl, by rw [HU.out]; exact ⟨rfl, .inl ⟨rfl, rfl⟩⟩, Ge.refl _⟩
end Go.Proofs.Ytmcnfhpjjmbdmaa
