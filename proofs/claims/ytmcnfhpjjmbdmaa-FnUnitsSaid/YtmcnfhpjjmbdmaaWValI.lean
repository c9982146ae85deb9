/- values of impl: the lists of the values of up to 6 equal resistors. No condition. -/
import Derived.Test.YtmcnfhpjjmbdmaaWValB
import Derived.Test.YtmcnfhpjjmbdmaaWSum
import Derived.Test.YtmcnfhpjjmbdmaaWTail
import Derived.Deep.DeepCutAuto
import Derived.Deep.QuietTactic
namespace Go.Proofs.Ytmcnfhpjjmbdmaa
set_option maxRecDepth 100000
open Go.ChangeShapes Go.WideShapes Go.ChangeAt Go.RowKit Go.Joins

set_option maxHeartbeats 6400000 in
theorem iValues (m : Nat) (w : World) (h1 : 1 ≤ m) (h6 : m ≤ 6) :
    Calls Try.prog 24 #[.int .i64 (m : Int)] w fun e w' => ∃ v, e = .returned v ∧ OwnV w' w.heap.size v (m + 1) ∧ Ge w w' := by
  have HS := Lib.hid (own_start w w.heap.size none ⟨rfl, .inl ⟨rfl, rfl⟩⟩ (Nat.le_refl _))
  go_enter Try.func24, Try.ntmps24
  go_wp2_with fail
  go_loopw [3, 4] (fun o i wr => ∃ (n : Nat) (u : Value), 2 ≤ n ∧ n ≤ m + 1 ∧ i = .int .i64 n ∧ o = u ∧ OwnV wr w.heap.size u n ∧ Ge w wr) (fun _ i _ => 8 - (intOf i).toNat)
  case atStart => exact ⟨2, _, Nat.le_refl _, by omega, rfl, rfl, HS.out, by (repeat (first | with_reducible exact Ge.refl _ | assumption | with_reducible refine Ge.drew ?_ | with_reducible refine Ge.drewN ?_ _ | with_reducible refine Ge.alloc ?_ _ | (with_reducible refine Ge.setCell ?_ (by first | (simp; done) | omega | (simp; omega)) _) | with_reducible refine Ge.trans ?_ (by assumption)))⟩
  case round =>
    obtain ⟨n, u, hn2, hnm, rfl, rfl, hown, hg⟩ := hrel
    clear HS
    by_cases hlt : n ≤ m
    · obtain ⟨g0, c0, rfl, hrows⟩ := hown.open (by omega) (by omega)
      have HO := Lib.hid hown
      have HR := Lib.hid hrows
      have HG := Lib.hid hg
      have zg := hg.size
      clear hown hrows hg
      go_wp2_with fail
      obtain ⟨wa, hwa⟩ : ∃ wa, wa = wr := ⟨_, rfl⟩
      subst hwa
      go_loopw [5, 6] (fun l k wq => ∃ (kk k' : Nat) (u : Value), Hid (kk = k' + 1) ∧ k' ≤ n / 2 ∧ k = .int .i64 kk ∧ l = u ∧ OwR wq wa.heap.size u (allK n k') ∧ Ge wa wq) (fun _ i _ => 8 - (intOf i).toNat)
      case atStart => exact ⟨1, 0, _, rfl, Nat.zero_le _, rfl, rfl, owns_lit0 _ _ _, by (repeat (first | with_reducible exact Ge.refl _ | assumption | with_reducible refine Ge.drew ?_ | with_reducible refine Ge.drewN ?_ _ | with_reducible refine Ge.alloc ?_ _ | (with_reducible refine Ge.setCell ?_ (by first | (simp; done) | omega | (simp; omega)) _) | with_reducible refine Ge.trans ?_ (by assumption)))⟩
      case round =>
        obtain ⟨k, k', u, hkk, hk, rfl, rfl, hl, hq⟩ := hrel
        have hkk' := hkk.out
        by_cases hlk : 2 * k ≤ n
        · have hlkB : decide (2 * (k : Int) ≤ (n : Int)) = true := by simp; omega
          have hlkI : 2 * (k : Int) ≤ (n : Int) := by omega
          obtain ⟨ga, ca, xa, ra⟩ := HR.out k (by omega) (by omega)
          obtain ⟨gb, cb, xb, rb⟩ := HR.out (n - k) (by omega) (by omega)
          have ya := hq.keep xa
          have yb := hq.keep xb
          have hla := val_le k
          have hlb := val_le (n - k)
          have HK : Hid (allK n k = allK n k' ++ matC (valV k) (valV (n - k)) (valV k).length) := by
            show _ = _
            rw [hkk']; rfl
          have hNl : (allK n k').length ≤ 30000 := by have := allK_le n k'; omega
          have HNl := Lib.hid hNl
          have HL := Lib.hid hl
          have HQ := Lib.hid hq
          have HXB := Lib.hid xb
          have HA := Lib.hid ra
          have HB := Lib.hid rb
          have hk1 : 1 ≤ k := by omega
          have hk2 : k ≤ n / 2 := by omega
          clear hl hq xa xb ra rb hNl hkk'
          generalize valV k = A at *
          generalize valV (n - k) = B at *
          generalize allK n k' = N0 at *
          obtain ⟨la, hla2⟩ : ∃ la, A.length = la := ⟨_, rfl⟩
          obtain ⟨lb, hlb2⟩ : ∃ lb, B.length = lb := ⟨_, rfl⟩
          have HLA := Lib.hid hla2
          have HLB := Lib.hid hlb2
          rw [hla2] at ya hla HK HA
          rw [hlb2] at yb hlb HB HXB
          clear hla2 hlb2
          go_wp2_with fail
          obtain ⟨wb, hwb⟩ : ∃ wb, wb = wr := ⟨_, rfl⟩
          subst hwb
          have HM0 : Hid (matC A B 0 = []) := rfl
          have HML := Lib.hid (matC_len A B)
          go_loopw [5, 31] (fun l s wq => ∃ (i : Nat) (u : Value), i ≤ la ∧ s = .int .i64 i ∧ l = u ∧ OwR wq wa.heap.size u (N0 ++ matC A B i) ∧ Ge wa wq) (fun _ s _ => 60 - (intOf s).toNat)
          case atStart => exact ⟨0, _, Nat.zero_le _, rfl, rfl, by rw [HM0.out, List.append_nil]; exact HL.out, HQ.out⟩
          case round =>
            obtain ⟨i, u, hi, rfl, rfl, hl, hq⟩ := hrel
            by_cases hli : i < la
            · obtain ⟨xa, xb⟩ := (HA.out.ge hq).cell (k := i) (by rw [HLA.out]; exact hli)
              have HMi : Hid (matC A B (i + 1) = matC A B i ++ rowC A[i]! B lb) := by
                show _ = _
                rw [← HLB.out]; rfl
              have HN1 : Hid ((N0 ++ matC A B i).length ≤ 60000) := by
                show _ ≤ _
                have h1 := HNl.out
                have h2 := HML.out i
                have h3 : i * (B.length * 2) ≤ 53 * (53 * 2) := Nat.mul_le_mul (by omega) (by rw [HLB.out]; omega)
                rw [List.length_append]
                omega
              have HMe : Hid (N0 ++ matC A B (i + 1) = (N0 ++ matC A B i) ++ rowC A[i]! B lb) := by
                show _ = _
                rw [HMi.out, List.append_assoc]
              have yb2 := hq.keep HXB.out
              have zb := World.block_lt_of_cell? _ _ yb2
              (try simp at zb)
              have HQ2 := Lib.hid hq
              have HL2 := Lib.hid hl
              clear hl hq HL HQ ya yb HMi
              generalize A[i]! = a at *
              generalize N0 ++ matC A B i = N1 at *
              obtain ⟨an, ad⟩ := a
              simp only at xa xb
              go_wp2_with fail
              have gW := Ge.alloc (Ge.refl wr) (.cells #[.int .i64 an, .int .i64 ad] 30)
              have cW0 : (wr.alloc (.cells #[.int .i64 an, .int .i64 ad] 30)).cell? ⟨wr.heap.size, 0, none⟩ = some (.int .i64 an) := by simp
              have cW1 : (wr.alloc (.cells #[.int .i64 an, .int .i64 ad] 30)).cell? ⟨wr.heap.size, 1, none⟩ = some (.int .i64 ad) := by simp
              generalize wr.alloc (.cells #[.int .i64 an, .int .i64 ad] 30) = wz at *
              have hR0 : Hid (rowC ⟨an, ad⟩ B 0 = []) := rfl
              have hRL := Lib.hid (rowC_len ⟨an, ad⟩ B)
              have hZ := HQ2.out.trans gW
              have HL3 := Lib.hid (HL2.out.ge gW)
              have HSd := Lib.hid (⟨cW0, cW1, fun k hk => by have := ((HL2.out).lt k hk).2; omega⟩ : Side _ _ _ _ _)
              obtain ⟨p8, hp8⟩ : ∃ p8, p8 = wr.heap.size := ⟨_, rfl⟩
              rw [← hp8] at cW0 cW1 HSd ⊢
              have zp8 := World.block_lt_of_cell? _ _ cW0
              (try simp at zp8)
              clear xa xb yb2 zb HL2 HQ2 gW hp8 cW0 cW1
              go_loopw [5, 42] (fun l s wq => ∃ (j : Nat) (u : Value), j ≤ lb ∧ s = .int .i64 j ∧ l = u ∧ OwR wq wa.heap.size u (N1 ++ rowC ⟨an, ad⟩ B j) ∧ Ge wa wq ∧ Side wq u p8 an ad) (fun _ s _ => 60 - (intOf s).toNat)
              case atStart => exact ⟨0, _, Nat.zero_le _, rfl, rfl, by rw [hR0.out, List.append_nil]; exact HL3.out, hZ, HSd.out⟩
              case round =>
                obtain ⟨j, u, hj, rfl, rfl, hl, hq, hsd⟩ := hrel
                by_cases hlj : j < lb
                · obtain ⟨xa, xb⟩ := (HB.out.ge hq).cell (k := j) (by rw [HLB.out]; exact hlj)
                  obtain ⟨pl, cl, rfl⟩ := owns_form hl
                  have HRj : Hid (rowC ⟨an, ad⟩ B (j + 1) = rowC ⟨an, ad⟩ B j ++ [seriesR ⟨an, ad⟩ B[j]!, parallelR ⟨an, ad⟩ B[j]!]) := rfl
                  have HN2 : Hid ((N1 ++ rowC ⟨an, ad⟩ B j).length < 100000) := by
                    show _ < _
                    have h1 := HN1.out
                    have h2 := hRL.out j
                    rw [List.length_append]
                    omega
                  have HRe : Hid (N1 ++ rowC ⟨an, ad⟩ B (j + 1) = (N1 ++ rowC ⟨an, ad⟩ B j) ++ [⟨(seriesR ⟨an, ad⟩ B[j]!).n, (seriesR ⟨an, ad⟩ B[j]!).d⟩, ⟨(parallelR ⟨an, ad⟩ B[j]!).n, (parallelR ⟨an, ad⟩ B[j]!).d⟩]) := by
                    show _ = _
                    rw [HRj.out, List.append_assoc]
                  have HLj := Lib.hid hl
                  have e0 := hsd.1
                  have e1 := hsd.2.1
                  have HS3 := Lib.hid hsd
                  have HQ3 := Lib.hid hq
                  have zq2 := hq.size
                  clear hl hq hsd HRj
                  generalize B[j]! = b at *
                  generalize N1 ++ rowC ⟨an, ad⟩ B j = N2 at *
                  obtain ⟨bn, bd⟩ := b
                  simp only at xa xb
                  have HSe := Lib.hid (fun w' => iSeriesRatio an ad bn bd w')
                  have HPa := Lib.hid (fun w' => iParallelRatio an ad bn bd w')
                  go_wp2_with fail
                  have gY := Ge.alloc (Ge.refl wr) (.cells #[.int .i64 bn, .int .i64 bd] 30)
                  have d0 : (wr.alloc (.cells #[.int .i64 bn, .int .i64 bd] 30)).cell? ⟨wr.heap.size, 0, none⟩ = some (.int .i64 bn) := by simp
                  have d1 : (wr.alloc (.cells #[.int .i64 bn, .int .i64 bd] 30)).cell? ⟨wr.heap.size, 1, none⟩ = some (.int .i64 bd) := by simp
                  have f0 := gY.keep e0
                  have f1 := gY.keep e1
                  have gaY := HQ3.out.trans gY
                  have HLy := Lib.hid (HLj.out.ge gY)
                  have HSy := Lib.hid (HS3.out.ge gY)
                  clear xa xb e0 e1 HQ3 zq2 HLj HS3
                  generalize wr.alloc (.cells #[.int .i64 bn, .int .i64 bd] 30) = wy at *
                  generalize wr.heap.size = p10 at *
                  clear gY
                  refine wp_region_head (S := fun w' => Ge wy w') 8 (by kernel_rfl) (by kernel_rfl) (Ge.drew (Ge.refl wy)) (fun hHeld => ?_)
                  refine head_take 0 (v := ?_) rfl (by kernel_rfl) (by kernel_rfl) (fun _ _ _ h => h) (by assumption) (yields_if (by rfl) ?_) ?_
                  rotate_left
                  focus (intro w' hSw; (try dsimp only at hSw); have s0 := Ge.keep hSw f0; have s1 := Ge.keep hSw f1; have s2 := Ge.keep hSw d0; have s3 := Ge.keep hSw d1; go_simp; (try with_reducible rfl))
                  (try simp only [Act.put, List.setIfInBounds_toArray, List.set_cons_zero, List.set_cons_succ])
                  refine head_take 1 (v := ?_) rfl (by kernel_rfl) (by kernel_rfl) (fun _ _ _ h => h) (by assumption) (yields_if (by rfl) ?_) ?_
                  rotate_left
                  focus (intro w' hSw; (try dsimp only at hSw); have s0 := Ge.keep hSw f0; have s1 := Ge.keep hSw f1; have s2 := Ge.keep hSw d0; have s3 := Ge.keep hSw d1; go_simp; (try with_reducible rfl))
                  (try simp only [Act.put, List.setIfInBounds_toArray, List.set_cons_zero, List.set_cons_succ])
                  refine head_take 2 (v := ?_) rfl (by kernel_rfl) (by kernel_rfl) (fun _ _ _ h => h) (by assumption) (yields_if (by rfl) ?_) ?_
                  rotate_left
                  focus (intro w' hSw; (try dsimp only at hSw); have s0 := Ge.keep hSw f0; have s1 := Ge.keep hSw f1; have s2 := Ge.keep hSw d0; have s3 := Ge.keep hSw d1; go_simp; (try with_reducible rfl))
                  (try simp only [Act.put, List.setIfInBounds_toArray, List.set_cons_zero, List.set_cons_succ])
                  refine head_take 4 (v := ?_) rfl (by kernel_rfl) (by kernel_rfl) (fun _ _ _ h => h) (by assumption) (yields_if (by rfl) ?_) ?_
                  rotate_left
                  focus (intro w' hSw; (try dsimp only at hSw); have s0 := Ge.keep hSw f0; have s1 := Ge.keep hSw f1; have s2 := Ge.keep hSw d0; have s3 := Ge.keep hSw d1; go_simp; (try with_reducible rfl))
                  (try simp only [Act.put, List.setIfInBounds_toArray, List.set_cons_zero, List.set_cons_succ])
                  refine head_take 5 (v := ?_) rfl (by kernel_rfl) (by kernel_rfl) (fun _ _ _ h => h) (by assumption) (yields_if (by rfl) ?_) ?_
                  rotate_left
                  focus (intro w' hSw; (try dsimp only at hSw); have s0 := Ge.keep hSw f0; have s1 := Ge.keep hSw f1; have s2 := Ge.keep hSw d0; have s3 := Ge.keep hSw d1; go_simp; (try with_reducible rfl))
                  (try simp only [Act.put, List.setIfInBounds_toArray, List.set_cons_zero, List.set_cons_succ])
                  refine head_one 3 rfl (by kernel_rfl) (fun K hK => ?_)
                  go_simp
                  (go_at_call 18; ((with_reducible refine (HSe.out _).mono ?_); rintro e wA ⟨rfl, gA⟩))
                  have gA2 : Ge wy wA := (Ge.drew (Ge.refl wy)).trans gA
                  refine hK.out _ _ gA2 (fun hHeld => ?_)
                  clear hK K
                  (try simp only [Act.put, List.setIfInBounds_toArray, List.set_cons_zero, List.set_cons_succ])
                  refine head_one 6 rfl (by kernel_rfl) (fun K hK => ?_)
                  go_simp
                  (go_at_call 19; ((with_reducible refine (HPa.out _).mono ?_); rintro e wB ⟨rfl, gB⟩))
                  have gB2 : Ge wy wB := gA2.trans gB
                  refine hK.out _ _ gB2 (fun hHeld => ?_)
                  clear hK K
                  (try simp only [Act.put, List.setIfInBounds_toArray, List.set_cons_zero, List.set_cons_succ])
                  refine head_one 7 rfl (by kernel_rfl) (fun K hK => ?_)
                  go_simp
                  refine hK.out _ _ (Ge.alloc gB2 _) (fun hHeld => ?_)
                  clear hK K
                  (try simp only [Act.put, List.setIfInBounds_toArray, List.set_cons_zero, List.set_cons_succ])
                  refine head_done (by kernel_rfl) ?_
                  refine ap_rat2 (w0 := wa) (wr := wy) rfl _ _ rfl _ N2 (by rfl) gaY gB2 HLy.out _ _ _ _ rfl rfl HN2.out ?_
                  intro v6 w6 own6 g6 s6
                  (try simp only [Act.put, List.setIfInBounds_toArray, List.set_cons_zero, List.set_cons_succ])
                  have HO6 := Lib.hid own6
                  have HS6 := Lib.hid (s6 _ _ _ (HSy.out.ge gB2))
                  clear own6 s6
                  go_wp2_with fail
                  go_roundw
                  case rel => exact ⟨j + 1, _, by omega, by go_num, rfl, by rw [HRe.out]; exact HO6.out, g6, HS6.out⟩
                  case measure => simp [intOf]; omega
                · have hjn : j = lb := by omega
                  subst hjn
                  go_wp2_with fail
                  go_roundw
                  case rel => exact ⟨i + 1, _, by omega, by go_num, rfl, by rw [HMe.out]; exact hl, hq⟩
                  case measure => simp [intOf]; omega
            · have hil : i = la := by omega
              subst hil
              go_wp2_with fail
              go_roundw
              case rel => exact ⟨k + 1, k, _, rfl, hk2, by go_num, rfl, by rw [HK.out]; exact hl, hq⟩
              case measure => simp [intOf]; omega
        · have hkn : k' = n / 2 := by omega
          subst hkn
          obtain ⟨uf1, uf2, uf3, uf4, uf5, uf6⟩ := unit_facts hn2 (by omega)
          have hpos : 0 < (allK n (n / 2)).length := uf6
          obtain ⟨gl, cl, rfl⟩ := Go.Joins.ownsRow_form hl hpos
          have hgl := (hl.lt gl rfl).1
          have hsl : (sortR (cand n)).length = (allK n (n / 2)).length := uf2.length_eq
          have hL5 : (allK n (n / 2)).length ≤ 200 := uf5
          obtain ⟨L, hL⟩ : ∃ L, (allK n (n / 2)).length = L := ⟨_, rfl⟩
          rw [hL] at hl hpos hsl hL5 ⊢
          have HSo := Lib.hid (sortRat wa.heap.size gl L cl (allK n (n / 2)) (sortR (cand n)) wr wa hl hL (by omega) uf1 uf2 uf3 hq hgl)
          have HCo := Lib.hid (fun (w' : World) (o' : OwR w' wa.heap.size (.slice (some ⟨gl, 0, none⟩) L cl) (sortR (cand n))) (g' : Ge wa w') => compactL wa.heap.size gl L cl (sortR (cand n)) w' wa o' hsl (by omega) g' hgl)
          have HVn := Lib.hid uf4
          have HQ9 := Lib.hid hq
          have HL9 := Lib.hid hl
          have HLl := Lib.hid hL
          clear hl hq uf1 uf2 uf3 uf4 uf5 uf6 hL hsl
          go_wp2_with (first | (go_at_call 39; ((with_reducible refine (HSo.out).mono ?_); rintro e w5 ⟨rfl, o5, g5⟩); have HO5 := Lib.hid o5; have HG5 := Lib.hid g5; clear o5 g5) | (go_at_call 40; ((with_reducible refine (HCo.out _ HO5.out HG5.out).mono ?_); rintro e w6 ⟨m6, hm6, rfl, o6, g6⟩); have HO6 := Lib.hid o6; have HG6 := Lib.hid g6; have HM6 := Lib.hid hm6; clear o6 g6 hm6) | (at_builtin; refine ap_rats rfl _ _ rfl w.heap.size _ n rfl (HO.out.ge HG6.out) (some ⟨gl, 0, none⟩) m6 cl (by rw [← HVn.out]; exact HM6.out) (by rw [← HVn.out]; exact OwR.mono HO6.out zg) rfl (by omega) (by have := HG6.out.size; omega) ?_; intro v7 w7 own7 g7; have HO7 := Lib.hid own7; have HG7 := Lib.hid (g7 w (HG.out.trans HG6.out) (Nat.le_refl _)); clear own7 g7))
          go_roundw
          case rel => exact ⟨n + 1, _, by omega, by omega, by go_num, rfl, HO7.out, HG7.out⟩
          case measure => simp [intOf]; omega
    · have hnm2 : n = m + 1 := by omega
      subst hnm2
      go_wp2_with fail
      go_ret
      exact ⟨_, rfl, hown, hg⟩
end Go.Proofs.Ytmcnfhpjjmbdmaa
