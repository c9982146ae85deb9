/- CircularPairs of both sides. No condition. -/
import Derived.Test.YtjdhjoifiebpeaaWPairs
namespace Go.Proofs.Ytjdhjoifiebpeaa
set_option maxRecDepth 100000
open Go.ChangeShapes Go.WideShapes Go.ChangeAt Go.RowKit Go.Joins

theorem pairsP_succ (k : Nat) (L : List (List Int)) (i : Nat) : pairsP k L (i + 1) = pairsP k L i ++ pairsQ k (rowL L i) L L.length := rfl
theorem pairsQ_no {k : Nat} {p : List Int} {L : List (List Int)} {j : Nat} (h : circB k p (rowL L j) = false) : pairsQ k p L (j + 1) = pairsQ k p L j := by
  show pairsQ k p L j ++ (if circB k p (rowL L j) then _ else _) = _
  rw [h]; simp
theorem pairsQ_yes {k : Nat} {p : List Int} {L : List (List Int)} {j : Nat} (h : circB k p (rowL L j) = true) : pairsQ k p L (j + 1) = pairsQ k p L j ++ [(p, rowL L j)] := by
  show pairsQ k p L j ++ (if circB k p (rowL L j) then [(p, rowL L j)] else _) = _
  rw [h]; rfl

set_option maxHeartbeats 6400000 in
theorem iCircularPairs (k : Nat) (w : World) (hk1 : 1 ≤ k) (hk : k ≤ 5) :
    Calls Try.prog 12 #[.int .i64 (k : Int)] w fun e w' => ∃ v n, e = .returned v ∧ (pairsM k (k / 2)).length = n ∧ n ≤ 1000 ∧ OwnP w' 0 v (pairsM k (k / 2)) ∧ Ge w w' := by
  have HB : Hid (∀ m, m ≤ 2 → (pairsM k m).length ≤ 1000) := by
    show ∀ m, _
    intro m hm
    exact pairsM_len hk m hm

  go_enter Try.func12, Try.ntmps12
  go_wp2_with fail
  go_loopw [3, 4] (fun o i wr => ∃ (m m' : Nat) (u : Value), m = m' + 1 ∧ m' ≤ k / 2 ∧ i = .int .i64 m ∧ o = u ∧ OwnP wr w.heap.size u (pairsM k m') ∧ Ge w wr) (fun _ i _ => 3 - (intOf i).toNat)
  case atStart => exact ⟨1, 0, _, rfl, Nat.zero_le _, rfl, rfl, OwnP.nil _, by (repeat (first | with_reducible exact Ge.refl _ | assumption | with_reducible refine Ge.drew ?_ | with_reducible refine Ge.drewN ?_ _ | with_reducible refine Ge.alloc ?_ _ | (with_reducible refine Ge.setCell ?_ (by first | (simp; done) | omega | (simp; omega)) _) | with_reducible refine Ge.trans ?_ (by assumption)))⟩
  case round =>
    obtain ⟨m, m', u, hm, hmk, rfl, rfl, hown, hg⟩ := hrel
    by_cases hlt : 2 * m ≤ k
    · have hm2 : m ≤ 2 := by omega
      have hm1 : 1 ≤ m := by omega
      have hNl := HB.out m' (by omega)
      have HSm : Hid (pairsM k m = pairsM k m' ++ pairsP k (listsL k m) (listsL k m).length) := by
        show _ = _
        rw [hm]; rfl
      have HCh := Lib.hid (fun w' => iChoices k m w' hk hm2)
      have HOk := Lib.hid (listsL_ok k m)
      have HPs := Lib.hid (pairsP_succ k (listsL k m))
      have HPl := Lib.hid (pairsP_len k (listsL k m))
      have HP0 : Hid (pairsP k (listsL k m) 0 = []) := rfl
      have HQl := Lib.hid (fun p => pairsQ_len k p (listsL k m))
      have HO0 := Lib.hid hown
      have zg := hg.size
      have hkm : k / 2 ≤ 2 := by omega
      have hmk' : m ≤ k / 2 := by omega
      have HNl := Lib.hid hNl
      clear hown hm hNl
      generalize listsL k m = L at *
      generalize pairsM k m' = N0 at *
      go_wp2_with ((go_at_call 18; ((with_reducible refine (HCh.out _).mono ?_); rintro e wp ⟨vP, n, rfl, hnL, hn25, oP, gP⟩)); have HL := Lib.hid hnL; obtain ⟨pP, cP, rfl, _⟩ := oP.rows hnL)
      have G0 := Ge.trans hg gP
      have HO1 := Lib.hid (HO0.out.ge gP)
      have zp := G0.size
      clear HO0 hg gP hnL zg
      obtain ⟨wa, hwa⟩ : ∃ wa, wa = wp := ⟨_, rfl⟩
      subst hwa
      go_loopw [3, 27] (fun o i wr => ∃ (s : Nat) (u : Value), s ≤ n ∧ i = .int .i64 s ∧ o = u ∧ OwnP wr w.heap.size u (N0 ++ pairsP k L s) ∧ OwnL wr 0 (.slice pP n cP) L ∧ Ge w wr) (fun _ i _ => n - (intOf i).toNat)
      case atStart => exact ⟨0, _, Nat.zero_le _, rfl, rfl, by rw [HP0.out, List.append_nil]; exact HO1.out, oP, G0⟩
      case round =>
        obtain ⟨s, u, hs, rfl, rfl, hown, hP, hgs⟩ := hrel
        clear HO1 oP G0 zp
        by_cases hls : s < n
        · obtain ⟨pX, cX, he, hrows⟩ := hP.rows HL.out
          simp only [Value.slice.injEq] at he
          obtain ⟨rfl, _, rfl⟩ := he
          obtain ⟨b, o, q, cq, rfl, x0, hr⟩ := hrows s hls
          have hmem := HOk.out (rowL L s) (rowL_mem (by rw [HL.out]; exact hls))
          have hlp := hmem.1
          rw [hlp] at x0 hr
          have hQl := HQl.out (rowL L s)
          have HPx := Lib.hid (HPs.out s)
          rw [HL.out] at HPx
          have hPl := HPl.out s
          rw [HL.out] at hPl
          have hsn : s * n ≤ 25 * 25 := Nat.mul_le_mul (by omega) hn25
          have HNN : Hid ((N0 ++ pairsP k L s).length ≤ 2000) := by
            show _ ≤ _
            have := HNl.out
            rw [List.length_append]; omega
          have HRr := Lib.hid hr
          have HPp := Lib.hid hP
          have HOo := Lib.hid hown
          have HLp := Lib.hid hlp
          have HQL := Lib.hid hQl
          have HQ0 : Hid (pairsQ k (rowL L s) L 0 = []) := rfl
          have HQn := Lib.hid (fun j (h : circB k (rowL L s) (rowL L j) = false) => pairsQ_no h)
          have HQy := Lib.hid (fun j (h : circB k (rowL L s) (rowL L j) = true) => pairsQ_yes h)
          clear hmem hrows hr hP hown hlp hQl hPl
          generalize rowL L s = p at *
          have HPy : Hid (N0 ++ pairsP k L (s + 1) = (N0 ++ pairsP k L s) ++ pairsQ k p L n) := by
            show _ = _
            rw [HPx.out, List.append_assoc]
          clear HPx
          generalize N0 ++ pairsP k L s = NL at *
          have zs := hgs.size
          go_wp2_with ((go_at_call 18; ((with_reducible refine (HCh.out _).mono ?_); rintro e wq ⟨vQ, n2, rfl, hnL2, _, oQ, gQ⟩)); obtain rfl : n = n2 := (HL.out.symm.trans hnL2); obtain ⟨pQ, cQ, rfl, _⟩ := oQ.rows hnL2)
          go_loopw [3, 35] (fun oo i wr => ∃ (j : Nat) (u : Value), j ≤ n ∧ i = .int .i64 j ∧ oo = u ∧ OwnP wr w.heap.size u (NL ++ pairsQ k p L j) ∧ OwnL wr 0 (.slice (some ⟨b, o, none⟩) n cP) L ∧ OwnL wr 0 (.slice pQ n cQ) L ∧ wr.ownsRow 0 3 1 (.slice (some q) m cq) m (icells p) ∧ Ge w wr) (fun _ i _ => n - (intOf i).toNat)
          case atStart => exact ⟨0, _, Nat.zero_le _, rfl, rfl, by rw [HQ0.out, List.append_nil]; exact HOo.out.ge gQ, HPp.out.keepT (KeepT.of_ge gQ), oQ, gQ.owns HRr.out, Ge.trans hgs gQ⟩
          case round =>
            obtain ⟨j, u, hj, rfl, rfl, hown, hP, hQ, hr, hgj⟩ := hrel
            clear HRr HPp HOo hgs x0 oQ gQ hnL2
            by_cases hlj : j < n
            · obtain ⟨pY, cY, he, hrows⟩ := hQ.rows HL.out
              simp only [Value.slice.injEq] at he
              obtain ⟨rfl, _, rfl⟩ := he
              obtain ⟨b2, o2, q2, cq2, he2, y0, hr2⟩ := hrows j hlj
              cases he2
              have hmem := HOk.out (rowL L j) (rowL_mem (by rw [HL.out]; exact hlj))
              have hlq := hmem.1
              rw [hlq] at y0 hr2
              have HLq := Lib.hid hlq
              have HR1 := Lib.hid hr
              have HR2 := Lib.hid hr2
              have HP1 := Lib.hid hP
              have HQ1 := Lib.hid hQ
              have HOw := Lib.hid hown
              have HCi := Lib.hid (iIsCircular k m p (rowL L j) q q2 cq cq2 wr hk1 hk (SlI.of_owns (by rw [HLp.out]; exact hr)) (SlI.of_owns (by rw [hlq]; exact hr2)) HLp.out hlq (by omega) hm2)
              have hzj := hgj.size
              have HLn : Hid ((NL ++ pairsQ k p L j).length < 10000) := by
                show _ < _
                have h1 := HNN.out
                have h2 := HQL.out j
                rw [List.length_append]; omega
              clear hrows hr hr2 hP hQ hown hmem hlq
              by_cases c : circB k p (rowL L j) = true
              · have HE := Lib.hid (HQy.out j c)
                rw [c] at HCi
                clear c
                generalize rowL L j = y at *
                go_wp2_with (first
                  | ((go_at_call 15; ((with_reducible refine (HCi.out).mono ?_); rintro e w5 ⟨rfl, g5⟩)); have G5 := Lib.hid g5; clear g5)
                  | (go_at_call 19; ((with_reducible refine (cloneA _ _ _ p _ (SlI.of_owns (by rw [HLp.out]; exact G5.out.owns HR1.out)) HLp.out (by omega)).mono ?_); rintro e wC ⟨gq, cc, rfl, oC, gC⟩); have GC := Lib.hid (G5.out.trans gC); have PV := Lib.hid (pair_lit wC p y _ _ m _ _ (owns_mono oC (Nat.zero_le _)) (GC.out.owns HR2.out) HLp.out HLq.out); clear oC gC)
                  | (at_builtin; refine ap_pair rfl _ _ rfl w.heap.size _ _ rfl (HOw.out.ge (Ge.alloc GC.out _)) (p, y) _ PV.out _ rfl (by simp) (by have := HLn.out; omega) (by have := GC.out.size; simp; omega) ?_; intro v7 w7 own7 g7 k7))
                go_roundw
                case rel => exact ⟨j + 1, _, by omega, by go_num, rfl, by rw [HE.out, ← List.append_assoc]; exact own7, HP1.out.keepT (KeepT.trans (KeepT.of_ge (Ge.alloc GC.out _)) k7), HQ1.out.keepT (KeepT.trans (KeepT.of_ge (Ge.alloc GC.out _)) k7), (KeepT.trans (KeepT.of_ge (Ge.alloc GC.out _)) k7) _ _ _ _ _ _ (by decide) HR1.out, g7 _ (hgj.trans (Ge.alloc GC.out _)) (Nat.le_refl _)⟩
                case measure => simp [intOf]; omega
              · have c' : circB k p (rowL L j) = false := by simpa using c
                have HE := Lib.hid (HQn.out j c')
                rw [c'] at HCi
                clear c c'
                generalize rowL L j = y at *
                go_wp2_with ((go_at_call 15; ((with_reducible refine (HCi.out).mono ?_); rintro e w5 ⟨rfl, g5⟩)))
                go_roundw
                case rel => exact ⟨j + 1, _, by omega, by go_num, rfl, by rw [HE.out]; exact HOw.out.ge g5, HP1.out.keepT (KeepT.of_ge g5), HQ1.out.keepT (KeepT.of_ge g5), g5.owns HR1.out, hgj.trans g5⟩
                case measure => simp [intOf]; omega
            · have hjn : j = n := by omega
              subst hjn
              have HOw := Lib.hid hown
              have HP1 := Lib.hid hP
              clear hown hP
              go_wp2_with fail
              go_roundw
              case rel => exact ⟨s + 1, _, by omega, by go_num, rfl, by rw [HPy.out]; exact HOw.out, HP1.out, hgj⟩
              case measure => simp [intOf]; omega
        · have hsn : s = n := by omega
          subst hsn
          have HOw := Lib.hid hown
          clear hown
          go_wp2_with fail
          go_roundw
          case rel => exact ⟨m + 1, m, _, rfl, hmk', by go_num, rfl, by rw [HSm.out, HL.out]; exact HOw.out, hgs⟩
          case measure => simp [intOf]; omega
    · have hmm : m' = k / 2 := by omega
      subst hmm
      have HO := Lib.hid hown
      have hnm := HB.out (k / 2) (by omega)
      clear hown
      go_wp2_with fail
      go_ret
      exact ⟨_, _, rfl, rfl, hnm, ⟨_, owns_mono HO.out.choose_spec.1 (Nat.zero_le _), HO.out.choose_spec.2⟩, hg⟩

end Go.Proofs.Ytjdhjoifiebpeaa
