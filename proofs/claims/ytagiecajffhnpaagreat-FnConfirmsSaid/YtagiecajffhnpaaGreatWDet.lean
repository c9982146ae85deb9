/- det of impl. No condition. -/
import Derived.Test.YtagiecajffhnpaaGreatWDet0
import Derived.Test.YtagiecajffhnpaaGreatPlLap
import Derived.Deep.DeepCutAuto
namespace Go.Proofs.YtagiecajffhnpaaGreat
set_option maxRecDepth 100000
open Go.ChangeShapes Go.WideShapes Go.ChangeAt Go.RowKit Go.Joins

theorem tail_slice {w : World} {b o c m : Nat} {r : Int} {rs : List Int} (hm : rs.length = m) (h : SlI w (.slice (some ⟨b, o, none⟩) (m + 1) c) (r :: rs)) : SlI w (.slice (some ⟨b, o + 1, none⟩) m (c - 1)) rs := by
  subst hm
  obtain ⟨p, c', he, hc⟩ := h.openN (n := rs.length + 1) rfl
  simp only [Value.slice.injEq, true_and] at he
  obtain ⟨rfl, rfl⟩ := he
  refine ⟨by simp [icells_length], _, _, rfl, fun i u hu => ?_⟩
  have hi : i < rs.length := by have := (List.getElem?_eq_some_iff.1 hu).1; rwa [icells_length] at this
  obtain ⟨b', o', e, hx⟩ := hc (i + 1) (by omega)
  simp only [Option.some.injEq, Addr.mk.injEq, and_true] at e
  obtain ⟨rfl, rfl⟩ := e
  refine ⟨b, o + 1, rfl, ?_⟩
  rw [show o + 1 + i = o + (i + 1) by omega, hx, ← hu]
  simp [icells, nth, hi]
theorem tail_slice1 {w : World} {b o c m : Nat} {r : Int} {rs : List Int} (hm : rs.length = m) (hc : m + 1 ≤ c) (h : SlI w (.slice (some ⟨b, o, none⟩) (m + 1) c) (r :: rs)) : ∃ (at' : Addr) (cq : Nat), (c = 1 ∧ at' = ⟨b, o, none⟩ ∧ cq = c - 1 ∨ c ≠ 1 ∧ at' = ⟨b, o + 1, none⟩ ∧ cq = c - 1) ∧ (m ≤ cq) ∧ SlI w (.slice (some at') m cq) rs := by
  by_cases h1 : c = 1
  · have : m = 0 := by omega
    subst this
    refine ⟨_, _, .inl ⟨h1, rfl, rfl⟩, by omega, ?_⟩
    obtain rfl := List.eq_nil_of_length_eq_zero hm
    exact ⟨rfl, _, _, rfl, fun i u hu => by simp [icells] at hu⟩
  · exact ⟨_, _, .inr ⟨h1, rfl, rfl⟩, by omega, tail_slice hm h⟩



set_option maxHeartbeats 3200000 in
theorem iDet (N : Nat) (M : Int → Int → Int) (hM : ∀ a b, absB (M a b) 2000) : ∀ (rows cols : List Int) (vm vr vc : Value) (w : World), SlMM w vm N M → SlI w vr rows → SlI w vc cols → (∀ p n c, vr = .slice p n c → n ≤ c) →
    rows.length ≤ 4 → cols.length ≤ 5 → (∀ x ∈ rows, below N x) → (∀ x ∈ cols, below N x) →
    Calls Tryz.prog 114 #[vm, vr, vc] w fun e w' => e = .returned (.int .i64 (detF M rows cols)) ∧ Ge w w' := by
  intro rows
  induction rows with
  | nil =>
    intro cols vm vr vc w hm hr hc hcap h4 h5 hrb hcb
    obtain ⟨pm, cm, rfl, _⟩ := hm
    obtain ⟨pr, cr, rfl, _⟩ := hr.openN (n := 0) rfl
    obtain ⟨pc, cc, rfl, _⟩ := hc.openN rfl
    clear hr hc
    go_enter Tryz.func114, Tryz.ntmps114
    go_wp2_with fail
    go_ret
    exact ⟨rfl, Ge.refl _⟩
  | cons r rs ih =>
    intro cols vm vr vc w hm hr hc hcap h4 h5 hrb hcb
    have HM := Lib.hid hm
    have HR := Lib.hid hr
    have HCo := Lib.hid hc
    obtain ⟨pm, cm, rfl, hmc⟩ := hm
    obtain ⟨m, hmn⟩ : ∃ m, rs.length = m := ⟨_, rfl⟩
    obtain ⟨pr, cr, rfl, hrc⟩ := hr.openN (n := m + 1) (by simp [hmn])
    obtain ⟨n, hn⟩ : ∃ n, cols.length = n := ⟨_, rfl⟩
    obtain ⟨pc, cc, rfl, hcc⟩ := hc.openN hn
    have hcr := hcap _ _ _ rfl
    obtain ⟨b, o, rfl, x0⟩ := hrc 0 (by omega)
    obtain ⟨r0, r1⟩ := hrb r (by simp)
    obtain ⟨ra, rfl⟩ : ∃ ra : Nat, r = (ra : Int) := ⟨r.toNat, by omega⟩
    have hra : ra < N := by omega
    obtain ⟨bm, om, prow, crow, rfl, xm, hrow⟩ := hmc ra hra
    have HMC := Lib.hid hrow
    have HCC := Lib.hid hcc
    have HN := Lib.hid hn
    have HMn := Lib.hid hmn
    have HIH := Lib.hid ih
    have HRB := Lib.hid (fun x (hx : x ∈ rs) => hrb x (List.mem_cons_of_mem _ hx))
    have HCB := Lib.hid hcb
    obtain ⟨at', cq, hcs, hcq, HT⟩ := tail_slice1 hmn (hcap _ _ _ rfl) hr
    replace HT := Lib.hid (fun w' (g : Ge w w') => SlI.ge HT g)
    replace hcs := Lib.hid hcs
    have hbd := detB_le (k := m + 1) (by simp at h4; omega)
    have hbd2 := detB_le (k := m) (by simp at h4; omega)
    have hbm : detB m ≤ 1000000000000 := by
      have := detB_succ m
      omega
    change w.cell? _ = some (.int .i64 (ra : Int)) at x0
    simp only [Nat.add_zero] at x0
    rw [hn] at h5
    simp only [List.length_cons, hmn] at h4
    clear hr hc hmc hrc hcc hrow ih hrb hcb hn hcap hmn
    have tm : ((m : Int) + 1 == 0) = false := by simp; omega
    go_enter Tryz.func114, Tryz.ntmps114
    go_wp2_with fail
    go_loopw [7, 8, 17] (fun s g i wr => ∃ j : Nat, j ≤ n ∧ i = .int .i64 j ∧ s = .int .i64 (detPart M ra rs cols j) ∧ g = .int .i64 (sgn j) ∧ Ge w wr) (fun _ _ i _ => n - (intOf i).toNat)
    case atStart => exact ⟨0, Nat.zero_le _, rfl, rfl, rfl, Ge.refl _⟩
    case round =>
      obtain ⟨j, hj, rfl, rfl, rfl, hg⟩ := hrel
      have hs1 : -1 ≤ sgn j ∧ sgn j ≤ 1 := by unfold sgn; split <;> omega
      have hsn := sgn_succ j
      by_cases hlt : j < n
      · obtain ⟨bc, oc, rfl, y0⟩ := HCC.out j hlt
        obtain ⟨q0, q1⟩ := HCB.out (nth cols j) (by rw [nth_eq cols j (by rw [HN.out]; exact hlt)]; exact List.getElem_mem _)
        obtain ⟨ca, hca⟩ : ∃ ca : Nat, nth cols j = (ca : Int) := ⟨(nth cols j).toNat, by omega⟩
        have hcaN : ca < N := by omega
        obtain ⟨br, or', rfl, z0⟩ := HMC.out ca hcaN
        rw [hca] at y0
        replace x0 := hg.keep x0
        replace xm := hg.keep xm
        replace y0 := hg.keep y0
        replace z0 := hg.keep z0
        have hMb := hM (ra : Int) (ca : Int)
        unfold absB at hMb
        have hpart := detPart_bd hM (ra : Int) rs cols (by rw [HN.out]; exact h5) (j := j) (by rw [HN.out]; exact hj)
        rw [HMn.out] at hpart
        unfold absB at hpart
        have HSk := Lib.hid (fun h => detPart_skip M (ra : Int) rs cols j h)
        have HSu := Lib.hid (detPart_succ M (ra : Int) rs cols j)
        rw [hca] at HSk HSu
        by_cases hx : M (ra : Int) (ca : Int) = 0
        · have tx : (M (ra : Int) (ca : Int) != 0) = false := by simp [hx]
          have HS := Lib.hid (HSk.out hx)
          clear hx
          generalize M (ra : Int) (ca : Int) = X at *
          generalize detPart M (ra : Int) rs cols j = P at *
          generalize sgn j = G at *
          go_wp2_with fail
          go_roundw
          case rel => exact ⟨j + 1, by omega, by go_num, congrArg _ HS.out.symm, (by first | rfl | exact congrArg _ hsn), kge⟩
          case measure => simp [intOf]; omega
        · have tx : (M (ra : Int) (ca : Int) != 0) = true := by simp [hx]
          clear hx
          have hd := detF_bd hM rs (cols.eraseIdx j) (Nat.le_trans (List.length_eraseIdx_le _ _) (by rw [HN.out]; exact h5))
          rw [HMn.out] at hd
          generalize hD : detF M rs (cols.eraseIdx j) = D at *
          have HD := Lib.hid hD
          clear hD
          have hY := term_bd hM j (ra : Int) (ca : Int) D (detB m) (detB_pos m) hd
          have hX1 : absB (sgn j * M (ra : Int) (ca : Int)) 2000 := by
            have := hM (ra : Int) (ca : Int)
            unfold sgn absB at *
            split <;> omega
          unfold absB at hY hX1
          have w1 : IntKind.i64.wrap (sgn j * M (ra : Int) (ca : Int)) = sgn j * M (ra : Int) (ca : Int) := IntWalk.i64_in _ (by omega)
          have w2 : IntKind.i64.wrap (sgn j * M (ra : Int) (ca : Int) * D) = sgn j * M (ra : Int) (ca : Int) * D := IntWalk.i64_in _ (by omega)
          have w3 : IntKind.i64.wrap (detPart M (ra : Int) rs cols j + sgn j * M (ra : Int) (ca : Int) * D) = detPart M (ra : Int) rs cols j + sgn j * M (ra : Int) (ca : Int) * D := IntWalk.i64_in _ (by omega)
          have w4 : IntKind.i64.wrap ((j : Int) + 1) = (j : Int) + 1 := IntWalk.i64_in _ (by omega)
          have HCl := Lib.hid (fun w' (g : Ge wr w') => cloneC (.slice (some ⟨bc, oc, none⟩) n cc) cols w' (SlI.ge HCo.out (Ge.trans hg g)) (by rw [HN.out]; omega) (by rw [HN.out]; omega))
          rw [HN.out] at HCl
          have hcr1 : m + 1 ≤ cr := hcr
          have hcr2 : (1 : Int) ≤ (m : Int) + 1 := by omega
          have HDl := Lib.hid (fun base g c w' h => deleteC base g n c j cols w' h hlt (by omega))
          have HDe := Lib.hid (fun v w' (g : Ge wr w') (h : SlI w' v (cols.eraseIdx j)) => HIH.out (cols.eraseIdx j) (.slice (some ⟨bm, om, none⟩) N cm) (.slice (some at') m cq) v w' (HM.out.ge (Ge.trans hg g)) (HT.out w' (Ge.trans hg g)) h (fun p n c e => by simp at e; omega) (by rw [HMn.out]; omega) (by have := List.length_eraseIdx_le cols j; rw [HN.out] at this; omega) HRB.out (fun x hx => HCB.out x (nth_erase_mem x hx)))
          rw [HD.out] at HDe
          clear hcq
          rcases hcs.out with ⟨hc1, rfl, rfl⟩ | ⟨hc1, rfl, rfl⟩
          · replace hc1 : (cr = 1) = True := eq_true hc1
            go_wp2_with fail
            have hS : ∀ w', Ge wr w' → Ge wr w' := fun _ g => g
            go_region_held3 (fun w' => Ge wr w') (first | ((with_reducible refine hS _ ?_); exact kch) | fail) (first | (go_at_call 107; ((with_reducible refine (HCl.out _ ‹Ge wr _›).mono ?_); rintro e wC ⟨gC, cC, rfl, oC, hb⟩); have hC0 : wr.heap.size ≤ gC := Nat.le_trans (Ge.size ‹Ge wr _›) (oC.lt gC rfl).1; have hCw : Ge wr wC := Ge.trans ‹Ge wr _› hb) | (go_at_call 106; ((with_reducible refine (HDl.out _ _ _ _ (by first | exact oC | exact Ge.owns (Ge.drew (Ge.refl _)) oC)).mono ?_); rintro e wE ⟨rfl, sE, gE⟩); have hEw : Ge wr wE := gE wr ‹Ge wr _› hC0) | (go_at_call 114; ((with_reducible refine (HDe.out _ _ ‹Ge wr _› (by first | exact sE | exact SlI.ge sE (Ge.drew (Ge.refl _)))).mono ?_); rintro e wF ⟨rfl, hb⟩)) | fail)
            rename_i G7
            clear hS
            go_wp2_with fail
            go_roundw
            case rel => exact ⟨j + 1, by omega, by go_num, congrArg _ HSu.out.symm, (by first | rfl | exact congrArg _ hsn), kge⟩
            case measure => simp [intOf]; omega
          · replace hc1 : (cr = 1) = False := eq_false hc1
            go_wp2_with fail
            have hS : ∀ w', Ge wr w' → Ge wr w' := fun _ g => g
            go_region_held3 (fun w' => Ge wr w') (first | ((with_reducible refine hS _ ?_); exact kch) | fail) (first | (go_at_call 107; ((with_reducible refine (HCl.out _ ‹Ge wr _›).mono ?_); rintro e wC ⟨gC, cC, rfl, oC, hb⟩); have hC0 : wr.heap.size ≤ gC := Nat.le_trans (Ge.size ‹Ge wr _›) (oC.lt gC rfl).1; have hCw : Ge wr wC := Ge.trans ‹Ge wr _› hb) | (go_at_call 106; ((with_reducible refine (HDl.out _ _ _ _ (by first | exact oC | exact Ge.owns (Ge.drew (Ge.refl _)) oC)).mono ?_); rintro e wE ⟨rfl, sE, gE⟩); have hEw : Ge wr wE := gE wr ‹Ge wr _› hC0) | (go_at_call 114; ((with_reducible refine (HDe.out _ _ ‹Ge wr _› (by first | exact sE | exact SlI.ge sE (Ge.drew (Ge.refl _)))).mono ?_); rintro e wF ⟨rfl, hb⟩)) | fail)
            rename_i G7
            clear hS
            go_wp2_with fail
            go_roundw
            case rel => exact ⟨j + 1, by omega, by go_num, congrArg _ HSu.out.symm, (by first | rfl | exact congrArg _ hsn), kge⟩
            case measure => simp [intOf]; omega
      · have hjn : j = n := by omega
        subst hjn
        have HF : Hid (detF M ((ra : Int) :: rs) cols = detPart M ra rs cols j) := by
          show _ = _
          rw [detF_part, HN.out]
        go_wp2_with fail
        go_ret
        exact ⟨ret_int HF.out.symm, hg⟩
end Go.Proofs.YtagiecajffhnpaaGreat
