/- l03Has, l03Reach of spec. No condition. -/
import Derived.Test.YtckjkfcphcnpdaaGreatPlNetOk
import Derived.Test.YtckjkfcphcnpdaaGreatWTyInt
import Derived.Test.YtckjkfcphcnpdaaGreatWEqInt
import Derived.Test.YtckjkfcphcnpdaaGreatWLaw
import Derived.Deep.DeepCutAuto
import Derived.Deep.QuietTactic
namespace Go.Proofs.YtckjkfcphcnpdaaGreat
set_option maxRecDepth 100000
open Go.ChangeShapes Go.WideShapes Go.ChangeAt Go.RowKit Go.Joins

theorem sL03Has (v : Value) (l : List Int) (x : Int) (w : World) (h : SlI w v l) (hm : l.length ≤ 1000000) :
    Calls Tryz.prog 62 #[v, .int .i64 x] w fun e w' => e = .returned (.bool (decide (x ∈ l))) ∧ w = w' := by
  obtain ⟨n, hn⟩ : ∃ n, l.length = n := ⟨_, rfl⟩
  obtain ⟨p, cap, rfl, hc⟩ := h.openN hn
  have HC := Lib.hid hc
  have HN := Lib.hid hn
  rw [hn] at hm
  clear h hc hn
  go_enter Tryz.func62, Tryz.ntmps62
  go_wp2_with fail
  go_loop [9] (fun i => ∃ k : Nat, k ≤ n ∧ i = .int .i64 k ∧ Hid (∀ j, j < k → ¬ nth l j = x)) (fun i => n - (intOf i).toNat)
  case atStart => exact ⟨0, Nat.zero_le _, rfl, fun j hj => by omega⟩
  case round =>
    obtain ⟨k, hk, rfl, HA⟩ := hrel
    by_cases hlt : k < n
    · obtain ⟨b, o, rfl, x0⟩ := HC.out k hlt
      by_cases c : nth l k = x
      · have HF : Hid (decide (x ∈ l) = true) := by
          show _ = _
          have hk' : k < l.length := by rw [HN.out]; exact hlt
          rw [nth_eq l k hk'] at c
          exact decide_eq_true (c ▸ List.getElem_mem hk')
        have t : (nth l k == x) = true := by simp [c]
        clear c
        go_wp2_with fail
        go_ret
        exact ⟨ret_bool HF.out.symm, rfl⟩
      · have HA2 : Hid (∀ j, j < k + 1 → ¬ nth l j = x) := fun j hj => by
          by_cases e : j = k
          · subst e; exact c
          · exact HA.out j (by omega)
        have t : (nth l k == x) = false := by simp [c]
        clear c
        go_wp2_with fail
        go_round
        case rel => exact ⟨k + 1, by omega, by go_num, HA2.out⟩
        case measure => simp [intOf]; omega
    · have hkn : k = n := by omega
      subst hkn
      have HF : Hid (decide (x ∈ l) = false) := by
        show _ = _
        refine decide_eq_false fun h => ?_
        obtain ⟨j, hj, e⟩ := List.getElem_of_mem h
        exact HA.out j (by rw [← HN.out]; exact hj) (by rw [nth_eq l j hj]; exact e)
      go_wp2_with fail
      go_ret
      exact ⟨ret_bool HF.out.symm, rfl⟩

theorem own_nth {w : World} {base g n cap : Nat} {e : TypeId} {l : List Int} (h : w.ownsRow base e 1 (.slice (some ⟨g, 0, none⟩) n cap) n (icells l)) {j : Nat} (hj : j < n) : w.cell? ⟨g, j, none⟩ = some (.int .i64 (nth l j)) := by
  have hl : l.length = n := by have := h.1; rw [icells_length] at this; omega
  rw [h.cellAt j (by omega)]
  simp [icells, hl, hj, nth_eq]
theorem iprs_len (l : List (Nat × Nat)) : (iprs l).length = l.length := by simp [iprs]
theorem iprs_snoc (l : List (Nat × Nat)) (a b : Nat) : iprs (l ++ [(a, b)]) = iprs l ++ [((a : Int), (b : Int))] := by simp [iprs]
theorem prs_length (xs : List Int) (m : Nat) : (prs xs m).length = m := by simp [prs]
theorem qs_stop {l : List (Int × Int)} {p : Nat} (h : ¬ p < (qs l p).length) : ∀ d, qs l (p + d) = qs l p ∧ ¬ (p + d) < (qs l (p + d)).length := by
  intro d
  induction d with
  | zero => exact ⟨rfl, h⟩
  | succ d ih =>
    have e : qs l (p + (d + 1)) = qs l (p + d) := by
      show qs l (p + d + 1) = _
      rw [qs, if_neg ih.2]
    rw [e]
    exact ⟨ih.1, by have := ih.2; omega⟩

set_option maxHeartbeats 6400000 in
theorem sL03Reach (N : Nat) (s : Value) (m : Nat) (xs : List Int) (w : World) (hs : SlF w s m 3 xs) (h1 : 1 ≤ N) (h5 : N ≤ 5) (hok : ∀ k, k < m → goodW N xs k) :
    Calls Tryz.prog 48 #[s, .int .i64 0] w fun e w' => ∃ v, e = .returned v ∧ w'.ownsRow w.heap.size 3 1 v (qs (iprs (prs xs m)) 5).length (icells (qs (iprs (prs xs m)) 5)) ∧ Ge w w' := by
  obtain ⟨p, cap, rfl, hc⟩ := hs.open
  have HC := Lib.hid hc
  have HK := Lib.hid hok
  have hm10 : m ≤ 10 := prs_len (N := N) (by omega) hok
  have hchk := check_net h1 h5 (by have := prs_sub (N := (N : Int)) (by omega) hok; simpa using this)
  have HQ : Hid (∀ p, p ≤ 5 → (qs (iprs (prs xs m)) p).length ≤ 5) := fun p hp => by
    simp only [checkNet, Bool.and_eq_true, List.all_eq_true, decide_eq_true_eq] at hchk
    exact hchk.2 p (by simp; omega)
  clear hs hc hok hchk
  go_enter Tryz.func48, Tryz.ntmps48
  go_wp2_with fail
  go_loopw [5, 6] (fun q i wr => ∃ p : Nat, p ≤ 5 ∧ i = .int .i64 p ∧ wr.ownsRow w.heap.size 3 1 q (qs (iprs (prs xs m)) p).length (icells (qs (iprs (prs xs m)) p)) ∧ Ge w wr) (fun _ i _ => 5 - (intOf i).toNat)
  case atStart => exact ⟨0, by omega, rfl, World.ownsRow_lit w _ 1 (Nat.le_refl _) (by unfold maxLen; omega) rfl, by (repeat (first | with_reducible exact Ge.refl _ | assumption | with_reducible refine Ge.drew ?_ | with_reducible refine Ge.drewN ?_ _ | with_reducible refine Ge.alloc ?_ _ | (with_reducible refine Ge.setCell ?_ (by first | (simp; done) | omega | (simp; omega)) _) | with_reducible refine Ge.trans ?_ (by assumption)))⟩
  case round =>
    obtain ⟨p, hp, rfl, hown, hg⟩ := hrel
    have hq5 := HQ.out p hp
    obtain ⟨L, hL⟩ : ∃ L, (qs (iprs (prs xs m)) p).length = L := ⟨_, rfl⟩
    by_cases hpl : p < L
    · have hpq : Hid (qs (iprs (prs xs m)) (p + 1) = qsweep p (qs (iprs (prs xs m)) p) (iprs (prs xs m))) := by
        show _ = _
        rw [qs, if_pos (by omega)]
      have hown0 := hown
      rw [hL] at hown
      obtain ⟨g0, cap0, rfl⟩ := Go.Joins.ownsRow_form hown (by omega)
      have HLL := Lib.hid hL
      have hL5 : L ≤ 5 := by omega
      clear hown hL hq5
      go_wp2_with fail
      go_loopw [5, 19] (fun q i wi => ∃ j : Nat, j ≤ m ∧ i = .int .i64 j ∧ wi.ownsRow w.heap.size 3 1 q (qsweep p (qs (iprs (prs xs m)) p) (iprs (prs xs j))).length (icells (qsweep p (qs (iprs (prs xs m)) p) (iprs (prs xs j)))) ∧ Ge w wi) (fun _ i _ => m - (intOf i).toNat)
      case atStart => exact ⟨0, Nat.zero_le _, rfl, hown0, hg⟩
      case round =>
        obtain ⟨j, hj, rfl, hownj, hgj⟩ := hrel
        by_cases hjm : j < m
        · obtain ⟨b, o, rfl, x0, x1, x2⟩ := three_cells HC.out hjm
          have y0 := hgj.keep x0
          have y1 := hgj.keep x1
          have y2 := hgj.keep x2
          clear x0 x1 x2
          change wr.cell? _ = some (.int .i64 (wa xs j)) at y0
          change wr.cell? _ = some (.int .i64 (wb xs j)) at y1
          change wr.cell? _ = some (.int .i64 (ww xs j)) at y2
          obtain ⟨q0, q1, q2, q3, q4⟩ := (HK.out j hjm).1
          have hpr := prs_succ xs j
          obtain ⟨a, ha⟩ : ∃ a : Nat, wa xs j = a := ⟨(wa xs j).toNat, by omega⟩
          obtain ⟨c, hb⟩ : ∃ c : Nat, wb xs j = c := ⟨(wb xs j).toNat, by omega⟩
          rw [ha, hb] at hpr
          simp only [Int.toNat_natCast] at hpr
          have HS : Hid (qsweep p (qs (iprs (prs xs m)) p) (iprs (prs xs (j + 1))) = qb (qa (qsweep p (qs (iprs (prs xs m)) p) (iprs (prs xs j))) p ((a : Int), (c : Int))) p ((a : Int), (c : Int))) := by
            show _ = _
            rw [hpr, iprs_snoc, qsweep_snoc]; rfl
          have hlen := qsweep_length p (iprs (prs xs j)) (qs (iprs (prs xs m)) p)
          rw [iprs_len, prs_length, HLL.out] at hlen
          clear hpr
          rw [ha] at y0 q0 q1
          rw [hb] at y1 q1 q2
          generalize qsweep p (qs (iprs (prs xs m)) p) (iprs (prs xs j)) = Q at *
          have hla := qa_length Q p ((a : Int), (c : Int))
          generalize hQA : qa Q p ((a : Int), (c : Int)) = QA at *
          generalize hQB : qb QA p ((a : Int), (c : Int)) = QB at *
          have ha1 : Hid (QA = if (a : Int) = nth Q p ∧ ¬ (c : Int) ∈ Q then Q ++ [(c : Int)] else Q) := by rw [← hQA]; exact rfl
          have hb1 : Hid (QB = if (c : Int) = nth QA p ∧ ¬ (a : Int) ∈ QA then QA ++ [(a : Int)] else QA) := by rw [← hQB]; exact rfl
          clear hQA hQB
          obtain ⟨t1, ht1⟩ : ∃ t1 : Bool, t1 = true ↔ ((a : Int) = nth Q p ∧ ¬ (c : Int) ∈ Q) := ⟨decide ((a : Int) = nth Q p ∧ ¬ (c : Int) ∈ Q), by simp⟩
          obtain ⟨t2, ht2⟩ : ∃ t2 : Bool, t2 = true ↔ ((c : Int) = nth QA p ∧ ¬ (a : Int) ∈ QA) := ⟨decide ((c : Int) = nth QA p ∧ ¬ (a : Int) ∈ QA), by simp⟩
          have HT1 := Lib.hid ht1
          have HT2 := Lib.hid ht2
          clear ht1 ht2
          obtain ⟨k, hQl⟩ : ∃ k, Q.length = k := ⟨_, rfl⟩
          have hownk := hownj
          rw [hQl] at hownk
          obtain ⟨gq, cq, rfl⟩ := Go.Joins.ownsRow_form hownk (by omega)
          have hpk : p < k := by omega
          have xq := own_nth hownk hpk
          have lgq := (hownk.lt gq rfl).2
          have HSl : Hid (SlI wr (.slice (some ⟨gq, 0, none⟩) k cq) Q) := by
            have := SlI.of_owns hownj; exact this
          have hQm : Q.length ≤ 1000000 := by omega
          have p0 : (0 : Int) ≤ (p : Int) := by omega
          have pk : (p : Int) < (k : Int) := by omega
          have hgw := hgj
          go_upto_region 8 with (fail)
          go_cut [36] (fun s wx => s = .bool t1 ∧ wx.cell? ⟨wr.heap.size, 0, none⟩ = some (.int .i64 (a : Int)) ∧ wx.cell? ⟨wr.heap.size, 1, none⟩ = some (.int .i64 (c : Int)) ∧ Ge wr wx)
          case first =>
            by_cases e1 : (a : Int) = nth Q p
            · have e1b : ((a : Int) == nth Q p) = true := by simp [e1]
              by_cases e2 : (c : Int) ∈ Q
              · have e2b : decide ((c : Int) ∈ Q) = true := decide_eq_true e2
                have ht : t1 = false := by
                  cases t1 with
                  | false => rfl
                  | true => exact absurd e2 (HT1.out.1 rfl).2
                subst ht
                clear e1 e2
                go_quiet ((go_at_call 62; exact (sL03Has _ Q _ _ (SlI.ge HSl.out (by (repeat (first | with_reducible exact Ge.refl _ | assumption | with_reducible refine Ge.drew ?_ | with_reducible refine Ge.drewN ?_ _ | with_reducible refine Ge.alloc ?_ _ | (with_reducible refine Ge.setCell ?_ (by first | (simp; done) | omega | (simp; omega)) _) | with_reducible refine Ge.trans ?_ (by assumption))))) hQm).mono fun _ _ h => ⟨by rw [h.1, e2b], _, h.2.symm⟩))
                go_wp2_with fail
                go_meet
                exact ⟨rfl, cell_drewN (cell_new rfl rfl), cell_drewN (cell_new rfl rfl), by (repeat (first | with_reducible exact Ge.refl _ | assumption | with_reducible refine Ge.drew ?_ | with_reducible refine Ge.drewN ?_ _ | with_reducible refine Ge.alloc ?_ _ | (with_reducible refine Ge.setCell ?_ (by first | (simp; done) | omega | (simp; omega)) _) | with_reducible refine Ge.trans ?_ (by assumption)))⟩
              · have e2b : decide ((c : Int) ∈ Q) = false := decide_eq_false e2
                have ht : t1 = true := HT1.out.2 ⟨e1, e2⟩
                subst ht
                clear e1 e2
                go_quiet ((go_at_call 62; exact (sL03Has _ Q _ _ (SlI.ge HSl.out (by (repeat (first | with_reducible exact Ge.refl _ | assumption | with_reducible refine Ge.drew ?_ | with_reducible refine Ge.drewN ?_ _ | with_reducible refine Ge.alloc ?_ _ | (with_reducible refine Ge.setCell ?_ (by first | (simp; done) | omega | (simp; omega)) _) | with_reducible refine Ge.trans ?_ (by assumption))))) hQm).mono fun _ _ h => ⟨by rw [h.1, e2b], _, h.2.symm⟩))
                go_wp2_with fail
                go_meet
                exact ⟨rfl, cell_drewN (cell_new rfl rfl), cell_drewN (cell_new rfl rfl), by (repeat (first | with_reducible exact Ge.refl _ | assumption | with_reducible refine Ge.drew ?_ | with_reducible refine Ge.drewN ?_ _ | with_reducible refine Ge.alloc ?_ _ | (with_reducible refine Ge.setCell ?_ (by first | (simp; done) | omega | (simp; omega)) _) | with_reducible refine Ge.trans ?_ (by assumption)))⟩
            · have e1b : ((a : Int) == nth Q p) = false := by simp [e1]
              have ht : t1 = false := by
                cases t1 with
                | false => rfl
                | true => exact absurd (HT1.out.1 rfl).1 e1
              subst ht
              clear e1
              go_quiet (fail)
              go_wp2_with fail
              go_meet
              exact ⟨rfl, cell_drewN (cell_new rfl rfl), cell_drewN (cell_new rfl rfl), by (repeat (first | with_reducible exact Ge.refl _ | assumption | with_reducible refine Ge.drew ?_ | with_reducible refine Ge.drewN ?_ _ | with_reducible refine Ge.alloc ?_ _ | (with_reducible refine Ge.setCell ?_ (by first | (simp; done) | omega | (simp; omega)) _) | with_reducible refine Ge.trans ?_ (by assumption)))⟩
          case rest =>
            obtain ⟨rfl, r0, r1, G7⟩ := hcut
            go_upto_if 36 with (fail)
            have Gc : Ge w wc := Ge.trans hgj G7
            have ownc := Ge.owns G7 hownj
            have zc := Gc.size
            have lw := World.block_lt_of_cell? _ _ r0
            simp at lw
            go_cut [5] (fun q wx => wx.ownsRow w.heap.size 3 1 q QA.length (icells QA) ∧ wx.cell? ⟨wr.heap.size, 0, none⟩ = some (.int .i64 (a : Int)) ∧ wx.cell? ⟨wr.heap.size, 1, none⟩ = some (.int .i64 (c : Int)) ∧ Ge w wx)
            case first =>
              cases t1 with
              | true =>
                have hqa : QA = Q ++ [(c : Int)] := by rw [ha1.out, if_pos (HT1.out.1 rfl)]
                subst hqa
                have hne : ∀ k', (Value.slice (some ⟨gq, 0, none⟩) k cq).ownBlock = some k' → wr.heap.size ≠ k' := fun k' hk' => by simp [Value.ownBlock] at hk'; omega
                go_wp2_with (at_builtin; refine ap_int rfl _ _ rfl w.heap.size _ Q rfl ownc _ rfl (by omega) zc ?_; intro v6 w6 own6 hm6)
                go_meet
                exact ⟨own6, mine_cell hm6 r0 hne, mine_cell hm6 r1 hne, Gc.mine ownc (Nat.le_refl _) hm6⟩
              | false =>
                have hqa : QA = Q := by rw [ha1.out, if_neg (fun h => by have := HT1.out.2 h; cases this)]
                subst hqa
                go_wp2_with fail
                go_meet
                exact ⟨ownc, r0, r1, Gc⟩
            case rest =>
              obtain ⟨ownA, s0, s1, GA⟩ := hcut
              obtain ⟨k2, hQl2⟩ : ∃ k2, QA.length = k2 := ⟨_, rfl⟩
              have ownk2 := ownA
              rw [hQl2] at ownk2
              obtain ⟨ga, ca, rfl⟩ := Go.Joins.ownsRow_form ownk2 (by omega)
              have hpk2 : p < k2 := by omega
              have xq2 := own_nth ownk2 hpk2
              have lga := (ownk2.lt ga rfl).2
              have HSl2 : Hid (SlI wc (.slice (some ⟨ga, 0, none⟩) k2 ca) QA) := by
                have := SlI.of_owns ownA; exact this
              have hQm2 : QA.length ≤ 1000000 := by omega
              have pk2 : (p : Int) < (k2 : Int) := by omega
              go_upto_region 10 with (fail)
              go_cut [55] (fun s wx => s = .bool t2 ∧ Ge wc wx)
              case first =>
                by_cases e1 : (c : Int) = nth QA p
                · have e1b : ((c : Int) == nth QA p) = true := by simp [e1]
                  by_cases e2 : (a : Int) ∈ QA
                  · have e2b : decide ((a : Int) ∈ QA) = true := decide_eq_true e2
                    have ht : t2 = false := by
                      cases t2 with
                      | false => rfl
                      | true => exact absurd e2 (HT2.out.1 rfl).2
                    subst ht
                    clear e1 e2
                    go_quiet ((go_at_call 62; exact (sL03Has _ QA _ _ (SlI.ge HSl2.out (by (repeat (first | with_reducible exact Ge.refl _ | assumption | with_reducible refine Ge.drew ?_ | with_reducible refine Ge.drewN ?_ _ | with_reducible refine Ge.alloc ?_ _ | (with_reducible refine Ge.setCell ?_ (by first | (simp; done) | omega | (simp; omega)) _) | with_reducible refine Ge.trans ?_ (by assumption))))) hQm2).mono fun _ _ h => ⟨by rw [h.1, e2b], _, h.2.symm⟩))
                    go_wp2_with fail
                    go_meet
                    exact ⟨rfl, by (repeat (first | with_reducible exact Ge.refl _ | assumption | with_reducible refine Ge.drew ?_ | with_reducible refine Ge.drewN ?_ _ | with_reducible refine Ge.alloc ?_ _ | (with_reducible refine Ge.setCell ?_ (by first | (simp; done) | omega | (simp; omega)) _) | with_reducible refine Ge.trans ?_ (by assumption)))⟩
                  · have e2b : decide ((a : Int) ∈ QA) = false := decide_eq_false e2
                    have ht : t2 = true := HT2.out.2 ⟨e1, e2⟩
                    subst ht
                    clear e1 e2
                    go_quiet ((go_at_call 62; exact (sL03Has _ QA _ _ (SlI.ge HSl2.out (by (repeat (first | with_reducible exact Ge.refl _ | assumption | with_reducible refine Ge.drew ?_ | with_reducible refine Ge.drewN ?_ _ | with_reducible refine Ge.alloc ?_ _ | (with_reducible refine Ge.setCell ?_ (by first | (simp; done) | omega | (simp; omega)) _) | with_reducible refine Ge.trans ?_ (by assumption))))) hQm2).mono fun _ _ h => ⟨by rw [h.1, e2b], _, h.2.symm⟩))
                    go_wp2_with fail
                    go_meet
                    exact ⟨rfl, by (repeat (first | with_reducible exact Ge.refl _ | assumption | with_reducible refine Ge.drew ?_ | with_reducible refine Ge.drewN ?_ _ | with_reducible refine Ge.alloc ?_ _ | (with_reducible refine Ge.setCell ?_ (by first | (simp; done) | omega | (simp; omega)) _) | with_reducible refine Ge.trans ?_ (by assumption)))⟩
                · have e1b : ((c : Int) == nth QA p) = false := by simp [e1]
                  have ht : t2 = false := by
                    cases t2 with
                    | false => rfl
                    | true => exact absurd (HT2.out.1 rfl).1 e1
                  subst ht
                  clear e1
                  go_quiet (fail)
                  go_wp2_with fail
                  go_meet
                  exact ⟨rfl, by (repeat (first | with_reducible exact Ge.refl _ | assumption | with_reducible refine Ge.drew ?_ | with_reducible refine Ge.drewN ?_ _ | with_reducible refine Ge.alloc ?_ _ | (with_reducible refine Ge.setCell ?_ (by first | (simp; done) | omega | (simp; omega)) _) | with_reducible refine Ge.trans ?_ (by assumption)))⟩
              case rest =>
                obtain ⟨rfl, G8⟩ := hcut
                have s0' := G8.keep s0
                have s1' := G8.keep s1
                have ownB := Ge.owns G8 ownA
                have GB : Ge w wc := Ge.trans GA G8
                have zb := GB.size
                cases t2 with
                | true =>
                  have hqb : QB = QA ++ [(a : Int)] := by rw [hb1.out, if_pos (HT2.out.1 rfl)]
                  subst hqb
                  go_wp2_with (at_builtin; refine ap_int rfl _ _ rfl w.heap.size _ QA rfl ownB _ rfl (by omega) zb ?_; intro v6 w6 own6 hm6)
                  go_roundw
                  case rel => exact ⟨j + 1, by omega, by go_num, by rw [HS.out]; exact own6, GB.mine ownB (Nat.le_refl _) hm6⟩
                  case measure => simp [intOf]; omega
                | false =>
                  have hqb : QB = QA := by rw [hb1.out, if_neg (fun h => by have := HT2.out.2 h; cases this)]
                  subst hqb
                  go_wp2_with fail
                  go_roundw
                  case rel => exact ⟨j + 1, by omega, by go_num, by rw [HS.out]; exact ownB, GB⟩
                  case measure => simp [intOf]; omega
        · have hjm2 : j = m := by omega
          subst hjm2
          go_wp2_with fail
          go_roundw
          case rel => exact ⟨p + 1, by omega, by go_num, by rw [hpq.out]; exact hownj, hgj⟩
          case measure => simp [intOf]; omega
    · have hend : Hid (qs (iprs (prs xs m)) 5 = qs (iprs (prs xs m)) p) := by
        show _ = _
        have := (qs_stop (l := iprs (prs xs m)) (p := p) (by omega) (5 - p)).1
        rwa [show p + (5 - p) = 5 by omega] at this
      have hown0 := hown
      rw [hL] at hown
      obtain ⟨p3, c3, rfl⟩ := owns_form hown
      clear hown
      go_wp2_with fail
      go_ret
      rw [hend.out]
      exact ⟨_, rfl, hown0, hg⟩
end Go.Proofs.YtckjkfcphcnpdaaGreat
