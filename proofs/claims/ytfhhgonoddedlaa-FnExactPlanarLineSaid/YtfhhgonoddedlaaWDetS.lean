/- l04Det of the reference. No condition. -/
import Derived.Test.YtfhhgonoddedlaaWDet
namespace Go.Proofs.Ytfhhgonoddedlaa
set_option maxRecDepth 100000
open Go.ChangeShapes Go.WideShapes Go.ChangeAt Go.RowKit Go.Joins

theorem ap_intsK {w : World} {o : Oper} {a : Act} {K : Act → World → Prop} {Q : Exit → Act → World → Prop} (s x : Operand)
    (ho : o.op = .call { callee := .builtin .append, args := #[s, x], argTypes := #[29, 29] })
    (base : Nat) (v : Value) (n : Nat) (l : List Int) (hs : a.eval s = v) (hown : w.ownsRow base 3 1 v n (icells l)) (hb : base ≤ w.heap.size)
    (ad : Addr) (m c : Nat) (y : List Int) (hx : a.eval x = .slice (some ad) m c) (hy : SlI w (.slice (some ad) m c) y) (hn : n + m < 1000)
    (h : ∀ v' w', w'.ownsRow base 3 1 v' (n + m) (icells (l ++ y)) → Mine w w' v → K (a.put o.dst v') w') : o.wp Try.prog a w K Q := by
  obtain ⟨i, hi, e⟩ : ∃ i, Try.prog.info? 3 = some i ∧ (i.zero, i.size, i.bytes) = (some (.int .i64 0), 1, 8) := by
    have := inf_int
    cases hc : Try.prog.info? 3 with
    | none => rw [hc] at this; simp at this
    | some i => rw [hc] at this; exact ⟨i, rfl, by simpa using this⟩
  simp only [Prod.mk.injEq] at e
  obtain ⟨h1, p, c', he, hc⟩ := hy
  simp only [Value.slice.injEq] at he
  obtain ⟨rfl, hm, rfl⟩ := he
  refine wp_append_own w s x 29 ho base 3 i _ 1 8 Try.underlying29 hi e.1 e.2.1 e.2.2 rfl (by decide) v n (icells l) hs hown ad m c (icells y) hx (by rw [h1, hm]) (fun j u hu => ?_) (fun u hu => ?_) (by unfold maxLen; omega) (by omega) hb (fun v' w' h2 h3 _ => h v' w' (by rw [← icells_append]; exact h2) h3)
  · obtain ⟨b, o, e, hz⟩ := hc j u hu
    simp only [Option.some.injEq] at e
    subst e
    by_cases hj0 : j = 0
    · subst hj0; simpa [Addr.add] using hz
    · simpa [Addr.add, hj0] using hz
  · simp only [icells, List.mem_map] at hu
    obtain ⟨_, _, rfl⟩ := hu
    rfl
theorem ap_ints1 {w0 w : World} {o : Oper} {a : Act} {K : Act → World → Prop} {Q : Exit → Act → World → Prop} (s x : Operand)
    (ho : o.op = .call { callee := .builtin .append, args := #[s, x], argTypes := #[29, 29] })
    (v : Value) (n : Nat) (l : List Int) (hs : a.eval s = v) (hg : Ge w0 w) (hown : w.ownsRow w0.heap.size 3 1 v n (icells l))
    (ad : Addr) (m c : Nat) (y : List Int) (hx : a.eval x = .slice (some ad) m c) (hy : SlI w (.slice (some ad) m c) y) (hn : n + m < 1000)
    (h : ∀ v' w', w'.ownsRow w0.heap.size 3 1 v' (n + m) (icells (l ++ y)) → Ge w0 w' → K (a.put o.dst v') w') : o.wp Try.prog a w K Q :=
  ap_intsK s x ho _ v n l hs hown (Ge.size hg) ad m c y hx hy hn (fun v' w' h1 h2 => h v' w' h1 (Ge.grown hg h2 (fun k hk => (hown.lt k hk).1)))
theorem ap_ints0 {w0 w : World} {o : Oper} {a : Act} {K : Act → World → Prop} {Q : Exit → Act → World → Prop} (s x : Operand)
    (ho : o.op = .call { callee := .builtin .append, args := #[s, x], argTypes := #[29, 29] })
    (hs : a.eval s = .slice (some ⟨w.heap.size, 0, none⟩) 0 0) (hg : Ge w0 w)
    (ad : Addr) (m c : Nat) (y : List Int) (hx : a.eval x = .slice (some ad) m c) (hy : SlI w (.slice (some ad) m c) y) (hn : m < 1000)
    (h : ∀ v' w', w'.ownsRow w0.heap.size 3 1 v' m (icells y) → Ge w0 w' → K (a.put o.dst v') w') : o.wp Try.prog a (w.alloc (.cells #[] 3)) K Q :=
  ap_ints1 (w0 := w0) s x ho _ 0 [] hs (Ge.alloc hg _) (owns_mono (owns_lit0 w _ 1) (Ge.size hg)) ad m c y hx (SlI.ge hy (Ge.alloc (Ge.refl w) _)) (by omega) (fun v' w' h1 h2 => h v' w' (by rw [Nat.zero_add] at h1; exact h1) h2)
theorem wr64 (x : Int) (h1 : -9223372036854775808 ≤ x) (h2 : x ≤ 9223372036854775807) : wrap64 x = x := by
  unfold wrap64
  omega
theorem take_slice {w : World} {b o n c k : Nat} {l : List Int} (h : SlI w (.slice (some ⟨b, o, none⟩) n c) l) (hk : k ≤ n) : SlI w (.slice (some ⟨b, o, none⟩) k c) (l.take k) := by
  obtain ⟨h1, p, c', he, hc⟩ := h
  simp only [Value.slice.injEq] at he
  obtain ⟨rfl, hm, rfl⟩ := he
  refine ⟨by simp [icells_length], some ⟨b, o, none⟩, c, by rw [List.length_take]; simp only [Value.slice.injEq]; exact ⟨trivial, by omega, trivial⟩, fun j u hu => ?_⟩
  refine hc j u ?_
  have hj : j < (icells (l.take k)).length := (List.getElem?_eq_some_iff.1 hu).1
  rw [icells_length, List.length_take] at hj
  rw [← hu]
  simp only [icells, List.getElem?_map, List.getElem?_take]
  rw [if_pos (by omega)]
theorem drop_slice {w : World} {b o n c k : Nat} {l : List Int} (h : SlI w (.slice (some ⟨b, o, none⟩) n c) l) (hk : k ≤ n) (hn : n ≤ c) :
    ∃ at' : Addr, (c = k ∧ at' = ⟨b, o, none⟩ ∨ c ≠ k ∧ at' = ⟨b, o + k, none⟩) ∧ SlI w (.slice (some at') (n - k) (c - k)) (l.drop k) := by
  obtain ⟨h1, p, c', he, hc⟩ := h
  simp only [Value.slice.injEq] at he
  obtain ⟨rfl, hm, rfl⟩ := he
  by_cases h1 : c = k
  · refine ⟨_, .inl ⟨h1, rfl⟩, by simp [icells_length], _, _, by rw [List.length_drop, hm], fun j u hu => ?_⟩
    have hj : j < (icells (l.drop k)).length := (List.getElem?_eq_some_iff.1 hu).1
    rw [icells_length, List.length_drop] at hj
    omega
  · refine ⟨_, .inr ⟨h1, rfl⟩, by simp [icells_length], _, _, by rw [List.length_drop, hm], fun j u hu => ⟨b, o + k, rfl, ?_⟩⟩
    obtain ⟨b', o', e, hx⟩ := hc (k + j) u (by simpa [icells] using hu)
    simp only [Option.some.injEq, Addr.mk.injEq, and_true] at e
    obtain ⟨rfl, rfl⟩ := e
    rw [Nat.add_assoc]; exact hx
theorem owns_cap {w : World} {base : Nat} {e : TypeId} {sz : Nat} {v : Value} {n : Nat} {xs : List Value} (h : w.ownsRow base e sz v n xs) : ∀ p n' c, v = .slice p n' c → n' ≤ c := by
  intro p n' c hv
  rcases h.2 with ⟨h', _⟩ | ⟨g', cap', cur, h', _, _, hnc, _⟩
  · rw [hv] at h'; simp at h'; omega
  · rw [hv] at h'; simp at h'; omega

set_option maxHeartbeats 3200000 in
theorem sL04Det (N : Nat) (M : Int → Int → Int) (hM : ∀ a b, absB (M a b) 2000) : ∀ (rows cols : List Int) (vm vr vc : Value) (w : World), SlMM w vm N M → SlI w vr rows → SlI w vc cols → (∀ p n c, vr = .slice p n c → n ≤ c) → (∀ p n c, vc = .slice p n c → n ≤ c) →
    rows.length ≤ 4 → cols.length ≤ 5 → (∀ x ∈ rows, below N x) → (∀ x ∈ cols, below N x) →
    Calls Try.prog 106 #[vm, vr, vc] w fun e w' => e = .returned (.int .i64 (detF M rows cols)) ∧ Ge w w' := by
  intro rows
  induction rows with
  | nil =>
    intro cols vm vr vc w hm hr hc hcap hcc2 h4 h5 hrb hcb
    obtain ⟨pm, cm, rfl, _⟩ := hm
    obtain ⟨pr, cr, rfl, _⟩ := hr.openN (n := 0) rfl
    obtain ⟨pc, cc, rfl, _⟩ := hc.openN rfl
    clear hr hc
    go_enter Try.func106, Try.ntmps106
    go_wp2_with fail
    go_ret
    exact ⟨rfl, Ge.refl _⟩
  | cons r rs ih =>
    intro cols vm vr vc w hm hr hc hcap hcc2 h4 h5 hrb hcb
    have HM := Lib.hid hm
    have HR := Lib.hid hr
    have HCo := Lib.hid hc
    obtain ⟨pm, cm, rfl, hmc⟩ := hm
    obtain ⟨m, hmn⟩ : ∃ m, rs.length = m := ⟨_, rfl⟩
    obtain ⟨pr, cr, rfl, hrc⟩ := hr.openN (n := m + 1) (by simp [hmn])
    obtain ⟨n, hn⟩ : ∃ n, cols.length = n := ⟨_, rfl⟩
    obtain ⟨pc, cc, rfl, hcc⟩ := hc.openN hn
    have hcr := hcap _ _ _ rfl
    have hcn := hcc2 _ _ _ rfl
    obtain ⟨b, o, rfl, x0⟩ := hrc 0 (by omega)
    obtain ⟨r0, r1⟩ := hrb r (by simp)
    obtain ⟨ra, rfl⟩ : ∃ ra : Nat, r = (ra : Int) := ⟨r.toNat, by omega⟩
    have hra : ra < N := by omega
    obtain ⟨bm, om, prow, crow, rfl, xm, hrow⟩ := hmc ra hra
    have HMC := Lib.hid hrow
    have HCC := Lib.hid hcc
    have HN := Lib.hid hn
    have HMn := Lib.hid hmn
    have HIH := Lib.hid ih
    have HRB := Lib.hid (fun x (hx : x ∈ rs) => hrb x (List.mem_cons_of_mem _ hx))
    have HCB := Lib.hid hcb
    obtain ⟨at', cq, hcs, hcq, HT⟩ := tail_slice1 hmn (hcap _ _ _ rfl) hr
    replace HT := Lib.hid (fun w' (g : Ge w w') => SlI.ge HT g)
    replace hcs := Lib.hid hcs
    have hbd := detB_le (k := m + 1) (by simp at h4; omega)
    have hbd2 := detB_le (k := m) (by simp at h4; omega)
    have hbm : detB m ≤ 1000000000000 := by
      have := detB_succ m
      omega
    change w.cell? _ = some (.int .i64 (ra : Int)) at x0
    simp only [Nat.add_zero] at x0
    rw [hn] at h5
    simp only [List.length_cons, hmn] at h4
    clear hr hc hmc hrc hcc hrow ih hrb hcb hn hcap hcc2 hmn
    have tm : ((m : Int) + 1 == 0) = false := by simp; omega
    go_enter Try.func106, Try.ntmps106
    go_wp2_with fail
    go_loopw [7, 8, 18] (fun s g i wr => ∃ j : Nat, j ≤ n ∧ i = .int .i64 j ∧ s = .int .i64 (detPart M ra rs cols j) ∧ g = .int .i64 (sgn j) ∧ Ge w wr) (fun _ _ i _ => n - (intOf i).toNat)
    case atStart => exact ⟨0, Nat.zero_le _, rfl, rfl, rfl, Ge.refl _⟩
    case round =>
      obtain ⟨j, hj, rfl, rfl, rfl, hg⟩ := hrel
      have hs1 : -1 ≤ sgn j ∧ sgn j ≤ 1 := by unfold sgn; split <;> omega
      have hsn := sgn_succ j
      by_cases hlt : j < n
      · obtain ⟨bc, oc, rfl, y0⟩ := HCC.out j hlt
        obtain ⟨q0, q1⟩ := HCB.out (nth cols j) (by rw [nth_eq cols j (by rw [HN.out]; exact hlt)]; exact List.getElem_mem _)
        obtain ⟨ca, hca⟩ : ∃ ca : Nat, nth cols j = (ca : Int) := ⟨(nth cols j).toNat, by omega⟩
        have hcaN : ca < N := by omega
        obtain ⟨br, or', rfl, z0⟩ := HMC.out ca hcaN
        rw [hca] at y0
        replace x0 := hg.keep x0
        replace xm := hg.keep xm
        replace y0 := hg.keep y0
        replace z0 := hg.keep z0
        have hMb := hM (ra : Int) (ca : Int)
        unfold absB at hMb
        have hpart := detPart_bd hM (ra : Int) rs cols (by rw [HN.out]; exact h5) (j := j) (by rw [HN.out]; exact hj)
        rw [HMn.out] at hpart
        unfold absB at hpart
        have HSk := Lib.hid (fun h => detPart_skip M (ra : Int) rs cols j h)
        have HSu := Lib.hid (detPart_succ M (ra : Int) rs cols j)
        rw [hca] at HSk HSu
        by_cases hx : M (ra : Int) (ca : Int) = 0
        · have tx : (M (ra : Int) (ca : Int) != 0) = false := by simp [hx]
          have HS := Lib.hid (HSk.out hx)
          clear hx
          generalize M (ra : Int) (ca : Int) = X at *
          generalize detPart M (ra : Int) rs cols j = P at *
          generalize sgn j = G at *
          go_wp2_with fail
          go_roundw
          case rel => exact ⟨j + 1, by omega, by go_num, congrArg _ HS.out.symm, (by first | rfl | exact congrArg _ hsn), by (repeat (first | with_reducible exact Ge.refl _ | assumption | with_reducible refine Ge.drew ?_ | with_reducible refine Ge.drewN ?_ _ | with_reducible refine Ge.alloc ?_ _ | (with_reducible refine Ge.setCell ?_ (by first | (simp; done) | omega | (simp; omega)) _) | with_reducible refine Ge.trans ?_ (by assumption)))⟩
          case measure => simp [intOf]; omega
        · have tx : (M (ra : Int) (ca : Int) != 0) = true := by simp [hx]
          clear hx
          have hd := detF_bd hM rs (cols.eraseIdx j) (Nat.le_trans (List.length_eraseIdx_le _ _) (by rw [HN.out]; exact h5))
          rw [HMn.out] at hd
          generalize hD : detF M rs (cols.eraseIdx j) = D at *
          have HD := Lib.hid hD
          clear hD
          have hY := term_bd hM j (ra : Int) (ca : Int) D (detB m) (detB_pos m) hd
          have hX1 : absB (sgn j * M (ra : Int) (ca : Int)) 2000 := by
            have := hM (ra : Int) (ca : Int)
            unfold sgn absB at *
            split <;> omega
          unfold absB at hY hX1
          have w1 : wrap64 (sgn j * M (ra : Int) (ca : Int)) = sgn j * M (ra : Int) (ca : Int) := wr64 _ (by omega) (by omega)
          have w2 : wrap64 (sgn j * M (ra : Int) (ca : Int) * D) = sgn j * M (ra : Int) (ca : Int) * D := wr64 _ (by omega) (by omega)
          have w3 : wrap64 (detPart M (ra : Int) rs cols j + sgn j * M (ra : Int) (ca : Int) * D) = detPart M (ra : Int) rs cols j + sgn j * M (ra : Int) (ca : Int) * D := wr64 _ (by omega) (by omega)
          have w4 : IntKind.i64.wrap ((j : Int) + 1) = (j : Int) + 1 := IntWalk.i64_in _ (by omega)
          have h0 : (0 : Int) ≤ (j : Int) := by omega
          have h1 : (0 : Int) ≤ (j : Int) + 1 := by omega
          have h2 : (j : Int) + 1 ≤ (n : Int) := by omega
          have h3 : j ≤ cc := by omega
          have h6 : (j : Int) ≤ (cc : Int) := by omega
          have HTa := Lib.hid (fun w' (g : Ge wr w') => take_slice (k := j) (SlI.ge HCo.out (Ge.trans hg g)) hj)
          obtain ⟨ad, had, HDr⟩ := drop_slice (k := j + 1) (SlI.ge HCo.out hg) hlt hcn
          replace HDr := Lib.hid (fun w' (g : Ge wr w') => SlI.ge HDr g)
          replace had := Lib.hid had
          have HDe := Lib.hid (fun v w' (g : Ge wr w') (h : SlI w' v (cols.eraseIdx j)) hv => HIH.out (cols.eraseIdx j) (.slice (some ⟨bm, om, none⟩) N cm) (.slice (some at') m cq) v w' (HM.out.ge (Ge.trans hg g)) (HT.out w' (Ge.trans hg g)) h (fun p n c e => by simp at e; omega) hv (by rw [HMn.out]; omega) (by have := List.length_eraseIdx_le cols j; rw [HN.out] at this; omega) HRB.out (fun x hx => HCB.out x (nth_erase_mem x hx)))
          rw [HD.out] at HDe
          have hcr1 : m + 1 ≤ cr := hcr
          have hcr2 : (1 : Int) ≤ (m : Int) + 1 := by omega
          clear hcq
          have HEr : Hid (cols.take j ++ cols.drop (j + 1) = cols.eraseIdx j) := by
            show _ = _
            rw [List.eraseIdx_eq_take_drop_succ]
          have hLn : (cols.eraseIdx j).length = j + (n - (j + 1)) := by rw [List.length_eraseIdx, HN.out, if_pos hlt]; omega
          replace hLn := Lib.hid hLn
          rcases hcs.out with ⟨hc1, rfl, rfl⟩ | ⟨hc1, rfl, rfl⟩
          · replace hc1 : (cr = 1) = True := eq_true hc1
            rcases had.out with ⟨hc2, rfl⟩ | ⟨hc2, rfl⟩
            · replace hc2 : (cc = j + 1) = True := eq_true hc2
              go_wp2_with fail
              have hS : ∀ w', Ge wr w' → Ge wr w' := fun _ g => g
              go_region_held3 (fun w' => Ge wr w') (first | ((with_reducible refine hS _ ?_); (repeat (first | assumption | with_reducible exact Ge.refl _ | with_reducible refine cv_drew ?_ | with_reducible refine cv_alloc ?_ | with_reducible refine cv_set ?_ | (with_reducible apply cv_some; assumption) | with_reducible refine cell_drew ?_ | with_reducible refine cell_drewN ?_ | ((with_reducible refine cell_new ?_ ?_); (focus (simp; done)); rfl) | with_reducible refine cell_alloc ?_ | with_reducible refine cell_same2 ?_ | ((with_reducible refine cell_set2 ?_ ?_); focus (first | (simp; done) | (intro hE; simp at hE; done) | (intro hE; simp at hE; omega))) | with_reducible refine Ge.drew ?_ | with_reducible refine Ge.drewN ?_ _ | with_reducible refine Ge.alloc ?_ _ | ((with_reducible refine Ge.setCell ?_ ?_ _); rotate_left; focus (first | (simp; done) | omega | (simp; omega))) | with_reducible refine Ge.trans ?_ (by assumption) | with_reducible refine Ge.keep (by assumption) ?_)); done) | fail) (first | (refine ap_ints0 (w0 := wr) _ _ rfl rfl (by with_reducible exact Ge.drew (Ge.refl _)) _ _ _ (cols.take j) rfl (HTa.out _ (Ge.drew (Ge.refl _))) (by omega) ?_; intro vA wA oA gA) | (refine ap_ints1 (w0 := wr) _ _ rfl _ _ _ rfl ‹Ge wr _› oA _ _ _ (cols.drop (j + 1)) rfl (HDr.out _ ‹Ge wr _›) (by omega) ?_; intro vB wB oB gB) | fail)
              rename_i G7
              clear hS
              have sB : SlI wB vB (cols.eraseIdx j) := by
                rw [HEr.out] at oB
                refine SlI.of_owns (base := wr.heap.size) (e := 3) ?_
                rw [hLn.out]
                exact oB
              have cB := owns_cap oB
              go_wp2_with ((go_at_call 106; ((with_reducible refine (HDe.out _ _ ‹Ge wr wB› sB cB).mono ?_); rintro e wF ⟨rfl, gF⟩)))
              go_roundw
              case rel => exact ⟨j + 1, by omega, by go_num, congrArg _ HSu.out.symm, (by first | rfl | exact congrArg _ hsn), by (repeat (first | with_reducible exact Ge.refl _ | assumption | with_reducible refine Ge.drew ?_ | with_reducible refine Ge.drewN ?_ _ | with_reducible refine Ge.alloc ?_ _ | (with_reducible refine Ge.setCell ?_ (by first | (simp; done) | omega | (simp; omega)) _) | with_reducible refine Ge.trans ?_ (by assumption)))⟩
              case measure => simp [intOf]; omega
            · replace hc2 : (cc = j + 1) = False := eq_false hc2
              go_wp2_with fail
              have hS : ∀ w', Ge wr w' → Ge wr w' := fun _ g => g
              go_region_held3 (fun w' => Ge wr w') (first | ((with_reducible refine hS _ ?_); (repeat (first | assumption | with_reducible exact Ge.refl _ | with_reducible refine cv_drew ?_ | with_reducible refine cv_alloc ?_ | with_reducible refine cv_set ?_ | (with_reducible apply cv_some; assumption) | with_reducible refine cell_drew ?_ | with_reducible refine cell_drewN ?_ | ((with_reducible refine cell_new ?_ ?_); (focus (simp; done)); rfl) | with_reducible refine cell_alloc ?_ | with_reducible refine cell_same2 ?_ | ((with_reducible refine cell_set2 ?_ ?_); focus (first | (simp; done) | (intro hE; simp at hE; done) | (intro hE; simp at hE; omega))) | with_reducible refine Ge.drew ?_ | with_reducible refine Ge.drewN ?_ _ | with_reducible refine Ge.alloc ?_ _ | ((with_reducible refine Ge.setCell ?_ ?_ _); rotate_left; focus (first | (simp; done) | omega | (simp; omega))) | with_reducible refine Ge.trans ?_ (by assumption) | with_reducible refine Ge.keep (by assumption) ?_)); done) | fail) (first | (refine ap_ints0 (w0 := wr) _ _ rfl rfl (by with_reducible exact Ge.drew (Ge.refl _)) _ _ _ (cols.take j) rfl (HTa.out _ (Ge.drew (Ge.refl _))) (by omega) ?_; intro vA wA oA gA) | (refine ap_ints1 (w0 := wr) _ _ rfl _ _ _ rfl ‹Ge wr _› oA _ _ _ (cols.drop (j + 1)) rfl (HDr.out _ ‹Ge wr _›) (by omega) ?_; intro vB wB oB gB) | fail)
              rename_i G7
              clear hS
              have sB : SlI wB vB (cols.eraseIdx j) := by
                rw [HEr.out] at oB
                refine SlI.of_owns (base := wr.heap.size) (e := 3) ?_
                rw [hLn.out]
                exact oB
              have cB := owns_cap oB
              go_wp2_with ((go_at_call 106; ((with_reducible refine (HDe.out _ _ ‹Ge wr wB› sB cB).mono ?_); rintro e wF ⟨rfl, gF⟩)))
              go_roundw
              case rel => exact ⟨j + 1, by omega, by go_num, congrArg _ HSu.out.symm, (by first | rfl | exact congrArg _ hsn), by (repeat (first | with_reducible exact Ge.refl _ | assumption | with_reducible refine Ge.drew ?_ | with_reducible refine Ge.drewN ?_ _ | with_reducible refine Ge.alloc ?_ _ | (with_reducible refine Ge.setCell ?_ (by first | (simp; done) | omega | (simp; omega)) _) | with_reducible refine Ge.trans ?_ (by assumption)))⟩
              case measure => simp [intOf]; omega
          · replace hc1 : (cr = 1) = False := eq_false hc1
            rcases had.out with ⟨hc2, rfl⟩ | ⟨hc2, rfl⟩
            · replace hc2 : (cc = j + 1) = True := eq_true hc2
              go_wp2_with fail
              have hS : ∀ w', Ge wr w' → Ge wr w' := fun _ g => g
              go_region_held3 (fun w' => Ge wr w') (first | ((with_reducible refine hS _ ?_); (repeat (first | assumption | with_reducible exact Ge.refl _ | with_reducible refine cv_drew ?_ | with_reducible refine cv_alloc ?_ | with_reducible refine cv_set ?_ | (with_reducible apply cv_some; assumption) | with_reducible refine cell_drew ?_ | with_reducible refine cell_drewN ?_ | ((with_reducible refine cell_new ?_ ?_); (focus (simp; done)); rfl) | with_reducible refine cell_alloc ?_ | with_reducible refine cell_same2 ?_ | ((with_reducible refine cell_set2 ?_ ?_); focus (first | (simp; done) | (intro hE; simp at hE; done) | (intro hE; simp at hE; omega))) | with_reducible refine Ge.drew ?_ | with_reducible refine Ge.drewN ?_ _ | with_reducible refine Ge.alloc ?_ _ | ((with_reducible refine Ge.setCell ?_ ?_ _); rotate_left; focus (first | (simp; done) | omega | (simp; omega))) | with_reducible refine Ge.trans ?_ (by assumption) | with_reducible refine Ge.keep (by assumption) ?_)); done) | fail) (first | (refine ap_ints0 (w0 := wr) _ _ rfl rfl (by with_reducible exact Ge.drew (Ge.refl _)) _ _ _ (cols.take j) rfl (HTa.out _ (Ge.drew (Ge.refl _))) (by omega) ?_; intro vA wA oA gA) | (refine ap_ints1 (w0 := wr) _ _ rfl _ _ _ rfl ‹Ge wr _› oA _ _ _ (cols.drop (j + 1)) rfl (HDr.out _ ‹Ge wr _›) (by omega) ?_; intro vB wB oB gB) | fail)
              rename_i G7
              clear hS
              have sB : SlI wB vB (cols.eraseIdx j) := by
                rw [HEr.out] at oB
                refine SlI.of_owns (base := wr.heap.size) (e := 3) ?_
                rw [hLn.out]
                exact oB
              have cB := owns_cap oB
              go_wp2_with ((go_at_call 106; ((with_reducible refine (HDe.out _ _ ‹Ge wr wB› sB cB).mono ?_); rintro e wF ⟨rfl, gF⟩)))
              go_roundw
              case rel => exact ⟨j + 1, by omega, by go_num, congrArg _ HSu.out.symm, (by first | rfl | exact congrArg _ hsn), by (repeat (first | with_reducible exact Ge.refl _ | assumption | with_reducible refine Ge.drew ?_ | with_reducible refine Ge.drewN ?_ _ | with_reducible refine Ge.alloc ?_ _ | (with_reducible refine Ge.setCell ?_ (by first | (simp; done) | omega | (simp; omega)) _) | with_reducible refine Ge.trans ?_ (by assumption)))⟩
              case measure => simp [intOf]; omega
            · replace hc2 : (cc = j + 1) = False := eq_false hc2
              go_wp2_with fail
              have hS : ∀ w', Ge wr w' → Ge wr w' := fun _ g => g
              go_region_held3 (fun w' => Ge wr w') (first | ((with_reducible refine hS _ ?_); (repeat (first | assumption | with_reducible exact Ge.refl _ | with_reducible refine cv_drew ?_ | with_reducible refine cv_alloc ?_ | with_reducible refine cv_set ?_ | (with_reducible apply cv_some; assumption) | with_reducible refine cell_drew ?_ | with_reducible refine cell_drewN ?_ | ((with_reducible refine cell_new ?_ ?_); (focus (simp; done)); rfl) | with_reducible refine cell_alloc ?_ | with_reducible refine cell_same2 ?_ | ((with_reducible refine cell_set2 ?_ ?_); focus (first | (simp; done) | (intro hE; simp at hE; done) | (intro hE; simp at hE; omega))) | with_reducible refine Ge.drew ?_ | with_reducible refine Ge.drewN ?_ _ | with_reducible refine Ge.alloc ?_ _ | ((with_reducible refine Ge.setCell ?_ ?_ _); rotate_left; focus (first | (simp; done) | omega | (simp; omega))) | with_reducible refine Ge.trans ?_ (by assumption) | with_reducible refine Ge.keep (by assumption) ?_)); done) | fail) (first | (refine ap_ints0 (w0 := wr) _ _ rfl rfl (by with_reducible exact Ge.drew (Ge.refl _)) _ _ _ (cols.take j) rfl (HTa.out _ (Ge.drew (Ge.refl _))) (by omega) ?_; intro vA wA oA gA) | (refine ap_ints1 (w0 := wr) _ _ rfl _ _ _ rfl ‹Ge wr _› oA _ _ _ (cols.drop (j + 1)) rfl (HDr.out _ ‹Ge wr _›) (by omega) ?_; intro vB wB oB gB) | fail)
              rename_i G7
              clear hS
              have sB : SlI wB vB (cols.eraseIdx j) := by
                rw [HEr.out] at oB
                refine SlI.of_owns (base := wr.heap.size) (e := 3) ?_
                rw [hLn.out]
                exact oB
              have cB := owns_cap oB
              go_wp2_with ((go_at_call 106; ((with_reducible refine (HDe.out _ _ ‹Ge wr wB› sB cB).mono ?_); rintro e wF ⟨rfl, gF⟩)))
              go_roundw
              case rel => exact ⟨j + 1, by omega, by go_num, congrArg _ HSu.out.symm, (by first | rfl | exact congrArg _ hsn), by (repeat (first | with_reducible exact Ge.refl _ | assumption | with_reducible refine Ge.drew ?_ | with_reducible refine Ge.drewN ?_ _ | with_reducible refine Ge.alloc ?_ _ | (with_reducible refine Ge.setCell ?_ (by first | (simp; done) | omega | (simp; omega)) _) | with_reducible refine Ge.trans ?_ (by assumption)))⟩
              case measure => simp [intOf]; omega
      · have hjn : j = n := by omega
        subst hjn
        have HF : Hid (detF M ((ra : Int) :: rs) cols = detPart M ra rs cols j) := by
          show _ = _
          rw [detF_part, HN.out]
        go_wp2_with fail
        go_ret
        exact ⟨ret_int HF.out.symm, hg⟩
end Go.Proofs.Ytfhhgonoddedlaa
