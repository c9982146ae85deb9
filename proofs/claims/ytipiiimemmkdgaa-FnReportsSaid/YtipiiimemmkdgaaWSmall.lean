/- MakeSmall of the reference. No condition. -/
import Derived.Test.YtipiiimemmkdgaaWDraw
namespace Go.Proofs.Ytipiiimemmkdgaa
set_option maxRecDepth 100000
open Go.ChangeShapes Go.WideShapes Go.ChangeAt Go.RowKit Go.Joins

/-- The wires with another weight for number i. -/
def setw (l : List Wr) (i : Nat) (x : Int) : List Wr := l.set i ⟨(nthW l i).a, (nthW l i).b, x⟩
theorem setw_length (l : List Wr) (i : Nat) (x : Int) : (setw l i x).length = l.length := by simp [setw]
theorem flatW_set (l : List Wr) : ∀ (i : Nat) (y : Wr), i < l.length → y.a = (nthW l i).a → y.b = (nthW l i).b → flatW (l.set i y) = (flatW l).set (i * 3 + 2) y.w := by
  induction l with
  | nil => intro i y h; simp at h
  | cons e l ih =>
    intro i y h h1 h2
    cases i with
    | zero =>
      have e1 : y.a = e.a := h1
      have e2 : y.b = e.b := h2
      simp [flatW, e1, e2]
    | succ i =>
      have h3 := ih i y (by simpa using h) h1 h2
      have e3 : (i + 1) * 3 + 2 = (i * 3 + 2) + 3 := by omega
      simp only [List.set_cons_succ, flatW, h3, e3]
theorem flatW_setw {l : List Wr} {i : Nat} (x : Int) (h : i < l.length) : flatW (setw l i x) = (flatW l).set (i * 3 + 2) x := flatW_set l i _ h rfl rfl
theorem dwn_setw {n c : Nat} {l : List Wr} (h : Dwn n c l) {i : Nat} {x : Int} (hi : i < l.length) (hx : 1 ≤ x ∧ x ≤ 6) : Dwn n c (setw l i x) := by
  have hm : nthW l i ∈ l := by rw [nthW_eq l i hi]; exact List.getElem_mem _
  have key : ∀ j (hj : j < l.length), ((setw l i x)[j]'(by rw [setw_length]; exact hj)).a = l[j].a ∧ ((setw l i x)[j]'(by rw [setw_length]; exact hj)).b = l[j].b := fun j hj => by
    unfold setw
    rw [List.getElem_set]
    split
    · subst_vars
      rw [nthW_eq l _ hi]
      exact ⟨rfl, rfl⟩
    · exact ⟨rfl, rfl⟩
  refine ⟨fun e he => ?_, ?_, fun v h1 h2 => ?_⟩
  · rcases List.mem_or_eq_of_mem_set he with h1 | h1
    · exact h.ok e h1
    · subst h1
      obtain ⟨q1, q2, q3, _⟩ := h.ok _ hm
      exact ⟨q1, q2, q3, hx.1, hx.2⟩
  · rw [List.pairwise_iff_getElem]
    intro a b ha hb hab
    rw [setw_length] at ha hb
    have hs := (List.pairwise_iff_getElem.1 h.sorted) a b ha hb hab
    unfold ltW at *
    rw [(key a ha).1, (key a ha).2, (key b hb).1, (key b hb).2]
    exact hs
  · obtain ⟨e, he, hb⟩ := h.down v h1 h2
    obtain ⟨j, hj, rfl⟩ := List.getElem_of_mem he
    exact ⟨(setw l i x)[j]'(by rw [setw_length]; exact hj), List.getElem_mem _, by rw [(key j hj).2]; exact hb⟩

theorem own_someF {w : World} {base g n cap m : Nat} {e : TypeId} {xs : List Value} (h : w.ownsRow base e m (.slice (some ⟨g, 0, none⟩) n cap) n xs) {j : Nat} (hj : j < n * m) : ∃ u, w.cell? ⟨g, j, none⟩ = some u := by
  have h1 := h.1
  exact ⟨xs[j]'(by omega), by rw [h.cellAt j hj]; exact List.getElem?_eq_getElem (by omega)⟩
set_option maxHeartbeats 3200000 in
theorem sMakeSmall (p : Option Addr) (n cap : Nat) (w : World) (hb : SlB w p n) (hn : n ≤ 1048576) : Calls Try.prog 4 #[.slice p n cap] w fun e w' => ∃ (n : Nat) (E S : Int) (l : List Wr) (s : Value),
    e = .returned (.agg #[.int .i64 (n : Int), .int .i64 E, .int .i64 S, s]) ∧ SlF w' s l.length 3 (flatW l) ∧ Drn n l.length (flatW l) ∧ (2 ≤ E ∧ E ≤ n) ∧ (1 ≤ S ∧ S ≤ 3) ∧ Ge w w' := by
  have HB := Lib.hid (hb.ge (Ge.alloc (Ge.refl w) (.cells #[.int .i64 0, .int .i64 0, .int .i64 0, .slice none 0 0] 25)))
  have RS0 := Lib.hid (ResD.new w (.int .i64 0) (.int .i64 0) (.int .i64 0) (.slice none 0 0) 25)
  clear hb
  go_enter Try.func4, Try.ntmps4
  go_wp2_with (first
    | ((go_at_call 17; ((with_reducible refine (sL01New _ _ _ _ HB.out hn).mono ?_); rintro e w1 ⟨g, rfl, hc1, hg, g1⟩)); have HC := Lib.hid hc1; clear hc1; have RS1 := Lib.hid (RS0.out.ge g1); have lg : w.heap.size < g := (by simp at hg; omega); have lw := (g1.size); simp at lw)
    | ((go_at_call 18; ((with_reducible refine (sL03Draw _ _ _ HC.out (by omega) (by omega)).mono ?_); rintro e w2 ⟨m, E, S, l, s, rfl, own2, hdw, n2, n5, hE, hS, hd2⟩)); have RS2 := Lib.hid (RS1.out.drewN hd2 (by omega)); obtain ⟨pu, cu, rfl⟩ := owns_form own2; have HD2 := Lib.hid hd2; have HO := Lib.hid own2; clear own2 hd2))
  obtain ⟨q, hq⟩ : ∃ q, l.length = q := ⟨_, rfl⟩
  have lgc : g < w1.heap.size := by obtain ⟨_, _, _, _, _, _, c0, _⟩ := HC.out; exact World.block_lt_of_cell? _ _ c0
  have z12 : w1.heap.size ≤ w2.heap.size := World.grownBy.size HD2.out.2
  rw [hq] at HO ⊢
  have hm10 : q ≤ 10 := by rw [← hq]; exact dwn_len hdw (by omega)
  have B0 : (w2.alloc (.cells #[.int .i64 (m : Int), .int .i64 E, .int .i64 S, .slice pu q cu] 25)).cell? ⟨w2.heap.size, 0, none⟩ = some (.int .i64 (m : Int)) := cell_new rfl rfl
  have B1 : (w2.alloc (.cells #[.int .i64 (m : Int), .int .i64 E, .int .i64 S, .slice pu q cu] 25)).cell? ⟨w2.heap.size, 1, none⟩ = some (.int .i64 E) := cell_new rfl rfl
  have B2 : (w2.alloc (.cells #[.int .i64 (m : Int), .int .i64 E, .int .i64 S, .slice pu q cu] 25)).cell? ⟨w2.heap.size, 2, none⟩ = some (.int .i64 S) := cell_new rfl rfl
  have B3 : (w2.alloc (.cells #[.int .i64 (m : Int), .int .i64 E, .int .i64 S, .slice pu q cu] 25)).cell? ⟨w2.heap.size, 3, none⟩ = some (.slice pu q cu) := cell_new rfl rfl
  have HDa := Lib.hid (Drew.geN HD2.out (Ge.alloc (Ge.refl w2) (.cells #[.int .i64 (m : Int), .int .i64 E, .int .i64 S, .slice pu q cu] 25)))
  have HOa := Lib.hid (HO.out.alloc (.cells #[.int .i64 (m : Int), .int .i64 E, .int .i64 S, .slice pu q cu] 25))
  have RSa := Lib.hid (RS2.out.ge (Ge.alloc (Ge.refl w2) (.cells #[.int .i64 (m : Int), .int .i64 E, .int .i64 S, .slice pu q cu] 25)))
  have Hdw := Lib.hid hdw
  have G1 := Lib.hid (Ge.trans (Ge.alloc (Ge.refl w) _) g1)
  have zw2 : (w2.alloc (.cells #[.int .i64 (m : Int), .int .i64 E, .int .i64 S, .slice pu q cu] 25)).heap.size = w2.heap.size + 1 := World.size_alloc _ _
  have hbk : ∀ k, Value.ownBlock (.slice pu q cu) = some k → w1.heap.size ≤ k ∧ k < w2.heap.size := fun k hk => HO.out.lt k hk
  clear hdw g1 HO HD2 RS2 RS0 RS1 HC HB hg
  generalize (w2.alloc (.cells #[.int .i64 (m : Int), .int .i64 E, .int .i64 S, .slice pu q cu] 25)) = W0 at *
  generalize w2.heap.size = B at *
  go_loopw [13] (fun i wr => ∃ (k : Nat) (l' : List Wr), k ≤ q ∧ i = .int .i64 k ∧ l'.length = q ∧ Hid (Dwn m m l') ∧ Hid (wr.ownsRow w1.heap.size 49 3 (.slice pu q cu) q (icells (flatW l'))) ∧ Hid (Drew w1 wr g) ∧ Hid (ResD wr w.heap.size) ∧
    wr.cell? ⟨B, 0, none⟩ = some (.int .i64 (m : Int)) ∧ wr.cell? ⟨B, 1, none⟩ = some (.int .i64 E) ∧ wr.cell? ⟨B, 2, none⟩ = some (.int .i64 S) ∧ wr.cell? ⟨B, 3, none⟩ = some (.slice pu q cu)) (fun i _ => q - (intOf i).toNat)
  case atStart => exact ⟨0, l, Nat.zero_le _, rfl, hq, Hdw.out, HOa.out, HDa.out, RSa.out, B0, B1, B2, B3⟩
  case round =>
    obtain ⟨k, l', hk, rfl, hl', HDw, HOw, HDr, HRs, C0, C1, C2, C3⟩ := hrel
    clear B0 B1 B2 B3 HDa HOa RSa
    by_cases hlt : k < q
    · obtain ⟨gw, cc, he⟩ := Go.Joins.ownsRow_form HOw.out (by omega)
      simp only [Value.slice.injEq] at he
      obtain ⟨rfl, _, rfl⟩ := he
      obtain ⟨lk1, lk2⟩ := hbk gw rfl
      have D3 := cell_drew C3
      have HDd := Lib.hid (Drew.geN HDr.out (Ge.drew (Ge.refl wr)))
      go_wp2_with fail
      refine wp_region_head (S := fun w' => w'.cell? ⟨B, 3, none⟩ = some (.slice (some ⟨gw, 0, none⟩) q cu)) 6 (by kernel_rfl) (by kernel_rfl) (D3) (fun hHeld => ?_)
      refine head_take 0 (v := ?_) rfl (by kernel_rfl) (by kernel_rfl) (fun _ _ _ h => h) (by assumption) (yields_if (by rfl) ?_) ?_
      rotate_left
      focus (intro w' hSw; (try dsimp only at hSw); go_simp; (try with_reducible rfl))
      (try simp only [Act.put, List.setIfInBounds_toArray, List.set_cons_zero, List.set_cons_succ])
      refine head_take 1 (v := ?_) rfl (by kernel_rfl) (by kernel_rfl) (fun _ _ _ h => h) (by assumption) (yields_if (by rfl) ?_) ?_
      rotate_left
      focus (intro w' hSw; (try dsimp only at hSw); go_simp; (try with_reducible rfl))
      (try simp only [Act.put, List.setIfInBounds_toArray, List.set_cons_zero, List.set_cons_succ])
      refine head_take 2 (v := ?_) rfl (by kernel_rfl) (by kernel_rfl) (fun _ _ _ h => h) (by assumption) (yields_if (by rfl) ?_) ?_
      rotate_left
      focus (intro w' hSw; (try dsimp only at hSw); go_simp; (try with_reducible rfl))
      (try simp only [Act.put, List.setIfInBounds_toArray, List.set_cons_zero, List.set_cons_succ])
      refine head_take 3 (v := ?_) rfl (by kernel_rfl) (by kernel_rfl) (fun _ _ _ h => h) (by assumption) (yields_if (by rfl) ?_) ?_
      rotate_left
      focus (intro w' hSw; (try dsimp only at hSw); go_simp; (try with_reducible rfl))
      (try simp only [Act.put, List.setIfInBounds_toArray, List.set_cons_zero, List.set_cons_succ])
      refine head_one 4 rfl (by kernel_rfl) (fun K hK => ?_)
      go_simp
      (go_at_call 19; ((with_reducible refine (sL01Below _ _ _ HDd.out.cur (by omega) (by omega)).mono ?_); rintro e w4 ⟨x, rfl, x0, x1, hd4⟩))
      have HD4 := Lib.hid (HDd.out.trans hd4)
      have E0 := hd4.cellN (cell_drew C0) (by show B ≠ g; omega)
      have E1 := hd4.cellN (cell_drew C1) (by show B ≠ g; omega)
      have E2 := hd4.cellN (cell_drew C2) (by show B ≠ g; omega)
      have E3 := hd4.cellN (cell_drew C3) (by show B ≠ g; omega)
      have HO4 := Lib.hid (hd4.ownsN ((Ge.drew (Ge.refl wr)).owns HOw.out) lgc)
      have HR4 := Lib.hid (ResD.drewN (HRs.out.ge (Ge.drew (Ge.refl wr))) hd4 (by omega))
      clear hd4
      refine hK.out _ _ E3 (fun hHeld => ?_)
      clear hK K
      (try simp only [Act.put, List.setIfInBounds_toArray, List.set_cons_zero, List.set_cons_succ])
      refine head_take 5 (v := ?_) rfl (by kernel_rfl) (by kernel_rfl) (fun _ _ _ h => h) (by assumption) (yields_if (by rfl) ?_) ?_
      rotate_left
      focus (intro w' hSw; (try dsimp only at hSw); go_simp; (try with_reducible rfl))
      (try simp only [Act.put, List.setIfInBounds_toArray, List.set_cons_zero, List.set_cons_succ])
      refine head_done (by kernel_rfl) ?_
      have hfl : (flatW l').length = q * 3 := by rw [flatW_length, hl']
      obtain ⟨u0, hu0⟩ := own_someF HO4.out (j := k * 3 + 2) (by omega)
      have f0 := HO4.out.frozenAt (k * 3 + 2)
      have HSt := Lib.hid (HO4.out.stored (k * 3 + 2) (.int .i64 (1 + x)))
      have HFl := Lib.hid (flatW_setw (l := l') (1 + x) (i := k) (by omega))
      have HDn := Lib.hid (dwn_setw HDw.out (i := k) (x := 1 + x) (by omega) (by omega))
      have hne : B ≠ gw := by omega
      have F0 : (w4.setCell ⟨gw, k * 3 + 2, none⟩ (.int .i64 (1 + x))).cell? ⟨B, 0, none⟩ = some (.int .i64 (m : Int)) := by rw [World.cell?_setCell_other _ _ _ _ (fun e => by simp at e <;> omega)]; exact E0
      have F1 : (w4.setCell ⟨gw, k * 3 + 2, none⟩ (.int .i64 (1 + x))).cell? ⟨B, 1, none⟩ = some (.int .i64 E) := by rw [World.cell?_setCell_other _ _ _ _ (fun e => by simp at e <;> omega)]; exact E1
      have F2 : (w4.setCell ⟨gw, k * 3 + 2, none⟩ (.int .i64 (1 + x))).cell? ⟨B, 2, none⟩ = some (.int .i64 S) := by rw [World.cell?_setCell_other _ _ _ _ (fun e => by simp at e <;> omega)]; exact E2
      have F3 : (w4.setCell ⟨gw, k * 3 + 2, none⟩ (.int .i64 (1 + x))).cell? ⟨B, 3, none⟩ = some (.slice (some ⟨gw, 0, none⟩) q cu) := by rw [World.cell?_setCell_other _ _ _ _ (fun e => by simp at e <;> omega)]; exact E3
      have HD5 := Lib.hid (Drew.setN (i := k * 3 + 2) (x := .int .i64 (1 + x)) HD4.out lk1 (by omega))
      have HR5 : Hid (ResD (w4.setCell ⟨gw, k * 3 + 2, none⟩ (.int .i64 (1 + x))) w.heap.size) := fun i hi => by
        obtain ⟨u, h1, h2⟩ := HR4.out i hi
        exact ⟨u, by rw [World.cell?_setCell_other _ _ _ _ (fun e => by simp at e <;> omega)]; exact h1, by simpa using h2⟩
      clear hHeld D3 C0 C1 C2 C3
      go_wp2_with fail
      go_roundw
      case rel => exact ⟨k + 1, setw l' k (1 + x), by omega, by go_num, by rw [setw_length]; exact hl', HDn.out, by
        show _
        have := HSt.out.1
        rw [icells_set] at this
        rw [HFl.out]
        exact this, HD5.out, HR5.out, F0, F1, F2, F3⟩
      case measure => simp [intOf]; omega
    · have hkq : k = q := by omega
      subst hkq
      obtain ⟨r0, p0, f0⟩ := HRs.out 0 (by omega)
      obtain ⟨r1, p1, f1⟩ := HRs.out 1 (by omega)
      obtain ⟨r2, p2, f2⟩ := HRs.out 2 (by omega)
      obtain ⟨r3, p3, f3⟩ := HRs.out 3 (by omega)
      have GR := Lib.hid (HDr.out.ge G1.out (by omega))
      have HDD := Lib.hid (dwn_drn HDw.out n2 (by omega))
      go_wp2_with fail
      exact bodyPost_ret (v := .agg #[.int .i64 (m : Int), .int .i64 E, .int .i64 S, .slice pu k cu]) (by simp [results, Try.results4, go_sem, *]) rfl
        ⟨m, E, S, l', _, rfl, by rw [hl']; refine SlF.of_owns (base := w1.heap.size) (e := 49) ?_; repeat (first | exact HOw.out | refine own_setD ?_ (by omega)), HDD.out, hE, hS, by repeat (first | exact GR.out | refine Ge.setCell ?_ (Nat.le_refl _) _)⟩
end Go.Proofs.Ytipiiimemmkdgaa
