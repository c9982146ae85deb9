/- IsCircular of impl and of the reference, for two lists of one length. No condition. -/
import Derived.Test.YtjdhjoifiebpeaaWChoices
import Derived.Test.YtjdhjoifiebpeaaWNetOkS
namespace Go.Proofs.Ytjdhjoifiebpeaa
set_option maxRecDepth 100000
open Go.ChangeShapes Go.WideShapes Go.ChangeAt Go.RowKit Go.Joins

theorem idxP_false {k : Nat} {l : List Int} {n j : Nat} (hj : j < n) (h : ¬ idxAt k l j) : decide (idxP k l n) = false := decide_eq_false (fun g => h (g j hj))
set_option maxHeartbeats 1600000 in
theorem iIndicesOk (v : Value) (l : List Int) (k n : Nat) (w : World) (h : SlI w v l) (hn : l.length = n) (hm : n ≤ 1000) (hcap : ∀ p n' c, v = .slice p n' c → n' ≤ c) :
    Calls Try.prog 23 #[v, .int .i64 (k : Int)] w fun e w' => e = .returned (.bool (decide (idxP k l n))) ∧ w = w' := by
  obtain ⟨p, cap, rfl, hc⟩ := h.openN hn
  have HC := Lib.hid hc
  have HV := Lib.hid h
  have HN := Lib.hid hn
  have hcp := hcap _ _ _ rfl
  clear h hc hn hcap
  go_enter Try.func23, Try.ntmps23
  go_wp2_with fail
  go_loop [9] (fun i => ∃ j : Nat, j ≤ n ∧ i = .int .i64 j ∧ Hid (idxP k l j)) (fun i => n - (intOf i).toNat)
  case atStart => exact ⟨0, Nat.zero_le _, rfl, fun j hj => by omega⟩
  case round =>
    obtain ⟨j, hj, rfl, HA⟩ := hrel
    by_cases hlt : j < n
    · obtain ⟨b, o, rfl, x0⟩ := HC.out j hlt
      have HX : Hid (idxAt k l j ↔ 0 ≤ nth l j ∧ nth l j < k ∧ ¬ nth l j ∈ l.take j) := Iff.rfl
      have HCo := Lib.hid (containsInt (.slice (some ⟨b, o, none⟩) j cap) (l.take j) (nth l j) w (take_slice HV.out (by omega)) (by rw [List.length_take]; omega))
      by_cases c1 : nth l j < 0
      · have HF : Hid (decide (idxP k l n) = false) := idxP_false hlt (fun g => by have := (HX.out.1 g).1; omega)
        generalize nth l j = X at *
        go_wp2_with fail
        go_ret
        exact ⟨ret_bool HF.out.symm, rfl⟩
      · by_cases c2 : nth l j < (k : Int)
        · by_cases c3 : decide (nth l j ∈ l.take j) = true
          · rw [c3] at HCo
            have HF : Hid (decide (idxP k l n) = false) := idxP_false hlt (fun g => (HX.out.1 g).2.2 (of_decide_eq_true c3))
            clear c3
            generalize nth l j = X at *
            go_wp2_with (go_at_call 25; ((with_reducible refine HCo.out.mono ?_); rintro e w' ⟨rfl, rfl⟩))
            go_ret
            exact ⟨ret_bool HF.out.symm, rfl⟩
          · have c4 : decide (nth l j ∈ l.take j) = false := by simpa using c3
            rw [c4] at HCo
            have HA2 : Hid (idxP k l (j + 1)) := fun i hi => by
              by_cases e : i = j
              · subst e; exact HX.out.2 ⟨by omega, c2, of_decide_eq_false c4⟩
              · exact HA.out i (by omega)
            clear c3 c4
            generalize nth l j = X at *
            go_wp2_with (go_at_call 25; ((with_reducible refine HCo.out.mono ?_); rintro e w' ⟨rfl, rfl⟩))
            go_round
            case rel => exact ⟨j + 1, by omega, by go_num, HA2.out⟩
            case measure => simp [intOf]; omega
        · have HF : Hid (decide (idxP k l n) = false) := idxP_false hlt (fun g => c2 (HX.out.1 g).2.1)
          generalize nth l j = X at *
          go_wp2_with fail
          go_ret
          exact ⟨ret_bool HF.out.symm, rfl⟩
    · have hkn : j = n := by omega
      subst hkn
      have HF : Hid (decide (idxP k l j) = true) := decide_eq_true HA.out
      go_wp2_with fail
      go_ret
      exact ⟨ret_bool HF.out.symm, rfl⟩

theorem fallsN_succ (l : List Int) (i : Nat) : fallsN l (i + 1) = fallsN l i + (if nth l ((i + 1) % l.length) < nth l i then 1 else 0) := rfl
theorem tmod_nat (a b : Nat) (_hb : 0 < b) : Int.tmod ((a : Int) + 1) (b : Int) = (((a + 1) % b : Nat) : Int) := by
  rw [show ((a : Int) + 1) = ((a + 1 : Nat) : Int) by omega]
  exact Int.ofNat_tmod _ _ |>.symm
theorem revC (base g n c : Nat) (l : List Int) (w : World) (h : w.ownsRow base 3 1 (.slice (some ⟨g, 0, none⟩) n c) n (icells l)) (hm : n ≤ 1000) :
    Calls Try.prog 22 #[.slice (some ⟨g, 0, none⟩) n c] w fun e w' => e = .returned (.tuple #[]) ∧ w'.ownsRow base 3 1 (.slice (some ⟨g, 0, none⟩) n c) n (icells l.reverse) ∧ ∀ w0, Ge w0 w → w0.heap.size ≤ g → Ge w0 w' := by
  have hl : l.length = n := by have := h.1; rw [icells_length] at this; omega
  have hcell : ∀ k, k < l.length → w.cell? ⟨g, 0 + k, none⟩ = some (.int .i64 (l.getD k 0)) := fun k hk => by
    rw [Nat.zero_add, h.cellAt k (by omega)]
    simp [icells, List.getD, hk]
  have hfr : ∀ k, k < n → w.frozen? ⟨g, 0 + k, none⟩ = false := fun k _ => by rw [Nat.zero_add]; exact h.frozenAt k
  have key := Try.slices_Reverse_int_cells g 0 n c l w (by omega) (by omega) hcell hfr
  refine key.mono ?_
  rintro e w' ⟨he, q, hw⟩
  have e3 : l.take n = l := by rw [← hl]; exact List.take_length
  rw [e3] at hw
  have hown : (w.drewN q).ownsRow base 3 1 (.slice (some ⟨g, 0, none⟩) n c) n (icells l) := Ge.owns ((Ge.refl w).drewN q) h
  have h2 := own_setCells l.reverse 0 (w.drewN q) l hown hl (by simp [hl])
  rw [← hw] at h2
  exact ⟨he, by simpa using h2.1, fun w0 hg0 hgs => (hg0.drewN q).grown h2.2 (fun k hk => by simp at hk; omega)⟩
/-- 'append(s, y...)' -/
theorem ap_adds {w : World} {ops : Array Oper} {rest : List Oper} {o : Oper} {a : Act} {Q : Exit → Act → World → Prop} (hgd : o.guard = none) (s x : Operand)
    (ho : o.op = .call { callee := .builtin .append, args := #[s, x], argTypes := #[23, 23] })
    (base : Nat) (v : Value) (n : Nat) (l : List Int) (hs : a.eval s = v) (hown : w.ownsRow base 3 1 v n (icells l)) (hb : base ≤ w.heap.size)
    (ad : Addr) (m c : Nat) (y : List Int) (hx : a.eval x = .slice (some ad) m c) (hy : SlI w (.slice (some ad) m c) y) (hn : n + m < 1000)
    (h : ∀ v' w', w'.ownsRow base 3 1 v' (n + m) (icells (l ++ y)) → Mine w w' v → wpList Try.prog ops Q rest (a.put o.dst v') w') : wpList Try.prog ops Q (o :: rest) a w :=
  wpList_plain hgd fun _ hK => ap_intsK s x ho base v n l hs hown hb ad m c y hx hy hn (fun v' w' h1 h2 => hK _ _ (h v' w' h1 h2))
theorem rem_nat (a b : Nat) (hb : 0 < b) : ((a : Int) + 1).tmod (b : Int) = (((a + 1) % b : Nat) : Int) := tmod_nat a b hb
theorem circB_idx {k n : Nat} {p q : List Int} (hl : (p ++ q.reverse).length = n) (h : decide (idxP k (p ++ q.reverse) n) = false) : circB k p q = false := by
  unfold circB; rw [hl, h]; rfl
theorem circB_falls {k n : Nat} {p q : List Int} (hl : (p ++ q.reverse).length = n) (h : decide (idxP k (p ++ q.reverse) n) = true) : circB k p q = (((fallsN (p ++ q.reverse) n : Nat) : Int) == 1) := by
  unfold circB; rw [hl, h, Bool.true_and]
  by_cases e : fallsN (p ++ q.reverse) n = 1
  · rw [e]; rfl
  · rw [decide_eq_false e]
    symm
    simpa using fun h => e (by omega)

set_option maxHeartbeats 1600000 in
theorem iIsCircular (k m : Nat) (p q : List Int) (ap aq : Addr) (cp cq : Nat) (w : World) (hk1 : 1 ≤ k) (hk : k ≤ 5) (hp : SlI w (.slice (some ap) m cp) p) (hq : SlI w (.slice (some aq) m cq) q) (hlp : p.length = m) (hlq : q.length = m) (hm1 : 1 ≤ m) (hm : m ≤ 2) :
    Calls Try.prog 15 #[.int .i64 (k : Int), .slice (some ap) m cp, .slice (some aq) m cq] w fun e w' => e = .returned (.bool (circB k p q)) ∧ Ge w w' := by
  obtain ⟨N, hN⟩ : ∃ N, m + m = N := ⟨_, rfl⟩
  have hR : (p ++ q.reverse).length = N := by simp [hlp, hlq, hN]
  have HIx := Lib.hid (fun v w' (h : SlI w' v (p ++ q.reverse)) hc => iIndicesOk v (p ++ q.reverse) k N w' h hR (by omega) hc)
  have HP := Lib.hid hp
  have HQ := Lib.hid hq
  have HLp := Lib.hid hlp
  have HLq := Lib.hid hlq
  have HR := Lib.hid hR
  have HFs := Lib.hid (fun i => fallsN_succ (p ++ q.reverse) i)
  rw [hR] at HFs
  have HBi := Lib.hid (fun h => circB_idx (k := k) hR h)
  have HBf := Lib.hid (fun h => circB_falls (k := k) hR h)
  clear hp hq hlp hlq hR
  generalize circB k p q = CB at *
  generalize hRR : p ++ q.reverse = R at *
  replace hRR := Lib.hid hRR
  by_cases c : decide (idxP k R N) = true
  · have HB := Lib.hid (HBf.out c)
    rw [c] at HIx
    clear c HBi HBf
    go_enter Try.func15, Try.ntmps15
    go_wp2_with (first
      | (go_at_call 19; ((with_reducible refine (cloneA _ _ _ q _ HQ.out HLq.out (by omega)).mono ?_); rintro e w1 ⟨g1, c1, rfl, o1, G1⟩); have h1 := (o1.lt g1 rfl).1; clear HQ)
      | (go_at_call 22; ((with_reducible refine (revC _ _ _ _ q _ o1 (by omega)).mono ?_); rintro e w2 ⟨rfl, o2, G2⟩); replace G2 := Lib.hid (G2 _ G1 h1); have O2 := Lib.hid o2; clear G1 o1 o2)
      | (go_at_call 19; ((with_reducible refine (cloneA _ _ _ p _ (SlI.ge HP.out G2.out) HLp.out (by omega)).mono ?_); rintro e w3 ⟨g3, c3, rfl, o3, G3⟩))
      | (at_builtin; refine ap_adds rfl _ _ rfl w2.heap.size _ _ p rfl o3 G3.size _ _ _ q.reverse rfl (SlI.of_owns (base := w.heap.size) (e := 3) (by rw [List.length_reverse, HLq.out]; exact G3.owns O2.out)) (by omega) ?_; intro v' w4 own4 hm4; rw [hN, hRR.out] at own4; obtain ⟨g4, c4, rfl⟩ := Go.Joins.ownsRow_form own4 (by omega); have G4 := Lib.hid (G2.out.trans (G3.mine o3 (Nat.le_refl _) hm4)); have O4 := Lib.hid own4; clear own4 hm4 o3 G3)
      | ((go_at_call 23; ((with_reducible refine (HIx.out _ _ (SlI.of_owns (by rw [HR.out]; exact O4.out)) (owns_cap O4.out)).mono ?_); rintro e w5 ⟨rfl, rfl⟩))))
    have hc4 := owns_cap O4.out _ _ _ rfl
    go_loopw [8, 43] (fun f i wr => ∃ j : Nat, j ≤ N ∧ i = .int .i64 j ∧ f = .int .i64 (fallsN R j : Nat) ∧ wr = w4) (fun _ i _ => N - (intOf i).toNat)
    case atStart => exact ⟨0, Nat.zero_le _, rfl, rfl, rfl⟩
    case round =>
      obtain ⟨j, hj, rfl, rfl, rfl⟩ := hrel
      have hfl := fallsN_le R j
      by_cases hlt : j < N
      · have HF := Lib.hid (HFs.out j)
        generalize fallsN R j = F at *
        have x0 := own_nth O4.out hlt
        have hjj : (j + 1) % N < N := Nat.mod_lt _ (by omega)
        have x1 := own_nth O4.out hjj
        have tr := rem_nat j N (by omega)
        generalize (j + 1) % N = J at *
        generalize nth R j = X at *
        generalize nth R J = Y at *
        have tz : (N : Int) ≠ 0 := by omega
        by_cases c2 : Y < X
        · have e1 : fallsN R (j + 1) = F + 1 := by rw [HF.out, if_pos c2]
          go_wp2_with fail
          go_roundw
          case rel => exact ⟨j + 1, by omega, by go_num, by rw [e1]; go_num, by trivial⟩
          case measure => simp [intOf]; omega
        · have e1 : fallsN R (j + 1) = F := by rw [HF.out, if_neg c2, Nat.add_zero]
          go_wp2_with fail
          go_roundw
          case rel => exact ⟨j + 1, by omega, by go_num, by rw [e1], by trivial⟩
          case measure => simp [intOf]; omega
      · have hjn : j = N := by omega
        subst hjn
        generalize fallsN R j = F at *
        go_wp2_with fail
        go_ret
        exact ⟨ret_bool HB.out.symm, G4.out⟩
  · have c' : decide (idxP k R N) = false := by simpa using c
    have HB := Lib.hid (HBi.out c')
    rw [c'] at HIx
    rw [HB.out]
    clear c c' HBi HBf
    go_enter Try.func15, Try.ntmps15
    go_wp2_with (first
      | (go_at_call 19; ((with_reducible refine (cloneA _ _ _ q _ HQ.out HLq.out (by omega)).mono ?_); rintro e w1 ⟨g1, c1, rfl, o1, G1⟩); have h1 := (o1.lt g1 rfl).1; clear HQ)
      | (go_at_call 22; ((with_reducible refine (revC _ _ _ _ q _ o1 (by omega)).mono ?_); rintro e w2 ⟨rfl, o2, G2⟩); replace G2 := Lib.hid (G2 _ G1 h1); have O2 := Lib.hid o2; clear G1 o1 o2)
      | (go_at_call 19; ((with_reducible refine (cloneA _ _ _ p _ (SlI.ge HP.out G2.out) HLp.out (by omega)).mono ?_); rintro e w3 ⟨g3, c3, rfl, o3, G3⟩))
      | (at_builtin; refine ap_adds rfl _ _ rfl w2.heap.size _ _ p rfl o3 G3.size _ _ _ q.reverse rfl (SlI.of_owns (base := w.heap.size) (e := 3) (by rw [List.length_reverse, HLq.out]; exact G3.owns O2.out)) (by omega) ?_; intro v' w4 own4 hm4; rw [hN, hRR.out] at own4; obtain ⟨g4, c4, rfl⟩ := Go.Joins.ownsRow_form own4 (by omega); have G4 := Lib.hid (G2.out.trans (G3.mine o3 (Nat.le_refl _) hm4)); have O4 := Lib.hid own4; clear own4 hm4 o3 G3)
      | ((go_at_call 23; ((with_reducible refine (HIx.out _ _ (SlI.of_owns (by rw [HR.out]; exact O4.out)) (owns_cap O4.out)).mono ?_); rintro e w5 ⟨rfl, rfl⟩))))
    go_ret
    exact ⟨rfl, G4.out⟩

theorem drop_rev (q : List Int) (r : Nat) (h : r < q.length) : (q.drop r).reverse = (q.drop (r + 1)).reverse ++ [nth q r] := by
  rw [nth_eq q r h, List.drop_eq_getElem_cons h, List.reverse_cons]
end Go.Proofs.Ytjdhjoifiebpeaa
