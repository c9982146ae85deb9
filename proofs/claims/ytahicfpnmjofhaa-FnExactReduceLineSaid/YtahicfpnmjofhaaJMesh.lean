/- l06Reduced, l07Mesh, DropNode of the reference. No condition. l07Mesh of the reference. No condition. DropNode of the reference. No condition. -/
import Derived.Test.YtahicfpnmjofhaaJStar
import Derived.Test.YtahicfpnmjofhaaWNetOkS
import Derived.Test.YtahicfpnmjofhaaJPl
import Derived.Test.YtahicfpnmjofhaaWIn
namespace Go.Proofs.Ytahicfpnmjofhaa
set_option maxRecDepth 100000
open Go.ChangeShapes Go.WideShapes Go.ChangeAt Go.RowKit Go.Joins

theorem ResD.setO {w : World} {R B i : Nat} {x : Value} (h : ResD w R) (hne : B ≠ R) : ResD (w.setCell ⟨B, i, none⟩ x) R := fun j hj => by
  obtain ⟨u, h1, h2⟩ := h j hj
  exact ⟨u, cell_set2 (fun e => by have := congrArg Addr.block e; simp at this; omega) h1, froz_set h2⟩
theorem box_froz (w : World) (n e S : Int) (v : Value) : ((w.alloc (.cells #[.int .i64 n, .int .i64 e, .int .i64 S, v] 29)).alloc (.cells #[.int .i64 0, .int .i64 0, .int .i64 0, .slice none 0 0] 29)).frozen? ⟨w.heap.size, 3, none⟩ = false :=
  Ge.keepF (Ge.alloc (Ge.refl _) _) (cell_new rfl rfl) (froz_new (v := v) rfl rfl)

set_option maxHeartbeats 3200000 in
theorem sL06Reduced (N : Nat) (E S : Int) (v : Value) (L : List Wr) (w : World) (hs : SlF w v L.length 3 (flatW L)) (hl : L.length ≤ 1000) (hS : 0 < S) (hS2 : S ≤ 1000000000) (hb : ∀ e ∈ L, 0 < e.w ∧ e.w ≤ 1000000000) :
    Calls Try.prog 45 #[.agg #[.int .i64 (N : Int), .int .i64 E, .int .i64 S, v]] w (GivesO w (netB N E (S.tdiv (gcdF S L)) L.length (flatW (cutW (gcdF S L) L))) N E (S.tdiv (gcdF S L)) (cutW (gcdF S L) L)) := by
  have HV := Lib.hid hs
  have HDr := Lib.hid (fun w' (g : Ge w w') => sL03Drop v L w' (HV.out.ge g) hl (fun e he => by have := hb e he; omega))
  have HCa := Lib.hid (fun u w' (h : SlF w' u L.length 3 (flatW L)) => sL03Canon N E S u L w' h hl hS hS2 hb)
  have HNo := Lib.hid (fun u w' (h : SlF w' u L.length 3 (flatW (cutW (gcdF S L) L))) => sNetOk N E (S.tdiv (gcdF S L)) u L.length (flatW (cutW (gcdF S L) L)) w' h (by omega))
  obtain ⟨NB0, R0⟩ := in_res w N E S v
  have F0 := box_froz w N E S v
  have HCl : Hid ((cutW (gcdF S L) L).length = L.length) := cutW_length _ _
  obtain ⟨p, cap, rfl, _⟩ := hs.open
  generalize S.tdiv (gcdF S L) = SS at *
  generalize cutW (gcdF S L) L = LL at *
  generalize L.length = m at *
  clear hs hb
  have key : ∀ b : Bool, (∀ u w', SlF w' u m 3 (flatW LL) → Calls Try.prog 18 #[.agg #[.int .i64 (N : Int), .int .i64 E, .int .i64 SS, u]] w' fun e w'' => e = .returned (.bool b) ∧ Ge w' w'') →
      Calls Try.prog 45 #[.agg #[.int .i64 (N : Int), .int .i64 E, .int .i64 S, .slice p m cap]] w (GivesO w b N E SS LL) := by
    intro b hN
    have HN := Lib.hid hN
    clear hN HNo
    cases b with
    | true =>
      go_enter Try.func45, Try.ntmps45
      go_wp2_with (first
        | ((go_at_call 57; ((with_reducible refine (HDr.out _ (by (repeat (first | with_reducible exact Ge.refl _ | assumption | with_reducible refine Ge.drew ?_ | with_reducible refine Ge.drewN ?_ _ | with_reducible refine Ge.alloc ?_ _ | (with_reducible refine Ge.setCell ?_ (by first | (simp; done) | omega | (simp; omega)) _) | with_reducible refine Ge.trans ?_ (by assumption))))).mono ?_); rintro r w1 ⟨u1, rfl, o1, g1⟩)); obtain ⟨b0, b1, b2, b3⟩ := NB0.ge g1; have f1 := Ge.keepF g1 NB0.2.2.2 F0; have R1 := R0.ge g1; have gw1 : Ge w w1 := (by (repeat (first | with_reducible exact Ge.refl _ | assumption | with_reducible refine Ge.drew ?_ | with_reducible refine Ge.drewN ?_ _ | with_reducible refine Ge.alloc ?_ _ | (with_reducible refine Ge.setCell ?_ (by first | (simp; done) | omega | (simp; omega)) _) | with_reducible refine Ge.trans ?_ (by assumption)))); have HO1 := Lib.hid o1; obtain ⟨px, cx, rfl⟩ := owns_form o1; clear o1; have z1 := g1.size; (simp at z1); have R1s := R1.setO (B := w.heap.size) (i := 3) (x := .slice px m cx) (by omega); have gs1 := Ge.setCell gw1 (p := ⟨w.heap.size, 3, none⟩) (Nat.le_refl _) (.slice px m cx))
        | ((go_at_call 58; ((with_reducible refine (HCa.out _ _ (SlF.of_owns (own_setD HO1.out (by simp; omega)))).mono ?_); rintro r w2 ⟨u2, rfl, o2, g2⟩)); have HO2 := Lib.hid o2; obtain ⟨py, cy, rfl⟩ := owns_form o2; clear o2; have R2 := R1s.ge g2; have gw2 := Ge.trans gs1 g2; have z2 := g2.size; (simp at z2))
        | ((go_at_call 18; ((with_reducible refine (HN.out _ _ (SlF.of_owns (Ge.owns (Ge.alloc (Ge.refl _) _) HO2.out))).mono ?_); rintro r w4 ⟨rfl, g4⟩)); have G4 := Ge.trans (Ge.alloc (Ge.refl w2) _) g4; have e0 := g4.keep (cell_new (i := 0) rfl rfl); have e1 := g4.keep (cell_new (i := 1) rfl rfl); have e2 := g4.keep (cell_new (i := 2) rfl rfl); have e3 := g4.keep (cell_new (i := 3) rfl rfl); (simp at e0 e1 e2 e3); have gw4 := Ge.trans gw2 G4; have R4 := R2.ge G4; obtain ⟨r0, p0, f0⟩ := R4 0 (by omega); obtain ⟨r1, p1, f1⟩ := R4 1 (by omega); obtain ⟨r2, p2, f2⟩ := R4 2 (by omega); obtain ⟨r3, p3, f3⟩ := R4 3 (by omega); have HO4 := Lib.hid (G4.owns HO2.out)))
      exact bodyPost_ret (v := .tuple #[.agg #[.int .i64 (N : Int), .int .i64 E, .int .i64 SS, .slice py m cy], .bool true]) (by simp [results, Try.results45, go_sem, *]) rfl (GivesO.t rfl (by rw [HCl.out]; refine owns_mono (base := w1.heap.size) ?_ (by omega); have h4 := HO4.out; simp only [World.size_setCell] at h4; repeat (first | exact h4 | refine own_setD ?_ (by omega))) (by (repeat (first | with_reducible exact Ge.refl _ | assumption | with_reducible refine Ge.drew ?_ | with_reducible refine Ge.drewN ?_ _ | with_reducible refine Ge.alloc ?_ _ | (with_reducible refine Ge.setCell ?_ (by first | (simp; done) | omega | (simp; omega)) _) | with_reducible refine Ge.trans ?_ (by assumption)))))
    | false =>
      go_enter Try.func45, Try.ntmps45
      go_wp2_with (first
        | ((go_at_call 57; ((with_reducible refine (HDr.out _ (by (repeat (first | with_reducible exact Ge.refl _ | assumption | with_reducible refine Ge.drew ?_ | with_reducible refine Ge.drewN ?_ _ | with_reducible refine Ge.alloc ?_ _ | (with_reducible refine Ge.setCell ?_ (by first | (simp; done) | omega | (simp; omega)) _) | with_reducible refine Ge.trans ?_ (by assumption))))).mono ?_); rintro r w1 ⟨u1, rfl, o1, g1⟩)); obtain ⟨b0, b1, b2, b3⟩ := NB0.ge g1; have f1 := Ge.keepF g1 NB0.2.2.2 F0; have R1 := R0.ge g1; have gw1 : Ge w w1 := (by (repeat (first | with_reducible exact Ge.refl _ | assumption | with_reducible refine Ge.drew ?_ | with_reducible refine Ge.drewN ?_ _ | with_reducible refine Ge.alloc ?_ _ | (with_reducible refine Ge.setCell ?_ (by first | (simp; done) | omega | (simp; omega)) _) | with_reducible refine Ge.trans ?_ (by assumption)))); have HO1 := Lib.hid o1; obtain ⟨px, cx, rfl⟩ := owns_form o1; clear o1; have z1 := g1.size; (simp at z1); have R1s := R1.setO (B := w.heap.size) (i := 3) (x := .slice px m cx) (by omega); have gs1 := Ge.setCell gw1 (p := ⟨w.heap.size, 3, none⟩) (Nat.le_refl _) (.slice px m cx))
        | ((go_at_call 58; ((with_reducible refine (HCa.out _ _ (SlF.of_owns (own_setD HO1.out (by simp; omega)))).mono ?_); rintro r w2 ⟨u2, rfl, o2, g2⟩)); have HO2 := Lib.hid o2; obtain ⟨py, cy, rfl⟩ := owns_form o2; clear o2; have R2 := R1s.ge g2; have gw2 := Ge.trans gs1 g2; have z2 := g2.size; (simp at z2))
        | ((go_at_call 18; ((with_reducible refine (HN.out _ _ (SlF.of_owns (Ge.owns (Ge.alloc (Ge.refl _) _) HO2.out))).mono ?_); rintro r w4 ⟨rfl, g4⟩)); have G4 := Ge.trans (Ge.alloc (Ge.refl w2) _) g4; have e0 := g4.keep (cell_new (i := 0) rfl rfl); have e1 := g4.keep (cell_new (i := 1) rfl rfl); have e2 := g4.keep (cell_new (i := 2) rfl rfl); have e3 := g4.keep (cell_new (i := 3) rfl rfl); (simp at e0 e1 e2 e3); have gw4 := Ge.trans gw2 G4; have R4 := R2.ge G4; obtain ⟨r0, p0, f0⟩ := R4 0 (by omega); obtain ⟨r1, p1, f1⟩ := R4 1 (by omega); obtain ⟨r2, p2, f2⟩ := R4 2 (by omega); obtain ⟨r3, p3, f3⟩ := R4 3 (by omega); have HO4 := Lib.hid (G4.owns HO2.out)))
      exact bodyPost_ret (v := .tuple #[.agg #[.int .i64 0, .int .i64 0, .int .i64 0, .slice none 0 0], .bool false]) (by simp [results, Try.results45, go_sem, *]) rfl (GivesO.f rfl (by (repeat (first | with_reducible exact Ge.refl _ | assumption | with_reducible refine Ge.drew ?_ | with_reducible refine Ge.drewN ?_ _ | with_reducible refine Ge.alloc ?_ _ | (with_reducible refine Ge.setCell ?_ (by first | (simp; done) | omega | (simp; omega)) _) | with_reducible refine Ge.trans ?_ (by assumption)))))
  exact key _ HNo.out
end Go.Proofs.Ytahicfpnmjofhaa

namespace Go.Proofs.Ytahicfpnmjofhaa
set_option maxRecDepth 100000
open Go.ChangeShapes Go.WideShapes Go.ChangeAt Go.RowKit Go.Joins

/-- What the walk knows of the wires that are put: P behind k wires, I behind j wires of neighbor t, Q before neighbor t. -/
structure Msh (n v m c : Nat) (W : Int) (L : List Wr) (P Q : Nat → List Wr) (I : Nat → Nat → List Wr) (d : Nat → Nat) (B : Nat → Int) (M : List Wr) : Prop where
  p0 : P 0 = []
  ps : ∀ k, k < m → ((nthW L k).a = v ∨ (nthW L k).b = v) → P (k + 1) = P k
  pn : ∀ k, k < m → ¬ ((nthW L k).a = v ∨ (nthW L k).b = v) → P (k + 1) = putW (P k) (outI v (nthW L k).a) (outI v (nthW L k).b) ((nthW L k).w * W) true
  pb : ∀ k, k ≤ m → Put n (P k) ∧ (P k).length ≤ 1000
  eb : ∀ k, k < m → (0 ≤ (nthW L k).a ∧ (nthW L k).a < n) ∧ (0 ≤ (nthW L k).b ∧ (nthW L k).b < n) ∧ (0 < (nthW L k).w ∧ (nthW L k).w ≤ 200)
  q0 : Q 0 = P m
  i0 : ∀ t, I t 0 = Q t
  is : ∀ t j, t < c → j < c - (t + 1) → I t (j + 1) = putW (I t j) (outI v (d t)) (outI v (d (t + 1 + j))) (B (d t) * B (d (t + 1 + j))) true
  il : ∀ t, t < c → I t (c - (t + 1)) = Q (t + 1)
  ib : ∀ t j, t < c → j ≤ c - (t + 1) → Put n (I t j) ∧ (I t j).length ≤ 1000
  db : ∀ t, t < c → d t < n
  bb : ∀ x, 0 ≤ B x ∧ B x ≤ 200
  qc : Q c = M
theorem mshOf {n v : Nat} {L : List Wr} (hL : Ord n L) (hw : ∀ e ∈ L, e.w ≤ 200) (hl : L.length ≤ 10) (hn : n ≤ 5) (hv : v < n) (hs : 0 < wat (flatW L) v L.length) (hs2 : wat (flatW L) v L.length ≤ 2000) :
    ∃ P Q I, Msh n v L.length (nearL n L v).length (wat (flatW L) v L.length) L P Q I (nAt (nearL n L v)) (wbL L v) (redM n L v) := by
  have hc : (nearL n L v).length ≤ 5 := by
    have := List.length_filter_le (fun x => decide (0 < wbL L v x)) (List.range n)
    unfold nearL
    simp at this
    omega
  refine ⟨firstP v (wat (flatW L) v L.length) L, outP v (wbL L v) (firstP v (wat (flatW L) v L.length) L L.length) (nearL n L v), fun t j => innP v (wbL L v) (outP v (wbL L v) (firstP v (wat (flatW L) v L.length) L L.length) (nearL n L v) t) (nAt (nearL n L v) t) ((nearL n L v).drop (t + 1)) j, rfl, ?_, ?_, ?_, ?_, rfl, fun _ => rfl, ?_, ?_, ?_, ?_, ?_, mesh_tab hL hv hs⟩
  · intro k _ h
    simp only [firstP, if_pos h]
  · intro k _ h
    simp only [firstP, if_neg h]
  · intro k hk
    exact ⟨(first_bd hL hw hv hs hs2 hk).1, by have := firstP_len v (wat (flatW L) v L.length) L k; omega⟩
  · intro k hk
    have hm : nthW L k ∈ L := by rw [nthW_eq L k hk]; exact List.getElem_mem _
    obtain ⟨a1, a2, a3, a4⟩ := hL.2 _ hm
    have := hw _ hm
    omega
  · intro t j ht hj
    have hn : nAt ((nearL n L v).drop (t + 1)) j = nAt (nearL n L v) (t + 1 + j) := by
      rw [nAt_eq _ j (by rw [List.length_drop]; exact hj), nAt_eq _ (t + 1 + j) (by omega), List.getElem_drop]
    simp only [innP, hn]
  · intro t ht
    simp only [outP, List.length_drop]
  · intro t j ht hj
    refine ⟨inn_bd hL hw hv hs hs2 ht (by rw [List.length_drop]; exact hj), ?_⟩
    have h1 := innP_len v (wbL L v) (outP v (wbL L v) (firstP v (wat (flatW L) v L.length) L L.length) (nearL n L v) t) (nAt (nearL n L v) t) ((nearL n L v).drop (t + 1)) j
    have h2 := outP_len v (wbL L v) (firstP v (wat (flatW L) v L.length) L L.length) (nearL n L v) t
    have h3 := firstP_len v (wat (flatW L) v L.length) L L.length
    have h4 : t * (nearL n L v).length ≤ 5 * 5 := Nat.mul_le_mul (by omega) hc
    show (innP _ _ _ _ _ j).length ≤ 1000
    omega
  · intro t ht
    exact (drop_near ht).1.1
  · intro x
    exact ⟨wbL_nn hL _ _, wbL_le hL hw _ _⟩

theorem cut_nums {t c : Nat} (h : t < c) (hc : c ≤ 2) : t + 1 ≤ c ∧ wrap64 ((t : Int) + 1) = (t : Int) + 1 ∧ ((t : Int) + 1) ≤ (c : Int) ∧ ((c - (t + 1) : Nat) : Int) = (c : Int) - ((t : Int) + 1) ∧ ((t : Int) + 1).toNat = t + 1 :=
  ⟨h, wrI _ (by omega) (by omega), by omega, by omega, by omega⟩

set_option maxHeartbeats 6400000 in
theorem sL07Mesh (n v e c : Nat) (S : Int) (s : Value) (L : List Wr) (w : World) (hs : SlF w s L.length 3 (flatW L)) (hB : netB n e S L.length (flatW L) = true) (hv0 : e ≤ v) (hv : v < n) (hc : (nearX L.length (flatW L) v n).length = c) (c1 : 1 ≤ c) (c2 : c ≤ 2) :
    Calls Try.prog 33 #[.agg #[.int .i64 (n : Int), .int .i64 (e : Int), .int .i64 S, s], .int .i64 (v : Int)] w (GivesO w (redB n e S L v) ((n - 1 : Nat) : Int) e (redS n S L v) (redL n S L v)) := by
  obtain ⟨⟨h1, h5⟩, ⟨e1, e2⟩, ⟨s1, s2⟩, hok, _⟩ := netP_of hB
  have hpos := wat_pos hok hc c1
  have hm : L.length ≤ 10 := prs_len (by omega) hok
  obtain ⟨hOrd, hw2⟩ := ord_of_good hok
  have hwb := wat_bd (v : Int) hok
  have HV := Lib.hid hs
  have HK := Lib.hid hok
  rw [near_nearL hOrd] at hc
  obtain ⟨P, Q, I, hM⟩ := mshOf hOrd hw2 hm (by omega) hv hpos (by omega)
  have HNr := Lib.hid (fun w' (g : Ge w w') => sL07Near n e S s L.length (flatW L) v w' (HV.out.ge g) hB)
  rw [near_nearL hOrd] at HNr
  have HWa := Lib.hid (fun w' (g : Ge w w') => sWeightAt n e S s L.length (flatW L) (v : Int) w' (HV.out.ge g) hm HK.out)
  have HWb : Hid (∀ (x : Nat) w', Ge w w' → Calls Try.prog 41 #[.agg #[.int .i64 (n : Int), .int .i64 (e : Int), .int .i64 S, s], .int .i64 (v : Int), .int .i64 (x : Int)] w' fun r w'' => r = .returned (.int .i64 (wbL L v x)) ∧ Ge w' w'') := fun x w' g => by
    rw [← wbet_wbL hOrd]
    exact sWeightBetween n e S s L.length (flatW L) v x w' (HV.out.ge g) hm HK.out
  have HIx : Hid (∀ (x : Int) w', 0 ≤ x → x < n → Calls Try.prog 44 #[.int .i64 x, .int .i64 (v : Int)] w' fun r w'' => r = .returned (.int .i64 (outI v x)) ∧ w' = w'') := fun x w' hx hx2 => by
    exact sL05IndexO x v w' (by omega) (by omega)
  have HLn : Hid (((nearL n L v).map (fun (i : Nat) => (i : Int))).length = c) := hc
  have HLc : Hid (∀ i, i < c → nth ((nearL n L v).map (fun (i : Nat) => (i : Int))) i = (nAt (nearL n L v) i : Int)) := fun i hi => by
    have hi2 : i < (nearL n L v).length := by rw [List.length_map] at hc; omega
    rw [nth_eq _ i (by rw [hc]; exact hi), nAt_eq _ i hi2]; simp
  have hc' : (nearL n L v).length = c := by rw [List.length_map] at hc; exact hc
  rw [hc'] at hM
  have hSW1 : 0 < S * wat (flatW L) v L.length := Int.mul_pos (by omega) hpos
  have hSW2 : S * wat (flatW L) v L.length ≤ 1000 * 2000 := Int.mul_le_mul s2 (by omega) (by omega) (by omega)
  have HRe := Lib.hid (fun u w' (h : SlF w' u (redM n L v).length 3 (flatW (redM n L v))) (hl : (redM n L v).length ≤ 1000) => sL06Reduced (n - 1) e (S * wat (flatW L) v L.length) u (redM n L v) w' h hl hSW1 (by omega) (redM_bd hOrd hw2 hv hpos (by omega)))
  have hRB : redB n e S L v = netB ((n - 1 : Nat) : Int) e (redS n S L v) (redM n L v).length (flatW (redL n S L v)) := by unfold redB redL; rw [cutW_length]
  rw [hRB]
  unfold redS redL redG
  have hwi := wires_at hs rfl
  obtain ⟨NB0, R0⟩ := in_res w n e S s
  have hmq : Q c = redM n L v := hM.qc
  generalize redM n L v = MM at *
  generalize nAt (nearL n L v) = d at *
  generalize wbL L v = B at *
  generalize (nearL n L v).map (fun (i : Nat) => (i : Int)) = NX at *
  generalize wat (flatW L) (v : Int) L.length = W at *
  generalize netB ((n - 1 : Nat) : Int) e ((S * W).tdiv (gcdF (S * W) MM)) MM.length (flatW (cutW (gcdF (S * W) MM) MM)) = BB at *
  generalize (S * W).tdiv (gcdF (S * W) MM) = SS at *
  generalize cutW (gcdF (S * W) MM) MM = LL at *
  obtain ⟨p, cap, rfl, hcc⟩ := hwi
  have HC := Lib.hid hcc
  generalize L.length = m at *
  have k1 : IntKind.i64.wrap (S * W) = S * W := IntWalk.i64_in _ (by omega)
  have HM := Lib.hid hM
  clear hs hB hok hOrd hw2 hc hc' hRB hcc hM
  have en : ((n - 1 : Nat) : Int) = (n : Int) - 1 := by omega
  rw [HLn.out] at HNr
  rw [en] at HRe
  go_enter Try.func33, Try.ntmps33
  go_wp2_with (first
    | ((go_at_call 32; ((with_reducible refine (HNr.out _ (by (repeat (first | with_reducible exact Ge.refl _ | assumption | with_reducible refine Ge.drew ?_ | with_reducible refine Ge.drewN ?_ _ | with_reducible refine Ge.alloc ?_ _ | (with_reducible refine Ge.setCell ?_ (by first | (simp; done) | omega | (simp; omega)) _) | with_reducible refine Ge.trans ?_ (by assumption))))).mono ?_); rintro r w1 ⟨v1, rfl, o1, g1⟩)); obtain ⟨b0, b1, b2, b3⟩ := NB0.ge g1; have R1 := R0.ge g1; have gw1 : Ge w w1 := (by (repeat (first | with_reducible exact Ge.refl _ | assumption | with_reducible refine Ge.drew ?_ | with_reducible refine Ge.drewN ?_ _ | with_reducible refine Ge.alloc ?_ _ | (with_reducible refine Ge.setCell ?_ (by first | (simp; done) | omega | (simp; omega)) _) | with_reducible refine Ge.trans ?_ (by assumption)))); have z1 := g1.size; (simp at z1); obtain ⟨gn, cn, rfl⟩ := Go.Joins.ownsRow_form o1 c1; have HO1 := Lib.hid o1; clear o1)
    | ((go_at_call 42; ((with_reducible refine (HWa.out _ gw1).mono ?_); rintro r w2 ⟨rfl, g2⟩)); have b0 := g2.keep b0; have b1 := g2.keep b1; have b2 := g2.keep b2; have b3 := g2.keep b3; have R2 := R1.ge g2; have gw2 := Ge.trans gw1 g2; have HO2 := Lib.hid (g2.owns HO1.out); have z2 := g2.size; have zl2 : w.heap.size < w2.heap.size := (by omega)))
  have NA0 := NetAt.start (n := n - 1) (E := (e : Int)) (S := S * W) R2
  rw [en] at NA0
  have NB2 := Lib.hid (⟨b0, b1, b2, b3⟩ : NetIn w2 w.heap.size n e S (.slice p m cap))
  have zr2 : w.heap.size + 1 < w2.heap.size := by omega
  clear b0 b1 b2 b3 R0 R1 R2 NB0 HNr HWa HO1
  go_loopw [34] (fun i wr => ∃ (k : Nat) (u : Value), k ≤ m ∧ i = .int .i64 k ∧ NetAt wr (w.heap.size + 1) w2.heap.size (n - 1) e (S * W) u (P k) ∧ Ge w2 wr) (fun i _ => m - (intOf i).toNat)
  case atStart => exact ⟨0, _, Nat.zero_le _, rfl, by rw [HM.out.p0]; exact NA0, by (repeat (first | with_reducible exact Ge.refl _ | assumption | with_reducible refine Ge.drew ?_ | with_reducible refine Ge.drewN ?_ _ | with_reducible refine Ge.alloc ?_ _ | (with_reducible refine Ge.setCell ?_ (by first | (simp; done) | omega | (simp; omega)) _) | with_reducible refine Ge.trans ?_ (by assumption)))⟩
  case round =>
    clear NA0
    obtain ⟨k, u, hk, rfl, HN, hg⟩ := hrel
    have gw : Ge w wr := Ge.trans gw2 hg
    have HNi := Lib.hid HN
    clear HN
    have a3 := HNi.out.c3
    have zG : w2.heap.size < wr.heap.size := World.block_lt_of_cell? _ _ a3
    by_cases hlt : k < m
    · obtain ⟨b, o, rfl, x0, x1, x2⟩ := HC.out wr gw k hlt
      have hEb := HM.out.eb k hlt
      have HPb := Lib.hid (HM.out.pb k (by omega))
      have HPs := Lib.hid (fun h => HM.out.ps k hlt h)
      have HPn := Lib.hid (fun h => HM.out.pn k hlt h)
      generalize nthW L k = X at *
      by_cases d1 : X.a = v
      · have t1 : (X.a != (v : Int)) = false := by simp [d1]
        have HP1 := Lib.hid (HPs.out (.inl d1))
        clear d1 HPs HPn
        go_wp2_with fail
        go_roundw
        case rel => exact ⟨k + 1, u, by omega, by go_num, by rw [HP1.out]; exact HNi.out.ge (Ge.alloc (Ge.refl _) _), Ge.alloc hg _⟩
        case measure => simp [intOf]; omega
      · have t1 : (X.a != (v : Int)) = true := by simp [d1]
        by_cases d2 : X.b = v
        · have t2 : (X.b != (v : Int)) = false := by simp [d2]
          have HP1 := Lib.hid (HPs.out (.inr d2))
          clear d1 d2 HPs HPn
          go_wp2_with fail
          go_roundw
          case rel => exact ⟨k + 1, u, by omega, by go_num, by rw [HP1.out]; exact HNi.out.ge (Ge.alloc (Ge.refl _) _), Ge.alloc hg _⟩
          case measure => simp [intOf]; omega
        · have t2 : (X.b != (v : Int)) = true := by simp [d2]
          have HP1 := Lib.hid (HPn.out (fun h => by rcases h with h | h; exact d1 h; exact d2 h))
          clear d1 d2 HPs HPn
          have hW1 : 0 ≤ W ∧ W ≤ 2000 := by omega
          have m1 : 0 ≤ X.w * W := Int.mul_nonneg (by omega) hW1.1
          have m2 : X.w * W ≤ 200 * 2000 := Int.mul_le_mul (by omega) hW1.2 hW1.1 (by omega)
          have k2 : IntKind.i64.wrap (X.w * W) = X.w * W := IntWalk.i64_in _ (by omega)
          have HI1 := Lib.hid (fun w' => HIx.out X.a w' (by omega) (by omega))
          have HI2 := Lib.hid (fun w' => HIx.out X.b w' (by omega) (by omega))
          have HPu := Lib.hid (fun u w' (h : SlF w' u (P k).length 3 (flatW (P k))) => sL03Put u (P k) (outI v X.a) (outI v X.b) (X.w * W) true w' h (by have := HPb.out.2; omega) (addS_bd HPb.out.1.1 (B := 1000000) (by omega) HPb.out.1.2 (by omega)))
          rw [← HP1.out] at HPu
          generalize outI v X.a = YA at *
          generalize outI v X.b = YB at *
          have gA : Ge wr (wr.alloc (.cells #[.int .i64 X.a, .int .i64 X.b, .int .i64 X.w] 45)) := Ge.alloc (Ge.refl _) _
          have y0 : (wr.alloc (.cells #[.int .i64 X.a, .int .i64 X.b, .int .i64 X.w] 45)).cell? ⟨wr.heap.size, 0, none⟩ = some (.int .i64 X.a) := cell_new rfl rfl
          have y1 : (wr.alloc (.cells #[.int .i64 X.a, .int .i64 X.b, .int .i64 X.w] 45)).cell? ⟨wr.heap.size, 1, none⟩ = some (.int .i64 X.b) := cell_new rfl rfl
          have y2 : (wr.alloc (.cells #[.int .i64 X.a, .int .i64 X.b, .int .i64 X.w] 45)).cell? ⟨wr.heap.size, 2, none⟩ = some (.int .i64 X.w) := cell_new rfl rfl
          have zA : (wr.alloc (.cells #[.int .i64 X.a, .int .i64 X.b, .int .i64 X.w] 45)).heap.size = wr.heap.size + 1 := by simp
          go_wp2_with fail
          generalize wr.alloc (.cells #[.int .i64 X.a, .int .i64 X.b, .int .i64 X.w] 45) = wA at *
          generalize wr.heap.size = GB at *
          have NAi := Lib.hid ((HNi.out.ge gA).ge (Ge.drew (Ge.refl _)))
          have c3 := NAi.out.c3
          have gD := Ge.trans hg (Ge.trans gA (Ge.drew (Ge.refl _)))
          have y0 := cell_drew y0
          have y1 := cell_drew y1
          have y2 := cell_drew y2
          refine wp_region_head (S := fun w' => w'.cell? ⟨w2.heap.size, 3, none⟩ = some u ∧ w'.cell? ⟨GB, 0, none⟩ = some (.int .i64 X.a) ∧ w'.cell? ⟨GB, 1, none⟩ = some (.int .i64 X.b) ∧ w'.cell? ⟨GB, 2, none⟩ = some (.int .i64 X.w)) 16 (by kernel_rfl) (by kernel_rfl) (⟨c3, y0, y1, y2⟩) (fun hHeld => ?_)
          refine head_take 0 (v := ?_) rfl (by kernel_rfl) (by kernel_rfl) (fun _ _ _ h => h) (by assumption) (yields_if (by rfl) ?_) ?_
          rotate_left
          focus (intro w' hSw; (try dsimp only at hSw); go_simp; (try with_reducible rfl))
          (try simp only [Act.put, List.setIfInBounds_toArray, List.set_cons_zero, List.set_cons_succ])
          refine head_take 1 (v := ?_) rfl (by kernel_rfl) (by kernel_rfl) (fun _ _ _ h => h) (by assumption) (yields_if (by rfl) ?_) ?_
          rotate_left
          focus (intro w' hSw; (try dsimp only at hSw); go_simp; (try with_reducible rfl))
          (try simp only [Act.put, List.setIfInBounds_toArray, List.set_cons_zero, List.set_cons_succ])
          refine head_take 2 (v := ?_) rfl (by kernel_rfl) (by kernel_rfl) (fun _ _ _ h => h) (by assumption) (yields_if (by rfl) ?_) ?_
          rotate_left
          focus (intro w' hSw; (try dsimp only at hSw); go_simp; (try with_reducible rfl))
          (try simp only [Act.put, List.setIfInBounds_toArray, List.set_cons_zero, List.set_cons_succ])
          refine head_take 3 (v := ?_) rfl (by kernel_rfl) (by kernel_rfl) (fun _ _ _ h => h) (by assumption) (yields_if (by rfl) ?_) ?_
          rotate_left
          focus (intro w' hSw; (try dsimp only at hSw); go_simp; (try with_reducible rfl))
          (try simp only [Act.put, List.setIfInBounds_toArray, List.set_cons_zero, List.set_cons_succ])
          refine head_take 4 (v := ?_) rfl (by kernel_rfl) (by kernel_rfl) (fun _ _ _ h => h) (by assumption) (yields_if (by rfl) ?_) ?_
          rotate_left
          focus (intro w' hSw; (try dsimp only at hSw); go_simp; (try with_reducible rfl))
          (try simp only [Act.put, List.setIfInBounds_toArray, List.set_cons_zero, List.set_cons_succ])
          refine head_take 6 (v := ?_) rfl (by kernel_rfl) (by kernel_rfl) (fun _ _ _ h => h) (by assumption) (yields_if (by rfl) ?_) ?_
          rotate_left
          focus (intro w' hSw; (try dsimp only at hSw); go_simp; (try with_reducible rfl))
          (try simp only [Act.put, List.setIfInBounds_toArray, List.set_cons_zero, List.set_cons_succ])
          refine head_take 7 (v := ?_) rfl (by kernel_rfl) (by kernel_rfl) (fun _ _ _ h => h) (by assumption) (yields_if (by rfl) ?_) ?_
          rotate_left
          focus (intro w' hSw; (try dsimp only at hSw); go_simp; (try with_reducible rfl))
          (try simp only [Act.put, List.setIfInBounds_toArray, List.set_cons_zero, List.set_cons_succ])
          refine head_take 8 (v := ?_) rfl (by kernel_rfl) (by kernel_rfl) (fun _ _ _ h => h) (by assumption) (yields_if (by rfl) ?_) ?_
          rotate_left
          focus (intro w' hSw; (try dsimp only at hSw); go_simp; (try with_reducible rfl))
          (try simp only [Act.put, List.setIfInBounds_toArray, List.set_cons_zero, List.set_cons_succ])
          refine head_take 10 (v := ?_) rfl (by kernel_rfl) (by kernel_rfl) (fun _ _ _ h => h) (by assumption) (yields_if (by rfl) ?_) ?_
          rotate_left
          focus (intro w' hSw; (try dsimp only at hSw); go_simp; (try with_reducible rfl))
          (try simp only [Act.put, List.setIfInBounds_toArray, List.set_cons_zero, List.set_cons_succ])
          refine head_take 11 (v := ?_) rfl (by kernel_rfl) (by kernel_rfl) (fun _ _ _ h => h) (by assumption) (yields_if (by rfl) ?_) ?_
          rotate_left
          focus (intro w' hSw; (try dsimp only at hSw); go_simp; (try with_reducible rfl))
          (try simp only [Act.put, List.setIfInBounds_toArray, List.set_cons_zero, List.set_cons_succ])
          refine head_take 12 (v := ?_) rfl (by kernel_rfl) (by kernel_rfl) (fun _ _ _ h => h) (by assumption) (yields_if (by rfl) ?_) ?_
          rotate_left
          focus (intro w' hSw; (try dsimp only at hSw); go_simp; (try with_reducible rfl))
          (try simp only [Act.put, List.setIfInBounds_toArray, List.set_cons_zero, List.set_cons_succ])
          refine head_take 13 (v := ?_) rfl (by kernel_rfl) (by kernel_rfl) (fun _ _ _ h => h) (by assumption) (yields_if (by rfl) ?_) ?_
          rotate_left
          focus (intro w' hSw; (try dsimp only at hSw); go_simp; (try with_reducible rfl))
          (try simp only [Act.put, List.setIfInBounds_toArray, List.set_cons_zero, List.set_cons_succ])
          refine head_one 5 rfl (by kernel_rfl) (fun K hK => ?_)
          go_simp
          (go_at_call 44; ((with_reducible refine (HI1.out _).mono ?_); rintro r w5 ⟨rfl, rfl⟩))
          refine hK.out _ _ ⟨c3, y0, y1, y2⟩ (fun hHeld => ?_)
          clear hK K
          (try simp only [Act.put, List.setIfInBounds_toArray, List.set_cons_zero, List.set_cons_succ])
          refine head_one 9 rfl (by kernel_rfl) (fun K hK => ?_)
          go_simp
          (go_at_call 44; ((with_reducible refine (HI2.out _).mono ?_); rintro r w5 ⟨rfl, rfl⟩))
          refine hK.out _ _ ⟨c3, y0, y1, y2⟩ (fun hHeld => ?_)
          clear hK K
          (try simp only [Act.put, List.setIfInBounds_toArray, List.set_cons_zero, List.set_cons_succ])
          refine head_one 14 rfl (by kernel_rfl) (fun K hK => ?_)
          go_simp
          (go_at_call 43; ((with_reducible refine (HPu.out _ _ (SlF.of_owns NAi.out.own)).mono ?_); rintro r w6 ⟨u6, rfl, own6, g6⟩))
          obtain ⟨p6, c6, rfl⟩ := owns_form own6
          have HN6 := Lib.hid (NAi.out.ge g6)
          have a6 := HN6.out.c3
          have af := HN6.out.f3
          refine hK.out _ _ ⟨a6, g6.keep y0, g6.keep y1, g6.keep y2⟩ (fun hHeld => ?_)
          clear hK K
          (try simp only [Act.put, List.setIfInBounds_toArray, List.set_cons_zero, List.set_cons_succ])
          refine head_take 15 (v := ?_) rfl (by kernel_rfl) (by kernel_rfl) (fun _ _ _ h => h) (by assumption) (yields_if (by rfl) ?_) ?_
          rotate_left
          focus (intro w' hSw; (try dsimp only at hSw); go_simp; (try with_reducible rfl))
          (try simp only [Act.put, List.setIfInBounds_toArray, List.set_cons_zero, List.set_cons_succ])
          refine head_done (by kernel_rfl) ?_
          go_wp2_with fail
          go_roundw
          case rel => exact ⟨k + 1, _, by omega, by go_num, HN6.out.put (by omega) (owns_mono own6 (by simp; omega)), Ge.setCell (Ge.trans gD g6) (Nat.le_refl _) _⟩
          case measure => simp [intOf]; omega
    · have hkm : k = m := by omega
      subst hkm
      have HNq := Lib.hid HNi.out
      rw [← HM.out.q0] at HNq
      have HOr := Lib.hid (hg.owns HO2.out)
      have hcn : c ≤ cn := by
        rcases HOr.out.2 with ⟨h', _⟩ | ⟨g', cap', cur, h', _, _, hnc, _⟩
        · simp at h'
        · simp at h'
          omega
      clear HNi
      go_wp2_with fail
      go_loopw [67] (fun i wr => ∃ (t : Nat) (u : Value), t ≤ c ∧ i = .int .i64 t ∧ NetAt wr (w.heap.size + 1) w2.heap.size (n - 1) e (S * W) u (Q t) ∧ Ge w2 wr) (fun i _ => c - (intOf i).toNat)
      case atStart => exact ⟨0, u, Nat.zero_le _, rfl, HNq.out, hg⟩
      case round =>
        clear HNq hg HOr
        obtain ⟨t, u, ht, rfl, HN, hg⟩ := hrel
        have gw : Ge w wr := Ge.trans gw2 hg
        have HNi := Lib.hid HN
        clear HN
        have a3 := HNi.out.c3
        have zG : w2.heap.size < wr.heap.size := World.block_lt_of_cell? _ _ a3
        have HOw := Lib.hid (hg.owns HO2.out)
        by_cases hlt : t < c
        · have xt := own_nth HOw.out hlt
          rw [HLc.out t hlt] at xt
          go_upto_region 13 with (fail)
          go_cut [75, 76, 77] (fun sl k i wx => ∃ (a : Addr) (q : Nat), sl = .slice (some a) (c - (t + 1)) q ∧ k = .int .i64 ((c - (t + 1) : Nat) : Int) ∧ i = .int .i64 ((0 : Nat) : Int) ∧ wr = wx ∧ Hid (∀ wr', Ge w2 wr' → ∀ j, j < c - (t + 1) → ∃ b o, a = ⟨b, o, none⟩ ∧ wr'.cell? ⟨b, o + j, none⟩ = some (.int .i64 (d (t + 1 + j) : Int))))
          case first =>
            have xn := fun wr' (g : Ge w2 wr') i (hi : i < c) => own_nth (g.owns HO2.out) hi
            have xl := HLc.out
            clear HM HWb HIx HRe hmq
            rcases (show (c = 1 ∧ t = 0) ∨ (c = 2 ∧ t = 0) ∨ (c = 2 ∧ t = 1) by omega) with ⟨rfl, rfl⟩ | ⟨rfl, rfl⟩ | ⟨rfl, rfl⟩
            · clear xn xl
              by_cases hcl : cn = 1
              · have hc1 : (cn = 1) = True := eq_true hcl
                go_wp2_with fail
                go_meet
                exact ⟨_, _, rfl, rfl, rfl, rfl, fun _ _ j hj => absurd hj (by omega)⟩
              · have hc1 : (cn = 1) = False := eq_false hcl
                go_wp2_with fail
                go_meet
                exact ⟨_, _, rfl, rfl, rfl, rfl, fun _ _ j hj => absurd hj (by omega)⟩
            · have hc1 : (cn = 1) = False := eq_false (by omega)
              have x1 : ∀ wr', Ge w2 wr' → wr'.cell? ⟨gn, 1, none⟩ = some (.int .i64 (d 1 : Int)) := fun wr' g => by have := xn wr' g 1 (by omega); rw [xl 1 (by omega)] at this; exact this
              clear xn xl
              go_wp2_with fail
              go_meet
              exact ⟨_, _, rfl, rfl, rfl, rfl, fun wr' g j hj => ⟨gn, 1, rfl, by rw [show j = 0 by omega]; exact x1 wr' g⟩⟩
            · clear xn xl
              by_cases hcl : cn = 2
              · have hc1 : (cn = 2) = True := eq_true hcl
                go_wp2_with fail
                go_meet
                exact ⟨_, _, rfl, rfl, rfl, rfl, fun _ _ j hj => absurd hj (by omega)⟩
              · have hc1 : (cn = 2) = False := eq_false hcl
                go_wp2_with fail
                go_meet
                exact ⟨_, _, rfl, rfl, rfl, rfl, fun _ _ j hj => absurd hj (by omega)⟩
          obtain ⟨ad, qd, rfl, rfl, rfl, rfl, HCd⟩ := hcut
          have HI0 := Lib.hid (HM.out.i0 t)
          have HIl := Lib.hid (HM.out.il t hlt)
          go_wp2_with fail
          go_loopw [77] (fun j' wr => ∃ (j : Nat) (u : Value), j ≤ c - (t + 1) ∧ j' = .int .i64 j ∧ NetAt wr (w.heap.size + 1) w2.heap.size (n - 1) e (S * W) u (I t j) ∧ Ge w2 wr) (fun j _ => (c - (t + 1)) - (intOf j).toNat)
          case atStart => exact ⟨0, u, Nat.zero_le _, rfl, by rw [HI0.out]; exact HNi.out, hg⟩
          case round =>
            clear HNi HI0
            obtain ⟨j, u, hj, rfl, HN, hg⟩ := hrel
            have gw : Ge w wr := Ge.trans gw2 hg
            have HNi := Lib.hid HN
            clear HN
            have a3 := HNi.out.c3
            have zG : w2.heap.size < wr.heap.size := World.block_lt_of_cell? _ _ a3
            by_cases hjt : j < c - (t + 1)
            · obtain ⟨bd, od, rfl, y0⟩ := HCd.out wr hg j hjt
              have hdb1 := HM.out.db t hlt
              have hdb2 := HM.out.db (t + 1 + j) (by omega)
              have hB1 := HM.out.bb (d t)
              have hB2 := HM.out.bb (d (t + 1 + j))
              have HIs := Lib.hid (HM.out.is t j hlt hjt)
              have HIb := Lib.hid (HM.out.ib t j hlt (by omega))
              have HW1 := Lib.hid (fun w' g => HWb.out (d t) w' g)
              have HW2 := Lib.hid (fun w' g => HWb.out (d (t + 1 + j)) w' g)
              have HI1 := Lib.hid (fun w' => HIx.out (d t) w' (by omega) (by omega))
              have HI2 := Lib.hid (fun w' => HIx.out (d (t + 1 + j)) w' (by omega) (by omega))
              have m1 : 0 ≤ B (d t) * B (d (t + 1 + j)) := Int.mul_nonneg hB1.1 hB2.1
              have m2 : B (d t) * B (d (t + 1 + j)) ≤ 200 * 200 := Int.mul_le_mul hB1.2 hB2.2 hB2.1 (by omega)
              have k2 : IntKind.i64.wrap (B (d t) * B (d (t + 1 + j))) = B (d t) * B (d (t + 1 + j)) := IntWalk.i64_in _ (by omega)
              have HPu := Lib.hid (fun u w' (h : SlF w' u (I t j).length 3 (flatW (I t j))) => sL03Put u (I t j) (outI v (d t)) (outI v (d (t + 1 + j))) (B (d t) * B (d (t + 1 + j))) true w' h (by have := HIb.out.2; omega) (addS_bd HIb.out.1.1 (B := 1000000) (by omega) HIb.out.1.2 (by omega)))
              rw [← HIs.out] at HPu
              generalize outI v (d t) = YA at *
              generalize outI v (d (t + 1 + j)) = YB at *
              generalize B (d t) = BA at *
              generalize B (d (t + 1 + j)) = BC at *
              generalize d (t + 1 + j) = dj at *
              generalize d t = dt at *
              have tj : ((j : Int) < ((c - (t + 1) : Nat) : Int)) = True := eq_true (by omega)
              obtain ⟨b0, b1, b2, b3⟩ := NetIn.ge (B := w.heap.size) (n := (n : Int)) (e := (e : Int)) (S := S) (v := .slice p k cap) NB2.out hg
              have NAi := Lib.hid (HNi.out.ge (Ge.drew (Ge.refl _)))
              have c3 := NAi.out.c3
              have b0 := cell_drew b0
              have b1 := cell_drew b1
              have b2 := cell_drew b2
              have b3 := cell_drew b3
              have gD := Ge.drew gw
              go_wp2_with fail
              refine wp_region_head (S := fun w' => w'.cell? ⟨w2.heap.size, 3, none⟩ = some u ∧ w'.cell? ⟨w.heap.size, 0, none⟩ = some (.int .i64 (n : Int)) ∧ w'.cell? ⟨w.heap.size, 1, none⟩ = some (.int .i64 (e : Int)) ∧ w'.cell? ⟨w.heap.size, 2, none⟩ = some (.int .i64 S) ∧ w'.cell? ⟨w.heap.size, 3, none⟩ = some (.slice p k cap)) 19 (by kernel_rfl) (by kernel_rfl) (⟨c3, b0, b1, b2, b3⟩) (fun hHeld => ?_)
              refine head_take 0 (v := ?_) rfl (by kernel_rfl) (by kernel_rfl) (fun _ _ _ h => h) (by assumption) (yields_if (by rfl) ?_) ?_
              rotate_left
              focus (intro w' hSw; (try dsimp only at hSw); go_simp; (try with_reducible rfl))
              (try simp only [Act.put, List.setIfInBounds_toArray, List.set_cons_zero, List.set_cons_succ])
              refine head_take 1 (v := ?_) rfl (by kernel_rfl) (by kernel_rfl) (fun _ _ _ h => h) (by assumption) (yields_if (by rfl) ?_) ?_
              rotate_left
              focus (intro w' hSw; (try dsimp only at hSw); go_simp; (try with_reducible rfl))
              (try simp only [Act.put, List.setIfInBounds_toArray, List.set_cons_zero, List.set_cons_succ])
              refine head_take 2 (v := ?_) rfl (by kernel_rfl) (by kernel_rfl) (fun _ _ _ h => h) (by assumption) (yields_if (by rfl) ?_) ?_
              rotate_left
              focus (intro w' hSw; (try dsimp only at hSw); go_simp; (try with_reducible rfl))
              (try simp only [Act.put, List.setIfInBounds_toArray, List.set_cons_zero, List.set_cons_succ])
              refine head_take 3 (v := ?_) rfl (by kernel_rfl) (by kernel_rfl) (fun _ _ _ h => h) (by assumption) (yields_if (by rfl) ?_) ?_
              rotate_left
              focus (intro w' hSw; (try dsimp only at hSw); go_simp; (try with_reducible rfl))
              (try simp only [Act.put, List.setIfInBounds_toArray, List.set_cons_zero, List.set_cons_succ])
              refine head_take 5 (v := ?_) rfl (by kernel_rfl) (by kernel_rfl) (fun _ _ _ h => h) (by assumption) (yields_if (by rfl) ?_) ?_
              rotate_left
              focus (intro w' hSw; (try dsimp only at hSw); go_simp; (try with_reducible rfl))
              (try simp only [Act.put, List.setIfInBounds_toArray, List.set_cons_zero, List.set_cons_succ])
              refine head_take 6 (v := ?_) rfl (by kernel_rfl) (by kernel_rfl) (fun _ _ _ h => h) (by assumption) (yields_if (by rfl) ?_) ?_
              rotate_left
              focus (intro w' hSw; (try dsimp only at hSw); go_simp; (try with_reducible rfl))
              (try simp only [Act.put, List.setIfInBounds_toArray, List.set_cons_zero, List.set_cons_succ])
              refine head_take 8 (v := ?_) rfl (by kernel_rfl) (by kernel_rfl) (fun _ _ _ h => h) (by assumption) (yields_if (by rfl) ?_) ?_
              rotate_left
              focus (intro w' hSw; (try dsimp only at hSw); go_simp; (try with_reducible rfl))
              (try simp only [Act.put, List.setIfInBounds_toArray, List.set_cons_zero, List.set_cons_succ])
              refine head_take 9 (v := ?_) rfl (by kernel_rfl) (by kernel_rfl) (fun _ _ _ h => h) (by assumption) (yields_if (by rfl) ?_) ?_
              rotate_left
              focus (intro w' hSw; (try dsimp only at hSw); go_simp; (try with_reducible rfl))
              (try simp only [Act.put, List.setIfInBounds_toArray, List.set_cons_zero, List.set_cons_succ])
              refine head_take 10 (v := ?_) rfl (by kernel_rfl) (by kernel_rfl) (fun _ _ _ h => h) (by assumption) (yields_if (by rfl) ?_) ?_
              rotate_left
              focus (intro w' hSw; (try dsimp only at hSw); go_simp; (try with_reducible rfl))
              (try simp only [Act.put, List.setIfInBounds_toArray, List.set_cons_zero, List.set_cons_succ])
              refine head_take 12 (v := ?_) rfl (by kernel_rfl) (by kernel_rfl) (fun _ _ _ h => h) (by assumption) (yields_if (by rfl) ?_) ?_
              rotate_left
              focus (intro w' hSw; (try dsimp only at hSw); go_simp; (try with_reducible rfl))
              (try simp only [Act.put, List.setIfInBounds_toArray, List.set_cons_zero, List.set_cons_succ])
              refine head_take 13 (v := ?_) rfl (by kernel_rfl) (by kernel_rfl) (fun _ _ _ h => h) (by assumption) (yields_if (by rfl) ?_) ?_
              rotate_left
              focus (intro w' hSw; (try dsimp only at hSw); go_simp; (try with_reducible rfl))
              (try simp only [Act.put, List.setIfInBounds_toArray, List.set_cons_zero, List.set_cons_succ])
              refine head_take 14 (v := ?_) rfl (by kernel_rfl) (by kernel_rfl) (fun _ _ _ h => h) (by assumption) (yields_if (by rfl) ?_) ?_
              rotate_left
              focus (intro w' hSw; (try dsimp only at hSw); go_simp; (try with_reducible rfl))
              (try simp only [Act.put, List.setIfInBounds_toArray, List.set_cons_zero, List.set_cons_succ])
              refine head_one 4 rfl (by kernel_rfl) (fun K hK => ?_)
              go_simp
              (go_at_call 44; ((with_reducible refine (HI1.out _).mono ?_); rintro r w5 ⟨rfl, rfl⟩))
              refine hK.out _ _ ⟨c3, b0, b1, b2, b3⟩ (fun hHeld => ?_)
              clear hK K
              (try simp only [Act.put, List.setIfInBounds_toArray, List.set_cons_zero, List.set_cons_succ])
              refine head_one 7 rfl (by kernel_rfl) (fun K hK => ?_)
              go_simp
              (go_at_call 44; ((with_reducible refine (HI2.out _).mono ?_); rintro r w5 ⟨rfl, rfl⟩))
              refine hK.out _ _ ⟨c3, b0, b1, b2, b3⟩ (fun hHeld => ?_)
              clear hK K
              (try simp only [Act.put, List.setIfInBounds_toArray, List.set_cons_zero, List.set_cons_succ])
              refine head_one 11 rfl (by kernel_rfl) (fun K hK => ?_)
              go_simp
              (go_at_call 41; ((with_reducible refine (HW1.out _ gD).mono ?_); rintro r w7 ⟨rfl, g7⟩))
              have c3 := g7.keep c3
              have b0 := g7.keep b0
              have b1 := g7.keep b1
              have b2 := g7.keep b2
              have b3 := g7.keep b3
              refine hK.out _ _ ⟨c3, b0, b1, b2, b3⟩ (fun hHeld => ?_)
              clear hK K
              (try simp only [Act.put, List.setIfInBounds_toArray, List.set_cons_zero, List.set_cons_succ])
              refine head_one 15 rfl (by kernel_rfl) (fun K hK => ?_)
              go_simp
              (go_at_call 41; ((with_reducible refine (HW2.out _ (Ge.trans gD g7)).mono ?_); rintro r w8 ⟨rfl, g8⟩))
              have c3 := g8.keep c3
              have b0 := g8.keep b0
              have b1 := g8.keep b1
              have b2 := g8.keep b2
              have b3 := g8.keep b3
              refine hK.out _ _ ⟨c3, b0, b1, b2, b3⟩ (fun hHeld => ?_)
              clear hK K
              (try simp only [Act.put, List.setIfInBounds_toArray, List.set_cons_zero, List.set_cons_succ])
              refine head_take 16 (v := ?_) rfl (by kernel_rfl) (by kernel_rfl) (fun _ _ _ h => h) (by assumption) (yields_if (by rfl) ?_) ?_
              rotate_left
              focus (intro w' hSw; (try dsimp only at hSw); go_simp; (try with_reducible rfl))
              (try simp only [Act.put, List.setIfInBounds_toArray, List.set_cons_zero, List.set_cons_succ])
              have g78 := Ge.trans g7 g8
              have NA8 := Lib.hid (NAi.out.ge g78)
              refine head_one 17 rfl (by kernel_rfl) (fun K hK => ?_)
              go_simp
              (go_at_call 43; ((with_reducible refine (HPu.out _ _ (SlF.of_owns NA8.out.own)).mono ?_); rintro r w9 ⟨u9, rfl, own9, g9⟩))
              obtain ⟨p9, c9, rfl⟩ := owns_form own9
              have HN9 := Lib.hid (NA8.out.ge g9)
              have a9 := HN9.out.c3
              have af := HN9.out.f3
              have z78 := g78.size
              simp at z78
              refine hK.out _ _ ⟨a9, g9.keep b0, g9.keep b1, g9.keep b2, g9.keep b3⟩ (fun hHeld => ?_)
              clear hK K
              (try simp only [Act.put, List.setIfInBounds_toArray, List.set_cons_zero, List.set_cons_succ])
              refine head_take 18 (v := ?_) rfl (by kernel_rfl) (by kernel_rfl) (fun _ _ _ h => h) (by assumption) (yields_if (by rfl) ?_) ?_
              rotate_left
              focus (intro w' hSw; (try dsimp only at hSw); go_simp; (try with_reducible rfl))
              (try simp only [Act.put, List.setIfInBounds_toArray, List.set_cons_zero, List.set_cons_succ])
              refine head_done (by kernel_rfl) ?_
              go_wp2_with fail
              go_roundw
              case rel => exact ⟨j + 1, _, by omega, by go_num, HN9.out.put (by omega) (owns_mono own9 (by omega)), Ge.setCell (Ge.trans (Ge.drew hg) (Ge.trans g78 g9)) (Nat.le_refl _) _⟩
              case measure => simp [intOf]; omega
            · have hjc : j = c - (t + 1) := by omega
              rw [hjc, HIl.out] at HNi
              have tj : ((j : Int) < ((c - (t + 1) : Nat) : Int)) = False := eq_false (by omega)
              clear hjc
              go_wp2_with fail
              go_roundw
              case rel => exact ⟨t + 1, u, by omega, by go_num, HNi.out, hg⟩
              case measure => simp [intOf]; omega
        · have htc : t = c := by omega
          subst htc
          have HQc := HM.out.qc
          rw [HQc] at HNi
          have hlM := (HM.out.ib (t - 1) (t - (t - 1 + 1)) (by omega) (Nat.le_refl _)).2
          rw [HM.out.il (t - 1) (by omega), show t - 1 + 1 = t by omega, HQc] at hlM
          have a0 := HNi.out.c0
          rw [en] at a0
          have a1 := HNi.out.c1
          have a2 := HNi.out.c2
          have HRR := Lib.hid (fun w' (g : Ge wr w') => HRe.out u w' (SlF.of_owns (g.owns HNi.out.own)) hlM)
          obtain ⟨pu, cu, rfl⟩ := owns_form HNi.out.own
          have R3 := Lib.hid (HNi.out.res)
          clear HQc
          cases BB with
          | true =>
            have HS2 := Lib.hid (fun w' (g : Ge wr w') => (HRR.out w' g).mono (fun r w2 h => GivesO.tt h))
            go_wp2_with ((go_at_call 45; ((with_reducible refine (HS2.out _ (Ge.refl _)).mono ?_); rintro r w4 ⟨u4, rfl, o4, g4⟩)); have HO4 := Lib.hid o4; obtain ⟨px, cx, rfl⟩ := owns_form o4; clear o4; obtain ⟨r0, p0, f0⟩ := R3.out 0 (by omega); obtain ⟨r1, p1, f1⟩ := R3.out 1 (by omega); obtain ⟨r2, p2, f2⟩ := R3.out 2 (by omega); obtain ⟨r3, p3, f3⟩ := R3.out 3 (by omega); have q0 := g4.keep p0; have q1 := g4.keep p1; have q2 := g4.keep p2; have q3 := g4.keep p3; have h0 := g4.keepF p0 f0; have h1 := g4.keepF p1 f1; have h2 := g4.keepF p2 f2; have h3 := g4.keepF p3 f3)
            have hz4 := hg.size
            exact bodyPost_ret (v := .tuple #[.agg #[.int .i64 ((n : Int) - 1), .int .i64 (e : Int), .int .i64 SS, .slice px LL.length cx], .bool true]) (by simp [results, Try.results33, go_sem, *]) rfl (by rw [en]; exact GivesO.t rfl (by refine owns_mono (base := wr.heap.size) ?_ (by omega); repeat (first | exact HO4.out | refine own_setD ?_ (by omega))) (by (repeat (first | with_reducible exact Ge.refl _ | assumption | with_reducible refine Ge.drew ?_ | with_reducible refine Ge.drewN ?_ _ | with_reducible refine Ge.alloc ?_ _ | (with_reducible refine Ge.setCell ?_ (by first | (simp; done) | omega | (simp; omega)) _) | with_reducible refine Ge.trans ?_ (by assumption)))))
          | false =>
            have HS2 := Lib.hid (fun w' (g : Ge wr w') => (HRR.out w' g).mono (fun r w2 h => GivesO.ff h))
            go_wp2_with ((go_at_call 45; ((with_reducible refine (HS2.out _ (Ge.refl _)).mono ?_); rintro r w4 ⟨rfl, g4⟩)); obtain ⟨r0, p0, f0⟩ := R3.out 0 (by omega); obtain ⟨r1, p1, f1⟩ := R3.out 1 (by omega); obtain ⟨r2, p2, f2⟩ := R3.out 2 (by omega); obtain ⟨r3, p3, f3⟩ := R3.out 3 (by omega); have q0 := g4.keep p0; have q1 := g4.keep p1; have q2 := g4.keep p2; have q3 := g4.keep p3; have h0 := g4.keepF p0 f0; have h1 := g4.keepF p1 f1; have h2 := g4.keepF p2 f2; have h3 := g4.keepF p3 f3)
            exact bodyPost_ret (v := .tuple #[.agg #[.int .i64 0, .int .i64 0, .int .i64 0, .slice none 0 0], .bool false]) (by simp [results, Try.results33, go_sem, *]) rfl (GivesO.f rfl (by (repeat (first | with_reducible exact Ge.refl _ | assumption | with_reducible refine Ge.drew ?_ | with_reducible refine Ge.drewN ?_ _ | with_reducible refine Ge.alloc ?_ _ | (with_reducible refine Ge.setCell ?_ (by first | (simp; done) | omega | (simp; omega)) _) | with_reducible refine Ge.trans ?_ (by assumption)))))
end Go.Proofs.Ytahicfpnmjofhaa

namespace Go.Proofs.Ytahicfpnmjofhaa
set_option maxRecDepth 100000
open Go.ChangeShapes Go.WideShapes Go.ChangeAt Go.RowKit Go.Joins

set_option maxHeartbeats 3200000 in
theorem sDropNodeF (n e : Nat) (S v : Int) (s : Value) (m : Nat) (xs : List Int) (L : List Wr) (w : World) (hs : SlF w s m 3 xs) (hB : netB n e S m xs = true) (hv : v = -1) :
    Calls Try.prog 21 #[.agg #[.int .i64 (n : Int), .int .i64 (e : Int), .int .i64 S, s], .int .i64 v] w (GivesO w false ((n - 1 : Nat) : Int) e S L) := by
  obtain ⟨⟨h1, h5⟩, ⟨e1, e2⟩, ⟨s1, s2⟩, hok, _⟩ := netP_of hB
  have hm : m ≤ 10 := prs_len (by omega) hok
  have HV := Lib.hid hs
  obtain ⟨p, cap, rfl, _⟩ := hs.open
  have HNo := Lib.hid (fun w' (g : Ge w w') => sNetOk n e S (.slice p m cap) m xs w' (HV.out.ge g) (by omega))
  rw [hB] at HNo
  obtain ⟨NB0, R0⟩ := in_res w n e S (.slice p m cap)
  have HI := Lib.hid (fun w' => sL01In v e ((n : Int) - 1) w')
  have hin : inB v e ((n : Int) - 1) = false := by subst hv; unfold inB; simp; omega
  rw [hin] at HI
  clear hs hok hB hin hv
  go_enter Try.func21, Try.ntmps21
  go_wp2_with (first
    | ((go_at_call 18; ((with_reducible refine (HNo.out _ (by (repeat (first | with_reducible exact Ge.refl _ | assumption | with_reducible refine Ge.drew ?_ | with_reducible refine Ge.drewN ?_ _ | with_reducible refine Ge.alloc ?_ _ | (with_reducible refine Ge.setCell ?_ (by first | (simp; done) | omega | (simp; omega)) _) | with_reducible refine Ge.trans ?_ (by assumption))))).mono ?_); rintro r w1 ⟨rfl, g1⟩)); have NB1 := NB0.ge g1; have R1 := R0.ge g1; have gw1 : Ge w w1 := (by (repeat (first | with_reducible exact Ge.refl _ | assumption | with_reducible refine Ge.drew ?_ | with_reducible refine Ge.drewN ?_ _ | with_reducible refine Ge.alloc ?_ _ | (with_reducible refine Ge.setCell ?_ (by first | (simp; done) | omega | (simp; omega)) _) | with_reducible refine Ge.trans ?_ (by assumption)))); obtain ⟨b0, b1, b2, b3⟩ := NB1; obtain ⟨r0, p0, f0⟩ := R1 0 (by omega); obtain ⟨r1, p1, f1⟩ := R1 1 (by omega); obtain ⟨r2, p2, f2⟩ := R1 2 (by omega); obtain ⟨r3, p3, f3⟩ := R1 3 (by omega))
    | (go_at_call 29; ((with_reducible refine (HI.out _).mono ?_); rintro r w2 ⟨rfl, rfl⟩)))
  exact bodyPost_ret (v := .tuple #[.agg #[.int .i64 0, .int .i64 0, .int .i64 0, .slice none 0 0], .bool false]) (by simp [results, Try.results21, go_sem, *]) rfl (GivesO.f rfl (by (repeat (first | with_reducible exact Ge.refl _ | assumption | with_reducible refine Ge.drew ?_ | with_reducible refine Ge.drewN ?_ _ | with_reducible refine Ge.alloc ?_ _ | (with_reducible refine Ge.setCell ?_ (by first | (simp; done) | omega | (simp; omega)) _) | with_reducible refine Ge.trans ?_ (by assumption)))))

set_option maxHeartbeats 3200000 in
theorem sDropNode (n v e c : Nat) (S : Int) (s : Value) (L : List Wr) (w : World) (hs : SlF w s L.length 3 (flatW L)) (hB : netB n e S L.length (flatW L) = true) (hv0 : e ≤ v) (hv : v < n) (hc : (nearX L.length (flatW L) v n).length = c) (c1 : 1 ≤ c) (c2 : c ≤ 2) :
    Calls Try.prog 21 #[.agg #[.int .i64 (n : Int), .int .i64 (e : Int), .int .i64 S, s], .int .i64 (v : Int)] w (GivesO w (redB n e S L v) ((n - 1 : Nat) : Int) e (redS n S L v) (redL n S L v)) := by
  obtain ⟨⟨h1, h5⟩, ⟨e1, e2⟩, ⟨s1, s2⟩, hok, _⟩ := netP_of hB
  have hm : L.length ≤ 10 := prs_len (by omega) hok
  have HV := Lib.hid hs
  have HSt := Lib.hid (fun w' (g : Ge w w') => sL07Mesh n v e c S s L w' (HV.out.ge g) hB hv0 hv hc c1 c2)
  have HNo := Lib.hid (fun w' (g : Ge w w') => sNetOk n e S s L.length (flatW L) w' (HV.out.ge g) (by omega))
  have HWi := Lib.hid (fun w' (g : Ge w w') => sL07Near n e S s L.length (flatW L) v w' (HV.out.ge g) hB)
  rw [hB] at HNo
  rw [hc] at HWi
  obtain ⟨NB0, R0⟩ := in_res w n e S s
  obtain ⟨p, cap, rfl, _⟩ := hs.open
  have HI := Lib.hid (fun w' => sL01In (v : Int) e ((n : Int) - 1) w')
  have hin : inB (v : Int) e ((n : Int) - 1) = true := by unfold inB; simp; omega
  rw [hin] at HI
  have HI2 := Lib.hid (fun w' => sL01In (c : Int) 1 2 w')
  have hin2 : inB (c : Int) 1 2 = true := by unfold inB; simp; omega
  rw [hin2] at HI2
  generalize nearX L.length (flatW L) v n = NX at *
  generalize redB n e S L v = BB at *
  generalize redS n S L v = SS at *
  generalize redL n S L v = LL at *
  generalize L.length = m at *
  clear hs hok hB hc hin hin2
  cases BB with
  | true =>
    have HS2 := Lib.hid (fun w' (g : Ge w w') => (HSt.out w' g).mono (fun r w2 h => GivesO.tt h))
    clear HSt
    go_enter Try.func21, Try.ntmps21
    go_wp2_with (first
      | ((go_at_call 18; ((with_reducible refine (HNo.out _ (by (repeat (first | with_reducible exact Ge.refl _ | assumption | with_reducible refine Ge.drew ?_ | with_reducible refine Ge.drewN ?_ _ | with_reducible refine Ge.alloc ?_ _ | (with_reducible refine Ge.setCell ?_ (by first | (simp; done) | omega | (simp; omega)) _) | with_reducible refine Ge.trans ?_ (by assumption))))).mono ?_); rintro r w1 ⟨rfl, g1⟩)); have NB1 := NB0.ge g1; have R1 := R0.ge g1; have gw1 : Ge w w1 := (by (repeat (first | with_reducible exact Ge.refl _ | assumption | with_reducible refine Ge.drew ?_ | with_reducible refine Ge.drewN ?_ _ | with_reducible refine Ge.alloc ?_ _ | (with_reducible refine Ge.setCell ?_ (by first | (simp; done) | omega | (simp; omega)) _) | with_reducible refine Ge.trans ?_ (by assumption)))); obtain ⟨b0, b1, b2, b3⟩ := NB1; have z1 := g1.size; (simp at z1))
      | ((go_at_call 32; ((with_reducible refine (HWi.out _ gw1).mono ?_); rintro r w2 ⟨v2, rfl, o2, g2⟩)); obtain ⟨p2, cc2, rfl⟩ := owns_form o2; have b0 := g2.keep b0; have b1 := g2.keep b1; have b2 := g2.keep b2; have b3 := g2.keep b3; have R2 := R1.ge g2; have gw2 := Ge.trans gw1 g2; have z2 := g2.size)
      | (go_at_call 29; ((with_reducible refine (HI.out _).mono ?_); rintro r w5 ⟨rfl, rfl⟩))
      | (go_at_call 29; ((with_reducible refine (HI2.out _).mono ?_); rintro r w5 ⟨rfl, rfl⟩))
      | ((go_at_call 33; ((with_reducible refine (HS2.out _ gw2).mono ?_); rintro r w3 ⟨u3, rfl, o3, g3⟩)); have HO3 := Lib.hid o3; obtain ⟨px, cx, rfl⟩ := owns_form o3; clear o3; have R3 := R2.ge g3; have gw3 := Ge.trans gw2 g3; obtain ⟨r0, p0, f0⟩ := R3 0 (by omega); obtain ⟨r1, p1, f1⟩ := R3 1 (by omega); obtain ⟨r2, p2, f2⟩ := R3 2 (by omega); obtain ⟨r3, p3, f3⟩ := R3 3 (by omega)))
    exact bodyPost_ret (v := .tuple #[.agg #[.int .i64 ((n - 1 : Nat) : Int), .int .i64 (e : Int), .int .i64 SS, .slice px LL.length cx], .bool true]) (by simp [results, Try.results21, go_sem, *]) rfl (GivesO.t rfl (by refine owns_mono (base := w2.heap.size) ?_ (by omega); repeat (first | exact HO3.out | refine own_setD ?_ (by omega))) (by (repeat (first | with_reducible exact Ge.refl _ | assumption | with_reducible refine Ge.drew ?_ | with_reducible refine Ge.drewN ?_ _ | with_reducible refine Ge.alloc ?_ _ | (with_reducible refine Ge.setCell ?_ (by first | (simp; done) | omega | (simp; omega)) _) | with_reducible refine Ge.trans ?_ (by assumption)))))
  | false =>
    have HS2 := Lib.hid (fun w' (g : Ge w w') => (HSt.out w' g).mono (fun r w2 h => GivesO.ff h))
    clear HSt
    go_enter Try.func21, Try.ntmps21
    go_wp2_with (first
      | ((go_at_call 18; ((with_reducible refine (HNo.out _ (by (repeat (first | with_reducible exact Ge.refl _ | assumption | with_reducible refine Ge.drew ?_ | with_reducible refine Ge.drewN ?_ _ | with_reducible refine Ge.alloc ?_ _ | (with_reducible refine Ge.setCell ?_ (by first | (simp; done) | omega | (simp; omega)) _) | with_reducible refine Ge.trans ?_ (by assumption))))).mono ?_); rintro r w1 ⟨rfl, g1⟩)); have NB1 := NB0.ge g1; have R1 := R0.ge g1; have gw1 : Ge w w1 := (by (repeat (first | with_reducible exact Ge.refl _ | assumption | with_reducible refine Ge.drew ?_ | with_reducible refine Ge.drewN ?_ _ | with_reducible refine Ge.alloc ?_ _ | (with_reducible refine Ge.setCell ?_ (by first | (simp; done) | omega | (simp; omega)) _) | with_reducible refine Ge.trans ?_ (by assumption)))); obtain ⟨b0, b1, b2, b3⟩ := NB1)
      | ((go_at_call 32; ((with_reducible refine (HWi.out _ gw1).mono ?_); rintro r w2 ⟨v2, rfl, o2, g2⟩)); obtain ⟨p2, cc2, rfl⟩ := owns_form o2; have b0 := g2.keep b0; have b1 := g2.keep b1; have b2 := g2.keep b2; have b3 := g2.keep b3; have R2 := R1.ge g2; have gw2 := Ge.trans gw1 g2)
      | (go_at_call 29; ((with_reducible refine (HI.out _).mono ?_); rintro r w5 ⟨rfl, rfl⟩))
      | (go_at_call 29; ((with_reducible refine (HI2.out _).mono ?_); rintro r w5 ⟨rfl, rfl⟩))
      | ((go_at_call 33; ((with_reducible refine (HS2.out _ gw2).mono ?_); rintro r w3 ⟨rfl, g3⟩)); have R3 := R2.ge g3; have gw3 := Ge.trans gw2 g3; obtain ⟨r0, p0, f0⟩ := R3 0 (by omega); obtain ⟨r1, p1, f1⟩ := R3 1 (by omega); obtain ⟨r2, p2, f2⟩ := R3 2 (by omega); obtain ⟨r3, p3, f3⟩ := R3 3 (by omega)))
    exact bodyPost_ret (v := .tuple #[.agg #[.int .i64 0, .int .i64 0, .int .i64 0, .slice none 0 0], .bool false]) (by simp [results, Try.results21, go_sem, *]) rfl (GivesO.f rfl (by (repeat (first | with_reducible exact Ge.refl _ | assumption | with_reducible refine Ge.drew ?_ | with_reducible refine Ge.drewN ?_ _ | with_reducible refine Ge.alloc ?_ _ | (with_reducible refine Ge.setCell ?_ (by first | (simp; done) | omega | (simp; omega)) _) | with_reducible refine Ge.trans ?_ (by assumption)))))
end Go.Proofs.Ytahicfpnmjofhaa
