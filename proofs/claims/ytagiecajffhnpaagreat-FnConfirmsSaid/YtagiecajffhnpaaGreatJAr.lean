/- copyNet of impl; all wires appended to an empty row. No condition. ReduceAll of both sides. No condition. CanonNet, MeshAll of impl at a valid network. No condition. -/
import Derived.Test.YtagiecajffhnpaaGreatJAf
import Derived.Test.YtagiecajffhnpaaGreatJAq
namespace Go.Proofs.YtagiecajffhnpaaGreat
set_option maxRecDepth 100000
open Go.ChangeShapes Go.WideShapes Go.ChangeAt Go.RowKit Go.Joins

theorem ap_wires0 {w : World} {o : Oper} {a : Act} {K : Act → World → Prop} {Q : Exit → Act → World → Prop} (s x : Operand)
    (ho : o.op = .call { callee := .builtin .append, args := #[s, x], argTypes := #[31, 31] })
    (hs : a.eval s = .slice (some ⟨w.heap.size, 0, none⟩) 0 0) (ad : Addr) (m c : Nat) (ys : List Int) (hx : a.eval x = .slice (some ad) m c) (hy : SlF w (.slice (some ad) m c) m 3 ys) (hm : m < 1000)
    (h : ∀ v' w', w'.ownsRow w.heap.size 45 3 v' m (icells ys) → Ge w w' → K (a.put o.dst v') w') : o.wp Tryz.prog a (w.alloc (.cells #[] 45)) K Q := by
  obtain ⟨i, hi1, hi2, hi3, hi4⟩ := info_parts inf_Wire3
  have hy' := SlF.ge hy (Ge.alloc (Ge.refl w) (.cells #[] 45))
  obtain ⟨h1, p, c', he, hc⟩ := hy'
  simp only [Value.slice.injEq] at he
  obtain ⟨rfl, _, rfl⟩ := he
  have hO : (w.alloc (.cells #[] 45)).ownsRow w.heap.size 45 3 (.slice (some ⟨w.heap.size, 0, none⟩) 0 0) 0 (icells []) := owns_lit0 _ _ _
  refine wp_append_own (w.alloc (.cells #[] 45)) s x 31 ho w.heap.size 45 i _ 3 24 Tryz.underlying31 hi1 hi2 hi3 hi4 rfl (by decide) _ 0 (icells []) hs hO ad m c (icells ys) hx h1 (fun j u hu => ?_) (fun u hu => ?_) (by unfold maxLen; omega) (by omega) (by simp) (fun v' w' h2 h3 _ => h v' w' (by rw [Nat.zero_add] at h2; exact h2) ((Ge.alloc (Ge.refl w) _).mine hO (Nat.le_refl _) h3))
  · obtain ⟨b, o, e, hz⟩ := hc j u hu
    simp only [Option.some.injEq] at e
    subst e
    by_cases hj0 : j = 0
    · subst hj0; simpa [Addr.add] using hz
    · simpa [Addr.add, hj0] using hz
  · simp only [icells, List.mem_map] at hu
    obtain ⟨_, _, rfl⟩ := hu
    rfl

theorem ap_wiresL {w : World} {ops : Array Oper} {rest : List Oper} {o : Oper} {a : Act} {Q : Exit → Act → World → Prop} (hgd : o.guard = none) (s x : Operand)
    (ho : o.op = .call { callee := .builtin .append, args := #[s, x], argTypes := #[31, 31] })
    (hs : a.eval s = .slice (some ⟨w.heap.size, 0, none⟩) 0 0) (ad : Addr) (m c : Nat) (ys : List Int) (hx : a.eval x = .slice (some ad) m c) (hy : SlF w (.slice (some ad) m c) m 3 ys) (hm : m < 1000)
    (h : ∀ v' w', w'.ownsRow w.heap.size 45 3 v' m (icells ys) → Ge w w' → wpList Tryz.prog ops Q rest (a.put o.dst v') w') : wpList Tryz.prog ops Q (o :: rest) a (w.alloc (.cells #[] 45)) :=
  wpList_plain hgd fun _ hK => ap_wires0 s x ho hs ad m c ys hx hy hm (fun v' w' h1 h2 => hK _ _ (h v' w' h1 h2))

theorem cloneW (v : Value) (m : Nat) (xs : List Int) (w : World) (hs : SlF w v m 3 xs) (hm : m < 1000) :
    Calls Tryz.prog 30 #[v] w fun r w' => ∃ u, r = .returned u ∧ w'.ownsRow w.heap.size 45 3 u m (icells xs) ∧ Ge w w' := by
  have HV := Lib.hid hs
  obtain ⟨p, cap, rfl, hc⟩ := hs.open
  have hl := hs.length
  have q27 : ∀ (w : World) (a : Option Addr) (n c n' c' : Nat), (binOp .eql 31 (.slice a n c) (.slice none n' c')).run Tryz.prog w = .ok (.bool a.isNone) w := fun w a n c n' c' => Lib.run_eql_slice_nil w _ _ a n c n' c' Tryz.underlying31
  cases p with
  | none =>
    have hm0 : m = 0 := by
      cases m with
      | zero => rfl
      | succ k => obtain ⟨b, o, h, _⟩ := hc 0 (by omega); cases h
    subst hm0
    have hx : xs = [] := List.eq_nil_of_length_eq_zero (by omega)
    subst hx
    clear hc hs
    go_enter Tryz.func30, Tryz.ntmps30
    go_wp2_with fail
    go_ret
    refine ⟨_, rfl, ?_, Ge.refl _⟩
    exact ⟨rfl, .inl ⟨rfl, rfl⟩⟩
  | some ad =>
    clear hc hs
    go_enter Tryz.func30, Tryz.ntmps30
    go_wp2_with (at_builtin; refine ap_wiresL rfl _ _ rfl rfl ad m cap xs rfl HV.out hm ?_; intro v' w' h1 h2; have HO := Lib.hid h1; clear h1)
    go_ret
    exact ⟨_, rfl, HO.out, h2⟩

set_option maxHeartbeats 1600000 in
theorem iCopyNet (N E S : Int) (v : Value) (m : Nat) (xs : List Int) (w : World) (hs : SlF w v m 3 xs) (hm : m < 1000) :
    Calls Tryz.prog 18 #[.agg #[.int .i64 N, .int .i64 E, .int .i64 S, v]] w fun r w' => ∃ u, r = .returned (.agg #[.int .i64 N, .int .i64 E, .int .i64 S, u]) ∧ w'.ownsRow w.heap.size 45 3 u m (icells xs) ∧ Ge w w' := by
  have HV := Lib.hid hs
  have HCl := Lib.hid (fun w' (g : Ge w w') => cloneW v m xs w' (HV.out.ge g) hm)
  obtain ⟨NB0, R0⟩ := in_res w N E S v
  have F0 : ((w.alloc (.cells #[.int .i64 N, .int .i64 E, .int .i64 S, v] 33)).alloc (.cells #[.int .i64 0, .int .i64 0, .int .i64 0, .slice none 0 0] 33)).frozen? ⟨w.heap.size, 3, none⟩ = false := Ge.keepF (Ge.alloc (Ge.refl _) _) (cell_new rfl rfl) (froz_new (v := v) rfl rfl)
  obtain ⟨p, cap, rfl, _⟩ := hs.open
  clear hs
  go_enter Tryz.func18, Tryz.ntmps18
  go_wp2_with (go_at_call 30; ((with_reducible refine (HCl.out _ (kge)).mono ?_); rintro r w1 ⟨u1, rfl, o1, g1⟩); obtain ⟨b0, b1, b2, b3⟩ := NB0.ge g1; have f1 := Ge.keepF g1 NB0.2.2.2 F0; have R1 := R0.ge g1; have gw1 : Ge w w1 := (kge); have HO1 := Lib.hid o1; obtain ⟨px, cx, rfl⟩ := owns_form o1; clear o1; have z1 := g1.size; (simp at z1); obtain ⟨r0, p0, q0⟩ := R1 0 (by omega); obtain ⟨r1, p1, q1⟩ := R1 1 (by omega); obtain ⟨r2, p2, q2⟩ := R1 2 (by omega); obtain ⟨r3, p3, q3⟩ := R1 3 (by omega))

  have h1 := HO1.out
  simp only [World.size_alloc] at h1
  have h2 : (((((w1.setCell ⟨w.heap.size, 3, none⟩ (.slice px m cx)).setCell ⟨w.heap.size + 1, 0, none⟩ (.int .i64 N)).setCell ⟨w.heap.size + 1, 1, none⟩ (.int .i64 E)).setCell ⟨w.heap.size + 1, 2, none⟩ (.int .i64 S)).setCell ⟨w.heap.size + 1, 3, none⟩ (.slice px m cx)).ownsRow w.heap.size 45 3 (.slice px m cx) m (icells xs) :=
    owns_mono (own_setD (own_setD (own_setD (own_setD (own_setD h1 (by omega)) (by omega)) (by omega)) (by omega)) (by omega)) (by omega)
  have HO2 := Lib.hid h2
  clear h1 h2
  have g2 : Ge w (((((w1.setCell ⟨w.heap.size, 3, none⟩ (.slice px m cx)).setCell ⟨w.heap.size + 1, 0, none⟩ (.int .i64 N)).setCell ⟨w.heap.size + 1, 1, none⟩ (.int .i64 E)).setCell ⟨w.heap.size + 1, 2, none⟩ (.int .i64 S)).setCell ⟨w.heap.size + 1, 3, none⟩ (.slice px m cx)) := kge
  exact bodyPost_ret (v := .agg #[.int .i64 N, .int .i64 E, .int .i64 S, .slice px m cx]) (by simp [results, Tryz.results18, go_sem, *]) rfl ⟨_, rfl, HO2.out, g2⟩
end Go.Proofs.YtagiecajffhnpaaGreat

namespace Go.Proofs.YtagiecajffhnpaaGreat
set_option maxRecDepth 100000
open Go.ChangeShapes Go.WideShapes Go.ChangeAt Go.RowKit Go.Joins

theorem iLeafOf (n e : Nat) (S : Int) (s : Value) (m : Nat) (xs : List Int) (w : World) (hs : SlF w s m 3 xs) (hB : netB n e S m xs = true) :
    Calls Tryz.prog 76 #[.agg #[.int .i64 (n : Int), .int .i64 (e : Int), .int .i64 S, s]] w fun r w' => r = .returned (.int .i64 (firstN n e m xs 1)) ∧ Ge w w' := by
  have HV := Lib.hid hs
  have H := Lib.hid (fun w' (g : Ge w w') => iFirst n e S s m xs 1 w' (HV.out.ge g) hB)
  rw [show ((1 : Nat) : Int) = 1 from rfl] at H
  obtain ⟨p, cap, rfl, _⟩ := hs.open
  clear hs hB
  go_enter Tryz.func76, Tryz.ntmps76
  go_wp2_with ((go_at_call 108; ((with_reducible refine (H.out _ (kge)).mono ?_); rintro r w1 ⟨rfl, g1⟩)))
  go_ret
  exact ⟨rfl, kge⟩
theorem iSeriesOf (n e : Nat) (S : Int) (s : Value) (m : Nat) (xs : List Int) (w : World) (hs : SlF w s m 3 xs) (hB : netB n e S m xs = true) :
    Calls Tryz.prog 77 #[.agg #[.int .i64 (n : Int), .int .i64 (e : Int), .int .i64 S, s]] w fun r w' => r = .returned (.int .i64 (firstN n e m xs 2)) ∧ Ge w w' := by
  have HV := Lib.hid hs
  have H := Lib.hid (fun w' (g : Ge w w') => iFirst n e S s m xs 2 w' (HV.out.ge g) hB)
  rw [show ((2 : Nat) : Int) = 2 from rfl] at H
  obtain ⟨p, cap, rfl, _⟩ := hs.open
  clear hs hB
  go_enter Tryz.func77, Tryz.ntmps77
  go_wp2_with ((go_at_call 108; ((with_reducible refine (H.out _ (kge)).mono ?_); rintro r w1 ⟨rfl, g1⟩)))
  go_ret
  exact ⟨rfl, kge⟩
theorem ResD.setB {w : World} {R i : Nat} {x : Value} (h : ResD w R) : ResD (w.setCell ⟨R, i, none⟩ x) R := fun j hj => by
  obtain ⟨u, h1, h2⟩ := h j hj
  by_cases e : i = j
  · subst e
    exact ⟨x, World.cell?_setCell_same _ _ _ h1, froz_set h2⟩
  · exact ⟨u, cell_set2 (fun he => e (by simpa using congrArg Addr.off he)) h1, froz_set h2⟩
/-- The network is valid. -/
noncomputable def okR (e : Nat) (y : NwR) : Prop := netB y.n e y.s y.l.length (flatW y.l) = true
theorem red_cases (e : Nat) (y : NwR) : (redV e y = -1 ∧ redN e y = none ∧ firstN y.n e y.l.length (flatW y.l) 1 = -1 ∧ firstN y.n e y.l.length (flatW y.l) 2 = -1) ∨
    ∃ v c : Nat, (firstN y.n e y.l.length (flatW y.l) 1 = v ∨ (firstN y.n e y.l.length (flatW y.l) 1 = -1 ∧ firstN y.n e y.l.length (flatW y.l) 2 = v)) ∧ e ≤ v ∧ v < y.n ∧ (nearX y.l.length (flatW y.l) v y.n).length = c ∧ 1 ≤ c ∧ c ≤ 2 ∧
      ((redB y.n e y.s y.l v = true ∧ redN e y = some ⟨y.n - 1, redS y.n y.s y.l v, redL y.n y.s y.l v⟩) ∨ (redB y.n e y.s y.l v = false ∧ redN e y = none)) := by
  have h1 : firstN y.n e y.l.length (flatW y.l) 1 = -1 ∨ 0 ≤ firstN y.n e y.l.length (flatW y.l) 1 := by
    rcases firstN_bd y.n e y.l.length (flatW y.l) 1 with h | ⟨h, _⟩
    · exact .inl h
    · exact .inr (by omega)
  have h2 : firstN y.n e y.l.length (flatW y.l) 2 = -1 ∨ 0 ≤ firstN y.n e y.l.length (flatW y.l) 2 := by
    rcases firstN_bd y.n e y.l.length (flatW y.l) 2 with h | ⟨h, _⟩
    · exact .inl h
    · exact .inr (by omega)
  by_cases h : redV e y < 0
  · left
    have hn : redN e y = none := by unfold redN; rw [if_pos h]
    unfold redV at h ⊢
    split at h
    · rename_i hl
      rw [if_pos hl]
      refine ⟨by omega, hn, by omega, by omega⟩
    · omega
  · right
    obtain ⟨v, c, q1, q2, q3, q4, q5, q6, q7⟩ := redV_bd h
    refine ⟨v, c, ?_, q3, q4, q5, q6, q7, ?_⟩
    · unfold redV at q1
      split at q1
      · rename_i hl
        right
        clear q2
        exact ⟨by omega, q1⟩
      · left; exact q1
    · cases hb : redB y.n e y.s y.l v with
      | true =>
        left
        refine ⟨rfl, ?_⟩
        unfold redN
        rw [if_neg h, q2, if_pos hb]
      | false =>
        right
        refine ⟨rfl, ?_⟩
        unfold redN
        rw [if_neg h, q2, if_neg (by rw [hb]; simp)]
theorem okR_next {n e : Nat} {S : Int} {L : List Wr} {v : Nat} (h : redB n e S L v = true) : okR e ⟨n - 1, redS n S L v, redL n S L v⟩ := h
/-- What ReduceAll gives. -/
def GivesA (w : World) (e : Nat) (x : NwR) (r : Ending) (w' : World) : Prop :=
  ∃ (k : Nat) (y : NwR) (u : Value), redK e x k = some y ∧ redN e y = none ∧ okR e y ∧ k ≤ 5 ∧ r = .returned (.tuple #[.agg #[.int .i64 (y.n : Int), .int .i64 (e : Int), .int .i64 y.s, u], .int .i64 (k : Int), .bool true]) ∧
    w'.ownsRow w.heap.size 45 3 u y.l.length (icells (flatW y.l)) ∧ Ge w w'
/-- The loop of ReduceAll: B the variable's block, R the result's. -/
def RedAt (w wr : World) (B R : Nat) (e : Nat) (x : NwR) (k : Nat) (y : NwR) (u : Value) : Prop :=
  redK e x k = some y ∧ y.n + k = x.n ∧ okR e y ∧ NetIn wr B y.n e y.s u ∧ ResD wr B ∧ ResD wr R ∧ wr.ownsRow (w.heap.size + 2) 45 3 u y.l.length (icells (flatW y.l)) ∧ Ge w wr

theorem RedAt.ge {w wr W : World} {B R e : Nat} {x y : NwR} {k : Nat} {u : Value} (h : RedAt w wr B R e x k y u) (hg : Ge wr W) : RedAt w W B R e x k y u :=
  ⟨h.1, h.2.1, h.2.2.1, h.2.2.2.1.ge hg, h.2.2.2.2.1.ge hg, h.2.2.2.2.2.1.ge hg, hg.owns h.2.2.2.2.2.2.1, Ge.trans h.2.2.2.2.2.2.2 hg⟩
theorem RedAt.next {w wr W : World} {e : Nat} {x y z : NwR} {k : Nat} {u u' : Value} (h : RedAt w wr w.heap.size (w.heap.size + 1) e x k y u) (hg : Ge wr W) (hz : redN e y = some z) (hok : okR e z) (hn : z.n + 1 = y.n) {b : Nat}
    (ho : W.ownsRow b 45 3 u' z.l.length (icells (flatW z.l))) (hb : w.heap.size + 2 ≤ b) :
    RedAt w ((((W.setCell ⟨w.heap.size, 0, none⟩ (.int .i64 (z.n : Int))).setCell ⟨w.heap.size, 1, none⟩ (.int .i64 (e : Int))).setCell ⟨w.heap.size, 2, none⟩ (.int .i64 z.s)).setCell ⟨w.heap.size, 3, none⟩ u') w.heap.size (w.heap.size + 1) e x (k + 1) z u' := by
  obtain ⟨hk, hyn, _, _, hRB, hR, _, hgw⟩ := h
  have RB2 := hRB.ge hg
  have R2 := hR.ge hg
  have gW := Ge.trans hgw hg
  obtain ⟨r0, p0, f0⟩ := RB2 0 (by omega)
  obtain ⟨r1, p1, f1⟩ := RB2 1 (by omega)
  obtain ⟨r2, p2, f2⟩ := RB2 2 (by omega)
  obtain ⟨r3, p3, f3⟩ := RB2 3 (by omega)
  refine ⟨redK_succ hk hz, by omega, hok, ⟨?_, ?_, ?_, ?_⟩, ?_, ?_, ?_, ?_⟩
  · exact cell_set2 (by simp) (cell_set2 (by simp) (cell_set2 (by simp) (World.cell?_setCell_same _ _ _ p0)))
  · exact cell_set2 (by simp) (cell_set2 (by simp) (World.cell?_setCell_same _ _ _ (cell_set2 (by simp) p1)))
  · exact cell_set2 (by simp) (World.cell?_setCell_same _ _ _ (cell_set2 (by simp) (cell_set2 (by simp) p2)))
  · exact World.cell?_setCell_same _ _ _ (cell_set2 (by simp) (cell_set2 (by simp) (cell_set2 (by simp) p3)))
  · exact ResD.setB (ResD.setB (ResD.setB (ResD.setB RB2)))
  · exact ResD.setO (ResD.setO (ResD.setO (ResD.setO R2 (by omega)) (by omega)) (by omega)) (by omega)
  · exact owns_mono (own_setD (own_setD (own_setD (own_setD ho (by omega)) (by omega)) (by omega)) (by omega)) (by omega)
  · exact Ge.setCell (Ge.setCell (Ge.setCell (Ge.setCell gW (Nat.le_refl _) _) (Nat.le_refl _) _) (Nat.le_refl _) _) (Nat.le_refl _) _

set_option maxHeartbeats 6400000 in
theorem iReduceAll (e : Nat) (x : NwR) (s : Value) (w : World) (hs : SlF w s x.l.length 3 (flatW x.l)) (hB : okR e x) :
    Calls Tryz.prog 41 #[.agg #[.int .i64 (x.n : Int), .int .i64 (e : Int), .int .i64 x.s, s]] w (GivesA w e x) := by
  obtain ⟨⟨h1, h5⟩, ⟨e1, e2⟩, ⟨s1, s2⟩, hok, _⟩ := netP_of hB
  have hm : x.l.length ≤ 10 := prs_len (by omega) hok
  have HV := Lib.hid hs
  have HNo := Lib.hid (fun w' (g : Ge w w') => iNetOk x.n e x.s s x.l.length (flatW x.l) w' (HV.out.ge g) (by omega))
  have hB' : netB x.n e x.s x.l.length (flatW x.l) = true := hB
  rw [hB'] at HNo
  have HCp := Lib.hid (fun w' (g : Ge w w') => iCopyNet x.n e x.s s x.l.length (flatW x.l) w' (HV.out.ge g) (by omega))
  have HOK : Hid (okR e x) := hB
  obtain ⟨NB0, R0⟩ := in_res w x.n e x.s s
  have RB0 : ResD ((w.alloc (.cells #[.int .i64 (x.n : Int), .int .i64 (e : Int), .int .i64 x.s, s] 33)).alloc (.cells #[.int .i64 0, .int .i64 0, .int .i64 0, .slice none 0 0] 33)) w.heap.size := (ResD.new w _ _ _ _ _).ge (Ge.alloc (Ge.refl _) _)
  obtain ⟨p, cap, rfl, _⟩ := hs.open
  clear hs hB hB' hok
  go_enter Tryz.func41, Tryz.ntmps41
  go_upto_region 4 with (first
    | ((go_at_call 43; ((with_reducible refine (HNo.out _ (kge)).mono ?_); rintro r w1 ⟨rfl, g1⟩)); have gw1 : Ge w w1 := (kge); obtain ⟨b0, b1, b2, b3⟩ := NB0.ge g1; have R1 := R0.ge g1; have RB1 := RB0.ge g1; have z1 := g1.size; (simp only [World.size_alloc] at z1))
    | ((go_at_call 18; ((with_reducible refine (HCp.out _ gw1).mono ?_); rintro r w2 ⟨u2, rfl, o2, g2⟩)); have R2 := R1.ge g2; have RB2 := RB1.ge g2; have gw2 := Ge.trans gw1 g2; obtain ⟨r0, p0, f0⟩ := RB2 0 (by omega); obtain ⟨r1, p1, f1⟩ := RB2 1 (by omega); obtain ⟨r2, p2, f2⟩ := RB2 2 (by omega); obtain ⟨r3, p3, f3⟩ := RB2 3 (by omega); have HO2 := Lib.hid o2; obtain ⟨pu, cu, rfl⟩ := owns_form o2; clear o2))
  have hz : ((w.alloc (.cells #[.int .i64 (x.n : Int), .int .i64 (e : Int), .int .i64 x.s, .slice p x.l.length cap] 33)).alloc (.cells #[.int .i64 0, .int .i64 0, .int .i64 0, .slice none 0 0] 33)).heap.size = w.heap.size + 1 + 1 := by simp
  have zw2 := gw2.size
  have hb1 := (HO2.out : w2.ownsRow _ _ _ _ _ _)
  have hRA : RedAt w ((((w2.setCell ⟨w.heap.size, 0, none⟩ (.int .i64 (x.n : Int))).setCell ⟨w.heap.size, 1, none⟩ (.int .i64 (e : Int))).setCell ⟨w.heap.size, 2, none⟩ (.int .i64 x.s)).setCell ⟨w.heap.size, 3, none⟩ (.slice pu x.l.length cu)) w.heap.size (w.heap.size + 1) e x 0 x (.slice pu x.l.length cu) := by
    refine ⟨rfl, rfl, HOK.out, ⟨?_, ?_, ?_, ?_⟩, ?_, ?_, ?_, kge⟩
    · exact cell_set2 (by simp) (cell_set2 (by simp) (cell_set2 (by simp) (World.cell?_setCell_same _ _ _ p0)))
    · exact cell_set2 (by simp) (cell_set2 (by simp) (World.cell?_setCell_same _ _ _ (cell_set2 (by simp) p1)))
    · exact cell_set2 (by simp) (World.cell?_setCell_same _ _ _ (cell_set2 (by simp) (cell_set2 (by simp) p2)))
    · exact World.cell?_setCell_same _ _ _ (cell_set2 (by simp) (cell_set2 (by simp) (cell_set2 (by simp) p3)))
    · exact ResD.setB (ResD.setB (ResD.setB (ResD.setB RB2)))
    · exact ResD.setO (ResD.setO (ResD.setO (ResD.setO R2 (by omega)) (by omega)) (by omega)) (by omega)
    · exact owns_mono (own_setD (own_setD (own_setD (own_setD hb1 (by omega)) (by omega)) (by omega)) (by omega)) (by omega)
  generalize ((((w2.setCell ⟨w.heap.size, 0, none⟩ (.int .i64 (x.n : Int))).setCell ⟨w.heap.size, 1, none⟩ (.int .i64 (e : Int))).setCell ⟨w.heap.size, 2, none⟩ (.int .i64 x.s)).setCell ⟨w.heap.size, 3, none⟩ (.slice pu x.l.length cu)) = w3 at *
  have HRA := Lib.hid hRA
  clear hRA hb1 p0 p1 p2 p3 f0 f1 f2 f3 RB2 R2 RB1 R1 RB0 R0 b0 b1 b2 b3 NB0 HCp HNo
  go_wp2_with fail
  go_loopw [5] (fun i wr => ∃ (k : Nat) (y : NwR) (u : Value), i = .int .i64 k ∧ RedAt w wr w.heap.size (w.heap.size + 1) e x k y u) (fun i _ => x.n - (intOf i).toNat)
  case atStart => exact ⟨0, x, _, rfl, HRA.out⟩
  case round =>
    obtain ⟨k, y, u, rfl, hk, hyn, hok, hN, hRB, hR, hO, hg⟩ := hrel
    obtain ⟨⟨y1, y5⟩, _⟩ := netP_of hok
    have HRA := Lib.hid (⟨hk, hyn, hok, hN, hRB, hR, hO, hg⟩ : RedAt w wr w.heap.size (w.heap.size + 1) e x k y u)
    obtain ⟨b0, b1, b2, b3⟩ := hN
    have HRB := Lib.hid hRB
    have HR := Lib.hid hR
    have HG := Lib.hid hg
    obtain ⟨py, cy, rfl⟩ := owns_form hO
    have HO := Lib.hid hO
    have HLf := Lib.hid (fun w' (g : Ge wr w') => iLeafOf y.n e y.s (.slice py y.l.length cy) y.l.length (flatW y.l) w' (SlF.of_owns (g.owns HO.out)) hok)
    have HSr := Lib.hid (fun w' (g : Ge wr w') => iSeriesOf y.n e y.s (.slice py y.l.length cy) y.l.length (flatW y.l) w' (SlF.of_owns (g.owns HO.out)) hok)
    have zr : w.heap.size + 1 < wr.heap.size := by obtain ⟨u0, q0, _⟩ := HR.out 0 (by omega); exact World.block_lt_of_cell? _ _ q0
    clear hRB hR hO hg
    rcases red_cases e y with ⟨_, hnone, f1, f2⟩ | ⟨v, c, hf, hv0, hv, hc, c1, c2, hres⟩
    · have HD2 := Lib.hid (fun w' (g : Ge wr w') => (iDropNodeF y.n e y.s (-1) (.slice py y.l.length cy) y.l.length (flatW y.l) [] w' (SlF.of_owns (g.owns HO.out)) hok rfl).mono (fun r w2 h => GivesO.ff h))
      rw [f1] at HLf
      rw [f2] at HSr
      clear f1 f2
      go_wp2_with (first
        | ((go_at_call 76; ((with_reducible refine (HLf.out _ (Ge.refl _)).mono ?_); rintro r w4 ⟨rfl, g4⟩)); have G4 := g4; have b0 := g4.keep b0; have b1 := g4.keep b1; have b2 := g4.keep b2; have b3 := g4.keep b3)
        | ((go_at_call 77; ((with_reducible refine (HSr.out _ G4).mono ?_); rintro r w5 ⟨rfl, g5⟩)); have G4 := Ge.trans G4 g5; have b0 := g5.keep b0; have b1 := g5.keep b1; have b2 := g5.keep b2; have b3 := g5.keep b3)
        | ((go_at_call 37; ((with_reducible refine (HD2.out _ G4).mono ?_); rintro r w6 ⟨rfl, g6⟩)); have G6 := Ge.trans G4 g6; have b0 := g6.keep b0; have b1 := g6.keep b1; have b2 := g6.keep b2; have b3 := g6.keep b3; have zl6 : w.heap.size < w6.heap.size := World.block_lt_of_cell? _ _ b0; have R6 := HR.out.ge G6; obtain ⟨r0, p0, f0⟩ := R6 0 (by omega); obtain ⟨r1, p1, f1⟩ := R6 1 (by omega); obtain ⟨r2, p2, f2⟩ := R6 2 (by omega); obtain ⟨r3, p3, f3⟩ := R6 3 (by omega); have zl7 : w.heap.size + 1 < w6.heap.size := World.block_lt_of_cell? _ _ p0; have HO7 := Lib.hid (G6.owns HO.out); have hz6 := (Ge.trans HG.out G6).size; have g06 := Ge.trans HG.out G6))
      have h8 : (((((w6.setCell ⟨w.heap.size + 1, 0, none⟩ (.int .i64 (y.n : Int))).setCell ⟨w.heap.size + 1, 1, none⟩ (.int .i64 (e : Int))).setCell ⟨w.heap.size + 1, 2, none⟩ (.int .i64 y.s)).setCell ⟨w.heap.size + 1, 3, none⟩ (.slice py y.l.length cy)).alloc (.cells #[.int .i64 0, .int .i64 0, .int .i64 0, .slice none 0 0] 33)).ownsRow w.heap.size 45 3 (.slice py y.l.length cy) y.l.length (icells (flatW y.l)) :=
        owns_mono ((own_setD (own_setD (own_setD (own_setD HO7.out (by omega)) (by omega)) (by omega)) (by omega)).alloc _) (by omega)
      have h9 : Ge w (((((w6.setCell ⟨w.heap.size + 1, 0, none⟩ (.int .i64 (y.n : Int))).setCell ⟨w.heap.size + 1, 1, none⟩ (.int .i64 (e : Int))).setCell ⟨w.heap.size + 1, 2, none⟩ (.int .i64 y.s)).setCell ⟨w.heap.size + 1, 3, none⟩ (.slice py y.l.length cy)).alloc (.cells #[.int .i64 0, .int .i64 0, .int .i64 0, .slice none 0 0] 33)) := Ge.alloc (Ge.setCell (Ge.setCell (Ge.setCell (Ge.setCell g06 (by show w.heap.size ≤ w.heap.size + 1; omega) _) (by show w.heap.size ≤ w.heap.size + 1; omega) _) (by show w.heap.size ≤ w.heap.size + 1; omega) _) (by show w.heap.size ≤ w.heap.size + 1; omega) _) _
      have hk5 : k ≤ 5 := by omega
      have H9 := Lib.hid (⟨k, y, .slice py y.l.length cy, hk, hnone, hok, hk5, rfl, h8, h9⟩ : GivesA w e x (.returned (.tuple #[.agg #[.int .i64 (y.n : Int), .int .i64 (e : Int), .int .i64 y.s, .slice py y.l.length cy], .int .i64 (k : Int), .bool true])) (((((w6.setCell ⟨w.heap.size + 1, 0, none⟩ (.int .i64 (y.n : Int))).setCell ⟨w.heap.size + 1, 1, none⟩ (.int .i64 (e : Int))).setCell ⟨w.heap.size + 1, 2, none⟩ (.int .i64 y.s)).setCell ⟨w.heap.size + 1, 3, none⟩ (.slice py y.l.length cy)).alloc (.cells #[.int .i64 0, .int .i64 0, .int .i64 0, .slice none 0 0] 33)))
      clear h8 h9 hk hyn hnone hok HRA
      exact bodyPost_ret (v := .tuple #[.agg #[.int .i64 (y.n : Int), .int .i64 (e : Int), .int .i64 y.s, .slice py y.l.length cy], .int .i64 (k : Int), .bool true]) (by simp [results, Tryz.results41, go_sem, *]) rfl H9.out
    · have HD := Lib.hid (fun w' (g : Ge wr w') => iDropNode y.n v e c y.s (.slice py y.l.length cy) y.l w' (SlF.of_owns (g.owns HO.out)) hok hv0 hv hc c1 c2)
      have tv : ((v : Int) < 0) = False := eq_false (by omega)
      rcases hres with ⟨hb, hsome⟩ | ⟨hb, hnone⟩
      · rw [hb] at HD
        have HD2 := Lib.hid (fun w' (g : Ge wr w') => (HD.out w' g).mono (fun r w2 h => GivesO.tt h))
        clear HD hc
        rcases hf with f1 | ⟨f1, f2⟩
        · rw [f1] at HLf
          clear f1 HSr
          go_wp2_with (first
            | ((go_at_call 76; ((with_reducible refine (HLf.out _ (Ge.refl _)).mono ?_); rintro r w4 ⟨rfl, g4⟩)); have G4 := g4; have b0 := g4.keep b0; have b1 := g4.keep b1; have b2 := g4.keep b2; have b3 := g4.keep b3)
            | ((go_at_call 37; ((with_reducible refine (HD2.out _ G4).mono ?_); rintro r w6 ⟨u6, rfl, o6, g6⟩)); have HO6 := Lib.hid o6; obtain ⟨p6, c6, rfl⟩ := owns_form o6; clear o6; have G6 := Ge.trans G4 g6; have b0 := g6.keep b0; have b1 := g6.keep b1; have b2 := g6.keep b2; have b3 := g6.keep b3; have zl6 : w.heap.size < w6.heap.size := World.block_lt_of_cell? _ _ b0; have hz6 := G4.size; have RB6 := HRB.out.ge G6; obtain ⟨r0, p0, f0⟩ := RB6 0 (by omega); obtain ⟨r1, p1, f1⟩ := RB6 1 (by omega); obtain ⟨r2, p2, f2⟩ := RB6 2 (by omega); obtain ⟨r3, p3, f3⟩ := RB6 3 (by omega)))
          go_roundw
          case rel => exact ⟨k + 1, _, _, by go_num, (RedAt.next HRA.out G6 hsome (okR_next hb) (by show y.n - 1 + 1 = y.n; omega) HO6.out (by omega)).ge (Ge.alloc (Ge.refl _) _)⟩
          case measure => simp [intOf]; omega
        · rw [f1] at HLf
          rw [f2] at HSr
          clear f1 f2
          go_wp2_with (first
            | ((go_at_call 76; ((with_reducible refine (HLf.out _ (Ge.refl _)).mono ?_); rintro r w4 ⟨rfl, g4⟩)); have G4 := g4; have b0 := g4.keep b0; have b1 := g4.keep b1; have b2 := g4.keep b2; have b3 := g4.keep b3)
            | ((go_at_call 77; ((with_reducible refine (HSr.out _ G4).mono ?_); rintro r w5 ⟨rfl, g5⟩)); have G4 := Ge.trans G4 g5; have b0 := g5.keep b0; have b1 := g5.keep b1; have b2 := g5.keep b2; have b3 := g5.keep b3)
            | ((go_at_call 37; ((with_reducible refine (HD2.out _ G4).mono ?_); rintro r w6 ⟨u6, rfl, o6, g6⟩)); have HO6 := Lib.hid o6; obtain ⟨p6, c6, rfl⟩ := owns_form o6; clear o6; have G6 := Ge.trans G4 g6; have b0 := g6.keep b0; have b1 := g6.keep b1; have b2 := g6.keep b2; have b3 := g6.keep b3; have zl6 : w.heap.size < w6.heap.size := World.block_lt_of_cell? _ _ b0; have hz6 := G4.size; have RB6 := HRB.out.ge G6; obtain ⟨r0, p0, f0⟩ := RB6 0 (by omega); obtain ⟨r1, p1, f1⟩ := RB6 1 (by omega); obtain ⟨r2, p2, f2⟩ := RB6 2 (by omega); obtain ⟨r3, p3, f3⟩ := RB6 3 (by omega)))
          go_roundw
          case rel => exact ⟨k + 1, _, _, by go_num, (RedAt.next HRA.out G6 hsome (okR_next hb) (by show y.n - 1 + 1 = y.n; omega) HO6.out (by omega)).ge (Ge.alloc (Ge.refl _) _)⟩
          case measure => simp [intOf]; omega
      · rw [hb] at HD
        have HD2 := Lib.hid (fun w' (g : Ge wr w') => (HD.out w' g).mono (fun r w2 h => GivesO.ff h))
        clear HD hc
        rcases hf with f1 | ⟨f1, f2⟩
        · rw [f1] at HLf
          clear f1 HSr
          go_wp2_with (first
            | ((go_at_call 76; ((with_reducible refine (HLf.out _ (Ge.refl _)).mono ?_); rintro r w4 ⟨rfl, g4⟩)); have G4 := g4; have b0 := g4.keep b0; have b1 := g4.keep b1; have b2 := g4.keep b2; have b3 := g4.keep b3)
            | ((go_at_call 37; ((with_reducible refine (HD2.out _ G4).mono ?_); rintro r w6 ⟨rfl, g6⟩)); have G6 := Ge.trans G4 g6; have b0 := g6.keep b0; have b1 := g6.keep b1; have b2 := g6.keep b2; have b3 := g6.keep b3; have zl6 : w.heap.size < w6.heap.size := World.block_lt_of_cell? _ _ b0; have R6 := HR.out.ge G6; obtain ⟨r0, p0, f0⟩ := R6 0 (by omega); obtain ⟨r1, p1, f1⟩ := R6 1 (by omega); obtain ⟨r2, p2, f2⟩ := R6 2 (by omega); obtain ⟨r3, p3, f3⟩ := R6 3 (by omega); have zl7 : w.heap.size + 1 < w6.heap.size := World.block_lt_of_cell? _ _ p0; have HO7 := Lib.hid (G6.owns HO.out); have hz6 := (Ge.trans HG.out G6).size; have g06 := Ge.trans HG.out G6))
          have h8 : (((((w6.setCell ⟨w.heap.size + 1, 0, none⟩ (.int .i64 (y.n : Int))).setCell ⟨w.heap.size + 1, 1, none⟩ (.int .i64 (e : Int))).setCell ⟨w.heap.size + 1, 2, none⟩ (.int .i64 y.s)).setCell ⟨w.heap.size + 1, 3, none⟩ (.slice py y.l.length cy)).alloc (.cells #[.int .i64 0, .int .i64 0, .int .i64 0, .slice none 0 0] 33)).ownsRow w.heap.size 45 3 (.slice py y.l.length cy) y.l.length (icells (flatW y.l)) :=
            owns_mono ((own_setD (own_setD (own_setD (own_setD HO7.out (by omega)) (by omega)) (by omega)) (by omega)).alloc _) (by omega)
          have h9 : Ge w (((((w6.setCell ⟨w.heap.size + 1, 0, none⟩ (.int .i64 (y.n : Int))).setCell ⟨w.heap.size + 1, 1, none⟩ (.int .i64 (e : Int))).setCell ⟨w.heap.size + 1, 2, none⟩ (.int .i64 y.s)).setCell ⟨w.heap.size + 1, 3, none⟩ (.slice py y.l.length cy)).alloc (.cells #[.int .i64 0, .int .i64 0, .int .i64 0, .slice none 0 0] 33)) := Ge.alloc (Ge.setCell (Ge.setCell (Ge.setCell (Ge.setCell g06 (by show w.heap.size ≤ w.heap.size + 1; omega) _) (by show w.heap.size ≤ w.heap.size + 1; omega) _) (by show w.heap.size ≤ w.heap.size + 1; omega) _) (by show w.heap.size ≤ w.heap.size + 1; omega) _) _
          have hk5 : k ≤ 5 := by omega
          have H9 := Lib.hid (⟨k, y, .slice py y.l.length cy, hk, hnone, hok, hk5, rfl, h8, h9⟩ : GivesA w e x (.returned (.tuple #[.agg #[.int .i64 (y.n : Int), .int .i64 (e : Int), .int .i64 y.s, .slice py y.l.length cy], .int .i64 (k : Int), .bool true])) (((((w6.setCell ⟨w.heap.size + 1, 0, none⟩ (.int .i64 (y.n : Int))).setCell ⟨w.heap.size + 1, 1, none⟩ (.int .i64 (e : Int))).setCell ⟨w.heap.size + 1, 2, none⟩ (.int .i64 y.s)).setCell ⟨w.heap.size + 1, 3, none⟩ (.slice py y.l.length cy)).alloc (.cells #[.int .i64 0, .int .i64 0, .int .i64 0, .slice none 0 0] 33)))
          clear h8 h9 hk hyn hnone hok HRA
          exact bodyPost_ret (v := .tuple #[.agg #[.int .i64 (y.n : Int), .int .i64 (e : Int), .int .i64 y.s, .slice py y.l.length cy], .int .i64 (k : Int), .bool true]) (by simp [results, Tryz.results41, go_sem, *]) rfl H9.out
        · rw [f1] at HLf
          rw [f2] at HSr
          clear f1 f2
          go_wp2_with (first
            | ((go_at_call 76; ((with_reducible refine (HLf.out _ (Ge.refl _)).mono ?_); rintro r w4 ⟨rfl, g4⟩)); have G4 := g4; have b0 := g4.keep b0; have b1 := g4.keep b1; have b2 := g4.keep b2; have b3 := g4.keep b3)
            | ((go_at_call 77; ((with_reducible refine (HSr.out _ G4).mono ?_); rintro r w5 ⟨rfl, g5⟩)); have G4 := Ge.trans G4 g5; have b0 := g5.keep b0; have b1 := g5.keep b1; have b2 := g5.keep b2; have b3 := g5.keep b3)
            | ((go_at_call 37; ((with_reducible refine (HD2.out _ G4).mono ?_); rintro r w6 ⟨rfl, g6⟩)); have G6 := Ge.trans G4 g6; have b0 := g6.keep b0; have b1 := g6.keep b1; have b2 := g6.keep b2; have b3 := g6.keep b3; have zl6 : w.heap.size < w6.heap.size := World.block_lt_of_cell? _ _ b0; have R6 := HR.out.ge G6; obtain ⟨r0, p0, f0⟩ := R6 0 (by omega); obtain ⟨r1, p1, f1⟩ := R6 1 (by omega); obtain ⟨r2, p2, f2⟩ := R6 2 (by omega); obtain ⟨r3, p3, f3⟩ := R6 3 (by omega); have zl7 : w.heap.size + 1 < w6.heap.size := World.block_lt_of_cell? _ _ p0; have HO7 := Lib.hid (G6.owns HO.out); have hz6 := (Ge.trans HG.out G6).size; have g06 := Ge.trans HG.out G6))
          have h8 : (((((w6.setCell ⟨w.heap.size + 1, 0, none⟩ (.int .i64 (y.n : Int))).setCell ⟨w.heap.size + 1, 1, none⟩ (.int .i64 (e : Int))).setCell ⟨w.heap.size + 1, 2, none⟩ (.int .i64 y.s)).setCell ⟨w.heap.size + 1, 3, none⟩ (.slice py y.l.length cy)).alloc (.cells #[.int .i64 0, .int .i64 0, .int .i64 0, .slice none 0 0] 33)).ownsRow w.heap.size 45 3 (.slice py y.l.length cy) y.l.length (icells (flatW y.l)) :=
            owns_mono ((own_setD (own_setD (own_setD (own_setD HO7.out (by omega)) (by omega)) (by omega)) (by omega)).alloc _) (by omega)
          have h9 : Ge w (((((w6.setCell ⟨w.heap.size + 1, 0, none⟩ (.int .i64 (y.n : Int))).setCell ⟨w.heap.size + 1, 1, none⟩ (.int .i64 (e : Int))).setCell ⟨w.heap.size + 1, 2, none⟩ (.int .i64 y.s)).setCell ⟨w.heap.size + 1, 3, none⟩ (.slice py y.l.length cy)).alloc (.cells #[.int .i64 0, .int .i64 0, .int .i64 0, .slice none 0 0] 33)) := Ge.alloc (Ge.setCell (Ge.setCell (Ge.setCell (Ge.setCell g06 (by show w.heap.size ≤ w.heap.size + 1; omega) _) (by show w.heap.size ≤ w.heap.size + 1; omega) _) (by show w.heap.size ≤ w.heap.size + 1; omega) _) (by show w.heap.size ≤ w.heap.size + 1; omega) _) _
          have hk5 : k ≤ 5 := by omega
          have H9 := Lib.hid (⟨k, y, .slice py y.l.length cy, hk, hnone, hok, hk5, rfl, h8, h9⟩ : GivesA w e x (.returned (.tuple #[.agg #[.int .i64 (y.n : Int), .int .i64 (e : Int), .int .i64 y.s, .slice py y.l.length cy], .int .i64 (k : Int), .bool true])) (((((w6.setCell ⟨w.heap.size + 1, 0, none⟩ (.int .i64 (y.n : Int))).setCell ⟨w.heap.size + 1, 1, none⟩ (.int .i64 (e : Int))).setCell ⟨w.heap.size + 1, 2, none⟩ (.int .i64 y.s)).setCell ⟨w.heap.size + 1, 3, none⟩ (.slice py y.l.length cy)).alloc (.cells #[.int .i64 0, .int .i64 0, .int .i64 0, .slice none 0 0] 33)))
          clear h8 h9 hk hyn hnone hok HRA
          exact bodyPost_ret (v := .tuple #[.agg #[.int .i64 (y.n : Int), .int .i64 (e : Int), .int .i64 y.s, .slice py y.l.length cy], .int .i64 (k : Int), .bool true]) (by simp [results, Tryz.results41, go_sem, *]) rfl H9.out
end Go.Proofs.YtagiecajffhnpaaGreat

namespace Go.Proofs.YtagiecajffhnpaaGreat
set_option maxRecDepth 100000
open Go.ChangeShapes Go.WideShapes Go.ChangeAt Go.RowKit Go.Joins

def canM (n m : Nat) (xs : List Int) : List Wr := tabC (fun (i j : Nat) => wbet xs m (i : Int) (j : Int)) n n
def canS (n : Nat) (S : Int) (m : Nat) (xs : List Int) : Int := S.tdiv (gcdF S (canM n m xs))
def canL (n : Nat) (S : Int) (m : Nat) (xs : List Int) : List Wr := cutW (gcdF S (canM n m xs)) (canM n m xs)
noncomputable def canB (n : Nat) (e S : Int) (m : Nat) (xs : List Int) : Bool := netB n e (canS n S m xs) (canL n S m xs).length (flatW (canL n S m xs))

set_option maxHeartbeats 3200000 in
theorem iCanonNet (n e : Nat) (S : Int) (s : Value) (m : Nat) (xs : List Int) (w : World) (hs : SlF w s m 3 xs) (hB : netB n e S m xs = true) :
    Calls Tryz.prog 40 #[.agg #[.int .i64 (n : Int), .int .i64 (e : Int), .int .i64 S, s]] w (GivesO w (canB n e S m xs) n e (canS n S m xs) (canL n S m xs)) := by
  obtain ⟨⟨h1, h5⟩, ⟨e1, e2⟩, ⟨s1, s2⟩, hok, _⟩ := netP_of hB
  have hm : m ≤ 10 := prs_len (by omega) hok
  have HV := Lib.hid hs
  have HK := Lib.hid hok
  have hTb : ∀ a b : Nat, 0 ≤ wbet xs m (a : Int) (b : Int) ∧ wbet xs m (a : Int) (b : Int) ≤ 200 := fun a b => wbet_bd hok _ _
  obtain ⟨p, cap, rfl, _⟩ := hs.open
  have HNo := Lib.hid (fun w' (g : Ge w w') => iNetOk n e S (.slice p m cap) m xs w' (HV.out.ge g) (by omega))
  rw [hB] at HNo
  have HTa := Lib.hid (fun w' (g : Ge w w') => iTable n e S (.slice p m cap) m xs w' (HV.out.ge g) hm (by omega) (by omega) HK.out)
  have HN6 := Lib.hid (fun vM w' (h : SlMM w' vM n (fun (a b : Int) => wbet xs m a b)) => iNetOf n e S (fun (a b : Int) => wbet xs m a b) vM w' h (by omega) (by omega) (by omega) (fun a b _ _ => by have := hTb a b; omega))
  change Hid (∀ vM w', _ → Calls _ _ _ _ (GivesO w' (netB n e (canS n S m xs) (canM n m xs).length (flatW (canL n S m xs))) n e (canS n S m xs) (canL n S m xs))) at HN6
  have hcl : (canM n m xs).length = (canL n S m xs).length := by unfold canL; rw [cutW_length]
  have HBB : Hid (canB n e S m xs = netB n e (canS n S m xs) (canL n S m xs).length (flatW (canL n S m xs))) := rfl
  obtain ⟨NB0, R0⟩ := in_res w n e S (.slice p m cap)
  have zR : w.heap.size + 1 < ((w.alloc (.cells #[.int .i64 n, .int .i64 e, .int .i64 S, .slice p m cap] 33)).alloc (.cells #[.int .i64 0, .int .i64 0, .int .i64 0, .slice none 0 0] 33)).heap.size := by simp
  rw [HBB.out]
  obtain ⟨BB, hBB⟩ : ∃ BB, netB n e (canS n S m xs) (canL n S m xs).length (flatW (canL n S m xs)) = BB := ⟨_, rfl⟩
  rw [hBB]
  have HN7 : Hid (∀ vM w', SlMM w' vM n (fun (a b : Int) => wbet xs m a b) → Calls Tryz.prog 71 #[.int .i64 (e : Int), .int .i64 S, vM, .bool true] w' (GivesO w' BB n e (canS n S m xs) (canL n S m xs))) := fun vM w' h => by
    have h2 := HN6.out vM w' h
    rw [hcl, hBB] at h2
    exact h2
  clear HN6 HBB hcl hBB
  generalize canS n S m xs = SS at *
  generalize canL n S m xs = LL at *
  clear hs hok hB HK hTb
  go_enter Tryz.func40, Tryz.ntmps40
  go_upto_region 3 with ((go_at_call 43; ((with_reducible refine (HNo.out _ (kge)).mono ?_); rintro r w1 ⟨rfl, g1⟩)); have NB1 := NB0.ge g1; have R1 := R0.ge g1; have gw1 : Ge w w1 := (kge); obtain ⟨b0, b1, b2, b3⟩ := NB1; have z1 := Nat.lt_of_lt_of_le zR g1.size)
  refine wp_region_head (S := fun w' => w'.cell? ⟨w.heap.size, 0, none⟩ = some (.int .i64 (n : Int)) ∧ w'.cell? ⟨w.heap.size, 1, none⟩ = some (.int .i64 (e : Int)) ∧ w'.cell? ⟨w.heap.size, 2, none⟩ = some (.int .i64 S) ∧ w'.cell? ⟨w.heap.size, 3, none⟩ = some (.slice p m cap)) 9 (by kernel_rfl) (by kernel_rfl) (⟨cell_drew b0, cell_drew b1, cell_drew b2, cell_drew b3⟩) (fun hHeld => ?_)
  refine head_takeR 0 (v := ?_) rfl ?_ ?_; rotate_left; (focus (intro w' hSw; (try dsimp only at hSw); go_simp; (try with_reducible rfl))); (try simp only [Act.put, hnA, hnB, hnC])
  refine head_takeR 1 (v := ?_) rfl ?_ ?_; rotate_left; (focus (intro w' hSw; (try dsimp only at hSw); go_simp; (try with_reducible rfl))); (try simp only [Act.put, hnA, hnB, hnC])
  refine head_takeR 2 (v := ?_) rfl ?_ ?_; rotate_left; (focus (intro w' hSw; (try dsimp only at hSw); go_simp; (try with_reducible rfl))); (try simp only [Act.put, hnA, hnB, hnC])
  refine head_takeR 3 (v := ?_) rfl ?_ ?_; rotate_left; (focus (intro w' hSw; (try dsimp only at hSw); go_simp; (try with_reducible rfl))); (try simp only [Act.put, hnA, hnB, hnC])
  refine head_takeR 4 (v := ?_) rfl ?_ ?_; rotate_left; (focus (intro w' hSw; (try dsimp only at hSw); go_simp; (try with_reducible rfl))); (try simp only [Act.put, hnA, hnB, hnC])
  refine head_one 5 rfl (by kernel_rfl) (fun K hK => ?_)
  go_simp
  (go_at_call 70; ((with_reducible refine (HTa.out _ (Ge.drew gw1)).mono ?_); rintro r w5 ⟨G, f, cs, rfl, hO, g5⟩))
  have hM5 := hO.slMM (Z := fun (a b : Int) => wbet xs m a b) (fun a b _ _ => rfl)
  have g5' : Ge w1 w5 := Ge.trans (Ge.drew (Ge.refl _)) g5
  refine hK.out _ _ ⟨g5'.keep b0, g5'.keep b1, g5'.keep b2, g5'.keep b3⟩ (fun hHeld => ?_)
  clear hK K
  (try simp only [Act.put, hnA, hnB, hnC])
  refine head_one 6 rfl (by kernel_rfl) (fun K hK => ?_)
  go_simp
  (go_at_call 71; ((with_reducible refine (HN7.out _ _ hM5).mono ?_); rintro r w6 ⟨g6, hcase⟩))
  have g6' : Ge w1 w6 := Ge.trans g5' g6
  have gw6 : Ge w w6 := Ge.trans gw1 g6'
  have R6 := R1.ge g6'
  obtain ⟨r0, p0, f0⟩ := R6 0 (by omega)
  obtain ⟨r1, p1, f1⟩ := R6 1 (by omega)
  obtain ⟨r2, p2, f2⟩ := R6 2 (by omega)
  obtain ⟨r3, p3, f3⟩ := R6 3 (by omega)
  rcases hcase with ⟨hb, u6, rfl, o6⟩ | ⟨hb, rfl⟩
  · refine hK.out _ _ ⟨g6'.keep b0, g6'.keep b1, g6'.keep b2, g6'.keep b3⟩ (fun hHeld => ?_)
    clear hK K
    (try simp only [Act.put, hnA, hnB, hnC])
    refine head_takeR 7 (v := ?_) rfl ?_ ?_; rotate_left; (focus (intro w' hSw; (try dsimp only at hSw); go_simp; (try with_reducible rfl))); (try simp only [Act.put, hnA, hnB, hnC])
    refine head_takeR 8 (v := ?_) rfl ?_ ?_; rotate_left; (focus (intro w' hSw; (try dsimp only at hSw); go_simp; (try with_reducible rfl))); (try simp only [Act.put, hnA, hnB, hnC])
    refine head_done (by kernel_rfl) ?_
    have HO6 := Lib.hid o6
    obtain ⟨p6, c6, rfl⟩ := owns_form o6
    clear o6
    have hz5 := g5'.size
    go_wp2_with fail
    exact bodyPost_ret (v := .tuple #[.agg #[.int .i64 (n : Int), .int .i64 (e : Int), .int .i64 SS, .slice p6 LL.length c6], .bool true]) (by simp [results, Tryz.results40, go_sem, *]) rfl (GivesO.t hb (by refine owns_mono (base := w5.heap.size) ?_ (by omega); repeat (first | exact HO6.out | refine own_setD ?_ (by omega))) (kge))
  · refine hK.out _ _ ⟨g6'.keep b0, g6'.keep b1, g6'.keep b2, g6'.keep b3⟩ (fun hHeld => ?_)
    clear hK K
    (try simp only [Act.put, hnA, hnB, hnC])
    refine head_takeR 7 (v := ?_) rfl ?_ ?_; rotate_left; (focus (intro w' hSw; (try dsimp only at hSw); go_simp; (try with_reducible rfl))); (try simp only [Act.put, hnA, hnB, hnC])
    refine head_takeR 8 (v := ?_) rfl ?_ ?_; rotate_left; (focus (intro w' hSw; (try dsimp only at hSw); go_simp; (try with_reducible rfl))); (try simp only [Act.put, hnA, hnB, hnC])
    refine head_done (by kernel_rfl) ?_
    go_wp2_with fail
    exact bodyPost_ret (v := .tuple #[.agg #[.int .i64 0, .int .i64 0, .int .i64 0, .slice none 0 0], .bool false]) (by simp [results, Tryz.results40, go_sem, *]) rfl (GivesO.f hb (kge))

/-- A valid network, whose nodes and terminals are counts. -/
def okNt (y : Nt) : Prop := ∃ n e : Nat, y.nodes = n ∧ y.ends = e ∧ netB n e y.scale y.wires.length (flatW y.wires) = true
/-- A network in the block B of the call's own, and the result's block behind it. -/
def BoxAt (w wr : World) (y : Nt) (u : Value) : Prop :=
  NetIn wr w.heap.size y.nodes y.ends y.scale u ∧ ResD wr w.heap.size ∧ ResD wr (w.heap.size + 1) ∧ wr.ownsRow (w.heap.size + 2) 45 3 u y.wires.length (icells (flatW y.wires)) ∧ Ge w wr
theorem BoxAt.ge {w wr W : World} {y : Nt} {u : Value} (h : BoxAt w wr y u) (hg : Ge wr W) : BoxAt w W y u :=
  ⟨h.1.ge hg, h.2.1.ge hg, h.2.2.1.ge hg, hg.owns h.2.2.2.1, Ge.trans h.2.2.2.2 hg⟩
theorem BoxAt.put {w W : World} {z : Nt} {u' : Value} (RB2 : ResD W w.heap.size) (R2 : ResD W (w.heap.size + 1)) (gW : Ge w W) {b : Nat}
    (ho : W.ownsRow b 45 3 u' z.wires.length (icells (flatW z.wires))) (hb : w.heap.size + 2 ≤ b) :
    BoxAt w ((((W.setCell ⟨w.heap.size, 0, none⟩ (.int .i64 z.nodes)).setCell ⟨w.heap.size, 1, none⟩ (.int .i64 z.ends)).setCell ⟨w.heap.size, 2, none⟩ (.int .i64 z.scale)).setCell ⟨w.heap.size, 3, none⟩ u') z u' := by
  obtain ⟨r0, p0, f0⟩ := RB2 0 (by omega)
  obtain ⟨r1, p1, f1⟩ := RB2 1 (by omega)
  obtain ⟨r2, p2, f2⟩ := RB2 2 (by omega)
  obtain ⟨r3, p3, f3⟩ := RB2 3 (by omega)
  refine ⟨⟨?_, ?_, ?_, ?_⟩, ?_, ?_, ?_, ?_⟩
  · exact cell_set2 (by simp) (cell_set2 (by simp) (cell_set2 (by simp) (World.cell?_setCell_same _ _ _ p0)))
  · exact cell_set2 (by simp) (cell_set2 (by simp) (World.cell?_setCell_same _ _ _ (cell_set2 (by simp) p1)))
  · exact cell_set2 (by simp) (World.cell?_setCell_same _ _ _ (cell_set2 (by simp) (cell_set2 (by simp) p2)))
  · exact World.cell?_setCell_same _ _ _ (cell_set2 (by simp) (cell_set2 (by simp) (cell_set2 (by simp) p3)))
  · exact ResD.setB (ResD.setB (ResD.setB (ResD.setB RB2)))
  · exact ResD.setO (ResD.setO (ResD.setO (ResD.setO R2 (by omega)) (by omega)) (by omega)) (by omega)
  · exact owns_mono (own_setD (own_setD (own_setD (own_setD ho (by omega)) (by omega)) (by omega)) (by omega)) (by omega)
  · exact Ge.setCell (Ge.setCell (Ge.setCell (Ge.setCell gW (Nat.le_refl _) _) (Nat.le_refl _) _) (Nat.le_refl _) _) (Nat.le_refl _) _
/-- The last node taken out. -/
noncomputable def mshB (y : Nt) : Bool := redB y.nodes.toNat y.ends y.scale y.wires (y.nodes.toNat - 1)
noncomputable def mshN (y : Nt) : Nt := oNet (mshB y) ((y.nodes.toNat - 1 : Nat) : Int) y.ends (redS y.nodes.toNat y.scale y.wires (y.nodes.toNat - 1)) (redL y.nodes.toNat y.scale y.wires (y.nodes.toNat - 1))
noncomputable def meshK : Nat → Bool × Nt → Bool × Nt
  | 0, p => p
  | k + 1, p => if p.1 = true ∧ p.2.ends < p.2.nodes then meshK k (mshB p.2, mshN p.2) else p
theorem meshK_f (k : Nat) (y : Nt) : meshK k (false, y) = (false, y) := by cases k <;> simp [meshK]
theorem meshK_end (k : Nat) (y : Nt) (h : ¬ y.ends < y.nodes) : meshK k (true, y) = (true, y) := by
  cases k with
  | zero => rfl
  | succ k => unfold meshK; rw [if_neg (fun hh => h hh.2)]
theorem okNt_o {b : Bool} {n e : Nat} {S : Int} {L : List Wr} (hb : b = netB n e S L.length (flatW L)) : b = true → okNt (oNet b n e S L) := fun h => by
  subst h
  exact ⟨n, e, rfl, rfl, hb.symm⟩
theorem oNet_t {b : Bool} {N E S : Int} {L : List Wr} (h : b = true) : oNet b N E S L = ⟨N, E, S, L⟩ := by subst h; rfl
theorem meshK_next {y : Nt} {n e : Nat} (h1 : y.nodes = n) (h2 : y.ends = e) (h3 : e < n) : meshK y.nodes.toNat (true, y) = meshK (mshN y).nodes.toNat (mshB y, mshN y) := by
  have e1 : y.nodes.toNat = (n - 1) + 1 := by omega
  have e2 : meshK y.nodes.toNat (true, y) = meshK (n - 1) (mshB y, mshN y) := by
    rw [e1]
    show (if true = true ∧ y.ends < y.nodes then meshK (n - 1) (mshB y, mshN y) else (true, y)) = _
    rw [if_pos ⟨rfl, by omega⟩]
  rw [e2]
  cases hb : mshB y with
  | false => rw [meshK_f, meshK_f]
  | true =>
    congr 1
    unfold mshN
    rw [oNet_t hb]
    simp only
    omega
/-- What MeshAll gives. -/
noncomputable def meshR (n : Nat) (e S : Int) (m : Nat) (xs : List Int) : Bool × Nt := meshK (oNet (canB n e S m xs) n e (canS n S m xs) (canL n S m xs)).nodes.toNat (canB n e S m xs, oNet (canB n e S m xs) n e (canS n S m xs) (canL n S m xs))

set_option maxHeartbeats 6400000 in
theorem iMeshAll (n e : Nat) (S : Int) (s : Value) (m : Nat) (xs : List Int) (w : World) (hs : SlF w s m 3 xs) (hB : netB n e S m xs = true) :
    Calls Tryz.prog 42 #[.agg #[.int .i64 (n : Int), .int .i64 (e : Int), .int .i64 S, s]] w (GivesNet w (meshR n e S m xs).2 (meshR n e S m xs).1) := by
  obtain ⟨p, cap, rfl, _⟩ := hs.open
  have HV := Lib.hid hs
  have HCn := Lib.hid (fun w' (g : Ge w w') => (iCanonNet n e S (.slice p m cap) m xs w' (HV.out.ge g) hB).mono (fun _ _ h => h.net))
  have HR0 : Hid (meshR n e S m xs = meshK (oNet (canB n e S m xs) n e (canS n S m xs) (canL n S m xs)).nodes.toNat (canB n e S m xs, oNet (canB n e S m xs) n e (canS n S m xs) (canL n S m xs))) := rfl
  have HOk : Hid (canB n e S m xs = true → okNt (oNet (canB n e S m xs) n e (canS n S m xs) (canL n S m xs))) := okNt_o rfl
  generalize oNet (canB n e S m xs) n e (canS n S m xs) (canL n S m xs) = Y at *
  generalize canB n e S m xs = B at *
  generalize meshR n e S m xs = R at *
  obtain ⟨NB0, R0⟩ := in_res w n e S (.slice p m cap)
  have RB0 : ResD ((w.alloc (.cells #[.int .i64 n, .int .i64 e, .int .i64 S, .slice p m cap] 33)).alloc (.cells #[.int .i64 0, .int .i64 0, .int .i64 0, .slice none 0 0] 33)) w.heap.size := (ResD.new w _ _ _ _ _).ge (Ge.alloc (Ge.refl _) _)
  have zR : w.heap.size + 2 = ((w.alloc (.cells #[.int .i64 n, .int .i64 e, .int .i64 S, .slice p m cap] 33)).alloc (.cells #[.int .i64 0, .int .i64 0, .int .i64 0, .slice none 0 0] 33)).heap.size := by simp
  clear hs hB
  go_enter Tryz.func42, Tryz.ntmps42
  go_wp2_with ((go_at_call 40; ((with_reducible refine (HCn.out _ (kge)).mono ?_); rintro r w1 ⟨u1, rfl, o1, g1⟩)); have RB1 := RB0.ge g1; obtain ⟨r0, p0, f0⟩ := RB1 0 (by omega); obtain ⟨r1, p1, f1⟩ := RB1 1 (by omega); obtain ⟨r2, p2, f2⟩ := RB1 2 (by omega); obtain ⟨r3, p3, f3⟩ := RB1 3 (by omega); have HO1 := Lib.hid o1; obtain ⟨pu, cu, rfl⟩ := owns_form o1; have GW1 := Lib.hid ((Ge.alloc (Ge.alloc (Ge.refl w) _) _).trans g1); have R1 := Lib.hid (R0.ge g1); have RB := Lib.hid RB1; clear o1)
  have HBx := Lib.hid (BoxAt.put (z := Y) (u' := .slice pu Y.wires.length cu) RB.out R1.out GW1.out HO1.out (by omega))
  clear RB R1 GW1 HO1 RB0 R0 NB0 HCn RB1 p0 p1 p2 p3 f0 f1 f2 f3
  generalize ((((w1.setCell ⟨w.heap.size, 0, none⟩ (.int .i64 Y.nodes)).setCell ⟨w.heap.size, 1, none⟩ (.int .i64 Y.ends)).setCell ⟨w.heap.size, 2, none⟩ (.int .i64 Y.scale)).setCell ⟨w.heap.size, 3, none⟩ (.slice pu Y.wires.length cu)) = w2 at *
  go_loopw [4] (fun bv wr => ∃ (b : Bool) (y : Nt) (u : Value), bv = .bool b ∧ Hid (R = meshK y.nodes.toNat (b, y)) ∧ Hid (b = true → okNt y) ∧ Hid (BoxAt w wr y u)) (fun _ wr => (intOf ((wr.cell? ⟨w.heap.size, 0, none⟩).getD undef)).toNat)
  case atStart => exact ⟨B, Y, _, rfl, HR0.out, HOk.out, HBx.out⟩
  case round =>
    clear HR0 HOk HBx
    obtain ⟨b, y, u, rfl, HR, HOk, HBx⟩ := hrel
    obtain ⟨⟨b0, b1, b2, b3⟩, hRB, hR, hO, hg⟩ := HBx.out
    obtain ⟨pv, cv, rfl⟩ := owns_form hO
    have HO := Lib.hid hO
    have HRB := Lib.hid hRB
    have HRs := Lib.hid hR
    have HG := Lib.hid hg
    have zr : w.heap.size + 1 < wr.heap.size := by obtain ⟨u0, q0, _⟩ := hR 0 (by omega); exact World.block_lt_of_cell? _ _ q0
    obtain ⟨r0, p0, f0⟩ := hR 0 (by omega)
    obtain ⟨r1, p1, f1⟩ := hR 1 (by omega)
    obtain ⟨r2, p2, f2⟩ := hR 2 (by omega)
    obtain ⟨r3, p3, f3⟩ := hR 3 (by omega)
    clear hO hRB hR HBx
    cases b with
    | false =>
      have HE : Hid (R = (false, y)) := by show _ = _; rw [HR.out, meshK_f]
      have HF : Hid (GivesNet w R.2 R.1 (.returned (.tuple #[.agg #[.int .i64 y.nodes, .int .i64 y.ends, .int .i64 y.scale, .slice pv y.wires.length cv], .bool false])) ((((wr.setCell ⟨w.heap.size + 1, 0, none⟩ (.int .i64 y.nodes)).setCell ⟨w.heap.size + 1, 1, none⟩ (.int .i64 y.ends)).setCell ⟨w.heap.size + 1, 2, none⟩ (.int .i64 y.scale)).setCell ⟨w.heap.size + 1, 3, none⟩ (.slice pv y.wires.length cv))) := by
        show GivesNet _ _ _ _ _
        rw [HE.out]
        exact ⟨_, rfl, owns_mono (own_setD (own_setD (own_setD (own_setD HO.out (by omega)) (by omega)) (by omega)) (by omega)) (by omega), Ge.setCell (Ge.setCell (Ge.setCell (Ge.setCell hg (by show w.heap.size ≤ w.heap.size + 1; omega) _) (by show w.heap.size ≤ w.heap.size + 1; omega) _) (by show w.heap.size ≤ w.heap.size + 1; omega) _) (by show w.heap.size ≤ w.heap.size + 1; omega) _⟩
      clear HR HOk HE
      go_wp2_with fail
      exact bodyPost_ret (v := .tuple #[.agg #[.int .i64 y.nodes, .int .i64 y.ends, .int .i64 y.scale, .slice pv y.wires.length cv], .bool false]) (by simp [results, Tryz.results42, go_sem, *]) rfl HF.out
    | true =>
      obtain ⟨n', e', hn, he, hyB⟩ := HOk.out rfl
      by_cases hlt : e' < n'
      · have en : y.nodes.toNat = n' := by omega
        obtain ⟨⟨h1, h5⟩, _⟩ := netP_of hyB
        have hpos := wat_conn hyB (by omega) (v := ((n' - 1 : Nat) : Int)) ⟨by omega, by omega⟩
        have HS : Hid (∀ w', Ge wr w' → Calls Tryz.prog 38 #[.agg #[.int .i64 y.nodes, .int .i64 y.ends, .int .i64 y.scale, .slice pv y.wires.length cv], .int .i64 (y.nodes - 1)] w' (GivesNet w' (mshN y) (mshB y))) := fun w' g => by
          have h := (iStarMesh n' (n' - 1) e' y.scale (.slice pv y.wires.length cv) y.wires w' (SlF.of_owns (g.owns HO.out)) hyB (by omega) (by omega) hpos).mono (fun _ _ h => h.net)
          have e1 : ((n' - 1 : Nat) : Int) = y.nodes - 1 := by omega
          unfold mshN mshB
          rw [en, hn, he, ← hn]
          rw [← hn, e1] at h
          rw [e1]
          exact h
        have HRn : Hid (R = meshK (mshN y).nodes.toNat (mshB y, mshN y)) := HR.out.trans (meshK_next hn he hlt)
        have HOn : Hid (mshB y = true → okNt (mshN y)) := by
          show _ → _
          unfold mshN
          have : mshB y = redB y.nodes.toNat y.ends y.scale y.wires (y.nodes.toNat - 1) := rfl
          rw [this, he]
          exact okNt_o rfl
        have HMs : Hid ((mshN y).nodes.toNat < y.nodes.toNat) := by
          show _ < _
          unfold mshN oNet
          split <;> simp only <;> omega
        have t1 : decide (y.ends < y.nodes) = true := by simp; omega
        have tw : wrap64 (y.nodes - 1) = y.nodes - 1 := IntWalk.wrap64_in _ ⟨by omega, by omega⟩
        generalize mshN y = Z at *
        generalize mshB y = ZB at *
        clear HR HOk hn he hyB en hpos h1 h5
        go_wp2_with ((go_at_call 38; ((with_reducible refine (HS.out _ (Ge.refl _)).mono ?_); rintro r w6 ⟨u6, rfl, o6, g6⟩)); have RB6 := HRB.out.ge g6; obtain ⟨q0, d0, k0⟩ := RB6 0 (by omega); obtain ⟨q1, d1, k1⟩ := RB6 1 (by omega); obtain ⟨q2, d2, k2⟩ := RB6 2 (by omega); obtain ⟨q3, d3, k3⟩ := RB6 3 (by omega); have HO6 := Lib.hid o6; obtain ⟨p6, c6, rfl⟩ := owns_form o6; clear o6; have HBn := Lib.hid (BoxAt.put (z := Z) (u' := .slice p6 Z.wires.length c6) RB6 (HRs.out.ge g6) (hg.trans g6) HO6.out (by omega)); clear RB6)
        go_roundw
        case rel => exact ⟨ZB, Z, _, rfl, HRn.out, HOn.out, HBn.out⟩
        case measure => rw [HBn.out.1.1, b0]; exact HMs.out
      · have HE : Hid (R = (true, y)) := by show _ = _; rw [HR.out, meshK_end _ _ (by omega)]
        have t1 : decide (y.ends < y.nodes) = false := by simp; omega
        have HF : Hid (GivesNet w R.2 R.1 (.returned (.tuple #[.agg #[.int .i64 y.nodes, .int .i64 y.ends, .int .i64 y.scale, .slice pv y.wires.length cv], .bool true])) ((((wr.setCell ⟨w.heap.size + 1, 0, none⟩ (.int .i64 y.nodes)).setCell ⟨w.heap.size + 1, 1, none⟩ (.int .i64 y.ends)).setCell ⟨w.heap.size + 1, 2, none⟩ (.int .i64 y.scale)).setCell ⟨w.heap.size + 1, 3, none⟩ (.slice pv y.wires.length cv))) := by
          show GivesNet _ _ _ _ _
          rw [HE.out]
          exact ⟨_, rfl, owns_mono (own_setD (own_setD (own_setD (own_setD HO.out (by omega)) (by omega)) (by omega)) (by omega)) (by omega), Ge.setCell (Ge.setCell (Ge.setCell (Ge.setCell hg (by show w.heap.size ≤ w.heap.size + 1; omega) _) (by show w.heap.size ≤ w.heap.size + 1; omega) _) (by show w.heap.size ≤ w.heap.size + 1; omega) _) (by show w.heap.size ≤ w.heap.size + 1; omega) _⟩
        clear HR HOk HE hn he hyB
        go_wp2_with fail
        exact bodyPost_ret (v := .tuple #[.agg #[.int .i64 y.nodes, .int .i64 y.ends, .int .i64 y.scale, .slice pv y.wires.length cv], .bool true]) (by simp [results, Tryz.results42, go_sem, *]) rfl HF.out
end Go.Proofs.YtagiecajffhnpaaGreat
