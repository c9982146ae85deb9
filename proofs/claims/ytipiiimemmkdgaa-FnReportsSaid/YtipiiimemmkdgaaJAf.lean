/- DropNode of the reference. No condition. copyNet of impl; all wires appended to an empty row. No condition. ReduceAll of both sides. No condition. Appending no wires. No condition. ReduceAll of the reference. No condition. FormatNet of impl and of spec. No condition. -/
import Derived.Test.YtipiiimemmkdgaaJAe
import Derived.Test.YtipiiimemmkdgaaWIn
import Derived.Test.YtipiiimemmkdgaaWTail
import Derived.Test.YtipiiimemmkdgaaJAa
import Derived.Test.YtipiiimemmkdgaaWNetOkS
import Derived.Test.YtipiiimemmkdgaaJAc
namespace Go.Proofs.Ytipiiimemmkdgaa
set_option maxRecDepth 100000
open Go.ChangeShapes Go.WideShapes Go.ChangeAt Go.RowKit Go.Joins

end Go.Proofs.Ytipiiimemmkdgaa

namespace Go.Proofs.Ytipiiimemmkdgaa
set_option maxRecDepth 100000
open Go.ChangeShapes Go.WideShapes Go.ChangeAt Go.RowKit Go.Joins

theorem ap_wires0 {w : World} {o : Oper} {a : Act} {K : Act → World → Prop} {Q : Exit → Act → World → Prop} (s x : Operand)
    (ho : o.op = .call { callee := .builtin .append, args := #[s, x], argTypes := #[23, 23] })
    (hs : a.eval s = .slice (some ⟨w.heap.size, 0, none⟩) 0 0) (ad : Addr) (m c : Nat) (ys : List Int) (hx : a.eval x = .slice (some ad) m c) (hy : SlF w (.slice (some ad) m c) m 3 ys) (hm : m < 1000)
    (h : ∀ v' w', w'.ownsRow w.heap.size 49 3 v' m (icells ys) → Ge w w' → K (a.put o.dst v') w') : o.wp Try.prog a (w.alloc (.cells #[] 49)) K Q := by
  obtain ⟨i, hi1, hi2, hi3, hi4⟩ := info_parts inf_Wire3
  have hy' := SlF.ge hy (Ge.alloc (Ge.refl w) (.cells #[] 49))
  obtain ⟨h1, p, c', he, hc⟩ := hy'
  simp only [Value.slice.injEq] at he
  obtain ⟨rfl, _, rfl⟩ := he
  have hO : (w.alloc (.cells #[] 49)).ownsRow w.heap.size 49 3 (.slice (some ⟨w.heap.size, 0, none⟩) 0 0) 0 (icells []) := owns_lit0 _ _ _
  refine wp_append_own (w.alloc (.cells #[] 49)) s x 23 ho w.heap.size 49 i _ 3 24 Try.underlying23 hi1 hi2 hi3 hi4 rfl (by decide) _ 0 (icells []) hs hO ad m c (icells ys) hx h1 (fun j u hu => ?_) (fun u hu => ?_) (by unfold maxLen; omega) (by omega) (by simp) (fun v' w' h2 h3 _ => h v' w' (by rw [Nat.zero_add] at h2; exact h2) ((Ge.alloc (Ge.refl w) _).mine hO (Nat.le_refl _) h3))
  · obtain ⟨b, o, e, hz⟩ := hc j u hu
    simp only [Option.some.injEq] at e
    subst e
    by_cases hj0 : j = 0
    · subst hj0; simpa [Addr.add] using hz
    · simpa [Addr.add, hj0] using hz
  · simp only [icells, List.mem_map] at hu
    obtain ⟨_, _, rfl⟩ := hu
    rfl

theorem ap_wiresL {w : World} {ops : Array Oper} {rest : List Oper} {o : Oper} {a : Act} {Q : Exit → Act → World → Prop} (hgd : o.guard = none) (s x : Operand)
    (ho : o.op = .call { callee := .builtin .append, args := #[s, x], argTypes := #[23, 23] })
    (hs : a.eval s = .slice (some ⟨w.heap.size, 0, none⟩) 0 0) (ad : Addr) (m c : Nat) (ys : List Int) (hx : a.eval x = .slice (some ad) m c) (hy : SlF w (.slice (some ad) m c) m 3 ys) (hm : m < 1000)
    (h : ∀ v' w', w'.ownsRow w.heap.size 49 3 v' m (icells ys) → Ge w w' → wpList Try.prog ops Q rest (a.put o.dst v') w') : wpList Try.prog ops Q (o :: rest) a (w.alloc (.cells #[] 49)) :=
  wpList_plain hgd fun _ hK => ap_wires0 s x ho hs ad m c ys hx hy hm (fun v' w' h1 h2 => hK _ _ (h v' w' h1 h2))

theorem cloneW (v : Value) (m : Nat) (xs : List Int) (w : World) (hs : SlF w v m 3 xs) (hm : m < 1000) :
    Calls Try.prog 59 #[v] w fun r w' => ∃ u, r = .returned u ∧ w'.ownsRow w.heap.size 49 3 u m (icells xs) ∧ Ge w w' := by
  have HV := Lib.hid hs
  obtain ⟨p, cap, rfl, hc⟩ := hs.open
  have hl := hs.length
  have q27 : ∀ (w : World) (a : Option Addr) (n c n' c' : Nat), (binOp .eql 23 (.slice a n c) (.slice none n' c')).run Try.prog w = .ok (.bool a.isNone) w := fun w a n c n' c' => Lib.run_eql_slice_nil w _ _ a n c n' c' Try.underlying23
  cases p with
  | none =>
    have hm0 : m = 0 := by
      cases m with
      | zero => rfl
      | succ k => obtain ⟨b, o, h, _⟩ := hc 0 (by omega); cases h
    subst hm0
    have hx : xs = [] := List.eq_nil_of_length_eq_zero (by omega)
    subst hx
    clear hc hs
    go_enter Try.func59, Try.ntmps59
    go_wp2_with fail
    go_ret
    refine ⟨_, rfl, ?_, Ge.refl _⟩
    exact ⟨rfl, .inl ⟨rfl, rfl⟩⟩
  | some ad =>
    clear hc hs
    go_enter Try.func59, Try.ntmps59
    go_wp2_with (at_builtin; refine ap_wiresL rfl _ _ rfl rfl ad m cap xs rfl HV.out hm ?_; intro v' w' h1 h2; have HO := Lib.hid h1; clear h1)
    go_ret
    exact ⟨_, rfl, HO.out, h2⟩

set_option maxHeartbeats 1600000 in
theorem iCopyNet (N E S : Int) (v : Value) (m : Nat) (xs : List Int) (w : World) (hs : SlF w v m 3 xs) (hm : m < 1000) :
    Calls Try.prog 43 #[.agg #[.int .i64 N, .int .i64 E, .int .i64 S, v]] w fun r w' => ∃ u, r = .returned (.agg #[.int .i64 N, .int .i64 E, .int .i64 S, u]) ∧ w'.ownsRow w.heap.size 49 3 u m (icells xs) ∧ Ge w w' := by
  have HV := Lib.hid hs
  have HCl := Lib.hid (fun w' (g : Ge w w') => cloneW v m xs w' (HV.out.ge g) hm)
  obtain ⟨NB0, R0⟩ := in_res w N E S v
  have F0 : ((w.alloc (.cells #[.int .i64 N, .int .i64 E, .int .i64 S, v] 25)).alloc (.cells #[.int .i64 0, .int .i64 0, .int .i64 0, .slice none 0 0] 25)).frozen? ⟨w.heap.size, 3, none⟩ = false := Ge.keepF (Ge.alloc (Ge.refl _) _) (cell_new rfl rfl) (froz_new (v := v) rfl rfl)
  obtain ⟨p, cap, rfl, _⟩ := hs.open
  clear hs
  go_enter Try.func43, Try.ntmps43
  go_wp2_with (go_at_call 59; ((with_reducible refine (HCl.out _ (by (repeat (first | with_reducible exact Ge.refl _ | assumption | with_reducible refine Ge.drew ?_ | with_reducible refine Ge.drewN ?_ _ | with_reducible refine Ge.alloc ?_ _ | (with_reducible refine Ge.setCell ?_ (by first | (simp; done) | omega | (simp; omega)) _) | with_reducible refine Ge.trans ?_ (by assumption))))).mono ?_); rintro r w1 ⟨u1, rfl, o1, g1⟩); obtain ⟨b0, b1, b2, b3⟩ := NB0.ge g1; have f1 := Ge.keepF g1 NB0.2.2.2 F0; have R1 := R0.ge g1; have gw1 : Ge w w1 := (by (repeat (first | with_reducible exact Ge.refl _ | assumption | with_reducible refine Ge.drew ?_ | with_reducible refine Ge.drewN ?_ _ | with_reducible refine Ge.alloc ?_ _ | (with_reducible refine Ge.setCell ?_ (by first | (simp; done) | omega | (simp; omega)) _) | with_reducible refine Ge.trans ?_ (by assumption)))); have HO1 := Lib.hid o1; obtain ⟨px, cx, rfl⟩ := owns_form o1; clear o1; have z1 := g1.size; (simp at z1); obtain ⟨r0, p0, q0⟩ := R1 0 (by omega); obtain ⟨r1, p1, q1⟩ := R1 1 (by omega); obtain ⟨r2, p2, q2⟩ := R1 2 (by omega); obtain ⟨r3, p3, q3⟩ := R1 3 (by omega))

  have h1 := HO1.out
  simp only [World.size_alloc] at h1
  have h2 : (((((w1.setCell ⟨w.heap.size, 3, none⟩ (.slice px m cx)).setCell ⟨w.heap.size + 1, 0, none⟩ (.int .i64 N)).setCell ⟨w.heap.size + 1, 1, none⟩ (.int .i64 E)).setCell ⟨w.heap.size + 1, 2, none⟩ (.int .i64 S)).setCell ⟨w.heap.size + 1, 3, none⟩ (.slice px m cx)).ownsRow w.heap.size 49 3 (.slice px m cx) m (icells xs) :=
    owns_mono (own_setD (own_setD (own_setD (own_setD (own_setD h1 (by omega)) (by omega)) (by omega)) (by omega)) (by omega)) (by omega)
  have HO2 := Lib.hid h2
  clear h1 h2
  have g2 : Ge w (((((w1.setCell ⟨w.heap.size, 3, none⟩ (.slice px m cx)).setCell ⟨w.heap.size + 1, 0, none⟩ (.int .i64 N)).setCell ⟨w.heap.size + 1, 1, none⟩ (.int .i64 E)).setCell ⟨w.heap.size + 1, 2, none⟩ (.int .i64 S)).setCell ⟨w.heap.size + 1, 3, none⟩ (.slice px m cx)) := by (repeat (first | with_reducible exact Ge.refl _ | assumption | with_reducible refine Ge.drew ?_ | with_reducible refine Ge.drewN ?_ _ | with_reducible refine Ge.alloc ?_ _ | (with_reducible refine Ge.setCell ?_ (by first | (simp; done) | omega | (simp; omega)) _) | with_reducible refine Ge.trans ?_ (by assumption)))
  exact bodyPost_ret (v := .agg #[.int .i64 N, .int .i64 E, .int .i64 S, .slice px m cx]) (by simp [results, Try.results43, go_sem, *]) rfl ⟨_, rfl, HO2.out, g2⟩
end Go.Proofs.Ytipiiimemmkdgaa

namespace Go.Proofs.Ytipiiimemmkdgaa
set_option maxRecDepth 100000
open Go.ChangeShapes Go.WideShapes Go.ChangeAt Go.RowKit Go.Joins

theorem iLeafOf (n e : Nat) (S : Int) (s : Value) (m : Nat) (xs : List Int) (w : World) (hs : SlF w s m 3 xs) (hB : netB n e S m xs = true) :
    Calls Try.prog 44 #[.agg #[.int .i64 (n : Int), .int .i64 (e : Int), .int .i64 S, s]] w fun r w' => r = .returned (.int .i64 (firstN n e m xs 1)) ∧ Ge w w' := by
  have HV := Lib.hid hs
  have H := Lib.hid (fun w' (g : Ge w w') => iFirst n e S s m xs 1 w' (HV.out.ge g) hB)
  rw [show ((1 : Nat) : Int) = 1 from rfl] at H
  obtain ⟨p, cap, rfl, _⟩ := hs.open
  clear hs hB
  go_enter Try.func44, Try.ntmps44
  go_wp2_with ((go_at_call 60; ((with_reducible refine (H.out _ (by (repeat (first | with_reducible exact Ge.refl _ | assumption | with_reducible refine Ge.drew ?_ | with_reducible refine Ge.drewN ?_ _ | with_reducible refine Ge.alloc ?_ _ | (with_reducible refine Ge.setCell ?_ (by first | (simp; done) | omega | (simp; omega)) _) | with_reducible refine Ge.trans ?_ (by assumption))))).mono ?_); rintro r w1 ⟨rfl, g1⟩)))
  go_ret
  exact ⟨rfl, by (repeat (first | with_reducible exact Ge.refl _ | assumption | with_reducible refine Ge.drew ?_ | with_reducible refine Ge.drewN ?_ _ | with_reducible refine Ge.alloc ?_ _ | (with_reducible refine Ge.setCell ?_ (by first | (simp; done) | omega | (simp; omega)) _) | with_reducible refine Ge.trans ?_ (by assumption)))⟩
theorem iSeriesOf (n e : Nat) (S : Int) (s : Value) (m : Nat) (xs : List Int) (w : World) (hs : SlF w s m 3 xs) (hB : netB n e S m xs = true) :
    Calls Try.prog 45 #[.agg #[.int .i64 (n : Int), .int .i64 (e : Int), .int .i64 S, s]] w fun r w' => r = .returned (.int .i64 (firstN n e m xs 2)) ∧ Ge w w' := by
  have HV := Lib.hid hs
  have H := Lib.hid (fun w' (g : Ge w w') => iFirst n e S s m xs 2 w' (HV.out.ge g) hB)
  rw [show ((2 : Nat) : Int) = 2 from rfl] at H
  obtain ⟨p, cap, rfl, _⟩ := hs.open
  clear hs hB
  go_enter Try.func45, Try.ntmps45
  go_wp2_with ((go_at_call 60; ((with_reducible refine (H.out _ (by (repeat (first | with_reducible exact Ge.refl _ | assumption | with_reducible refine Ge.drew ?_ | with_reducible refine Ge.drewN ?_ _ | with_reducible refine Ge.alloc ?_ _ | (with_reducible refine Ge.setCell ?_ (by first | (simp; done) | omega | (simp; omega)) _) | with_reducible refine Ge.trans ?_ (by assumption))))).mono ?_); rintro r w1 ⟨rfl, g1⟩)))
  go_ret
  exact ⟨rfl, by (repeat (first | with_reducible exact Ge.refl _ | assumption | with_reducible refine Ge.drew ?_ | with_reducible refine Ge.drewN ?_ _ | with_reducible refine Ge.alloc ?_ _ | (with_reducible refine Ge.setCell ?_ (by first | (simp; done) | omega | (simp; omega)) _) | with_reducible refine Ge.trans ?_ (by assumption)))⟩
theorem ResD.setB {w : World} {R i : Nat} {x : Value} (h : ResD w R) : ResD (w.setCell ⟨R, i, none⟩ x) R := fun j hj => by
  obtain ⟨u, h1, h2⟩ := h j hj
  by_cases e : i = j
  · subst e
    exact ⟨x, World.cell?_setCell_same _ _ _ h1, froz_set h2⟩
  · exact ⟨u, cell_set2 (fun he => e (by simpa using congrArg Addr.off he)) h1, froz_set h2⟩
/-- The network is valid. -/
noncomputable def okR (e : Nat) (y : NwR) : Prop := netB y.n e y.s y.l.length (flatW y.l) = true
theorem red_cases (e : Nat) (y : NwR) : (redV e y = -1 ∧ redN e y = none ∧ firstN y.n e y.l.length (flatW y.l) 1 = -1 ∧ firstN y.n e y.l.length (flatW y.l) 2 = -1) ∨
    ∃ v c : Nat, (firstN y.n e y.l.length (flatW y.l) 1 = v ∨ (firstN y.n e y.l.length (flatW y.l) 1 = -1 ∧ firstN y.n e y.l.length (flatW y.l) 2 = v)) ∧ e ≤ v ∧ v < y.n ∧ (nearX y.l.length (flatW y.l) v y.n).length = c ∧ 1 ≤ c ∧ c ≤ 2 ∧
      ((redB y.n e y.s y.l v = true ∧ redN e y = some ⟨y.n - 1, redS y.n y.s y.l v, redL y.n y.s y.l v⟩) ∨ (redB y.n e y.s y.l v = false ∧ redN e y = none)) := by
  have h1 : firstN y.n e y.l.length (flatW y.l) 1 = -1 ∨ 0 ≤ firstN y.n e y.l.length (flatW y.l) 1 := by
    rcases firstN_bd y.n e y.l.length (flatW y.l) 1 with h | ⟨h, _⟩
    · exact .inl h
    · exact .inr (by omega)
  have h2 : firstN y.n e y.l.length (flatW y.l) 2 = -1 ∨ 0 ≤ firstN y.n e y.l.length (flatW y.l) 2 := by
    rcases firstN_bd y.n e y.l.length (flatW y.l) 2 with h | ⟨h, _⟩
    · exact .inl h
    · exact .inr (by omega)
  by_cases h : redV e y < 0
  · left
    have hn : redN e y = none := by unfold redN; rw [if_pos h]
    unfold redV at h ⊢
    split at h
    · rename_i hl
      rw [if_pos hl]
      refine ⟨by omega, hn, by omega, by omega⟩
    · omega
  · right
    obtain ⟨v, c, q1, q2, q3, q4, q5, q6, q7⟩ := redV_bd h
    refine ⟨v, c, ?_, q3, q4, q5, q6, q7, ?_⟩
    · unfold redV at q1
      split at q1
      · rename_i hl
        right
        clear q2
        exact ⟨by omega, q1⟩
      · left; exact q1
    · cases hb : redB y.n e y.s y.l v with
      | true =>
        left
        refine ⟨rfl, ?_⟩
        unfold redN
        rw [if_neg h, q2, if_pos hb]
      | false =>
        right
        refine ⟨rfl, ?_⟩
        unfold redN
        rw [if_neg h, q2, if_neg (by rw [hb]; simp)]
theorem okR_next {n e : Nat} {S : Int} {L : List Wr} {v : Nat} (h : redB n e S L v = true) : okR e ⟨n - 1, redS n S L v, redL n S L v⟩ := h
/-- What ReduceAll gives. -/
def GivesA (w : World) (e : Nat) (x : NwR) (r : Ending) (w' : World) : Prop :=
  ∃ (k : Nat) (y : NwR) (u : Value), redK e x k = some y ∧ redN e y = none ∧ okR e y ∧ k ≤ 5 ∧ r = .returned (.tuple #[.agg #[.int .i64 (y.n : Int), .int .i64 (e : Int), .int .i64 y.s, u], .int .i64 (k : Int), .bool true]) ∧
    w'.ownsRow w.heap.size 49 3 u y.l.length (icells (flatW y.l)) ∧ Ge w w'
/-- The loop of ReduceAll: B the variable's block, R the result's. -/
def RedAt (w wr : World) (B R : Nat) (e : Nat) (x : NwR) (k : Nat) (y : NwR) (u : Value) : Prop :=
  redK e x k = some y ∧ y.n + k = x.n ∧ okR e y ∧ NetIn wr B y.n e y.s u ∧ ResD wr B ∧ ResD wr R ∧ wr.ownsRow (w.heap.size + 2) 49 3 u y.l.length (icells (flatW y.l)) ∧ Ge w wr

theorem RedAt.ge {w wr W : World} {B R e : Nat} {x y : NwR} {k : Nat} {u : Value} (h : RedAt w wr B R e x k y u) (hg : Ge wr W) : RedAt w W B R e x k y u :=
  ⟨h.1, h.2.1, h.2.2.1, h.2.2.2.1.ge hg, h.2.2.2.2.1.ge hg, h.2.2.2.2.2.1.ge hg, hg.owns h.2.2.2.2.2.2.1, Ge.trans h.2.2.2.2.2.2.2 hg⟩
theorem RedAt.next {w wr W : World} {e : Nat} {x y z : NwR} {k : Nat} {u u' : Value} (h : RedAt w wr w.heap.size (w.heap.size + 1) e x k y u) (hg : Ge wr W) (hz : redN e y = some z) (hok : okR e z) (hn : z.n + 1 = y.n) {b : Nat}
    (ho : W.ownsRow b 49 3 u' z.l.length (icells (flatW z.l))) (hb : w.heap.size + 2 ≤ b) :
    RedAt w ((((W.setCell ⟨w.heap.size, 0, none⟩ (.int .i64 (z.n : Int))).setCell ⟨w.heap.size, 1, none⟩ (.int .i64 (e : Int))).setCell ⟨w.heap.size, 2, none⟩ (.int .i64 z.s)).setCell ⟨w.heap.size, 3, none⟩ u') w.heap.size (w.heap.size + 1) e x (k + 1) z u' := by
  obtain ⟨hk, hyn, _, _, hRB, hR, _, hgw⟩ := h
  have RB2 := hRB.ge hg
  have R2 := hR.ge hg
  have gW := Ge.trans hgw hg
  obtain ⟨r0, p0, f0⟩ := RB2 0 (by omega)
  obtain ⟨r1, p1, f1⟩ := RB2 1 (by omega)
  obtain ⟨r2, p2, f2⟩ := RB2 2 (by omega)
  obtain ⟨r3, p3, f3⟩ := RB2 3 (by omega)
  refine ⟨redK_succ hk hz, by omega, hok, ⟨?_, ?_, ?_, ?_⟩, ?_, ?_, ?_, ?_⟩
  · exact cell_set2 (by simp) (cell_set2 (by simp) (cell_set2 (by simp) (World.cell?_setCell_same _ _ _ p0)))
  · exact cell_set2 (by simp) (cell_set2 (by simp) (World.cell?_setCell_same _ _ _ (cell_set2 (by simp) p1)))
  · exact cell_set2 (by simp) (World.cell?_setCell_same _ _ _ (cell_set2 (by simp) (cell_set2 (by simp) p2)))
  · exact World.cell?_setCell_same _ _ _ (cell_set2 (by simp) (cell_set2 (by simp) (cell_set2 (by simp) p3)))
  · exact ResD.setB (ResD.setB (ResD.setB (ResD.setB RB2)))
  · exact ResD.setO (ResD.setO (ResD.setO (ResD.setO R2 (by omega)) (by omega)) (by omega)) (by omega)
  · exact owns_mono (own_setD (own_setD (own_setD (own_setD ho (by omega)) (by omega)) (by omega)) (by omega)) (by omega)
  · exact Ge.setCell (Ge.setCell (Ge.setCell (Ge.setCell gW (Nat.le_refl _) _) (Nat.le_refl _) _) (Nat.le_refl _) _) (Nat.le_refl _) _

set_option maxHeartbeats 6400000 in
theorem iReduceAll (e : Nat) (x : NwR) (s : Value) (w : World) (hs : SlF w s x.l.length 3 (flatW x.l)) (hB : okR e x) :
    Calls Try.prog 29 #[.agg #[.int .i64 (x.n : Int), .int .i64 (e : Int), .int .i64 x.s, s]] w (GivesA w e x) := by
  obtain ⟨⟨h1, h5⟩, ⟨e1, e2⟩, ⟨s1, s2⟩, hok, _⟩ := netP_of hB
  have hm : x.l.length ≤ 10 := prs_len (by omega) hok
  have HV := Lib.hid hs
  have HNo := Lib.hid (fun w' (g : Ge w w') => iNetOk x.n e x.s s x.l.length (flatW x.l) w' (HV.out.ge g) (by omega))
  have hB' : netB x.n e x.s x.l.length (flatW x.l) = true := hB
  rw [hB'] at HNo
  have HCp := Lib.hid (fun w' (g : Ge w w') => iCopyNet x.n e x.s s x.l.length (flatW x.l) w' (HV.out.ge g) (by omega))
  have HOK : Hid (okR e x) := hB
  obtain ⟨NB0, R0⟩ := in_res w x.n e x.s s
  have RB0 : ResD ((w.alloc (.cells #[.int .i64 (x.n : Int), .int .i64 (e : Int), .int .i64 x.s, s] 25)).alloc (.cells #[.int .i64 0, .int .i64 0, .int .i64 0, .slice none 0 0] 25)) w.heap.size := (ResD.new w _ _ _ _ _).ge (Ge.alloc (Ge.refl _) _)
  obtain ⟨p, cap, rfl, _⟩ := hs.open
  clear hs hB hB' hok
  go_enter Try.func29, Try.ntmps29
  go_upto_region 4 with (first
    | ((go_at_call 20; ((with_reducible refine (HNo.out _ (by (repeat (first | with_reducible exact Ge.refl _ | assumption | with_reducible refine Ge.drew ?_ | with_reducible refine Ge.drewN ?_ _ | with_reducible refine Ge.alloc ?_ _ | (with_reducible refine Ge.setCell ?_ (by first | (simp; done) | omega | (simp; omega)) _) | with_reducible refine Ge.trans ?_ (by assumption))))).mono ?_); rintro r w1 ⟨rfl, g1⟩)); have gw1 : Ge w w1 := (by (repeat (first | with_reducible exact Ge.refl _ | assumption | with_reducible refine Ge.drew ?_ | with_reducible refine Ge.drewN ?_ _ | with_reducible refine Ge.alloc ?_ _ | (with_reducible refine Ge.setCell ?_ (by first | (simp; done) | omega | (simp; omega)) _) | with_reducible refine Ge.trans ?_ (by assumption)))); obtain ⟨b0, b1, b2, b3⟩ := NB0.ge g1; have R1 := R0.ge g1; have RB1 := RB0.ge g1; have z1 := g1.size; (simp only [World.size_alloc] at z1))
    | ((go_at_call 43; ((with_reducible refine (HCp.out _ gw1).mono ?_); rintro r w2 ⟨u2, rfl, o2, g2⟩)); have R2 := R1.ge g2; have RB2 := RB1.ge g2; have gw2 := Ge.trans gw1 g2; obtain ⟨r0, p0, f0⟩ := RB2 0 (by omega); obtain ⟨r1, p1, f1⟩ := RB2 1 (by omega); obtain ⟨r2, p2, f2⟩ := RB2 2 (by omega); obtain ⟨r3, p3, f3⟩ := RB2 3 (by omega); have HO2 := Lib.hid o2; obtain ⟨pu, cu, rfl⟩ := owns_form o2; clear o2))
  have hz : ((w.alloc (.cells #[.int .i64 (x.n : Int), .int .i64 (e : Int), .int .i64 x.s, .slice p x.l.length cap] 25)).alloc (.cells #[.int .i64 0, .int .i64 0, .int .i64 0, .slice none 0 0] 25)).heap.size = w.heap.size + 1 + 1 := by simp
  have zw2 := gw2.size
  have hb1 := (HO2.out : w2.ownsRow _ _ _ _ _ _)
  have hRA : RedAt w ((((w2.setCell ⟨w.heap.size, 0, none⟩ (.int .i64 (x.n : Int))).setCell ⟨w.heap.size, 1, none⟩ (.int .i64 (e : Int))).setCell ⟨w.heap.size, 2, none⟩ (.int .i64 x.s)).setCell ⟨w.heap.size, 3, none⟩ (.slice pu x.l.length cu)) w.heap.size (w.heap.size + 1) e x 0 x (.slice pu x.l.length cu) := by
    refine ⟨rfl, rfl, HOK.out, ⟨?_, ?_, ?_, ?_⟩, ?_, ?_, ?_, by (repeat (first | with_reducible exact Ge.refl _ | assumption | with_reducible refine Ge.drew ?_ | with_reducible refine Ge.drewN ?_ _ | with_reducible refine Ge.alloc ?_ _ | (with_reducible refine Ge.setCell ?_ (by first | (simp; done) | omega | (simp; omega)) _) | with_reducible refine Ge.trans ?_ (by assumption)))⟩
    · exact cell_set2 (by simp) (cell_set2 (by simp) (cell_set2 (by simp) (World.cell?_setCell_same _ _ _ p0)))
    · exact cell_set2 (by simp) (cell_set2 (by simp) (World.cell?_setCell_same _ _ _ (cell_set2 (by simp) p1)))
    · exact cell_set2 (by simp) (World.cell?_setCell_same _ _ _ (cell_set2 (by simp) (cell_set2 (by simp) p2)))
    · exact World.cell?_setCell_same _ _ _ (cell_set2 (by simp) (cell_set2 (by simp) (cell_set2 (by simp) p3)))
    · exact ResD.setB (ResD.setB (ResD.setB (ResD.setB RB2)))
    · exact ResD.setO (ResD.setO (ResD.setO (ResD.setO R2 (by omega)) (by omega)) (by omega)) (by omega)
    · exact owns_mono (own_setD (own_setD (own_setD (own_setD hb1 (by omega)) (by omega)) (by omega)) (by omega)) (by omega)
  generalize ((((w2.setCell ⟨w.heap.size, 0, none⟩ (.int .i64 (x.n : Int))).setCell ⟨w.heap.size, 1, none⟩ (.int .i64 (e : Int))).setCell ⟨w.heap.size, 2, none⟩ (.int .i64 x.s)).setCell ⟨w.heap.size, 3, none⟩ (.slice pu x.l.length cu)) = w3 at *
  have HRA := Lib.hid hRA
  clear hRA hb1 p0 p1 p2 p3 f0 f1 f2 f3 RB2 R2 RB1 R1 RB0 R0 b0 b1 b2 b3 NB0 HCp HNo
  go_wp2_with fail
  go_loopw [5] (fun i wr => ∃ (k : Nat) (y : NwR) (u : Value), i = .int .i64 k ∧ RedAt w wr w.heap.size (w.heap.size + 1) e x k y u) (fun i _ => x.n - (intOf i).toNat)
  case atStart => exact ⟨0, x, _, rfl, HRA.out⟩
  case round =>
    obtain ⟨k, y, u, rfl, hk, hyn, hok, hN, hRB, hR, hO, hg⟩ := hrel
    obtain ⟨⟨y1, y5⟩, _⟩ := netP_of hok
    have HRA := Lib.hid (⟨hk, hyn, hok, hN, hRB, hR, hO, hg⟩ : RedAt w wr w.heap.size (w.heap.size + 1) e x k y u)
    obtain ⟨b0, b1, b2, b3⟩ := hN
    have HRB := Lib.hid hRB
    have HR := Lib.hid hR
    have HG := Lib.hid hg
    obtain ⟨py, cy, rfl⟩ := owns_form hO
    have HO := Lib.hid hO
    have HLf := Lib.hid (fun w' (g : Ge wr w') => iLeafOf y.n e y.s (.slice py y.l.length cy) y.l.length (flatW y.l) w' (SlF.of_owns (g.owns HO.out)) hok)
    have HSr := Lib.hid (fun w' (g : Ge wr w') => iSeriesOf y.n e y.s (.slice py y.l.length cy) y.l.length (flatW y.l) w' (SlF.of_owns (g.owns HO.out)) hok)
    have zr : w.heap.size + 1 < wr.heap.size := by obtain ⟨u0, q0, _⟩ := HR.out 0 (by omega); exact World.block_lt_of_cell? _ _ q0
    clear hRB hR hO hg
    rcases red_cases e y with ⟨_, hnone, f1, f2⟩ | ⟨v, c, hf, hv0, hv, hc, c1, c2, hres⟩
    · have HD2 := Lib.hid (fun w' (g : Ge wr w') => (iDropNodeF y.n e y.s (-1) (.slice py y.l.length cy) y.l.length (flatW y.l) [] w' (SlF.of_owns (g.owns HO.out)) hok rfl).mono (fun r w2 h => GivesO.ff h))
      rw [f1] at HLf
      rw [f2] at HSr
      clear f1 f2
      go_wp2_with (first
        | ((go_at_call 44; ((with_reducible refine (HLf.out _ (Ge.refl _)).mono ?_); rintro r w4 ⟨rfl, g4⟩)); have G4 := g4; have b0 := g4.keep b0; have b1 := g4.keep b1; have b2 := g4.keep b2; have b3 := g4.keep b3)
        | ((go_at_call 45; ((with_reducible refine (HSr.out _ G4).mono ?_); rintro r w5 ⟨rfl, g5⟩)); have G4 := Ge.trans G4 g5; have b0 := g5.keep b0; have b1 := g5.keep b1; have b2 := g5.keep b2; have b3 := g5.keep b3)
        | ((go_at_call 46; ((with_reducible refine (HD2.out _ G4).mono ?_); rintro r w6 ⟨rfl, g6⟩)); have G6 := Ge.trans G4 g6; have b0 := g6.keep b0; have b1 := g6.keep b1; have b2 := g6.keep b2; have b3 := g6.keep b3; have zl6 : w.heap.size < w6.heap.size := World.block_lt_of_cell? _ _ b0; have R6 := HR.out.ge G6; obtain ⟨r0, p0, f0⟩ := R6 0 (by omega); obtain ⟨r1, p1, f1⟩ := R6 1 (by omega); obtain ⟨r2, p2, f2⟩ := R6 2 (by omega); obtain ⟨r3, p3, f3⟩ := R6 3 (by omega); have zl7 : w.heap.size + 1 < w6.heap.size := World.block_lt_of_cell? _ _ p0; have HO7 := Lib.hid (G6.owns HO.out); have hz6 := (Ge.trans HG.out G6).size; have g06 := Ge.trans HG.out G6))
      have h8 : (((((w6.setCell ⟨w.heap.size + 1, 0, none⟩ (.int .i64 (y.n : Int))).setCell ⟨w.heap.size + 1, 1, none⟩ (.int .i64 (e : Int))).setCell ⟨w.heap.size + 1, 2, none⟩ (.int .i64 y.s)).setCell ⟨w.heap.size + 1, 3, none⟩ (.slice py y.l.length cy)).alloc (.cells #[.int .i64 0, .int .i64 0, .int .i64 0, .slice none 0 0] 25)).ownsRow w.heap.size 49 3 (.slice py y.l.length cy) y.l.length (icells (flatW y.l)) :=
        owns_mono ((own_setD (own_setD (own_setD (own_setD HO7.out (by omega)) (by omega)) (by omega)) (by omega)).alloc _) (by omega)
      have h9 : Ge w (((((w6.setCell ⟨w.heap.size + 1, 0, none⟩ (.int .i64 (y.n : Int))).setCell ⟨w.heap.size + 1, 1, none⟩ (.int .i64 (e : Int))).setCell ⟨w.heap.size + 1, 2, none⟩ (.int .i64 y.s)).setCell ⟨w.heap.size + 1, 3, none⟩ (.slice py y.l.length cy)).alloc (.cells #[.int .i64 0, .int .i64 0, .int .i64 0, .slice none 0 0] 25)) := Ge.alloc (Ge.setCell (Ge.setCell (Ge.setCell (Ge.setCell g06 (by show w.heap.size ≤ w.heap.size + 1; omega) _) (by show w.heap.size ≤ w.heap.size + 1; omega) _) (by show w.heap.size ≤ w.heap.size + 1; omega) _) (by show w.heap.size ≤ w.heap.size + 1; omega) _) _
      have hk5 : k ≤ 5 := by omega
      have H9 := Lib.hid (⟨k, y, .slice py y.l.length cy, hk, hnone, hok, hk5, rfl, h8, h9⟩ : GivesA w e x (.returned (.tuple #[.agg #[.int .i64 (y.n : Int), .int .i64 (e : Int), .int .i64 y.s, .slice py y.l.length cy], .int .i64 (k : Int), .bool true])) (((((w6.setCell ⟨w.heap.size + 1, 0, none⟩ (.int .i64 (y.n : Int))).setCell ⟨w.heap.size + 1, 1, none⟩ (.int .i64 (e : Int))).setCell ⟨w.heap.size + 1, 2, none⟩ (.int .i64 y.s)).setCell ⟨w.heap.size + 1, 3, none⟩ (.slice py y.l.length cy)).alloc (.cells #[.int .i64 0, .int .i64 0, .int .i64 0, .slice none 0 0] 25)))
      clear h8 h9 hk hyn hnone hok HRA
      exact bodyPost_ret (v := .tuple #[.agg #[.int .i64 (y.n : Int), .int .i64 (e : Int), .int .i64 y.s, .slice py y.l.length cy], .int .i64 (k : Int), .bool true]) (by simp [results, Try.results29, go_sem, *]) rfl H9.out
    · have HD := Lib.hid (fun w' (g : Ge wr w') => iDropNode y.n v e c y.s (.slice py y.l.length cy) y.l w' (SlF.of_owns (g.owns HO.out)) hok hv0 hv hc c1 c2)
      have tv : ((v : Int) < 0) = False := eq_false (by omega)
      rcases hres with ⟨hb, hsome⟩ | ⟨hb, hnone⟩
      · rw [hb] at HD
        have HD2 := Lib.hid (fun w' (g : Ge wr w') => (HD.out w' g).mono (fun r w2 h => GivesO.tt h))
        clear HD hc
        rcases hf with f1 | ⟨f1, f2⟩
        · rw [f1] at HLf
          clear f1 HSr
          go_wp2_with (first
            | ((go_at_call 44; ((with_reducible refine (HLf.out _ (Ge.refl _)).mono ?_); rintro r w4 ⟨rfl, g4⟩)); have G4 := g4; have b0 := g4.keep b0; have b1 := g4.keep b1; have b2 := g4.keep b2; have b3 := g4.keep b3)
            | ((go_at_call 46; ((with_reducible refine (HD2.out _ G4).mono ?_); rintro r w6 ⟨u6, rfl, o6, g6⟩)); have HO6 := Lib.hid o6; obtain ⟨p6, c6, rfl⟩ := owns_form o6; clear o6; have G6 := Ge.trans G4 g6; have b0 := g6.keep b0; have b1 := g6.keep b1; have b2 := g6.keep b2; have b3 := g6.keep b3; have zl6 : w.heap.size < w6.heap.size := World.block_lt_of_cell? _ _ b0; have hz6 := G4.size; have RB6 := HRB.out.ge G6; obtain ⟨r0, p0, f0⟩ := RB6 0 (by omega); obtain ⟨r1, p1, f1⟩ := RB6 1 (by omega); obtain ⟨r2, p2, f2⟩ := RB6 2 (by omega); obtain ⟨r3, p3, f3⟩ := RB6 3 (by omega)))
          go_roundw
          case rel => exact ⟨k + 1, _, _, by go_num, (RedAt.next HRA.out G6 hsome (okR_next hb) (by show y.n - 1 + 1 = y.n; omega) HO6.out (by omega)).ge (Ge.alloc (Ge.refl _) _)⟩
          case measure => simp [intOf]; omega
        · rw [f1] at HLf
          rw [f2] at HSr
          clear f1 f2
          go_wp2_with (first
            | ((go_at_call 44; ((with_reducible refine (HLf.out _ (Ge.refl _)).mono ?_); rintro r w4 ⟨rfl, g4⟩)); have G4 := g4; have b0 := g4.keep b0; have b1 := g4.keep b1; have b2 := g4.keep b2; have b3 := g4.keep b3)
            | ((go_at_call 45; ((with_reducible refine (HSr.out _ G4).mono ?_); rintro r w5 ⟨rfl, g5⟩)); have G4 := Ge.trans G4 g5; have b0 := g5.keep b0; have b1 := g5.keep b1; have b2 := g5.keep b2; have b3 := g5.keep b3)
            | ((go_at_call 46; ((with_reducible refine (HD2.out _ G4).mono ?_); rintro r w6 ⟨u6, rfl, o6, g6⟩)); have HO6 := Lib.hid o6; obtain ⟨p6, c6, rfl⟩ := owns_form o6; clear o6; have G6 := Ge.trans G4 g6; have b0 := g6.keep b0; have b1 := g6.keep b1; have b2 := g6.keep b2; have b3 := g6.keep b3; have zl6 : w.heap.size < w6.heap.size := World.block_lt_of_cell? _ _ b0; have hz6 := G4.size; have RB6 := HRB.out.ge G6; obtain ⟨r0, p0, f0⟩ := RB6 0 (by omega); obtain ⟨r1, p1, f1⟩ := RB6 1 (by omega); obtain ⟨r2, p2, f2⟩ := RB6 2 (by omega); obtain ⟨r3, p3, f3⟩ := RB6 3 (by omega)))
          go_roundw
          case rel => exact ⟨k + 1, _, _, by go_num, (RedAt.next HRA.out G6 hsome (okR_next hb) (by show y.n - 1 + 1 = y.n; omega) HO6.out (by omega)).ge (Ge.alloc (Ge.refl _) _)⟩
          case measure => simp [intOf]; omega
      · rw [hb] at HD
        have HD2 := Lib.hid (fun w' (g : Ge wr w') => (HD.out w' g).mono (fun r w2 h => GivesO.ff h))
        clear HD hc
        rcases hf with f1 | ⟨f1, f2⟩
        · rw [f1] at HLf
          clear f1 HSr
          go_wp2_with (first
            | ((go_at_call 44; ((with_reducible refine (HLf.out _ (Ge.refl _)).mono ?_); rintro r w4 ⟨rfl, g4⟩)); have G4 := g4; have b0 := g4.keep b0; have b1 := g4.keep b1; have b2 := g4.keep b2; have b3 := g4.keep b3)
            | ((go_at_call 46; ((with_reducible refine (HD2.out _ G4).mono ?_); rintro r w6 ⟨rfl, g6⟩)); have G6 := Ge.trans G4 g6; have b0 := g6.keep b0; have b1 := g6.keep b1; have b2 := g6.keep b2; have b3 := g6.keep b3; have zl6 : w.heap.size < w6.heap.size := World.block_lt_of_cell? _ _ b0; have R6 := HR.out.ge G6; obtain ⟨r0, p0, f0⟩ := R6 0 (by omega); obtain ⟨r1, p1, f1⟩ := R6 1 (by omega); obtain ⟨r2, p2, f2⟩ := R6 2 (by omega); obtain ⟨r3, p3, f3⟩ := R6 3 (by omega); have zl7 : w.heap.size + 1 < w6.heap.size := World.block_lt_of_cell? _ _ p0; have HO7 := Lib.hid (G6.owns HO.out); have hz6 := (Ge.trans HG.out G6).size; have g06 := Ge.trans HG.out G6))
          have h8 : (((((w6.setCell ⟨w.heap.size + 1, 0, none⟩ (.int .i64 (y.n : Int))).setCell ⟨w.heap.size + 1, 1, none⟩ (.int .i64 (e : Int))).setCell ⟨w.heap.size + 1, 2, none⟩ (.int .i64 y.s)).setCell ⟨w.heap.size + 1, 3, none⟩ (.slice py y.l.length cy)).alloc (.cells #[.int .i64 0, .int .i64 0, .int .i64 0, .slice none 0 0] 25)).ownsRow w.heap.size 49 3 (.slice py y.l.length cy) y.l.length (icells (flatW y.l)) :=
            owns_mono ((own_setD (own_setD (own_setD (own_setD HO7.out (by omega)) (by omega)) (by omega)) (by omega)).alloc _) (by omega)
          have h9 : Ge w (((((w6.setCell ⟨w.heap.size + 1, 0, none⟩ (.int .i64 (y.n : Int))).setCell ⟨w.heap.size + 1, 1, none⟩ (.int .i64 (e : Int))).setCell ⟨w.heap.size + 1, 2, none⟩ (.int .i64 y.s)).setCell ⟨w.heap.size + 1, 3, none⟩ (.slice py y.l.length cy)).alloc (.cells #[.int .i64 0, .int .i64 0, .int .i64 0, .slice none 0 0] 25)) := Ge.alloc (Ge.setCell (Ge.setCell (Ge.setCell (Ge.setCell g06 (by show w.heap.size ≤ w.heap.size + 1; omega) _) (by show w.heap.size ≤ w.heap.size + 1; omega) _) (by show w.heap.size ≤ w.heap.size + 1; omega) _) (by show w.heap.size ≤ w.heap.size + 1; omega) _) _
          have hk5 : k ≤ 5 := by omega
          have H9 := Lib.hid (⟨k, y, .slice py y.l.length cy, hk, hnone, hok, hk5, rfl, h8, h9⟩ : GivesA w e x (.returned (.tuple #[.agg #[.int .i64 (y.n : Int), .int .i64 (e : Int), .int .i64 y.s, .slice py y.l.length cy], .int .i64 (k : Int), .bool true])) (((((w6.setCell ⟨w.heap.size + 1, 0, none⟩ (.int .i64 (y.n : Int))).setCell ⟨w.heap.size + 1, 1, none⟩ (.int .i64 (e : Int))).setCell ⟨w.heap.size + 1, 2, none⟩ (.int .i64 y.s)).setCell ⟨w.heap.size + 1, 3, none⟩ (.slice py y.l.length cy)).alloc (.cells #[.int .i64 0, .int .i64 0, .int .i64 0, .slice none 0 0] 25)))
          clear h8 h9 hk hyn hnone hok HRA
          exact bodyPost_ret (v := .tuple #[.agg #[.int .i64 (y.n : Int), .int .i64 (e : Int), .int .i64 y.s, .slice py y.l.length cy], .int .i64 (k : Int), .bool true]) (by simp [results, Try.results29, go_sem, *]) rfl H9.out
        · rw [f1] at HLf
          rw [f2] at HSr
          clear f1 f2
          go_wp2_with (first
            | ((go_at_call 44; ((with_reducible refine (HLf.out _ (Ge.refl _)).mono ?_); rintro r w4 ⟨rfl, g4⟩)); have G4 := g4; have b0 := g4.keep b0; have b1 := g4.keep b1; have b2 := g4.keep b2; have b3 := g4.keep b3)
            | ((go_at_call 45; ((with_reducible refine (HSr.out _ G4).mono ?_); rintro r w5 ⟨rfl, g5⟩)); have G4 := Ge.trans G4 g5; have b0 := g5.keep b0; have b1 := g5.keep b1; have b2 := g5.keep b2; have b3 := g5.keep b3)
            | ((go_at_call 46; ((with_reducible refine (HD2.out _ G4).mono ?_); rintro r w6 ⟨rfl, g6⟩)); have G6 := Ge.trans G4 g6; have b0 := g6.keep b0; have b1 := g6.keep b1; have b2 := g6.keep b2; have b3 := g6.keep b3; have zl6 : w.heap.size < w6.heap.size := World.block_lt_of_cell? _ _ b0; have R6 := HR.out.ge G6; obtain ⟨r0, p0, f0⟩ := R6 0 (by omega); obtain ⟨r1, p1, f1⟩ := R6 1 (by omega); obtain ⟨r2, p2, f2⟩ := R6 2 (by omega); obtain ⟨r3, p3, f3⟩ := R6 3 (by omega); have zl7 : w.heap.size + 1 < w6.heap.size := World.block_lt_of_cell? _ _ p0; have HO7 := Lib.hid (G6.owns HO.out); have hz6 := (Ge.trans HG.out G6).size; have g06 := Ge.trans HG.out G6))
          have h8 : (((((w6.setCell ⟨w.heap.size + 1, 0, none⟩ (.int .i64 (y.n : Int))).setCell ⟨w.heap.size + 1, 1, none⟩ (.int .i64 (e : Int))).setCell ⟨w.heap.size + 1, 2, none⟩ (.int .i64 y.s)).setCell ⟨w.heap.size + 1, 3, none⟩ (.slice py y.l.length cy)).alloc (.cells #[.int .i64 0, .int .i64 0, .int .i64 0, .slice none 0 0] 25)).ownsRow w.heap.size 49 3 (.slice py y.l.length cy) y.l.length (icells (flatW y.l)) :=
            owns_mono ((own_setD (own_setD (own_setD (own_setD HO7.out (by omega)) (by omega)) (by omega)) (by omega)).alloc _) (by omega)
          have h9 : Ge w (((((w6.setCell ⟨w.heap.size + 1, 0, none⟩ (.int .i64 (y.n : Int))).setCell ⟨w.heap.size + 1, 1, none⟩ (.int .i64 (e : Int))).setCell ⟨w.heap.size + 1, 2, none⟩ (.int .i64 y.s)).setCell ⟨w.heap.size + 1, 3, none⟩ (.slice py y.l.length cy)).alloc (.cells #[.int .i64 0, .int .i64 0, .int .i64 0, .slice none 0 0] 25)) := Ge.alloc (Ge.setCell (Ge.setCell (Ge.setCell (Ge.setCell g06 (by show w.heap.size ≤ w.heap.size + 1; omega) _) (by show w.heap.size ≤ w.heap.size + 1; omega) _) (by show w.heap.size ≤ w.heap.size + 1; omega) _) (by show w.heap.size ≤ w.heap.size + 1; omega) _) _
          have hk5 : k ≤ 5 := by omega
          have H9 := Lib.hid (⟨k, y, .slice py y.l.length cy, hk, hnone, hok, hk5, rfl, h8, h9⟩ : GivesA w e x (.returned (.tuple #[.agg #[.int .i64 (y.n : Int), .int .i64 (e : Int), .int .i64 y.s, .slice py y.l.length cy], .int .i64 (k : Int), .bool true])) (((((w6.setCell ⟨w.heap.size + 1, 0, none⟩ (.int .i64 (y.n : Int))).setCell ⟨w.heap.size + 1, 1, none⟩ (.int .i64 (e : Int))).setCell ⟨w.heap.size + 1, 2, none⟩ (.int .i64 y.s)).setCell ⟨w.heap.size + 1, 3, none⟩ (.slice py y.l.length cy)).alloc (.cells #[.int .i64 0, .int .i64 0, .int .i64 0, .slice none 0 0] 25)))
          clear h8 h9 hk hyn hnone hok HRA
          exact bodyPost_ret (v := .tuple #[.agg #[.int .i64 (y.n : Int), .int .i64 (e : Int), .int .i64 y.s, .slice py y.l.length cy], .int .i64 (k : Int), .bool true]) (by simp [results, Try.results29, go_sem, *]) rfl H9.out
end Go.Proofs.Ytipiiimemmkdgaa

namespace Go.Proofs.Ytipiiimemmkdgaa
set_option maxRecDepth 100000
open Go.ChangeShapes Go.WideShapes Go.ChangeAt Go.RowKit Go.Joins

theorem run_app00 (w : World) (ty : TypeId) (ad : Addr) (p : Option Addr) (c : Nat) : (Builtin.append_ #[23, 23] ty #[.slice (some ad) 0 0, .slice p 0 c]).run Try.prog w = .ok (.slice (some ad) 0 0) w := by
  obtain ⟨i, hi1, hi2, hi3, hi4⟩ := info_parts inf_Wire3
  have hu : ∀ w, Sem.run Try.prog (underlying 23) w = .ok (TypeDesc.slice 49) w := run_underlying Try.underlying23
  simp [Builtin.append_, go_sem, hu, hi1]
  cases p <;> simp [go_sem, storeCells]
end Go.Proofs.Ytipiiimemmkdgaa

namespace Go.Proofs.Ytipiiimemmkdgaa
set_option maxRecDepth 100000
open Go.ChangeShapes Go.WideShapes Go.ChangeAt Go.RowKit Go.Joins

theorem ap_wiresG {w : World} {o : Oper} {a : Act} {K : Act → World → Prop} {Q : Exit → Act → World → Prop} (s x : Operand)
    (ho : o.op = .call { callee := .builtin .append, args := #[s, x], argTypes := #[23, 23] })
    (base g : Nat) (hs : a.eval s = .slice (some ⟨g, 0, none⟩) 0 0) (hO : w.ownsRow base 49 3 (.slice (some ⟨g, 0, none⟩) 0 0) 0 (icells [])) (hb : base ≤ w.heap.size)
    (po : Option Addr) (m c : Nat) (ys : List Int) (hx : a.eval x = .slice po m c) (hy : SlF w (.slice po m c) m 3 ys) (hm : m < 1000)
    (h : ∀ v' w', w'.ownsRow base 49 3 v' m (icells ys) → Mine w w' (.slice (some ⟨g, 0, none⟩) 0 0) → (v'.ownBlock = some g ∨ v'.ownBlock = some w.heap.size) → K (a.put o.dst v') w') : o.wp Try.prog a w K Q := by
  obtain ⟨i, hi1, hi2, hi3, hi4⟩ := info_parts inf_Wire3
  by_cases hm0 : m = 0
  · subst hm0
    have hy0 : ys = [] := List.eq_nil_of_length_eq_zero (by have := hy.length; omega)
    subst hy0
    unfold Oper.wp execOp
    simp only [ho, resolve, invoke, builtin, Sem.run_bind, Sem.run_pure, Result.andThen_ok, List.map_toArray, List.map_cons, List.map_nil, hs, hx, run_app00]
    exact h _ w hO ⟨rfl, rfl, rfl, Nat.le_refl _, fun k _ _ => rfl⟩ (.inl rfl)
  obtain ⟨b0, o0, rfl⟩ : ∃ b o, po = some ⟨b, o, none⟩ := by
    obtain ⟨p', c'', he, hc⟩ := hy.open
    simp only [Value.slice.injEq, true_and] at he
    obtain ⟨rfl, rfl⟩ := he
    obtain ⟨b, o, hb, _⟩ := hc 0 (by omega)
    exact ⟨b, o, hb⟩
  obtain ⟨h1, p, c', he, hc⟩ := hy
  simp only [Value.slice.injEq] at he
  obtain ⟨rfl, _, rfl⟩ := he
  obtain ⟨v', w', hr, h2, h3, _, h5⟩ := run_append_own_at (P := Try.prog) w base 23 o.type 49 i _ 3 24 Try.underlying23 hi1 hi2 hi3 hi4 rfl (by decide) _ 0 (icells []) hO ⟨b0, o0, none⟩ m c (icells ys) h1 (fun j u hu => by
    obtain ⟨b, o, e, hz⟩ := hc j u hu
    simp only [Option.some.injEq, Addr.mk.injEq, and_true] at e
    obtain ⟨rfl, rfl⟩ := e
    by_cases hj0 : j = 0
    · subst hj0; simpa [Addr.add] using hz
    · simpa [Addr.add, hj0] using hz) (fun u hu => by
    simp only [icells, List.mem_map] at hu
    obtain ⟨_, _, rfl⟩ := hu
    rfl) (by unfold maxLen; omega) (by omega) hb
  unfold Oper.wp execOp
  simp only [ho, resolve, invoke, builtin, Sem.run_bind, Sem.run_pure, Result.andThen_ok, List.map_toArray, List.map_cons, List.map_nil, hs, hx, hr]
  exact h v' w' (by rw [Nat.zero_add] at h2; exact h2) h3 h5
theorem own_setG {w : World} {base e sz n B i : Nat} {v x : Value} {xs : List Value} (h : w.ownsRow base e sz v n xs) (hne : v.ownBlock ≠ some B) : (w.setCell ⟨B, i, none⟩ x).ownsRow base e sz v n xs := by
  refine h.kept (grown_setN w B i x) ?_
  cases hv : v.ownBlock with
  | none => exact .inl rfl
  | some k =>
    right
    intro e'
    rw [hv] at hne
    exact hne (by first | exact e' | exact e'.symm)
theorem RedAt.next2 {w wr W : World} {B R e : Nat} {x y z : NwR} {k : Nat} {u u' : Value} (h : RedAt w wr B R e x k y u) (hg : Ge wr W) (hz : redN e y = some z) (hok : okR e z) (hn : z.n + 1 = y.n) {b : Nat}
    (ho : W.ownsRow b 49 3 u' z.l.length (icells (flatW z.l))) (hB : w.heap.size + 2 ≤ B) (hR : R < w.heap.size + 2) (hb : w.heap.size + 2 ≤ b) (hBb : B < b) :
    RedAt w ((((W.setCell ⟨B, 0, none⟩ (.int .i64 (z.n : Int))).setCell ⟨B, 1, none⟩ (.int .i64 (e : Int))).setCell ⟨B, 2, none⟩ (.int .i64 z.s)).setCell ⟨B, 3, none⟩ u') B R e x (k + 1) z u' := by
  obtain ⟨hk, hyn, _, _, hRB, hR', _, hgw⟩ := h
  have RB2 := hRB.ge hg
  have R2 := hR'.ge hg
  have gW := Ge.trans hgw hg
  obtain ⟨r0, p0, f0⟩ := RB2 0 (by omega)
  obtain ⟨r1, p1, f1⟩ := RB2 1 (by omega)
  obtain ⟨r2, p2, f2⟩ := RB2 2 (by omega)
  obtain ⟨r3, p3, f3⟩ := RB2 3 (by omega)
  refine ⟨redK_succ hk hz, by omega, hok, ⟨?_, ?_, ?_, ?_⟩, ?_, ?_, ?_, ?_⟩
  · exact cell_set2 (by simp) (cell_set2 (by simp) (cell_set2 (by simp) (World.cell?_setCell_same _ _ _ p0)))
  · exact cell_set2 (by simp) (cell_set2 (by simp) (World.cell?_setCell_same _ _ _ (cell_set2 (by simp) p1)))
  · exact cell_set2 (by simp) (World.cell?_setCell_same _ _ _ (cell_set2 (by simp) (cell_set2 (by simp) p2)))
  · exact World.cell?_setCell_same _ _ _ (cell_set2 (by simp) (cell_set2 (by simp) (cell_set2 (by simp) p3)))
  · exact ResD.setB (ResD.setB (ResD.setB (ResD.setB RB2)))
  · exact ResD.setO (ResD.setO (ResD.setO (ResD.setO R2 (by omega)) (by omega)) (by omega)) (by omega)
  · exact owns_mono (own_setD (own_setD (own_setD (own_setD ho (by omega)) (by omega)) (by omega)) (by omega)) (by omega)
  · exact Ge.setCell (Ge.setCell (Ge.setCell (Ge.setCell gW (by show w.heap.size ≤ B; omega) _) (by show w.heap.size ≤ B; omega) _) (by show w.heap.size ≤ B; omega) _) (by show w.heap.size ≤ B; omega) _

end Go.Proofs.Ytipiiimemmkdgaa

namespace Go.Proofs.Ytipiiimemmkdgaa
set_option maxRecDepth 100000
open Go.ChangeShapes Go.WideShapes Go.ChangeAt Go.RowKit Go.Joins

def wireTxt (xs : List Int) (k : Nat) : List UInt8 := [32] ++ fmtInt (wa xs k) ++ [45] ++ fmtInt (wb xs k) ++ [61] ++ fmtInt (ww xs k)
def netHead (N E S : Int) : List UInt8 := fmtInt N ++ [47] ++ fmtInt E ++ [47] ++ fmtInt S ++ [58]
def netPart (N E S : Int) (xs : List Int) : Nat → List UInt8
  | 0 => netHead N E S
  | k + 1 => netPart N E S xs k ++ wireTxt xs k
theorem netPart_le (N E S : Int) (xs : List Int) : ∀ k, (netPart N E S xs k).length ≤ 69 + 69 * k
  | 0 => by have := fmtInt_length N; have := fmtInt_length E; have := fmtInt_length S; simp [netPart, netHead]; omega
  | k + 1 => by
    have := netPart_le N E S xs k
    have := fmtInt_length (wa xs k); have := fmtInt_length (wb xs k); have := fmtInt_length (ww xs k)
    simp [netPart, wireTxt]; omega
noncomputable def netTxt (N E S : Int) (m : Nat) (xs : List Int) : List UInt8 := if netB N E S m xs = true then netPart N E S xs m else []
theorem netTxt_t {N E S : Int} {m : Nat} {xs : List Int} (h : netB N E S m xs = true) : bstr (netTxt N E S m xs) = bstr (netPart N E S xs m) := by simp [netTxt, h]
theorem netTxt_f {N E S : Int} {m : Nat} {xs : List Int} (h : netB N E S m xs = false) : bstr (netTxt N E S m xs) = ⟨#[]⟩ := by simp [netTxt, h, bstr]
theorem head_eq (N E S : Int) (xs : List Int) : bstr (fmtInt N) ++ (⟨#[47]⟩ : ByteArray) ++ bstr (fmtInt E) ++ (⟨#[47]⟩ : ByteArray) ++ bstr (fmtInt S) ++ (⟨#[58]⟩ : ByteArray) = bstr (netPart N E S xs 0) := by
  rw [show (⟨#[47]⟩ : ByteArray) = bstr [47] from rfl, show (⟨#[58]⟩ : ByteArray) = bstr [58] from rfl]
  simp only [bstr_append, netPart, netHead]
theorem wire_eq_s (N E S : Int) (xs : List Int) (k : Nat) : bstr (netPart N E S xs k) ++ (⟨#[32]⟩ : ByteArray) ++ bstr (fmtInt (wa xs k)) ++ (⟨#[45]⟩ : ByteArray) ++ bstr (fmtInt (wb xs k)) ++ (⟨#[61]⟩ : ByteArray) ++ bstr (fmtInt (ww xs k)) = bstr (netPart N E S xs (k + 1)) := by
  rw [show (⟨#[32]⟩ : ByteArray) = bstr [32] from rfl, show (⟨#[45]⟩ : ByteArray) = bstr [45] from rfl, show (⟨#[61]⟩ : ByteArray) = bstr [61] from rfl]
  simp only [bstr_append, netPart, wireTxt, List.append_assoc]
theorem wire_eq_i (N E S : Int) (xs : List Int) (k : Nat) : bstr (netPart N E S xs k) ++ ((⟨#[32]⟩ : ByteArray) ++ bstr (fmtInt (wa xs k)) ++ (⟨#[45]⟩ : ByteArray) ++ bstr (fmtInt (wb xs k)) ++ (⟨#[61]⟩ : ByteArray) ++ bstr (fmtInt (ww xs k))) = bstr (netPart N E S xs (k + 1)) := by
  rw [show (⟨#[32]⟩ : ByteArray) = bstr [32] from rfl, show (⟨#[45]⟩ : ByteArray) = bstr [45] from rfl, show (⟨#[61]⟩ : ByteArray) = bstr [61] from rfl]
  simp only [bstr_append, netPart, wireTxt, List.append_assoc]
/-- An integer of 64 bits. -/
def I64 (x : Int) : Prop := -9223372036854775808 ≤ x ∧ x ≤ 9223372036854775807
theorem fsz (x : Int) : (bstr (fmtInt x)).size ≤ 22 := by rw [bstr_size]; exact fmtInt_length x

set_option maxHeartbeats 3200000 in
theorem iFormatNet (N E S : Int) (s : Value) (m : Nat) (xs : List Int) (w : World) (hs : SlF w s m 3 xs) (hm : m ≤ 9223372036854775807) :
    Calls Try.prog 8 #[.agg #[.int .i64 N, .int .i64 E, .int .i64 S, s]] w fun e w' => e = .returned (.string (bstr (netTxt N E S m xs))) ∧ Ge w w' := by
  obtain ⟨p, cap, rfl, hc⟩ := hs.open
  have HV := Lib.hid hs
  have HC := Lib.hid hc
  clear hs hc
  cases hB : netB N E S m xs with
  | false =>
    have HF := Lib.hid (netTxt_f hB)
    go_enter Try.func8, Try.ntmps8
    go_wp2_with ((go_at_call 20; ((with_reducible refine (iNetOk _ _ _ _ m xs _ (HV.out.ge (Ge.alloc (Ge.refl w) _)) hm).mono ?_); rintro e w1 ⟨rfl, g1⟩)); rw [hB])
    go_ret
    exact ⟨ret_str (by rw [HF.out]), by (repeat (first | with_reducible exact Ge.refl _ | assumption | with_reducible refine Ge.drew ?_ | with_reducible refine Ge.drewN ?_ _ | with_reducible refine Ge.alloc ?_ _ | (with_reducible refine Ge.setCell ?_ (by first | (simp; done) | omega | (simp; omega)) _) | with_reducible refine Ge.trans ?_ (by assumption)))⟩
  | true =>
    have HF := Lib.hid (netTxt_t hB)
    obtain ⟨⟨a1, a2⟩, ⟨b1, b2⟩, ⟨d1, d2⟩, hK, _⟩ := netP_of hB
    have HK := Lib.hid hK
    clear hK
    obtain ⟨n, rfl⟩ : ∃ n : Nat, N = (n : Int) := ⟨N.toNat, by omega⟩
    have hm10 : m ≤ 10 := prs_len (N := n) (by omega) HK.out
    have HE := Lib.hid (head_eq n E S xs)
    have f1 := fsz (n : Int)
    have f2 := fsz E
    have f3 := fsz S
    have u0 : ¬ (9223372036854775807 < (bstr (fmtInt (n : Int))).size + 1) := by omega
    have u1 : ¬ (9223372036854775807 < (bstr (fmtInt (n : Int))).size + 1 + (bstr (fmtInt E)).size) := by omega
    have u2 : ¬ (9223372036854775807 < (bstr (fmtInt (n : Int))).size + 1 + (bstr (fmtInt E)).size + 1) := by omega
    have u3 : ¬ (9223372036854775807 < (bstr (fmtInt (n : Int))).size + 1 + (bstr (fmtInt E)).size + 1 + (bstr (fmtInt S)).size) := by omega
    have u4 : ¬ (9223372036854775807 < (bstr (fmtInt (n : Int))).size + 1 + (bstr (fmtInt E)).size + 1 + (bstr (fmtInt S)).size + 1) := by omega
    have IN : Hid (-9223372036854775808 ≤ (n : Int) ∧ (n : Int) ≤ 9223372036854775807) := ⟨by omega, by omega⟩
    have IE : Hid (-9223372036854775808 ≤ E ∧ E ≤ 9223372036854775807) := ⟨by omega, by omega⟩
    have IS : Hid (-9223372036854775808 ≤ S ∧ S ≤ 9223372036854775807) := ⟨by omega, by omega⟩
    go_enter Try.func8, Try.ntmps8
    go_wp2_with ((go_at_call 20; ((with_reducible refine (iNetOk _ _ _ _ m xs _ (HV.out.ge (Ge.alloc (Ge.refl w) _)) hm).mono ?_); rintro e w1 ⟨rfl, g1⟩)); rw [hB]; have c0 := Ge.keep g1 (cell_new (i := 0) rfl rfl); have c1 := Ge.keep g1 (cell_new (i := 1) rfl rfl); have c2 := Ge.keep g1 (cell_new (i := 2) rfl rfl); have c3 := Ge.keep g1 (cell_new (i := 3) rfl rfl); have z1 := g1.size; simp at c0 c1 c2 c3 z1)
    have zl : w.heap.size < w1.heap.size := by omega
    have G1 : Ge w w1 := Ge.trans (Ge.alloc (Ge.refl w) _) g1
    have hS : ∀ w', Ge w1 w' → (w'.cell? ⟨w.heap.size, 0, none⟩ = some (.int .i64 (n : Int)) ∧ w'.cell? ⟨w.heap.size, 1, none⟩ = some (.int .i64 E) ∧ w'.cell? ⟨w.heap.size, 2, none⟩ = some (.int .i64 S) ∧ w'.cell? ⟨w.heap.size, 3, none⟩ = some (.slice p m cap) ∧ Ge w1 w') := fun w' g => ⟨g.keep (by (repeat (first | assumption | with_reducible exact Ge.refl _ | with_reducible refine cv_drew ?_ | with_reducible refine cv_alloc ?_ | with_reducible refine cv_set ?_ | (with_reducible apply cv_some; assumption) | with_reducible refine cell_drew ?_ | with_reducible refine cell_drewN ?_ | ((with_reducible refine cell_new ?_ ?_); (focus (simp; done)); rfl) | with_reducible refine cell_alloc ?_ | with_reducible refine cell_same2 ?_ | ((with_reducible refine cell_set2 ?_ ?_); focus (first | (simp; done) | (intro hE; simp at hE; done) | (intro hE; simp at hE; omega))) | with_reducible refine Ge.drew ?_ | with_reducible refine Ge.drewN ?_ _ | with_reducible refine Ge.alloc ?_ _ | ((with_reducible refine Ge.setCell ?_ ?_ _); rotate_left; focus (first | (simp; done) | omega | (simp; omega))) | with_reducible refine Ge.trans ?_ (by assumption) | with_reducible refine Ge.keep (by assumption) ?_))), g.keep (by (repeat (first | assumption | with_reducible exact Ge.refl _ | with_reducible refine cv_drew ?_ | with_reducible refine cv_alloc ?_ | with_reducible refine cv_set ?_ | (with_reducible apply cv_some; assumption) | with_reducible refine cell_drew ?_ | with_reducible refine cell_drewN ?_ | ((with_reducible refine cell_new ?_ ?_); (focus (simp; done)); rfl) | with_reducible refine cell_alloc ?_ | with_reducible refine cell_same2 ?_ | ((with_reducible refine cell_set2 ?_ ?_); focus (first | (simp; done) | (intro hE; simp at hE; done) | (intro hE; simp at hE; omega))) | with_reducible refine Ge.drew ?_ | with_reducible refine Ge.drewN ?_ _ | with_reducible refine Ge.alloc ?_ _ | ((with_reducible refine Ge.setCell ?_ ?_ _); rotate_left; focus (first | (simp; done) | omega | (simp; omega))) | with_reducible refine Ge.trans ?_ (by assumption) | with_reducible refine Ge.keep (by assumption) ?_))), g.keep (by (repeat (first | assumption | with_reducible exact Ge.refl _ | with_reducible refine cv_drew ?_ | with_reducible refine cv_alloc ?_ | with_reducible refine cv_set ?_ | (with_reducible apply cv_some; assumption) | with_reducible refine cell_drew ?_ | with_reducible refine cell_drewN ?_ | ((with_reducible refine cell_new ?_ ?_); (focus (simp; done)); rfl) | with_reducible refine cell_alloc ?_ | with_reducible refine cell_same2 ?_ | ((with_reducible refine cell_set2 ?_ ?_); focus (first | (simp; done) | (intro hE; simp at hE; done) | (intro hE; simp at hE; omega))) | with_reducible refine Ge.drew ?_ | with_reducible refine Ge.drewN ?_ _ | with_reducible refine Ge.alloc ?_ _ | ((with_reducible refine Ge.setCell ?_ ?_ _); rotate_left; focus (first | (simp; done) | omega | (simp; omega))) | with_reducible refine Ge.trans ?_ (by assumption) | with_reducible refine Ge.keep (by assumption) ?_))), g.keep (by (repeat (first | assumption | with_reducible exact Ge.refl _ | with_reducible refine cv_drew ?_ | with_reducible refine cv_alloc ?_ | with_reducible refine cv_set ?_ | (with_reducible apply cv_some; assumption) | with_reducible refine cell_drew ?_ | with_reducible refine cell_drewN ?_ | ((with_reducible refine cell_new ?_ ?_); (focus (simp; done)); rfl) | with_reducible refine cell_alloc ?_ | with_reducible refine cell_same2 ?_ | ((with_reducible refine cell_set2 ?_ ?_); focus (first | (simp; done) | (intro hE; simp at hE; done) | (intro hE; simp at hE; omega))) | with_reducible refine Ge.drew ?_ | with_reducible refine Ge.drewN ?_ _ | with_reducible refine Ge.alloc ?_ _ | ((with_reducible refine Ge.setCell ?_ ?_ _); rotate_left; focus (first | (simp; done) | omega | (simp; omega))) | with_reducible refine Ge.trans ?_ (by assumption) | with_reducible refine Ge.keep (by assumption) ?_))), Ge.trans (by (repeat (first | assumption | with_reducible exact Ge.refl _ | with_reducible refine cv_drew ?_ | with_reducible refine cv_alloc ?_ | with_reducible refine cv_set ?_ | (with_reducible apply cv_some; assumption) | with_reducible refine cell_drew ?_ | with_reducible refine cell_drewN ?_ | ((with_reducible refine cell_new ?_ ?_); (focus (simp; done)); rfl) | with_reducible refine cell_alloc ?_ | with_reducible refine cell_same2 ?_ | ((with_reducible refine cell_set2 ?_ ?_); focus (first | (simp; done) | (intro hE; simp at hE; done) | (intro hE; simp at hE; omega))) | with_reducible refine Ge.drew ?_ | with_reducible refine Ge.drewN ?_ _ | with_reducible refine Ge.alloc ?_ _ | ((with_reducible refine Ge.setCell ?_ ?_ _); rotate_left; focus (first | (simp; done) | omega | (simp; omega))) | with_reducible refine Ge.trans ?_ (by assumption) | with_reducible refine Ge.keep (by assumption) ?_))) g⟩
    go_region_held3 (fun w' => w'.cell? ⟨w.heap.size, 0, none⟩ = some (.int .i64 (n : Int)) ∧ w'.cell? ⟨w.heap.size, 1, none⟩ = some (.int .i64 E) ∧ w'.cell? ⟨w.heap.size, 2, none⟩ = some (.int .i64 S) ∧ w'.cell? ⟨w.heap.size, 3, none⟩ = some (.slice p m cap) ∧ Ge w1 w') (first | ((with_reducible refine hS _ ?_); (repeat (first | assumption | with_reducible exact Ge.refl _ | with_reducible refine cv_drew ?_ | with_reducible refine cv_alloc ?_ | with_reducible refine cv_set ?_ | (with_reducible apply cv_some; assumption) | with_reducible refine cell_drew ?_ | with_reducible refine cell_drewN ?_ | ((with_reducible refine cell_new ?_ ?_); (focus (simp; done)); rfl) | with_reducible refine cell_alloc ?_ | with_reducible refine cell_same2 ?_ | ((with_reducible refine cell_set2 ?_ ?_); focus (first | (simp; done) | (intro hE; simp at hE; done) | (intro hE; simp at hE; omega))) | with_reducible refine Ge.drew ?_ | with_reducible refine Ge.drewN ?_ _ | with_reducible refine Ge.alloc ?_ _ | ((with_reducible refine Ge.setCell ?_ ?_ _); rotate_left; focus (first | (simp; done) | omega | (simp; omega))) | with_reducible refine Ge.trans ?_ (by assumption) | with_reducible refine Ge.keep (by assumption) ?_)); done) | fail) (first | (go_at_call 11; ((with_reducible refine (iFormatInt _ _ (by first | exact IN.out.1 | exact IE.out.1 | exact IS.out.1) (by first | exact IN.out.2 | exact IE.out.2 | exact IS.out.2)).mono ?_); rintro e w' ⟨rfl, rfl⟩)) | fail)
    rename_i hHeldX
    obtain ⟨q0, q1, q2, q3, G2⟩ := hHeldX
    clear hS
    go_wp2_with fail
    go_loopw [3, 26] (fun t i wr => ∃ k : Nat, k ≤ m ∧ i = .int .i64 k ∧ t = .string (bstr (netPart n E S xs k)) ∧ Ge w wr) (fun _ i _ => m - (intOf i).toNat)
    case atStart => exact ⟨0, Nat.zero_le _, rfl, congrArg _ HE.out, by (repeat (first | with_reducible exact Ge.refl _ | assumption | with_reducible refine Ge.drew ?_ | with_reducible refine Ge.drewN ?_ _ | with_reducible refine Ge.alloc ?_ _ | (with_reducible refine Ge.setCell ?_ (by first | (simp; done) | omega | (simp; omega)) _) | with_reducible refine Ge.trans ?_ (by assumption)))⟩
    case round =>
      obtain ⟨k, hk, rfl, rfl, hg⟩ := hrel
      by_cases hlt : k < m
      · obtain ⟨b, o, rfl, x0, x1, x2⟩ := three_cells HC.out hlt
        have y0 := hg.keep x0
        have y1 := hg.keep x1
        have y2 := hg.keep x2
        clear x0 x1 x2
        change wr.cell? _ = some (.int .i64 (wa xs k)) at y0
        change wr.cell? _ = some (.int .i64 (wb xs k)) at y1
        change wr.cell? _ = some (.int .i64 (ww xs k)) at y2
        obtain ⟨q0, q1, q2, q3, q4⟩ := (HK.out k hlt).1
        have HS := Lib.hid (wire_eq_i n E S xs k)
        have t0 : (bstr (netPart n E S xs k)).size ≤ 69 + 69 * k := by rw [bstr_size]; exact netPart_le _ _ _ _ _
        have t1 := fsz (wa xs k)
        have t2 := fsz (wb xs k)
        have t3 := fsz (ww xs k)
        have z0 : ¬ (9223372036854775807 < 1 + (bstr (fmtInt (wa xs k))).size) := by omega
        have z1 : ¬ (9223372036854775807 < 1 + (bstr (fmtInt (wa xs k))).size + 1) := by omega
        have z2 : ¬ (9223372036854775807 < 1 + (bstr (fmtInt (wa xs k))).size + 1 + (bstr (fmtInt (wb xs k))).size) := by omega
        have z3 : ¬ (9223372036854775807 < 1 + (bstr (fmtInt (wa xs k))).size + 1 + (bstr (fmtInt (wb xs k))).size + 1) := by omega
        have z4 : ¬ (9223372036854775807 < 1 + (bstr (fmtInt (wa xs k))).size + 1 + (bstr (fmtInt (wb xs k))).size + 1 + (bstr (fmtInt (ww xs k))).size) := by omega
        have z5 : ¬ (9223372036854775807 < (bstr (netPart n E S xs k)).size + (1 + (bstr (fmtInt (wa xs k))).size + 1 + (bstr (fmtInt (wb xs k))).size + 1 + (bstr (fmtInt (ww xs k))).size)) := by omega
        have IA : Hid (-9223372036854775808 ≤ (wa xs k) ∧ (wa xs k) ≤ 9223372036854775807) := ⟨by omega, by omega⟩
        have IB : Hid (-9223372036854775808 ≤ (wb xs k) ∧ (wb xs k) ≤ 9223372036854775807) := ⟨by omega, by omega⟩
        have IW : Hid (-9223372036854775808 ≤ (ww xs k) ∧ (ww xs k) ≤ 9223372036854775807) := ⟨by omega, by omega⟩
        generalize wa xs k = X at *
        generalize wb xs k = Y at *
        generalize ww xs k = Z at *
        go_wp2_with fail
        have hS : ∀ w', Ge (wr.alloc (.cells #[.int .i64 X, .int .i64 Y, .int .i64 Z] 49)) w' → (w'.cell? ⟨wr.heap.size, 0, none⟩ = some (.int .i64 X) ∧ w'.cell? ⟨wr.heap.size, 1, none⟩ = some (.int .i64 Y) ∧ w'.cell? ⟨wr.heap.size, 2, none⟩ = some (.int .i64 Z) ∧ Ge wr w') := fun w' g => ⟨g.keep (by (repeat (first | assumption | with_reducible exact Ge.refl _ | with_reducible refine cv_drew ?_ | with_reducible refine cv_alloc ?_ | with_reducible refine cv_set ?_ | (with_reducible apply cv_some; assumption) | with_reducible refine cell_drew ?_ | with_reducible refine cell_drewN ?_ | ((with_reducible refine cell_new ?_ ?_); (focus (simp; done)); rfl) | with_reducible refine cell_alloc ?_ | with_reducible refine cell_same2 ?_ | ((with_reducible refine cell_set2 ?_ ?_); focus (first | (simp; done) | (intro hE; simp at hE; done) | (intro hE; simp at hE; omega))) | with_reducible refine Ge.drew ?_ | with_reducible refine Ge.drewN ?_ _ | with_reducible refine Ge.alloc ?_ _ | ((with_reducible refine Ge.setCell ?_ ?_ _); rotate_left; focus (first | (simp; done) | omega | (simp; omega))) | with_reducible refine Ge.trans ?_ (by assumption) | with_reducible refine Ge.keep (by assumption) ?_))), g.keep (by (repeat (first | assumption | with_reducible exact Ge.refl _ | with_reducible refine cv_drew ?_ | with_reducible refine cv_alloc ?_ | with_reducible refine cv_set ?_ | (with_reducible apply cv_some; assumption) | with_reducible refine cell_drew ?_ | with_reducible refine cell_drewN ?_ | ((with_reducible refine cell_new ?_ ?_); (focus (simp; done)); rfl) | with_reducible refine cell_alloc ?_ | with_reducible refine cell_same2 ?_ | ((with_reducible refine cell_set2 ?_ ?_); focus (first | (simp; done) | (intro hE; simp at hE; done) | (intro hE; simp at hE; omega))) | with_reducible refine Ge.drew ?_ | with_reducible refine Ge.drewN ?_ _ | with_reducible refine Ge.alloc ?_ _ | ((with_reducible refine Ge.setCell ?_ ?_ _); rotate_left; focus (first | (simp; done) | omega | (simp; omega))) | with_reducible refine Ge.trans ?_ (by assumption) | with_reducible refine Ge.keep (by assumption) ?_))), g.keep (by (repeat (first | assumption | with_reducible exact Ge.refl _ | with_reducible refine cv_drew ?_ | with_reducible refine cv_alloc ?_ | with_reducible refine cv_set ?_ | (with_reducible apply cv_some; assumption) | with_reducible refine cell_drew ?_ | with_reducible refine cell_drewN ?_ | ((with_reducible refine cell_new ?_ ?_); (focus (simp; done)); rfl) | with_reducible refine cell_alloc ?_ | with_reducible refine cell_same2 ?_ | ((with_reducible refine cell_set2 ?_ ?_); focus (first | (simp; done) | (intro hE; simp at hE; done) | (intro hE; simp at hE; omega))) | with_reducible refine Ge.drew ?_ | with_reducible refine Ge.drewN ?_ _ | with_reducible refine Ge.alloc ?_ _ | ((with_reducible refine Ge.setCell ?_ ?_ _); rotate_left; focus (first | (simp; done) | omega | (simp; omega))) | with_reducible refine Ge.trans ?_ (by assumption) | with_reducible refine Ge.keep (by assumption) ?_))), Ge.trans (by (repeat (first | assumption | with_reducible exact Ge.refl _ | with_reducible refine cv_drew ?_ | with_reducible refine cv_alloc ?_ | with_reducible refine cv_set ?_ | (with_reducible apply cv_some; assumption) | with_reducible refine cell_drew ?_ | with_reducible refine cell_drewN ?_ | ((with_reducible refine cell_new ?_ ?_); (focus (simp; done)); rfl) | with_reducible refine cell_alloc ?_ | with_reducible refine cell_same2 ?_ | ((with_reducible refine cell_set2 ?_ ?_); focus (first | (simp; done) | (intro hE; simp at hE; done) | (intro hE; simp at hE; omega))) | with_reducible refine Ge.drew ?_ | with_reducible refine Ge.drewN ?_ _ | with_reducible refine Ge.alloc ?_ _ | ((with_reducible refine Ge.setCell ?_ ?_ _); rotate_left; focus (first | (simp; done) | omega | (simp; omega))) | with_reducible refine Ge.trans ?_ (by assumption) | with_reducible refine Ge.keep (by assumption) ?_))) g⟩
        go_region_held3 (fun w' => w'.cell? ⟨wr.heap.size, 0, none⟩ = some (.int .i64 X) ∧ w'.cell? ⟨wr.heap.size, 1, none⟩ = some (.int .i64 Y) ∧ w'.cell? ⟨wr.heap.size, 2, none⟩ = some (.int .i64 Z) ∧ Ge wr w') (first | ((with_reducible refine hS _ ?_); (repeat (first | assumption | with_reducible exact Ge.refl _ | with_reducible refine cv_drew ?_ | with_reducible refine cv_alloc ?_ | with_reducible refine cv_set ?_ | (with_reducible apply cv_some; assumption) | with_reducible refine cell_drew ?_ | with_reducible refine cell_drewN ?_ | ((with_reducible refine cell_new ?_ ?_); (focus (simp; done)); rfl) | with_reducible refine cell_alloc ?_ | with_reducible refine cell_same2 ?_ | ((with_reducible refine cell_set2 ?_ ?_); focus (first | (simp; done) | (intro hE; simp at hE; done) | (intro hE; simp at hE; omega))) | with_reducible refine Ge.drew ?_ | with_reducible refine Ge.drewN ?_ _ | with_reducible refine Ge.alloc ?_ _ | ((with_reducible refine Ge.setCell ?_ ?_ _); rotate_left; focus (first | (simp; done) | omega | (simp; omega))) | with_reducible refine Ge.trans ?_ (by assumption) | with_reducible refine Ge.keep (by assumption) ?_)); done) | fail) (first | (go_at_call 11; ((with_reducible refine (iFormatInt _ _ (by first | exact IA.out.1 | exact IB.out.1 | exact IW.out.1) (by first | exact IA.out.2 | exact IB.out.2 | exact IW.out.2)).mono ?_); rintro e w' ⟨rfl, rfl⟩)) | fail)
        rename_i hHeldX
        obtain ⟨q0, q1, q2, G7⟩ := hHeldX
        clear hS
        go_wp2_with fail
        go_roundw
        case rel => exact ⟨k + 1, by omega, by go_num, congrArg _ HS.out, by (repeat (first | with_reducible exact Ge.refl _ | assumption | with_reducible refine Ge.drew ?_ | with_reducible refine Ge.drewN ?_ _ | with_reducible refine Ge.alloc ?_ _ | (with_reducible refine Ge.setCell ?_ (by first | (simp; done) | omega | (simp; omega)) _) | with_reducible refine Ge.trans ?_ (by assumption)))⟩
        case measure => simp [intOf]; omega
      · have hkn : k = m := by omega
        subst hkn
        go_wp2_with fail
        go_ret
        exact ⟨ret_str (by rw [HF.out]), by (repeat (first | with_reducible exact Ge.refl _ | assumption | with_reducible refine Ge.drew ?_ | with_reducible refine Ge.drewN ?_ _ | with_reducible refine Ge.alloc ?_ _ | (with_reducible refine Ge.setCell ?_ (by first | (simp; done) | omega | (simp; omega)) _) | with_reducible refine Ge.trans ?_ (by assumption)))⟩

end Go.Proofs.Ytipiiimemmkdgaa
