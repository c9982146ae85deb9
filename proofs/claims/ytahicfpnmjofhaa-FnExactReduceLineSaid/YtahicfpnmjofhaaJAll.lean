/- copyNet of impl; all wires appended to an empty row. No condition. ReduceAll of both sides. No condition. Appending no wires. No condition. ReduceAll of the reference. No condition. -/
import Derived.Test.YtahicfpnmjofhaaJStar
import Derived.Test.YtahicfpnmjofhaaJMesh
import Derived.Test.YtahicfpnmjofhaaJCan
namespace Go.Proofs.Ytahicfpnmjofhaa
set_option maxRecDepth 100000
open Go.ChangeShapes Go.WideShapes Go.ChangeAt Go.RowKit Go.Joins

theorem ap_wires0 {w : World} {o : Oper} {a : Act} {K : Act → World → Prop} {Q : Exit → Act → World → Prop} (s x : Operand)
    (ho : o.op = .call { callee := .builtin .append, args := #[s, x], argTypes := #[27, 27] })
    (hs : a.eval s = .slice (some ⟨w.heap.size, 0, none⟩) 0 0) (ad : Addr) (m c : Nat) (ys : List Int) (hx : a.eval x = .slice (some ad) m c) (hy : SlF w (.slice (some ad) m c) m 3 ys) (hm : m < 1000)
    (h : ∀ v' w', w'.ownsRow w.heap.size 45 3 v' m (icells ys) → Ge w w' → K (a.put o.dst v') w') : o.wp Try.prog a (w.alloc (.cells #[] 45)) K Q := by
  obtain ⟨i, hi1, hi2, hi3, hi4⟩ := info_parts inf_Wire3
  have hy' := SlF.ge hy (Ge.alloc (Ge.refl w) (.cells #[] 45))
  obtain ⟨h1, p, c', he, hc⟩ := hy'
  simp only [Value.slice.injEq] at he
  obtain ⟨rfl, _, rfl⟩ := he
  have hO : (w.alloc (.cells #[] 45)).ownsRow w.heap.size 45 3 (.slice (some ⟨w.heap.size, 0, none⟩) 0 0) 0 (icells []) := owns_lit0 _ _ _
  refine wp_append_own (w.alloc (.cells #[] 45)) s x 27 ho w.heap.size 45 i _ 3 24 Try.underlying27 hi1 hi2 hi3 hi4 rfl (by decide) _ 0 (icells []) hs hO ad m c (icells ys) hx h1 (fun j u hu => ?_) (fun u hu => ?_) (by unfold maxLen; omega) (by omega) (by simp) (fun v' w' h2 h3 _ => h v' w' (by rw [Nat.zero_add] at h2; exact h2) ((Ge.alloc (Ge.refl w) _).mine hO (Nat.le_refl _) h3))
  · obtain ⟨b, o, e, hz⟩ := hc j u hu
    simp only [Option.some.injEq] at e
    subst e
    by_cases hj0 : j = 0
    · subst hj0; simpa [Addr.add] using hz
    · simpa [Addr.add, hj0] using hz
  · simp only [icells, List.mem_map] at hu
    obtain ⟨_, _, rfl⟩ := hu
    rfl

theorem ap_wiresL {w : World} {ops : Array Oper} {rest : List Oper} {o : Oper} {a : Act} {Q : Exit → Act → World → Prop} (hgd : o.guard = none) (s x : Operand)
    (ho : o.op = .call { callee := .builtin .append, args := #[s, x], argTypes := #[27, 27] })
    (hs : a.eval s = .slice (some ⟨w.heap.size, 0, none⟩) 0 0) (ad : Addr) (m c : Nat) (ys : List Int) (hx : a.eval x = .slice (some ad) m c) (hy : SlF w (.slice (some ad) m c) m 3 ys) (hm : m < 1000)
    (h : ∀ v' w', w'.ownsRow w.heap.size 45 3 v' m (icells ys) → Ge w w' → wpList Try.prog ops Q rest (a.put o.dst v') w') : wpList Try.prog ops Q (o :: rest) a (w.alloc (.cells #[] 45)) :=
  wpList_plain hgd fun _ hK => ap_wires0 s x ho hs ad m c ys hx hy hm (fun v' w' h1 h2 => hK _ _ (h v' w' h1 h2))

theorem cloneW (v : Value) (m : Nat) (xs : List Int) (w : World) (hs : SlF w v m 3 xs) (hm : m < 1000) :
    Calls Try.prog 36 #[v] w fun r w' => ∃ u, r = .returned u ∧ w'.ownsRow w.heap.size 45 3 u m (icells xs) ∧ Ge w w' := by
  have HV := Lib.hid hs
  obtain ⟨p, cap, rfl, hc⟩ := hs.open
  have hl := hs.length
  have q27 : ∀ (w : World) (a : Option Addr) (n c n' c' : Nat), (binOp .eql 27 (.slice a n c) (.slice none n' c')).run Try.prog w = .ok (.bool a.isNone) w := fun w a n c n' c' => Lib.run_eql_slice_nil w _ _ a n c n' c' Try.underlying27
  cases p with
  | none =>
    have hm0 : m = 0 := by
      cases m with
      | zero => rfl
      | succ k => obtain ⟨b, o, h, _⟩ := hc 0 (by omega); cases h
    subst hm0
    have hx : xs = [] := List.eq_nil_of_length_eq_zero (by omega)
    subst hx
    clear hc hs
    go_enter Try.func36, Try.ntmps36
    go_wp2_with fail
    go_ret
    refine ⟨_, rfl, ?_, Ge.refl _⟩
    exact ⟨rfl, .inl ⟨rfl, rfl⟩⟩
  | some ad =>
    clear hc hs
    go_enter Try.func36, Try.ntmps36
    go_wp2_with (at_builtin; refine ap_wiresL rfl _ _ rfl rfl ad m cap xs rfl HV.out hm ?_; intro v' w' h1 h2; have HO := Lib.hid h1; clear h1)
    go_ret
    exact ⟨_, rfl, HO.out, h2⟩

set_option maxHeartbeats 1600000 in
theorem iCopyNet (N E S : Int) (v : Value) (m : Nat) (xs : List Int) (w : World) (hs : SlF w v m 3 xs) (hm : m < 1000) :
    Calls Try.prog 24 #[.agg #[.int .i64 N, .int .i64 E, .int .i64 S, v]] w fun r w' => ∃ u, r = .returned (.agg #[.int .i64 N, .int .i64 E, .int .i64 S, u]) ∧ w'.ownsRow w.heap.size 45 3 u m (icells xs) ∧ Ge w w' := by
  have HV := Lib.hid hs
  have HCl := Lib.hid (fun w' (g : Ge w w') => cloneW v m xs w' (HV.out.ge g) hm)
  obtain ⟨NB0, R0⟩ := in_res w N E S v
  have F0 : ((w.alloc (.cells #[.int .i64 N, .int .i64 E, .int .i64 S, v] 29)).alloc (.cells #[.int .i64 0, .int .i64 0, .int .i64 0, .slice none 0 0] 29)).frozen? ⟨w.heap.size, 3, none⟩ = false := Ge.keepF (Ge.alloc (Ge.refl _) _) (cell_new rfl rfl) (froz_new (v := v) rfl rfl)
  obtain ⟨p, cap, rfl, _⟩ := hs.open
  clear hs
  go_enter Try.func24, Try.ntmps24
  go_wp2_with (go_at_call 36; ((with_reducible refine (HCl.out _ (by (repeat (first | with_reducible exact Ge.refl _ | assumption | with_reducible refine Ge.drew ?_ | with_reducible refine Ge.drewN ?_ _ | with_reducible refine Ge.alloc ?_ _ | (with_reducible refine Ge.setCell ?_ (by first | (simp; done) | omega | (simp; omega)) _) | with_reducible refine Ge.trans ?_ (by assumption))))).mono ?_); rintro r w1 ⟨u1, rfl, o1, g1⟩); obtain ⟨b0, b1, b2, b3⟩ := NB0.ge g1; have f1 := Ge.keepF g1 NB0.2.2.2 F0; have R1 := R0.ge g1; have gw1 : Ge w w1 := (by (repeat (first | with_reducible exact Ge.refl _ | assumption | with_reducible refine Ge.drew ?_ | with_reducible refine Ge.drewN ?_ _ | with_reducible refine Ge.alloc ?_ _ | (with_reducible refine Ge.setCell ?_ (by first | (simp; done) | omega | (simp; omega)) _) | with_reducible refine Ge.trans ?_ (by assumption)))); have HO1 := Lib.hid o1; obtain ⟨px, cx, rfl⟩ := owns_form o1; clear o1; have z1 := g1.size; (simp at z1); obtain ⟨r0, p0, q0⟩ := R1 0 (by omega); obtain ⟨r1, p1, q1⟩ := R1 1 (by omega); obtain ⟨r2, p2, q2⟩ := R1 2 (by omega); obtain ⟨r3, p3, q3⟩ := R1 3 (by omega))

  have h1 := HO1.out
  simp only [World.size_alloc] at h1
  have h2 : (((((w1.setCell ⟨w.heap.size, 3, none⟩ (.slice px m cx)).setCell ⟨w.heap.size + 1, 0, none⟩ (.int .i64 N)).setCell ⟨w.heap.size + 1, 1, none⟩ (.int .i64 E)).setCell ⟨w.heap.size + 1, 2, none⟩ (.int .i64 S)).setCell ⟨w.heap.size + 1, 3, none⟩ (.slice px m cx)).ownsRow w.heap.size 45 3 (.slice px m cx) m (icells xs) :=
    owns_mono (own_setD (own_setD (own_setD (own_setD (own_setD h1 (by omega)) (by omega)) (by omega)) (by omega)) (by omega)) (by omega)
  have HO2 := Lib.hid h2
  clear h1 h2
  have g2 : Ge w (((((w1.setCell ⟨w.heap.size, 3, none⟩ (.slice px m cx)).setCell ⟨w.heap.size + 1, 0, none⟩ (.int .i64 N)).setCell ⟨w.heap.size + 1, 1, none⟩ (.int .i64 E)).setCell ⟨w.heap.size + 1, 2, none⟩ (.int .i64 S)).setCell ⟨w.heap.size + 1, 3, none⟩ (.slice px m cx)) := by (repeat (first | with_reducible exact Ge.refl _ | assumption | with_reducible refine Ge.drew ?_ | with_reducible refine Ge.drewN ?_ _ | with_reducible refine Ge.alloc ?_ _ | (with_reducible refine Ge.setCell ?_ (by first | (simp; done) | omega | (simp; omega)) _) | with_reducible refine Ge.trans ?_ (by assumption)))
  exact bodyPost_ret (v := .agg #[.int .i64 N, .int .i64 E, .int .i64 S, .slice px m cx]) (by simp [results, Try.results24, go_sem, *]) rfl ⟨_, rfl, HO2.out, g2⟩
end Go.Proofs.Ytahicfpnmjofhaa

namespace Go.Proofs.Ytahicfpnmjofhaa
set_option maxRecDepth 100000
open Go.ChangeShapes Go.WideShapes Go.ChangeAt Go.RowKit Go.Joins

theorem iLeafOf (n e : Nat) (S : Int) (s : Value) (m : Nat) (xs : List Int) (w : World) (hs : SlF w s m 3 xs) (hB : netB n e S m xs = true) :
    Calls Try.prog 25 #[.agg #[.int .i64 (n : Int), .int .i64 (e : Int), .int .i64 S, s]] w fun r w' => r = .returned (.int .i64 (firstN n e m xs 1)) ∧ Ge w w' := by
  have HV := Lib.hid hs
  have H := Lib.hid (fun w' (g : Ge w w') => iFirst n e S s m xs 1 w' (HV.out.ge g) hB)
  rw [show ((1 : Nat) : Int) = 1 from rfl] at H
  obtain ⟨p, cap, rfl, _⟩ := hs.open
  clear hs hB
  go_enter Try.func25, Try.ntmps25
  go_wp2_with ((go_at_call 37; ((with_reducible refine (H.out _ (by (repeat (first | with_reducible exact Ge.refl _ | assumption | with_reducible refine Ge.drew ?_ | with_reducible refine Ge.drewN ?_ _ | with_reducible refine Ge.alloc ?_ _ | (with_reducible refine Ge.setCell ?_ (by first | (simp; done) | omega | (simp; omega)) _) | with_reducible refine Ge.trans ?_ (by assumption))))).mono ?_); rintro r w1 ⟨rfl, g1⟩)))
  go_ret
  exact ⟨rfl, by (repeat (first | with_reducible exact Ge.refl _ | assumption | with_reducible refine Ge.drew ?_ | with_reducible refine Ge.drewN ?_ _ | with_reducible refine Ge.alloc ?_ _ | (with_reducible refine Ge.setCell ?_ (by first | (simp; done) | omega | (simp; omega)) _) | with_reducible refine Ge.trans ?_ (by assumption)))⟩
theorem iSeriesOf (n e : Nat) (S : Int) (s : Value) (m : Nat) (xs : List Int) (w : World) (hs : SlF w s m 3 xs) (hB : netB n e S m xs = true) :
    Calls Try.prog 26 #[.agg #[.int .i64 (n : Int), .int .i64 (e : Int), .int .i64 S, s]] w fun r w' => r = .returned (.int .i64 (firstN n e m xs 2)) ∧ Ge w w' := by
  have HV := Lib.hid hs
  have H := Lib.hid (fun w' (g : Ge w w') => iFirst n e S s m xs 2 w' (HV.out.ge g) hB)
  rw [show ((2 : Nat) : Int) = 2 from rfl] at H
  obtain ⟨p, cap, rfl, _⟩ := hs.open
  clear hs hB
  go_enter Try.func26, Try.ntmps26
  go_wp2_with ((go_at_call 37; ((with_reducible refine (H.out _ (by (repeat (first | with_reducible exact Ge.refl _ | assumption | with_reducible refine Ge.drew ?_ | with_reducible refine Ge.drewN ?_ _ | with_reducible refine Ge.alloc ?_ _ | (with_reducible refine Ge.setCell ?_ (by first | (simp; done) | omega | (simp; omega)) _) | with_reducible refine Ge.trans ?_ (by assumption))))).mono ?_); rintro r w1 ⟨rfl, g1⟩)))
  go_ret
  exact ⟨rfl, by (repeat (first | with_reducible exact Ge.refl _ | assumption | with_reducible refine Ge.drew ?_ | with_reducible refine Ge.drewN ?_ _ | with_reducible refine Ge.alloc ?_ _ | (with_reducible refine Ge.setCell ?_ (by first | (simp; done) | omega | (simp; omega)) _) | with_reducible refine Ge.trans ?_ (by assumption)))⟩
theorem sLeafOf (n e : Nat) (S : Int) (s : Value) (m : Nat) (xs : List Int) (w : World) (hs : SlF w s m 3 xs) (hB : netB n e S m xs = true) :
    Calls Try.prog 19 #[.agg #[.int .i64 (n : Int), .int .i64 (e : Int), .int .i64 S, s]] w fun r w' => r = .returned (.int .i64 (firstN n e m xs 1)) ∧ Ge w w' := by
  have HV := Lib.hid hs
  have H := Lib.hid (fun w' (g : Ge w w') => sFirst n e S s m xs 1 w' (HV.out.ge g) hB)
  rw [show ((1 : Nat) : Int) = 1 from rfl] at H
  obtain ⟨p, cap, rfl, _⟩ := hs.open
  clear hs hB
  go_enter Try.func19, Try.ntmps19
  go_wp2_with ((go_at_call 31; ((with_reducible refine (H.out _ (by (repeat (first | with_reducible exact Ge.refl _ | assumption | with_reducible refine Ge.drew ?_ | with_reducible refine Ge.drewN ?_ _ | with_reducible refine Ge.alloc ?_ _ | (with_reducible refine Ge.setCell ?_ (by first | (simp; done) | omega | (simp; omega)) _) | with_reducible refine Ge.trans ?_ (by assumption))))).mono ?_); rintro r w1 ⟨rfl, g1⟩)))
  go_ret
  exact ⟨rfl, by (repeat (first | with_reducible exact Ge.refl _ | assumption | with_reducible refine Ge.drew ?_ | with_reducible refine Ge.drewN ?_ _ | with_reducible refine Ge.alloc ?_ _ | (with_reducible refine Ge.setCell ?_ (by first | (simp; done) | omega | (simp; omega)) _) | with_reducible refine Ge.trans ?_ (by assumption)))⟩
theorem sSeriesOf (n e : Nat) (S : Int) (s : Value) (m : Nat) (xs : List Int) (w : World) (hs : SlF w s m 3 xs) (hB : netB n e S m xs = true) :
    Calls Try.prog 20 #[.agg #[.int .i64 (n : Int), .int .i64 (e : Int), .int .i64 S, s]] w fun r w' => r = .returned (.int .i64 (firstN n e m xs 2)) ∧ Ge w w' := by
  have HV := Lib.hid hs
  have H := Lib.hid (fun w' (g : Ge w w') => sFirst n e S s m xs 2 w' (HV.out.ge g) hB)
  rw [show ((2 : Nat) : Int) = 2 from rfl] at H
  obtain ⟨p, cap, rfl, _⟩ := hs.open
  clear hs hB
  go_enter Try.func20, Try.ntmps20
  go_wp2_with ((go_at_call 31; ((with_reducible refine (H.out _ (by (repeat (first | with_reducible exact Ge.refl _ | assumption | with_reducible refine Ge.drew ?_ | with_reducible refine Ge.drewN ?_ _ | with_reducible refine Ge.alloc ?_ _ | (with_reducible refine Ge.setCell ?_ (by first | (simp; done) | omega | (simp; omega)) _) | with_reducible refine Ge.trans ?_ (by assumption))))).mono ?_); rintro r w1 ⟨rfl, g1⟩)))
  go_ret
  exact ⟨rfl, by (repeat (first | with_reducible exact Ge.refl _ | assumption | with_reducible refine Ge.drew ?_ | with_reducible refine Ge.drewN ?_ _ | with_reducible refine Ge.alloc ?_ _ | (with_reducible refine Ge.setCell ?_ (by first | (simp; done) | omega | (simp; omega)) _) | with_reducible refine Ge.trans ?_ (by assumption)))⟩

theorem ResD.setB {w : World} {R i : Nat} {x : Value} (h : ResD w R) : ResD (w.setCell ⟨R, i, none⟩ x) R := fun j hj => by
  obtain ⟨u, h1, h2⟩ := h j hj
  by_cases e : i = j
  · subst e
    exact ⟨x, World.cell?_setCell_same _ _ _ h1, froz_set h2⟩
  · exact ⟨u, cell_set2 (fun he => e (by simpa using congrArg Addr.off he)) h1, froz_set h2⟩
/-- The network is valid. -/
noncomputable def okR (e : Nat) (y : NwR) : Prop := netB y.n e y.s y.l.length (flatW y.l) = true
theorem red_cases (e : Nat) (y : NwR) : (redV e y = -1 ∧ redN e y = none ∧ firstN y.n e y.l.length (flatW y.l) 1 = -1 ∧ firstN y.n e y.l.length (flatW y.l) 2 = -1) ∨
    ∃ v c : Nat, (firstN y.n e y.l.length (flatW y.l) 1 = v ∨ (firstN y.n e y.l.length (flatW y.l) 1 = -1 ∧ firstN y.n e y.l.length (flatW y.l) 2 = v)) ∧ e ≤ v ∧ v < y.n ∧ (nearX y.l.length (flatW y.l) v y.n).length = c ∧ 1 ≤ c ∧ c ≤ 2 ∧
      ((redB y.n e y.s y.l v = true ∧ redN e y = some ⟨y.n - 1, redS y.n y.s y.l v, redL y.n y.s y.l v⟩) ∨ (redB y.n e y.s y.l v = false ∧ redN e y = none)) := by
  have h1 : firstN y.n e y.l.length (flatW y.l) 1 = -1 ∨ 0 ≤ firstN y.n e y.l.length (flatW y.l) 1 := by
    rcases firstN_bd y.n e y.l.length (flatW y.l) 1 with h | ⟨h, _⟩
    · exact .inl h
    · exact .inr (by omega)
  have h2 : firstN y.n e y.l.length (flatW y.l) 2 = -1 ∨ 0 ≤ firstN y.n e y.l.length (flatW y.l) 2 := by
    rcases firstN_bd y.n e y.l.length (flatW y.l) 2 with h | ⟨h, _⟩
    · exact .inl h
    · exact .inr (by omega)
  by_cases h : redV e y < 0
  · left
    have hn : redN e y = none := by unfold redN; rw [if_pos h]
    unfold redV at h ⊢
    split at h
    · rename_i hl
      rw [if_pos hl]
      refine ⟨by omega, hn, by omega, by omega⟩
    · omega
  · right
    obtain ⟨v, c, q1, q2, q3, q4, q5, q6, q7⟩ := redV_bd h
    refine ⟨v, c, ?_, q3, q4, q5, q6, q7, ?_⟩
    · unfold redV at q1
      split at q1
      · rename_i hl
        right
        clear q2
        exact ⟨by omega, q1⟩
      · left; exact q1
    · cases hb : redB y.n e y.s y.l v with
      | true =>
        left
        refine ⟨rfl, ?_⟩
        unfold redN
        rw [if_neg h, q2, if_pos hb]
      | false =>
        right
        refine ⟨rfl, ?_⟩
        unfold redN
        rw [if_neg h, q2, if_neg (by rw [hb]; simp)]
theorem okR_next {n e : Nat} {S : Int} {L : List Wr} {v : Nat} (h : redB n e S L v = true) : okR e ⟨n - 1, redS n S L v, redL n S L v⟩ := h
/-- What ReduceAll gives. -/
def GivesA (w : World) (e : Nat) (x : NwR) (r : Ending) (w' : World) : Prop :=
  ∃ (k : Nat) (y : NwR) (u : Value), redK e x k = some y ∧ redN e y = none ∧ okR e y ∧ k ≤ 5 ∧ r = .returned (.tuple #[.agg #[.int .i64 (y.n : Int), .int .i64 (e : Int), .int .i64 y.s, u], .int .i64 (k : Int), .bool true]) ∧
    w'.ownsRow w.heap.size 45 3 u y.l.length (icells (flatW y.l)) ∧ Ge w w'
/-- The loop of ReduceAll: B the variable's block, R the result's. -/
def RedAt (w wr : World) (B R : Nat) (e : Nat) (x : NwR) (k : Nat) (y : NwR) (u : Value) : Prop :=
  redK e x k = some y ∧ y.n + k = x.n ∧ okR e y ∧ NetIn wr B y.n e y.s u ∧ ResD wr B ∧ ResD wr R ∧ wr.ownsRow (w.heap.size + 2) 45 3 u y.l.length (icells (flatW y.l)) ∧ Ge w wr

theorem RedAt.ge {w wr W : World} {B R e : Nat} {x y : NwR} {k : Nat} {u : Value} (h : RedAt w wr B R e x k y u) (hg : Ge wr W) : RedAt w W B R e x k y u :=
  ⟨h.1, h.2.1, h.2.2.1, h.2.2.2.1.ge hg, h.2.2.2.2.1.ge hg, h.2.2.2.2.2.1.ge hg, hg.owns h.2.2.2.2.2.2.1, Ge.trans h.2.2.2.2.2.2.2 hg⟩
theorem RedAt.next {w wr W : World} {e : Nat} {x y z : NwR} {k : Nat} {u u' : Value} (h : RedAt w wr w.heap.size (w.heap.size + 1) e x k y u) (hg : Ge wr W) (hz : redN e y = some z) (hok : okR e z) (hn : z.n + 1 = y.n) {b : Nat}
    (ho : W.ownsRow b 45 3 u' z.l.length (icells (flatW z.l))) (hb : w.heap.size + 2 ≤ b) :
    RedAt w ((((W.setCell ⟨w.heap.size, 0, none⟩ (.int .i64 (z.n : Int))).setCell ⟨w.heap.size, 1, none⟩ (.int .i64 (e : Int))).setCell ⟨w.heap.size, 2, none⟩ (.int .i64 z.s)).setCell ⟨w.heap.size, 3, none⟩ u') w.heap.size (w.heap.size + 1) e x (k + 1) z u' := by
  obtain ⟨hk, hyn, _, _, hRB, hR, _, hgw⟩ := h
  have RB2 := hRB.ge hg
  have R2 := hR.ge hg
  have gW := Ge.trans hgw hg
  obtain ⟨r0, p0, f0⟩ := RB2 0 (by omega)
  obtain ⟨r1, p1, f1⟩ := RB2 1 (by omega)
  obtain ⟨r2, p2, f2⟩ := RB2 2 (by omega)
  obtain ⟨r3, p3, f3⟩ := RB2 3 (by omega)
  refine ⟨redK_succ hk hz, by omega, hok, ⟨?_, ?_, ?_, ?_⟩, ?_, ?_, ?_, ?_⟩
  · exact cell_set2 (by simp) (cell_set2 (by simp) (cell_set2 (by simp) (World.cell?_setCell_same _ _ _ p0)))
  · exact cell_set2 (by simp) (cell_set2 (by simp) (World.cell?_setCell_same _ _ _ (cell_set2 (by simp) p1)))
  · exact cell_set2 (by simp) (World.cell?_setCell_same _ _ _ (cell_set2 (by simp) (cell_set2 (by simp) p2)))
  · exact World.cell?_setCell_same _ _ _ (cell_set2 (by simp) (cell_set2 (by simp) (cell_set2 (by simp) p3)))
  · exact ResD.setB (ResD.setB (ResD.setB (ResD.setB RB2)))
  · exact ResD.setO (ResD.setO (ResD.setO (ResD.setO R2 (by omega)) (by omega)) (by omega)) (by omega)
  · exact owns_mono (own_setD (own_setD (own_setD (own_setD ho (by omega)) (by omega)) (by omega)) (by omega)) (by omega)
  · exact Ge.setCell (Ge.setCell (Ge.setCell (Ge.setCell gW (Nat.le_refl _) _) (Nat.le_refl _) _) (Nat.le_refl _) _) (Nat.le_refl _) _

set_option maxHeartbeats 6400000 in
theorem iReduceAll (e : Nat) (x : NwR) (s : Value) (w : World) (hs : SlF w s x.l.length 3 (flatW x.l)) (hB : okR e x) :
    Calls Try.prog 14 #[.agg #[.int .i64 (x.n : Int), .int .i64 (e : Int), .int .i64 x.s, s]] w (GivesA w e x) := by
  obtain ⟨⟨h1, h5⟩, ⟨e1, e2⟩, ⟨s1, s2⟩, hok, _⟩ := netP_of hB
  have hm : x.l.length ≤ 10 := prs_len (by omega) hok
  have HV := Lib.hid hs
  have HNo := Lib.hid (fun w' (g : Ge w w') => iNetOk x.n e x.s s x.l.length (flatW x.l) w' (HV.out.ge g) (by omega))
  have hB' : netB x.n e x.s x.l.length (flatW x.l) = true := hB
  rw [hB'] at HNo
  have HCp := Lib.hid (fun w' (g : Ge w w') => iCopyNet x.n e x.s s x.l.length (flatW x.l) w' (HV.out.ge g) (by omega))
  have HOK : Hid (okR e x) := hB
  obtain ⟨NB0, R0⟩ := in_res w x.n e x.s s
  have RB0 : ResD ((w.alloc (.cells #[.int .i64 (x.n : Int), .int .i64 (e : Int), .int .i64 x.s, s] 29)).alloc (.cells #[.int .i64 0, .int .i64 0, .int .i64 0, .slice none 0 0] 29)) w.heap.size := (ResD.new w _ _ _ _ _).ge (Ge.alloc (Ge.refl _) _)
  obtain ⟨p, cap, rfl, _⟩ := hs.open
  clear hs hB hB' hok
  go_enter Try.func14, Try.ntmps14
  go_upto_region 4 with (first
    | ((go_at_call 23; ((with_reducible refine (HNo.out _ (by (repeat (first | with_reducible exact Ge.refl _ | assumption | with_reducible refine Ge.drew ?_ | with_reducible refine Ge.drewN ?_ _ | with_reducible refine Ge.alloc ?_ _ | (with_reducible refine Ge.setCell ?_ (by first | (simp; done) | omega | (simp; omega)) _) | with_reducible refine Ge.trans ?_ (by assumption))))).mono ?_); rintro r w1 ⟨rfl, g1⟩)); have gw1 : Ge w w1 := (by (repeat (first | with_reducible exact Ge.refl _ | assumption | with_reducible refine Ge.drew ?_ | with_reducible refine Ge.drewN ?_ _ | with_reducible refine Ge.alloc ?_ _ | (with_reducible refine Ge.setCell ?_ (by first | (simp; done) | omega | (simp; omega)) _) | with_reducible refine Ge.trans ?_ (by assumption)))); obtain ⟨b0, b1, b2, b3⟩ := NB0.ge g1; have R1 := R0.ge g1; have RB1 := RB0.ge g1; have z1 := g1.size; (simp only [World.size_alloc] at z1))
    | ((go_at_call 24; ((with_reducible refine (HCp.out _ gw1).mono ?_); rintro r w2 ⟨u2, rfl, o2, g2⟩)); have R2 := R1.ge g2; have RB2 := RB1.ge g2; have gw2 := Ge.trans gw1 g2; obtain ⟨r0, p0, f0⟩ := RB2 0 (by omega); obtain ⟨r1, p1, f1⟩ := RB2 1 (by omega); obtain ⟨r2, p2, f2⟩ := RB2 2 (by omega); obtain ⟨r3, p3, f3⟩ := RB2 3 (by omega); have HO2 := Lib.hid o2; obtain ⟨pu, cu, rfl⟩ := owns_form o2; clear o2))
  have hz : ((w.alloc (.cells #[.int .i64 (x.n : Int), .int .i64 (e : Int), .int .i64 x.s, .slice p x.l.length cap] 29)).alloc (.cells #[.int .i64 0, .int .i64 0, .int .i64 0, .slice none 0 0] 29)).heap.size = w.heap.size + 1 + 1 := by simp
  have zw2 := gw2.size
  have hb1 := (HO2.out : w2.ownsRow _ _ _ _ _ _)
  have hRA : RedAt w ((((w2.setCell ⟨w.heap.size, 0, none⟩ (.int .i64 (x.n : Int))).setCell ⟨w.heap.size, 1, none⟩ (.int .i64 (e : Int))).setCell ⟨w.heap.size, 2, none⟩ (.int .i64 x.s)).setCell ⟨w.heap.size, 3, none⟩ (.slice pu x.l.length cu)) w.heap.size (w.heap.size + 1) e x 0 x (.slice pu x.l.length cu) := by
    refine ⟨rfl, rfl, HOK.out, ⟨?_, ?_, ?_, ?_⟩, ?_, ?_, ?_, by (repeat (first | with_reducible exact Ge.refl _ | assumption | with_reducible refine Ge.drew ?_ | with_reducible refine Ge.drewN ?_ _ | with_reducible refine Ge.alloc ?_ _ | (with_reducible refine Ge.setCell ?_ (by first | (simp; done) | omega | (simp; omega)) _) | with_reducible refine Ge.trans ?_ (by assumption)))⟩
    · exact cell_set2 (by simp) (cell_set2 (by simp) (cell_set2 (by simp) (World.cell?_setCell_same _ _ _ p0)))
    · exact cell_set2 (by simp) (cell_set2 (by simp) (World.cell?_setCell_same _ _ _ (cell_set2 (by simp) p1)))
    · exact cell_set2 (by simp) (World.cell?_setCell_same _ _ _ (cell_set2 (by simp) (cell_set2 (by simp) p2)))
    · exact World.cell?_setCell_same _ _ _ (cell_set2 (by simp) (cell_set2 (by simp) (cell_set2 (by simp) p3)))
    · exact ResD.setB (ResD.setB (ResD.setB (ResD.setB RB2)))
    · exact ResD.setO (ResD.setO (ResD.setO (ResD.setO R2 (by omega)) (by omega)) (by omega)) (by omega)
    · exact owns_mono (own_setD (own_setD (own_setD (own_setD hb1 (by omega)) (by omega)) (by omega)) (by omega)) (by omega)
  generalize ((((w2.setCell ⟨w.heap.size, 0, none⟩ (.int .i64 (x.n : Int))).setCell ⟨w.heap.size, 1, none⟩ (.int .i64 (e : Int))).setCell ⟨w.heap.size, 2, none⟩ (.int .i64 x.s)).setCell ⟨w.heap.size, 3, none⟩ (.slice pu x.l.length cu)) = w3 at *
  have HRA := Lib.hid hRA
  clear hRA hb1 p0 p1 p2 p3 f0 f1 f2 f3 RB2 R2 RB1 R1 RB0 R0 b0 b1 b2 b3 NB0 HCp HNo
  go_wp2_with fail
  go_loopw [5] (fun i wr => ∃ (k : Nat) (y : NwR) (u : Value), i = .int .i64 k ∧ RedAt w wr w.heap.size (w.heap.size + 1) e x k y u) (fun i _ => x.n - (intOf i).toNat)
  case atStart => exact ⟨0, x, _, rfl, HRA.out⟩
  case round =>
    obtain ⟨k, y, u, rfl, hk, hyn, hok, hN, hRB, hR, hO, hg⟩ := hrel
    obtain ⟨⟨y1, y5⟩, _⟩ := netP_of hok
    have HRA := Lib.hid (⟨hk, hyn, hok, hN, hRB, hR, hO, hg⟩ : RedAt w wr w.heap.size (w.heap.size + 1) e x k y u)
    obtain ⟨b0, b1, b2, b3⟩ := hN
    have HRB := Lib.hid hRB
    have HR := Lib.hid hR
    have HG := Lib.hid hg
    obtain ⟨py, cy, rfl⟩ := owns_form hO
    have HO := Lib.hid hO
    have HLf := Lib.hid (fun w' (g : Ge wr w') => iLeafOf y.n e y.s (.slice py y.l.length cy) y.l.length (flatW y.l) w' (SlF.of_owns (g.owns HO.out)) hok)
    have HSr := Lib.hid (fun w' (g : Ge wr w') => iSeriesOf y.n e y.s (.slice py y.l.length cy) y.l.length (flatW y.l) w' (SlF.of_owns (g.owns HO.out)) hok)
    have zr : w.heap.size + 1 < wr.heap.size := by obtain ⟨u0, q0, _⟩ := HR.out 0 (by omega); exact World.block_lt_of_cell? _ _ q0
    clear hRB hR hO hg
    rcases red_cases e y with ⟨_, hnone, f1, f2⟩ | ⟨v, c, hf, hv0, hv, hc, c1, c2, hres⟩
    · have HD2 := Lib.hid (fun w' (g : Ge wr w') => (iDropNodeF y.n e y.s (-1) (.slice py y.l.length cy) y.l.length (flatW y.l) [] w' (SlF.of_owns (g.owns HO.out)) hok rfl).mono (fun r w2 h => GivesO.ff h))
      rw [f1] at HLf
      rw [f2] at HSr
      clear f1 f2
      go_wp2_with (first
        | ((go_at_call 25; ((with_reducible refine (HLf.out _ (Ge.refl _)).mono ?_); rintro r w4 ⟨rfl, g4⟩)); have G4 := g4; have b0 := g4.keep b0; have b1 := g4.keep b1; have b2 := g4.keep b2; have b3 := g4.keep b3)
        | ((go_at_call 26; ((with_reducible refine (HSr.out _ G4).mono ?_); rintro r w5 ⟨rfl, g5⟩)); have G4 := Ge.trans G4 g5; have b0 := g5.keep b0; have b1 := g5.keep b1; have b2 := g5.keep b2; have b3 := g5.keep b3)
        | ((go_at_call 27; ((with_reducible refine (HD2.out _ G4).mono ?_); rintro r w6 ⟨rfl, g6⟩)); have G6 := Ge.trans G4 g6; have b0 := g6.keep b0; have b1 := g6.keep b1; have b2 := g6.keep b2; have b3 := g6.keep b3; have zl6 : w.heap.size < w6.heap.size := World.block_lt_of_cell? _ _ b0; have R6 := HR.out.ge G6; obtain ⟨r0, p0, f0⟩ := R6 0 (by omega); obtain ⟨r1, p1, f1⟩ := R6 1 (by omega); obtain ⟨r2, p2, f2⟩ := R6 2 (by omega); obtain ⟨r3, p3, f3⟩ := R6 3 (by omega); have zl7 : w.heap.size + 1 < w6.heap.size := World.block_lt_of_cell? _ _ p0; have HO7 := Lib.hid (G6.owns HO.out); have hz6 := (Ge.trans HG.out G6).size; have g06 := Ge.trans HG.out G6))
      have h8 : (((((w6.setCell ⟨w.heap.size + 1, 0, none⟩ (.int .i64 (y.n : Int))).setCell ⟨w.heap.size + 1, 1, none⟩ (.int .i64 (e : Int))).setCell ⟨w.heap.size + 1, 2, none⟩ (.int .i64 y.s)).setCell ⟨w.heap.size + 1, 3, none⟩ (.slice py y.l.length cy)).alloc (.cells #[.int .i64 0, .int .i64 0, .int .i64 0, .slice none 0 0] 29)).ownsRow w.heap.size 45 3 (.slice py y.l.length cy) y.l.length (icells (flatW y.l)) :=
        owns_mono ((own_setD (own_setD (own_setD (own_setD HO7.out (by omega)) (by omega)) (by omega)) (by omega)).alloc _) (by omega)
      have h9 : Ge w (((((w6.setCell ⟨w.heap.size + 1, 0, none⟩ (.int .i64 (y.n : Int))).setCell ⟨w.heap.size + 1, 1, none⟩ (.int .i64 (e : Int))).setCell ⟨w.heap.size + 1, 2, none⟩ (.int .i64 y.s)).setCell ⟨w.heap.size + 1, 3, none⟩ (.slice py y.l.length cy)).alloc (.cells #[.int .i64 0, .int .i64 0, .int .i64 0, .slice none 0 0] 29)) := Ge.alloc (Ge.setCell (Ge.setCell (Ge.setCell (Ge.setCell g06 (by show w.heap.size ≤ w.heap.size + 1; omega) _) (by show w.heap.size ≤ w.heap.size + 1; omega) _) (by show w.heap.size ≤ w.heap.size + 1; omega) _) (by show w.heap.size ≤ w.heap.size + 1; omega) _) _
      have hk5 : k ≤ 5 := by omega
      have H9 := Lib.hid (⟨k, y, .slice py y.l.length cy, hk, hnone, hok, hk5, rfl, h8, h9⟩ : GivesA w e x (.returned (.tuple #[.agg #[.int .i64 (y.n : Int), .int .i64 (e : Int), .int .i64 y.s, .slice py y.l.length cy], .int .i64 (k : Int), .bool true])) (((((w6.setCell ⟨w.heap.size + 1, 0, none⟩ (.int .i64 (y.n : Int))).setCell ⟨w.heap.size + 1, 1, none⟩ (.int .i64 (e : Int))).setCell ⟨w.heap.size + 1, 2, none⟩ (.int .i64 y.s)).setCell ⟨w.heap.size + 1, 3, none⟩ (.slice py y.l.length cy)).alloc (.cells #[.int .i64 0, .int .i64 0, .int .i64 0, .slice none 0 0] 29)))
      clear h8 h9 hk hyn hnone hok HRA
      exact bodyPost_ret (v := .tuple #[.agg #[.int .i64 (y.n : Int), .int .i64 (e : Int), .int .i64 y.s, .slice py y.l.length cy], .int .i64 (k : Int), .bool true]) (by simp [results, Try.results14, go_sem, *]) rfl H9.out
    · have HD := Lib.hid (fun w' (g : Ge wr w') => iDropNode y.n v e c y.s (.slice py y.l.length cy) y.l w' (SlF.of_owns (g.owns HO.out)) hok hv0 hv hc c1 c2)
      have tv : ((v : Int) < 0) = False := eq_false (by omega)
      rcases hres with ⟨hb, hsome⟩ | ⟨hb, hnone⟩
      · rw [hb] at HD
        have HD2 := Lib.hid (fun w' (g : Ge wr w') => (HD.out w' g).mono (fun r w2 h => GivesO.tt h))
        clear HD hc
        rcases hf with f1 | ⟨f1, f2⟩
        · rw [f1] at HLf
          clear f1 HSr
          go_wp2_with (first
            | ((go_at_call 25; ((with_reducible refine (HLf.out _ (Ge.refl _)).mono ?_); rintro r w4 ⟨rfl, g4⟩)); have G4 := g4; have b0 := g4.keep b0; have b1 := g4.keep b1; have b2 := g4.keep b2; have b3 := g4.keep b3)
            | ((go_at_call 27; ((with_reducible refine (HD2.out _ G4).mono ?_); rintro r w6 ⟨u6, rfl, o6, g6⟩)); have HO6 := Lib.hid o6; obtain ⟨p6, c6, rfl⟩ := owns_form o6; clear o6; have G6 := Ge.trans G4 g6; have b0 := g6.keep b0; have b1 := g6.keep b1; have b2 := g6.keep b2; have b3 := g6.keep b3; have zl6 : w.heap.size < w6.heap.size := World.block_lt_of_cell? _ _ b0; have hz6 := G4.size; have RB6 := HRB.out.ge G6; obtain ⟨r0, p0, f0⟩ := RB6 0 (by omega); obtain ⟨r1, p1, f1⟩ := RB6 1 (by omega); obtain ⟨r2, p2, f2⟩ := RB6 2 (by omega); obtain ⟨r3, p3, f3⟩ := RB6 3 (by omega)))
          go_roundw
          case rel => exact ⟨k + 1, _, _, by go_num, (RedAt.next HRA.out G6 hsome (okR_next hb) (by show y.n - 1 + 1 = y.n; omega) HO6.out (by omega)).ge (Ge.alloc (Ge.refl _) _)⟩
          case measure => simp [intOf]; omega
        · rw [f1] at HLf
          rw [f2] at HSr
          clear f1 f2
          go_wp2_with (first
            | ((go_at_call 25; ((with_reducible refine (HLf.out _ (Ge.refl _)).mono ?_); rintro r w4 ⟨rfl, g4⟩)); have G4 := g4; have b0 := g4.keep b0; have b1 := g4.keep b1; have b2 := g4.keep b2; have b3 := g4.keep b3)
            | ((go_at_call 26; ((with_reducible refine (HSr.out _ G4).mono ?_); rintro r w5 ⟨rfl, g5⟩)); have G4 := Ge.trans G4 g5; have b0 := g5.keep b0; have b1 := g5.keep b1; have b2 := g5.keep b2; have b3 := g5.keep b3)
            | ((go_at_call 27; ((with_reducible refine (HD2.out _ G4).mono ?_); rintro r w6 ⟨u6, rfl, o6, g6⟩)); have HO6 := Lib.hid o6; obtain ⟨p6, c6, rfl⟩ := owns_form o6; clear o6; have G6 := Ge.trans G4 g6; have b0 := g6.keep b0; have b1 := g6.keep b1; have b2 := g6.keep b2; have b3 := g6.keep b3; have zl6 : w.heap.size < w6.heap.size := World.block_lt_of_cell? _ _ b0; have hz6 := G4.size; have RB6 := HRB.out.ge G6; obtain ⟨r0, p0, f0⟩ := RB6 0 (by omega); obtain ⟨r1, p1, f1⟩ := RB6 1 (by omega); obtain ⟨r2, p2, f2⟩ := RB6 2 (by omega); obtain ⟨r3, p3, f3⟩ := RB6 3 (by omega)))
          go_roundw
          case rel => exact ⟨k + 1, _, _, by go_num, (RedAt.next HRA.out G6 hsome (okR_next hb) (by show y.n - 1 + 1 = y.n; omega) HO6.out (by omega)).ge (Ge.alloc (Ge.refl _) _)⟩
          case measure => simp [intOf]; omega
      · rw [hb] at HD
        have HD2 := Lib.hid (fun w' (g : Ge wr w') => (HD.out w' g).mono (fun r w2 h => GivesO.ff h))
        clear HD hc
        rcases hf with f1 | ⟨f1, f2⟩
        · rw [f1] at HLf
          clear f1 HSr
          go_wp2_with (first
            | ((go_at_call 25; ((with_reducible refine (HLf.out _ (Ge.refl _)).mono ?_); rintro r w4 ⟨rfl, g4⟩)); have G4 := g4; have b0 := g4.keep b0; have b1 := g4.keep b1; have b2 := g4.keep b2; have b3 := g4.keep b3)
            | ((go_at_call 27; ((with_reducible refine (HD2.out _ G4).mono ?_); rintro r w6 ⟨rfl, g6⟩)); have G6 := Ge.trans G4 g6; have b0 := g6.keep b0; have b1 := g6.keep b1; have b2 := g6.keep b2; have b3 := g6.keep b3; have zl6 : w.heap.size < w6.heap.size := World.block_lt_of_cell? _ _ b0; have R6 := HR.out.ge G6; obtain ⟨r0, p0, f0⟩ := R6 0 (by omega); obtain ⟨r1, p1, f1⟩ := R6 1 (by omega); obtain ⟨r2, p2, f2⟩ := R6 2 (by omega); obtain ⟨r3, p3, f3⟩ := R6 3 (by omega); have zl7 : w.heap.size + 1 < w6.heap.size := World.block_lt_of_cell? _ _ p0; have HO7 := Lib.hid (G6.owns HO.out); have hz6 := (Ge.trans HG.out G6).size; have g06 := Ge.trans HG.out G6))
          have h8 : (((((w6.setCell ⟨w.heap.size + 1, 0, none⟩ (.int .i64 (y.n : Int))).setCell ⟨w.heap.size + 1, 1, none⟩ (.int .i64 (e : Int))).setCell ⟨w.heap.size + 1, 2, none⟩ (.int .i64 y.s)).setCell ⟨w.heap.size + 1, 3, none⟩ (.slice py y.l.length cy)).alloc (.cells #[.int .i64 0, .int .i64 0, .int .i64 0, .slice none 0 0] 29)).ownsRow w.heap.size 45 3 (.slice py y.l.length cy) y.l.length (icells (flatW y.l)) :=
            owns_mono ((own_setD (own_setD (own_setD (own_setD HO7.out (by omega)) (by omega)) (by omega)) (by omega)).alloc _) (by omega)
          have h9 : Ge w (((((w6.setCell ⟨w.heap.size + 1, 0, none⟩ (.int .i64 (y.n : Int))).setCell ⟨w.heap.size + 1, 1, none⟩ (.int .i64 (e : Int))).setCell ⟨w.heap.size + 1, 2, none⟩ (.int .i64 y.s)).setCell ⟨w.heap.size + 1, 3, none⟩ (.slice py y.l.length cy)).alloc (.cells #[.int .i64 0, .int .i64 0, .int .i64 0, .slice none 0 0] 29)) := Ge.alloc (Ge.setCell (Ge.setCell (Ge.setCell (Ge.setCell g06 (by show w.heap.size ≤ w.heap.size + 1; omega) _) (by show w.heap.size ≤ w.heap.size + 1; omega) _) (by show w.heap.size ≤ w.heap.size + 1; omega) _) (by show w.heap.size ≤ w.heap.size + 1; omega) _) _
          have hk5 : k ≤ 5 := by omega
          have H9 := Lib.hid (⟨k, y, .slice py y.l.length cy, hk, hnone, hok, hk5, rfl, h8, h9⟩ : GivesA w e x (.returned (.tuple #[.agg #[.int .i64 (y.n : Int), .int .i64 (e : Int), .int .i64 y.s, .slice py y.l.length cy], .int .i64 (k : Int), .bool true])) (((((w6.setCell ⟨w.heap.size + 1, 0, none⟩ (.int .i64 (y.n : Int))).setCell ⟨w.heap.size + 1, 1, none⟩ (.int .i64 (e : Int))).setCell ⟨w.heap.size + 1, 2, none⟩ (.int .i64 y.s)).setCell ⟨w.heap.size + 1, 3, none⟩ (.slice py y.l.length cy)).alloc (.cells #[.int .i64 0, .int .i64 0, .int .i64 0, .slice none 0 0] 29)))
          clear h8 h9 hk hyn hnone hok HRA
          exact bodyPost_ret (v := .tuple #[.agg #[.int .i64 (y.n : Int), .int .i64 (e : Int), .int .i64 y.s, .slice py y.l.length cy], .int .i64 (k : Int), .bool true]) (by simp [results, Try.results14, go_sem, *]) rfl H9.out
        · rw [f1] at HLf
          rw [f2] at HSr
          clear f1 f2
          go_wp2_with (first
            | ((go_at_call 25; ((with_reducible refine (HLf.out _ (Ge.refl _)).mono ?_); rintro r w4 ⟨rfl, g4⟩)); have G4 := g4; have b0 := g4.keep b0; have b1 := g4.keep b1; have b2 := g4.keep b2; have b3 := g4.keep b3)
            | ((go_at_call 26; ((with_reducible refine (HSr.out _ G4).mono ?_); rintro r w5 ⟨rfl, g5⟩)); have G4 := Ge.trans G4 g5; have b0 := g5.keep b0; have b1 := g5.keep b1; have b2 := g5.keep b2; have b3 := g5.keep b3)
            | ((go_at_call 27; ((with_reducible refine (HD2.out _ G4).mono ?_); rintro r w6 ⟨rfl, g6⟩)); have G6 := Ge.trans G4 g6; have b0 := g6.keep b0; have b1 := g6.keep b1; have b2 := g6.keep b2; have b3 := g6.keep b3; have zl6 : w.heap.size < w6.heap.size := World.block_lt_of_cell? _ _ b0; have R6 := HR.out.ge G6; obtain ⟨r0, p0, f0⟩ := R6 0 (by omega); obtain ⟨r1, p1, f1⟩ := R6 1 (by omega); obtain ⟨r2, p2, f2⟩ := R6 2 (by omega); obtain ⟨r3, p3, f3⟩ := R6 3 (by omega); have zl7 : w.heap.size + 1 < w6.heap.size := World.block_lt_of_cell? _ _ p0; have HO7 := Lib.hid (G6.owns HO.out); have hz6 := (Ge.trans HG.out G6).size; have g06 := Ge.trans HG.out G6))
          have h8 : (((((w6.setCell ⟨w.heap.size + 1, 0, none⟩ (.int .i64 (y.n : Int))).setCell ⟨w.heap.size + 1, 1, none⟩ (.int .i64 (e : Int))).setCell ⟨w.heap.size + 1, 2, none⟩ (.int .i64 y.s)).setCell ⟨w.heap.size + 1, 3, none⟩ (.slice py y.l.length cy)).alloc (.cells #[.int .i64 0, .int .i64 0, .int .i64 0, .slice none 0 0] 29)).ownsRow w.heap.size 45 3 (.slice py y.l.length cy) y.l.length (icells (flatW y.l)) :=
            owns_mono ((own_setD (own_setD (own_setD (own_setD HO7.out (by omega)) (by omega)) (by omega)) (by omega)).alloc _) (by omega)
          have h9 : Ge w (((((w6.setCell ⟨w.heap.size + 1, 0, none⟩ (.int .i64 (y.n : Int))).setCell ⟨w.heap.size + 1, 1, none⟩ (.int .i64 (e : Int))).setCell ⟨w.heap.size + 1, 2, none⟩ (.int .i64 y.s)).setCell ⟨w.heap.size + 1, 3, none⟩ (.slice py y.l.length cy)).alloc (.cells #[.int .i64 0, .int .i64 0, .int .i64 0, .slice none 0 0] 29)) := Ge.alloc (Ge.setCell (Ge.setCell (Ge.setCell (Ge.setCell g06 (by show w.heap.size ≤ w.heap.size + 1; omega) _) (by show w.heap.size ≤ w.heap.size + 1; omega) _) (by show w.heap.size ≤ w.heap.size + 1; omega) _) (by show w.heap.size ≤ w.heap.size + 1; omega) _) _
          have hk5 : k ≤ 5 := by omega
          have H9 := Lib.hid (⟨k, y, .slice py y.l.length cy, hk, hnone, hok, hk5, rfl, h8, h9⟩ : GivesA w e x (.returned (.tuple #[.agg #[.int .i64 (y.n : Int), .int .i64 (e : Int), .int .i64 y.s, .slice py y.l.length cy], .int .i64 (k : Int), .bool true])) (((((w6.setCell ⟨w.heap.size + 1, 0, none⟩ (.int .i64 (y.n : Int))).setCell ⟨w.heap.size + 1, 1, none⟩ (.int .i64 (e : Int))).setCell ⟨w.heap.size + 1, 2, none⟩ (.int .i64 y.s)).setCell ⟨w.heap.size + 1, 3, none⟩ (.slice py y.l.length cy)).alloc (.cells #[.int .i64 0, .int .i64 0, .int .i64 0, .slice none 0 0] 29)))
          clear h8 h9 hk hyn hnone hok HRA
          exact bodyPost_ret (v := .tuple #[.agg #[.int .i64 (y.n : Int), .int .i64 (e : Int), .int .i64 y.s, .slice py y.l.length cy], .int .i64 (k : Int), .bool true]) (by simp [results, Try.results14, go_sem, *]) rfl H9.out
end Go.Proofs.Ytahicfpnmjofhaa

namespace Go.Proofs.Ytahicfpnmjofhaa
set_option maxRecDepth 100000
open Go.ChangeShapes Go.WideShapes Go.ChangeAt Go.RowKit Go.Joins

theorem run_app00 (w : World) (ty : TypeId) (ad : Addr) (p : Option Addr) (c : Nat) : (Builtin.append_ #[27, 27] ty #[.slice (some ad) 0 0, .slice p 0 c]).run Try.prog w = .ok (.slice (some ad) 0 0) w := by
  obtain ⟨i, hi1, hi2, hi3, hi4⟩ := info_parts inf_Wire3
  have hu : ∀ w, Sem.run Try.prog (underlying 27) w = .ok (TypeDesc.slice 45) w := run_underlying Try.underlying27
  simp [Builtin.append_, go_sem, hu, hi1]
  cases p <;> simp [go_sem, storeCells]
end Go.Proofs.Ytahicfpnmjofhaa

namespace Go.Proofs.Ytahicfpnmjofhaa
set_option maxRecDepth 100000
open Go.ChangeShapes Go.WideShapes Go.ChangeAt Go.RowKit Go.Joins

theorem ap_wiresG {w : World} {o : Oper} {a : Act} {K : Act → World → Prop} {Q : Exit → Act → World → Prop} (s x : Operand)
    (ho : o.op = .call { callee := .builtin .append, args := #[s, x], argTypes := #[27, 27] })
    (base g : Nat) (hs : a.eval s = .slice (some ⟨g, 0, none⟩) 0 0) (hO : w.ownsRow base 45 3 (.slice (some ⟨g, 0, none⟩) 0 0) 0 (icells [])) (hb : base ≤ w.heap.size)
    (po : Option Addr) (m c : Nat) (ys : List Int) (hx : a.eval x = .slice po m c) (hy : SlF w (.slice po m c) m 3 ys) (hm : m < 1000)
    (h : ∀ v' w', w'.ownsRow base 45 3 v' m (icells ys) → Mine w w' (.slice (some ⟨g, 0, none⟩) 0 0) → (v'.ownBlock = some g ∨ v'.ownBlock = some w.heap.size) → K (a.put o.dst v') w') : o.wp Try.prog a w K Q := by
  obtain ⟨i, hi1, hi2, hi3, hi4⟩ := info_parts inf_Wire3
  by_cases hm0 : m = 0
  · subst hm0
    have hy0 : ys = [] := List.eq_nil_of_length_eq_zero (by have := hy.length; omega)
    subst hy0
    unfold Oper.wp execOp
    simp only [ho, resolve, invoke, builtin, Sem.run_bind, Sem.run_pure, Result.andThen_ok, List.map_toArray, List.map_cons, List.map_nil, hs, hx, run_app00]
    exact h _ w hO ⟨rfl, rfl, rfl, Nat.le_refl _, fun k _ _ => rfl⟩ (.inl rfl)
  obtain ⟨b0, o0, rfl⟩ : ∃ b o, po = some ⟨b, o, none⟩ := by
    obtain ⟨p', c'', he, hc⟩ := hy.open
    simp only [Value.slice.injEq, true_and] at he
    obtain ⟨rfl, rfl⟩ := he
    obtain ⟨b, o, hb, _⟩ := hc 0 (by omega)
    exact ⟨b, o, hb⟩
  obtain ⟨h1, p, c', he, hc⟩ := hy
  simp only [Value.slice.injEq] at he
  obtain ⟨rfl, _, rfl⟩ := he
  obtain ⟨v', w', hr, h2, h3, _, h5⟩ := run_append_own_at (P := Try.prog) w base 27 o.type 45 i _ 3 24 Try.underlying27 hi1 hi2 hi3 hi4 rfl (by decide) _ 0 (icells []) hO ⟨b0, o0, none⟩ m c (icells ys) h1 (fun j u hu => by
    obtain ⟨b, o, e, hz⟩ := hc j u hu
    simp only [Option.some.injEq, Addr.mk.injEq, and_true] at e
    obtain ⟨rfl, rfl⟩ := e
    by_cases hj0 : j = 0
    · subst hj0; simpa [Addr.add] using hz
    · simpa [Addr.add, hj0] using hz) (fun u hu => by
    simp only [icells, List.mem_map] at hu
    obtain ⟨_, _, rfl⟩ := hu
    rfl) (by unfold maxLen; omega) (by omega) hb
  unfold Oper.wp execOp
  simp only [ho, resolve, invoke, builtin, Sem.run_bind, Sem.run_pure, Result.andThen_ok, List.map_toArray, List.map_cons, List.map_nil, hs, hx, hr]
  exact h v' w' (by rw [Nat.zero_add] at h2; exact h2) h3 h5
theorem own_setG {w : World} {base e sz n B i : Nat} {v x : Value} {xs : List Value} (h : w.ownsRow base e sz v n xs) (hne : v.ownBlock ≠ some B) : (w.setCell ⟨B, i, none⟩ x).ownsRow base e sz v n xs := by
  refine h.kept (grown_setN w B i x) ?_
  cases hv : v.ownBlock with
  | none => exact .inl rfl
  | some k =>
    right
    intro e'
    rw [hv] at hne
    exact hne (by first | exact e' | exact e'.symm)
theorem RedAt.next2 {w wr W : World} {B R e : Nat} {x y z : NwR} {k : Nat} {u u' : Value} (h : RedAt w wr B R e x k y u) (hg : Ge wr W) (hz : redN e y = some z) (hok : okR e z) (hn : z.n + 1 = y.n) {b : Nat}
    (ho : W.ownsRow b 45 3 u' z.l.length (icells (flatW z.l))) (hB : w.heap.size + 2 ≤ B) (hR : R < w.heap.size + 2) (hb : w.heap.size + 2 ≤ b) (hBb : B < b) :
    RedAt w ((((W.setCell ⟨B, 0, none⟩ (.int .i64 (z.n : Int))).setCell ⟨B, 1, none⟩ (.int .i64 (e : Int))).setCell ⟨B, 2, none⟩ (.int .i64 z.s)).setCell ⟨B, 3, none⟩ u') B R e x (k + 1) z u' := by
  obtain ⟨hk, hyn, _, _, hRB, hR', _, hgw⟩ := h
  have RB2 := hRB.ge hg
  have R2 := hR'.ge hg
  have gW := Ge.trans hgw hg
  obtain ⟨r0, p0, f0⟩ := RB2 0 (by omega)
  obtain ⟨r1, p1, f1⟩ := RB2 1 (by omega)
  obtain ⟨r2, p2, f2⟩ := RB2 2 (by omega)
  obtain ⟨r3, p3, f3⟩ := RB2 3 (by omega)
  refine ⟨redK_succ hk hz, by omega, hok, ⟨?_, ?_, ?_, ?_⟩, ?_, ?_, ?_, ?_⟩
  · exact cell_set2 (by simp) (cell_set2 (by simp) (cell_set2 (by simp) (World.cell?_setCell_same _ _ _ p0)))
  · exact cell_set2 (by simp) (cell_set2 (by simp) (World.cell?_setCell_same _ _ _ (cell_set2 (by simp) p1)))
  · exact cell_set2 (by simp) (World.cell?_setCell_same _ _ _ (cell_set2 (by simp) (cell_set2 (by simp) p2)))
  · exact World.cell?_setCell_same _ _ _ (cell_set2 (by simp) (cell_set2 (by simp) (cell_set2 (by simp) p3)))
  · exact ResD.setB (ResD.setB (ResD.setB (ResD.setB RB2)))
  · exact ResD.setO (ResD.setO (ResD.setO (ResD.setO R2 (by omega)) (by omega)) (by omega)) (by omega)
  · exact owns_mono (own_setD (own_setD (own_setD (own_setD ho (by omega)) (by omega)) (by omega)) (by omega)) (by omega)
  · exact Ge.setCell (Ge.setCell (Ge.setCell (Ge.setCell gW (by show w.heap.size ≤ B; omega) _) (by show w.heap.size ≤ B; omega) _) (by show w.heap.size ≤ B; omega) _) (by show w.heap.size ≤ B; omega) _

set_option maxHeartbeats 6400000 in
theorem sReduceAll (e : Nat) (x : NwR) (s : Value) (w : World) (hs : SlF w s x.l.length 3 (flatW x.l)) (hB : okR e x) :
    Calls Try.prog 10 #[.agg #[.int .i64 (x.n : Int), .int .i64 (e : Int), .int .i64 x.s, s]] w (GivesA w e x) := by
  obtain ⟨⟨h1, h5⟩, ⟨e1, e2⟩, ⟨s1, s2⟩, hok, _⟩ := netP_of hB
  have hm : x.l.length ≤ 10 := prs_len (by omega) hok
  have HV := Lib.hid hs
  have HNo := Lib.hid (fun w' (g : Ge w w') => sNetOk x.n e x.s s x.l.length (flatW x.l) w' (HV.out.ge g) (by omega))
  have hB' : netB x.n e x.s x.l.length (flatW x.l) = true := hB
  rw [hB'] at HNo
  have HOK : Hid (okR e x) := hB
  obtain ⟨NB0, R0⟩ := in_res w x.n e x.s s
  obtain ⟨p, cap, rfl, _⟩ := hs.open
  clear hs hB hB' hok
  go_enter Try.func10, Try.ntmps10
  go_upto_region 3 with ((go_at_call 18; ((with_reducible refine (HNo.out _ (by (repeat (first | with_reducible exact Ge.refl _ | assumption | with_reducible refine Ge.drew ?_ | with_reducible refine Ge.drewN ?_ _ | with_reducible refine Ge.alloc ?_ _ | (with_reducible refine Ge.setCell ?_ (by first | (simp; done) | omega | (simp; omega)) _) | with_reducible refine Ge.trans ?_ (by assumption))))).mono ?_); rintro r w1 ⟨rfl, g1⟩)); have gw1 : Ge w w1 := (by (repeat (first | with_reducible exact Ge.refl _ | assumption | with_reducible refine Ge.drew ?_ | with_reducible refine Ge.drewN ?_ _ | with_reducible refine Ge.alloc ?_ _ | (with_reducible refine Ge.setCell ?_ (by first | (simp; done) | omega | (simp; omega)) _) | with_reducible refine Ge.trans ?_ (by assumption)))); obtain ⟨b0, b1, b2, b3⟩ := NB0.ge g1; have R1 := R0.ge g1; have z1 := g1.size; (simp only [World.size_alloc] at z1))
  go_cut [5] (fun sx wx => ∃ (B : Nat) (u : Value), sx = .pointer (some ⟨B, 0, none⟩) ∧ w.heap.size + 2 ≤ B ∧ RedAt w wx B (w.heap.size + 1) e x 0 x u)
  case first =>
    have gD : Ge w w1.drew := Ge.drew gw1
    have RD := R1.ge (Ge.drew (Ge.refl w1))
    have hyD := HV.out.ge gD
    have zD : w.heap.size + 1 + 1 ≤ w1.drew.heap.size := by simpa using z1
    refine wp_region_head (S := fun w' => w'.cell? ⟨w.heap.size, 0, none⟩ = some (.int .i64 (x.n : Int)) ∧ w'.cell? ⟨w.heap.size, 1, none⟩ = some (.int .i64 (e : Int)) ∧ w'.cell? ⟨w.heap.size, 2, none⟩ = some (.int .i64 x.s) ∧ w'.cell? ⟨w.heap.size, 3, none⟩ = some (.slice p x.l.length cap)) 12 (by kernel_rfl) (by kernel_rfl) (⟨cell_drew b0, cell_drew b1, cell_drew b2, cell_drew b3⟩) (fun hHeld => ?_)
    have b0 := cell_drew b0
    have b1 := cell_drew b1
    have b2 := cell_drew b2
    have b3 := cell_drew b3
    clear gw1
    generalize w1.drew = wD at *
    refine head_take 0 (v := ?_) rfl (by kernel_rfl) (by kernel_rfl) (fun _ _ _ h => h) (by assumption) (yields_if (by rfl) ?_) ?_
    rotate_left
    focus (intro w' hSw; (try dsimp only at hSw); go_simp; (try with_reducible rfl))
    (try simp only [Act.put, List.setIfInBounds_toArray, List.set_cons_zero, List.set_cons_succ])
    refine head_take 1 (v := ?_) rfl (by kernel_rfl) (by kernel_rfl) (fun _ _ _ h => h) (by assumption) (yields_if (by rfl) ?_) ?_
    rotate_left
    focus (intro w' hSw; (try dsimp only at hSw); go_simp; (try with_reducible rfl))
    (try simp only [Act.put, List.setIfInBounds_toArray, List.set_cons_zero, List.set_cons_succ])
    refine head_take 2 (v := ?_) rfl (by kernel_rfl) (by kernel_rfl) (fun _ _ _ h => h) (by assumption) (yields_if (by rfl) ?_) ?_
    rotate_left
    focus (intro w' hSw; (try dsimp only at hSw); go_simp; (try with_reducible rfl))
    (try simp only [Act.put, List.setIfInBounds_toArray, List.set_cons_zero, List.set_cons_succ])
    refine head_take 3 (v := ?_) rfl (by kernel_rfl) (by kernel_rfl) (fun _ _ _ h => h) (by assumption) (yields_if (by rfl) ?_) ?_
    rotate_left
    focus (intro w' hSw; (try dsimp only at hSw); go_simp; (try with_reducible rfl))
    (try simp only [Act.put, List.setIfInBounds_toArray, List.set_cons_zero, List.set_cons_succ])
    refine head_take 4 (v := ?_) rfl (by kernel_rfl) (by kernel_rfl) (fun _ _ _ h => h) (by assumption) (yields_if (by rfl) ?_) ?_
    rotate_left
    focus (intro w' hSw; (try dsimp only at hSw); go_simp; (try with_reducible rfl))
    (try simp only [Act.put, List.setIfInBounds_toArray, List.set_cons_zero, List.set_cons_succ])
    refine head_take 5 (v := ?_) rfl (by kernel_rfl) (by kernel_rfl) (fun _ _ _ h => h) (by assumption) (yields_if (by rfl) ?_) ?_
    rotate_left
    focus (intro w' hSw; (try dsimp only at hSw); go_simp; (try with_reducible rfl))
    (try simp only [Act.put, List.setIfInBounds_toArray, List.set_cons_zero, List.set_cons_succ])
    refine head_take 7 (v := ?_) rfl (by kernel_rfl) (by kernel_rfl) (fun _ _ _ h => h) (by assumption) (yields_if (by rfl) ?_) ?_
    rotate_left
    focus (intro w' hSw; (try dsimp only at hSw); go_simp; (try with_reducible rfl))
    (try simp only [Act.put, List.setIfInBounds_toArray, List.set_cons_zero, List.set_cons_succ])
    refine head_take 8 (v := ?_) rfl (by kernel_rfl) (by kernel_rfl) (fun _ _ _ h => h) (by assumption) (yields_if (by rfl) ?_) ?_
    rotate_left
    focus (intro w' hSw; (try dsimp only at hSw); go_simp; (try with_reducible rfl))
    (try simp only [Act.put, List.setIfInBounds_toArray, List.set_cons_zero, List.set_cons_succ])
    refine head_two 6 11 rfl rfl (by kernel_rfl) (fun K hK => ?_) (fun K hK => ?_)
    · go_simp
      refine hK.out _ _ ⟨cell_alloc b0, cell_alloc b1, cell_alloc b2, cell_alloc b3⟩ (fun hHeld => ?_)
      clear hK K
      (try simp only [Act.put, List.setIfInBounds_toArray, List.set_cons_zero, List.set_cons_succ])
      have oA : (wD.alloc (.cells #[] 45)).ownsRow wD.heap.size 45 3 (.slice (some ⟨wD.heap.size, 0, none⟩) 0 0) 0 (icells []) := owns_lit0 _ _ _
      refine head_two 9 11 rfl rfl (by kernel_rfl) (fun K hK => ?_) (fun K hK => ?_)
      · rw [if_pos (by rfl)]
        refine ap_wiresG _ _ rfl wD.heap.size wD.heap.size rfl oA (by simp) _ x.l.length cap (flatW x.l) rfl (hyD.ge (Ge.alloc (Ge.refl _) _)) (by omega) ?_
        intro v5 w5 o5 m5 hq5
        have HO5 := Lib.hid o5
        obtain ⟨p5, c5, rfl⟩ := owns_form o5
        clear o5
        have g5 : Ge wD w5 := (Ge.alloc (Ge.refl wD) _).mine oA (Nat.le_refl _) m5
        refine hK.out _ _ ⟨g5.keep b0, g5.keep b1, g5.keep b2, g5.keep b3⟩ (fun hHeld => ?_)
        clear hK K
        (try simp only [Act.put, List.setIfInBounds_toArray, List.set_cons_zero, List.set_cons_succ])
        refine head_take 10 (v := ?_) rfl (by kernel_rfl) (by kernel_rfl) (fun _ _ _ h => h) (by assumption) (yields_if (by rfl) ?_) ?_
        rotate_left
        focus (intro w' hSw; (try dsimp only at hSw); go_simp; (try with_reducible rfl))
        (try simp only [Act.put, List.setIfInBounds_toArray, List.set_cons_zero, List.set_cons_succ])
        refine head_one 11 rfl (by kernel_rfl) (fun K hK => ?_)
        go_simp
        refine hK.out _ _ ⟨cell_alloc (g5.keep b0), cell_alloc (g5.keep b1), cell_alloc (g5.keep b2), cell_alloc (g5.keep b3)⟩ (fun hHeld => ?_)
        clear hK K
        (try simp only [Act.put, List.setIfInBounds_toArray, List.set_cons_zero, List.set_cons_succ])
        refine head_done (by kernel_rfl) ?_
        have z5 := g5.size
        go_wp2_with fail
        go_meet
        exact ⟨w5.heap.size, _, rfl, by omega, rfl, rfl, HOK.out, NetIn.new _ _ _ _ _, ResD.new _ _ _ _ _ _, RD.ge (Ge.alloc g5 _), owns_mono (HO5.out.alloc _) (by omega), Ge.alloc (Ge.trans gD g5) _⟩
      · go_simp
        refine hK.out _ _ ⟨cell_alloc (cell_alloc b0), cell_alloc (cell_alloc b1), cell_alloc (cell_alloc b2), cell_alloc (cell_alloc b3)⟩ (fun hHeld => ?_)
        clear hK K
        (try simp only [Act.put, List.setIfInBounds_toArray, List.set_cons_zero, List.set_cons_succ])
        have zA : (wD.alloc (.cells #[] 45)).heap.size = wD.heap.size + 1 := by simp
        have RB := ResD.new (wD.alloc (.cells #[] 45)) (.int .i64 0) (.int .i64 0) (.int .i64 0) (.slice none 0 0) 29
        rw [zA] at RB
        have oB := oA.alloc (.cells #[.int .i64 0, .int .i64 0, .int .i64 0, .slice none 0 0] 29)
        refine head_one 9 rfl (by kernel_rfl) (fun K hK => ?_)
        rw [if_pos (by rfl)]
        refine ap_wiresG _ _ rfl wD.heap.size wD.heap.size rfl oB (by simp; omega) _ x.l.length cap (flatW x.l) rfl (hyD.ge (Ge.alloc (Ge.alloc (Ge.refl _) _) _)) (by omega) ?_
        intro v5 w5 o5 m5 hq5
        have HO5 := Lib.hid o5
        obtain ⟨p5, c5, rfl⟩ := owns_form o5
        clear o5
        have g5 : Ge wD w5 := (Ge.alloc (Ge.alloc (Ge.refl wD) _) _).mine oB (Nat.le_refl _) m5
        have hnB : (Value.slice p5 x.l.length c5).ownBlock ≠ some (wD.heap.size + 1) := fun hh => by
          rcases hq5 with h | h
          · rw [hh] at h; simp at h
          · rw [hh] at h; simp at h
        have RB5 : ResD w5 (wD.heap.size + 1) := fun i hi => by
          obtain ⟨u, q1, q2⟩ := RB i hi
          have ne : ∀ k, (Value.slice (some ⟨wD.heap.size, 0, none⟩) 0 0).ownBlock = some k → (⟨wD.heap.size + 1, i, none⟩ : Addr).block ≠ k := fun k hk => by simp [Value.ownBlock] at hk; subst hk; show wD.heap.size + 1 ≠ wD.heap.size; omega
          exact ⟨u, mine_cell m5 q1 ne, mine_frozN m5 q1 q2 ne⟩
        have RD5 := RD.ge g5
        refine hK.out _ _ ⟨g5.keep b0, g5.keep b1, g5.keep b2, g5.keep b3⟩ (fun hHeld => ?_)
        clear hK K
        (try simp only [Act.put, List.setIfInBounds_toArray, List.set_cons_zero, List.set_cons_succ])
        refine head_take 10 (v := ?_) rfl (by kernel_rfl) (by kernel_rfl) (fun _ _ _ h => h) (by assumption) (yields_if (by rfl) ?_) ?_
        rotate_left
        focus (intro w' hSw; (try dsimp only at hSw); go_simp; (try with_reducible rfl))
        (try simp only [Act.put, List.setIfInBounds_toArray, List.set_cons_zero, List.set_cons_succ])
        refine head_done (by kernel_rfl) ?_
        obtain ⟨r0, p0, f0⟩ := RB5 0 (by omega)
        obtain ⟨r1, p1, f1⟩ := RB5 1 (by omega)
        obtain ⟨r2, p2, f2⟩ := RB5 2 (by omega)
        obtain ⟨r3, p3, f3⟩ := RB5 3 (by omega)
        have gw5 := Ge.trans gD g5
        go_wp2_with fail
        go_meet
        generalize hBB : wD.heap.size + 1 = B at *
        have hBw : w.heap.size + 2 ≤ B := by omega
        refine ⟨B, .slice p5 x.l.length c5, rfl, hBw, rfl, rfl, HOK.out, ⟨?_, ?_, ?_, ?_⟩, ?_, ?_, ?_, ?_⟩
        · exact cell_set2 (by simp) (cell_set2 (by simp) (cell_set2 (by simp) (World.cell?_setCell_same _ _ _ p0)))
        · exact cell_set2 (by simp) (cell_set2 (by simp) (World.cell?_setCell_same _ _ _ (cell_set2 (by simp) p1)))
        · exact cell_set2 (by simp) (World.cell?_setCell_same _ _ _ (cell_set2 (by simp) (cell_set2 (by simp) p2)))
        · exact World.cell?_setCell_same _ _ _ (cell_set2 (by simp) (cell_set2 (by simp) (cell_set2 (by simp) p3)))
        · exact ResD.setB (ResD.setB (ResD.setB (ResD.setB RB5)))
        · exact ResD.setO (ResD.setO (ResD.setO (ResD.setO RD5 (by omega)) (by omega)) (by omega)) (by omega)
        · exact owns_mono (own_setG (own_setG (own_setG (own_setG HO5.out hnB) hnB) hnB) hnB) (by omega)
        · exact Ge.setCell (Ge.setCell (Ge.setCell (Ge.setCell gw5 (by show w.heap.size ≤ B; omega) _) (by show w.heap.size ≤ B; omega) _) (by show w.heap.size ≤ B; omega) _) (by show w.heap.size ≤ B; omega) _
    · go_simp
      refine hK.out _ _ ⟨cell_alloc b0, cell_alloc b1, cell_alloc b2, cell_alloc b3⟩ (fun hHeld => ?_)
      clear hK K
      (try simp only [Act.put, List.setIfInBounds_toArray, List.set_cons_zero, List.set_cons_succ])
      have RB := ResD.new wD (.int .i64 0) (.int .i64 0) (.int .i64 0) (.slice none 0 0) 29
      refine head_one 6 rfl (by kernel_rfl) (fun K hK => ?_)
      go_simp
      refine hK.out _ _ ⟨cell_alloc (cell_alloc b0), cell_alloc (cell_alloc b1), cell_alloc (cell_alloc b2), cell_alloc (cell_alloc b3)⟩ (fun hHeld => ?_)
      clear hK K
      (try simp only [Act.put, List.setIfInBounds_toArray, List.set_cons_zero, List.set_cons_succ])
      have zA : (wD.alloc (.cells #[.int .i64 0, .int .i64 0, .int .i64 0, .slice none 0 0] 29)).heap.size = wD.heap.size + 1 := by simp
      have oB : ((wD.alloc (.cells #[.int .i64 0, .int .i64 0, .int .i64 0, .slice none 0 0] 29)).alloc (.cells #[] 45)).ownsRow (wD.alloc (.cells #[.int .i64 0, .int .i64 0, .int .i64 0, .slice none 0 0] 29)).heap.size 45 3 (.slice (some ⟨(wD.alloc (.cells #[.int .i64 0, .int .i64 0, .int .i64 0, .slice none 0 0] 29)).heap.size, 0, none⟩) 0 0) 0 (icells []) := owns_lit0 _ _ _
      rw [zA] at oB
      refine head_one 9 rfl (by kernel_rfl) (fun K hK => ?_)
      rw [if_pos (by rfl)]
      refine ap_wiresG _ _ rfl (wD.heap.size + 1) (wD.heap.size + 1) rfl oB (by simp) _ x.l.length cap (flatW x.l) rfl (hyD.ge (Ge.alloc (Ge.alloc (Ge.refl _) _) _)) (by omega) ?_
      intro v5 w5 o5 m5 hq5
      have HO5 := Lib.hid o5
      obtain ⟨p5, c5, rfl⟩ := owns_form o5
      clear o5
      have g5 : Ge wD w5 := (Ge.alloc (Ge.alloc (Ge.refl wD) _) _).mine oB (by omega) m5
      have RB5 : ResD w5 wD.heap.size := fun i hi => by
        obtain ⟨u, q1, q2⟩ := RB.ge (Ge.alloc (Ge.refl _) (.cells #[] 45)) i hi
        have ne : ∀ k, (Value.slice (some ⟨wD.heap.size + 1, 0, none⟩) 0 0).ownBlock = some k → (⟨wD.heap.size, i, none⟩ : Addr).block ≠ k := fun k hk => by simp [Value.ownBlock] at hk; subst hk; show wD.heap.size ≠ wD.heap.size + 1; omega
        exact ⟨u, mine_cell m5 q1 ne, mine_frozN m5 q1 q2 ne⟩
      have RD5 := RD.ge g5
      refine hK.out _ _ ⟨g5.keep b0, g5.keep b1, g5.keep b2, g5.keep b3⟩ (fun hHeld => ?_)
      clear hK K
      (try simp only [Act.put, List.setIfInBounds_toArray, List.set_cons_zero, List.set_cons_succ])
      refine head_take 10 (v := ?_) rfl (by kernel_rfl) (by kernel_rfl) (fun _ _ _ h => h) (by assumption) (yields_if (by rfl) ?_) ?_
      rotate_left
      focus (intro w' hSw; (try dsimp only at hSw); go_simp; (try with_reducible rfl))
      (try simp only [Act.put, List.setIfInBounds_toArray, List.set_cons_zero, List.set_cons_succ])
      refine head_done (by kernel_rfl) ?_
      obtain ⟨r0, p0, f0⟩ := RB5 0 (by omega)
      obtain ⟨r1, p1, f1⟩ := RB5 1 (by omega)
      obtain ⟨r2, p2, f2⟩ := RB5 2 (by omega)
      obtain ⟨r3, p3, f3⟩ := RB5 3 (by omega)
      have gw5 := Ge.trans gD g5
      go_wp2_with fail
      go_meet
      generalize hBB : wD.heap.size = B at *
      have hBw : w.heap.size + 2 ≤ B := by omega
      refine ⟨B, .slice p5 x.l.length c5, rfl, hBw, rfl, rfl, HOK.out, ⟨?_, ?_, ?_, ?_⟩, ?_, ?_, ?_, ?_⟩
      · exact cell_set2 (by simp) (cell_set2 (by simp) (cell_set2 (by simp) (World.cell?_setCell_same _ _ _ p0)))
      · exact cell_set2 (by simp) (cell_set2 (by simp) (World.cell?_setCell_same _ _ _ (cell_set2 (by simp) p1)))
      · exact cell_set2 (by simp) (World.cell?_setCell_same _ _ _ (cell_set2 (by simp) (cell_set2 (by simp) p2)))
      · exact World.cell?_setCell_same _ _ _ (cell_set2 (by simp) (cell_set2 (by simp) (cell_set2 (by simp) p3)))
      · exact ResD.setB (ResD.setB (ResD.setB (ResD.setB RB5)))
      · exact ResD.setO (ResD.setO (ResD.setO (ResD.setO RD5 (by omega)) (by omega)) (by omega)) (by omega)
      · exact owns_mono (own_setD (own_setD (own_setD (own_setD HO5.out (by omega)) (by omega)) (by omega)) (by omega)) (by omega)
      · exact Ge.setCell (Ge.setCell (Ge.setCell (Ge.setCell gw5 (by show w.heap.size ≤ B; omega) _) (by show w.heap.size ≤ B; omega) _) (by show w.heap.size ≤ B; omega) _) (by show w.heap.size ≤ B; omega) _
  obtain ⟨B, u0, rfl, hB1, hRA⟩ := hcut
  have HRA := Lib.hid hRA
  clear hRA R1 R0 b0 b1 b2 b3 NB0 HNo
  go_wp2_with fail
  go_loopw [6] (fun i wr => ∃ (k : Nat) (y : NwR) (u : Value), i = .int .i64 k ∧ RedAt w wr B (w.heap.size + 1) e x k y u) (fun i _ => x.n - (intOf i).toNat)
  case atStart => exact ⟨0, x, _, rfl, HRA.out⟩
  case round =>
    clear HRA
    obtain ⟨k, y, u, rfl, hk, hyn, hok, hN, hRB, hR, hO, hg⟩ := hrel
    obtain ⟨⟨y1, y5⟩, _⟩ := netP_of hok
    have HRA := Lib.hid (⟨hk, hyn, hok, hN, hRB, hR, hO, hg⟩ : RedAt w wr B (w.heap.size + 1) e x k y u)
    obtain ⟨b0, b1, b2, b3⟩ := hN
    have zB : B < wr.heap.size := World.block_lt_of_cell? _ _ b0
    have HRB := Lib.hid hRB
    have HR := Lib.hid hR
    have HG := Lib.hid hg
    obtain ⟨py, cy, rfl⟩ := owns_form hO
    have HO := Lib.hid hO
    have HLf := Lib.hid (fun w' (g : Ge wr w') => sLeafOf y.n e y.s (.slice py y.l.length cy) y.l.length (flatW y.l) w' (SlF.of_owns (g.owns HO.out)) hok)
    have HSr := Lib.hid (fun w' (g : Ge wr w') => sSeriesOf y.n e y.s (.slice py y.l.length cy) y.l.length (flatW y.l) w' (SlF.of_owns (g.owns HO.out)) hok)
    have zr : w.heap.size + 1 < wr.heap.size := by obtain ⟨u0, q0, _⟩ := HR.out 0 (by omega); exact World.block_lt_of_cell? _ _ q0
    clear hRB hR hO hg
    rcases red_cases e y with ⟨_, hnone, f1, f2⟩ | ⟨v, c, hf, hv0, hv, hc, c1, c2, hres⟩
    · have HD2 := Lib.hid (fun w' (g : Ge wr w') => (sDropNodeF y.n e y.s (-1) (.slice py y.l.length cy) y.l.length (flatW y.l) [] w' (SlF.of_owns (g.owns HO.out)) hok rfl).mono (fun r w2 h => GivesO.ff h))
      rw [f1] at HLf
      rw [f2] at HSr
      clear f1 f2
      go_wp2_with (first
        | ((go_at_call 19; ((with_reducible refine (HLf.out _ (Ge.refl _)).mono ?_); rintro r w4 ⟨rfl, g4⟩)); have G4 := g4; have b0 := g4.keep b0; have b1 := g4.keep b1; have b2 := g4.keep b2; have b3 := g4.keep b3)
        | ((go_at_call 20; ((with_reducible refine (HSr.out _ G4).mono ?_); rintro r w5 ⟨rfl, g5⟩)); have G4 := Ge.trans G4 g5; have b0 := g5.keep b0; have b1 := g5.keep b1; have b2 := g5.keep b2; have b3 := g5.keep b3)
        | ((go_at_call 21; ((with_reducible refine (HD2.out _ G4).mono ?_); rintro r w6 ⟨rfl, g6⟩)); have G6 := Ge.trans G4 g6; have b0 := g6.keep b0; have b1 := g6.keep b1; have b2 := g6.keep b2; have b3 := g6.keep b3; have zl6 : B < w6.heap.size := World.block_lt_of_cell? _ _ b0; have R6 := HR.out.ge G6; obtain ⟨r0, p0, f0⟩ := R6 0 (by omega); obtain ⟨r1, p1, f1⟩ := R6 1 (by omega); obtain ⟨r2, p2, f2⟩ := R6 2 (by omega); obtain ⟨r3, p3, f3⟩ := R6 3 (by omega); have zl7 : w.heap.size + 1 < w6.heap.size := World.block_lt_of_cell? _ _ p0; have HO7 := Lib.hid (G6.owns HO.out); have hz6 := (Ge.trans HG.out G6).size; have g06 := Ge.trans HG.out G6))
      have h8 : (((((w6.setCell ⟨w.heap.size + 1, 0, none⟩ (.int .i64 (y.n : Int))).setCell ⟨w.heap.size + 1, 1, none⟩ (.int .i64 (e : Int))).setCell ⟨w.heap.size + 1, 2, none⟩ (.int .i64 y.s)).setCell ⟨w.heap.size + 1, 3, none⟩ (.slice py y.l.length cy)).alloc (.cells #[.int .i64 0, .int .i64 0, .int .i64 0, .slice none 0 0] 29)).ownsRow w.heap.size 45 3 (.slice py y.l.length cy) y.l.length (icells (flatW y.l)) :=
        owns_mono ((own_setD (own_setD (own_setD (own_setD HO7.out (by omega)) (by omega)) (by omega)) (by omega)).alloc _) (by omega)
      have h9 : Ge w (((((w6.setCell ⟨w.heap.size + 1, 0, none⟩ (.int .i64 (y.n : Int))).setCell ⟨w.heap.size + 1, 1, none⟩ (.int .i64 (e : Int))).setCell ⟨w.heap.size + 1, 2, none⟩ (.int .i64 y.s)).setCell ⟨w.heap.size + 1, 3, none⟩ (.slice py y.l.length cy)).alloc (.cells #[.int .i64 0, .int .i64 0, .int .i64 0, .slice none 0 0] 29)) := Ge.alloc (Ge.setCell (Ge.setCell (Ge.setCell (Ge.setCell g06 (by show w.heap.size ≤ w.heap.size + 1; omega) _) (by show w.heap.size ≤ w.heap.size + 1; omega) _) (by show w.heap.size ≤ w.heap.size + 1; omega) _) (by show w.heap.size ≤ w.heap.size + 1; omega) _) _
      have hk5 : k ≤ 5 := by omega
      have H9 := Lib.hid (⟨k, y, .slice py y.l.length cy, hk, hnone, hok, hk5, rfl, h8, h9⟩ : GivesA w e x (.returned (.tuple #[.agg #[.int .i64 (y.n : Int), .int .i64 (e : Int), .int .i64 y.s, .slice py y.l.length cy], .int .i64 (k : Int), .bool true])) (((((w6.setCell ⟨w.heap.size + 1, 0, none⟩ (.int .i64 (y.n : Int))).setCell ⟨w.heap.size + 1, 1, none⟩ (.int .i64 (e : Int))).setCell ⟨w.heap.size + 1, 2, none⟩ (.int .i64 y.s)).setCell ⟨w.heap.size + 1, 3, none⟩ (.slice py y.l.length cy)).alloc (.cells #[.int .i64 0, .int .i64 0, .int .i64 0, .slice none 0 0] 29)))
      clear h8 h9 hk hyn hnone hok HRA
      exact bodyPost_ret (v := .tuple #[.agg #[.int .i64 (y.n : Int), .int .i64 (e : Int), .int .i64 y.s, .slice py y.l.length cy], .int .i64 (k : Int), .bool true]) (by simp [results, Try.results10, go_sem, *]) rfl H9.out
    · have HD := Lib.hid (fun w' (g : Ge wr w') => sDropNode y.n v e c y.s (.slice py y.l.length cy) y.l w' (SlF.of_owns (g.owns HO.out)) hok hv0 hv hc c1 c2)
      have tv : ((v : Int) < 0) = False := eq_false (by omega)
      rcases hres with ⟨hb, hsome⟩ | ⟨hb, hnone⟩
      · rw [hb] at HD
        have HD2 := Lib.hid (fun w' (g : Ge wr w') => (HD.out w' g).mono (fun r w2 h => GivesO.tt h))
        clear HD hc
        rcases hf with f1 | ⟨f1, f2⟩
        · rw [f1] at HLf
          clear f1 HSr
          go_wp2_with (first
            | ((go_at_call 19; ((with_reducible refine (HLf.out _ (Ge.refl _)).mono ?_); rintro r w4 ⟨rfl, g4⟩)); have G4 := g4; have b0 := g4.keep b0; have b1 := g4.keep b1; have b2 := g4.keep b2; have b3 := g4.keep b3)
            | ((go_at_call 21; ((with_reducible refine (HD2.out _ G4).mono ?_); rintro r w6 ⟨u6, rfl, o6, g6⟩)); have HO6 := Lib.hid o6; obtain ⟨p6, c6, rfl⟩ := owns_form o6; clear o6; have G6 := Ge.trans G4 g6; have b0 := g6.keep b0; have b1 := g6.keep b1; have b2 := g6.keep b2; have b3 := g6.keep b3; have zl6 : B < w6.heap.size := World.block_lt_of_cell? _ _ b0; have hz6 := G4.size; have RB6 := HRB.out.ge G6; obtain ⟨r0, p0, f0⟩ := RB6 0 (by omega); obtain ⟨r1, p1, f1⟩ := RB6 1 (by omega); obtain ⟨r2, p2, f2⟩ := RB6 2 (by omega); obtain ⟨r3, p3, f3⟩ := RB6 3 (by omega)))
          go_roundw
          case rel => exact ⟨k + 1, _, _, by go_num, (RedAt.next2 HRA.out G6 hsome (okR_next hb) (by show y.n - 1 + 1 = y.n; omega) HO6.out hB1 (by omega) (by omega) (by omega)).ge (Ge.alloc (Ge.refl _) _)⟩
          case measure => simp [intOf]; omega
        · rw [f1] at HLf
          rw [f2] at HSr
          clear f1 f2
          go_wp2_with (first
            | ((go_at_call 19; ((with_reducible refine (HLf.out _ (Ge.refl _)).mono ?_); rintro r w4 ⟨rfl, g4⟩)); have G4 := g4; have b0 := g4.keep b0; have b1 := g4.keep b1; have b2 := g4.keep b2; have b3 := g4.keep b3)
            | ((go_at_call 20; ((with_reducible refine (HSr.out _ G4).mono ?_); rintro r w5 ⟨rfl, g5⟩)); have G4 := Ge.trans G4 g5; have b0 := g5.keep b0; have b1 := g5.keep b1; have b2 := g5.keep b2; have b3 := g5.keep b3)
            | ((go_at_call 21; ((with_reducible refine (HD2.out _ G4).mono ?_); rintro r w6 ⟨u6, rfl, o6, g6⟩)); have HO6 := Lib.hid o6; obtain ⟨p6, c6, rfl⟩ := owns_form o6; clear o6; have G6 := Ge.trans G4 g6; have b0 := g6.keep b0; have b1 := g6.keep b1; have b2 := g6.keep b2; have b3 := g6.keep b3; have zl6 : B < w6.heap.size := World.block_lt_of_cell? _ _ b0; have hz6 := G4.size; have RB6 := HRB.out.ge G6; obtain ⟨r0, p0, f0⟩ := RB6 0 (by omega); obtain ⟨r1, p1, f1⟩ := RB6 1 (by omega); obtain ⟨r2, p2, f2⟩ := RB6 2 (by omega); obtain ⟨r3, p3, f3⟩ := RB6 3 (by omega)))
          go_roundw
          case rel => exact ⟨k + 1, _, _, by go_num, (RedAt.next2 HRA.out G6 hsome (okR_next hb) (by show y.n - 1 + 1 = y.n; omega) HO6.out hB1 (by omega) (by omega) (by omega)).ge (Ge.alloc (Ge.refl _) _)⟩
          case measure => simp [intOf]; omega
      · rw [hb] at HD
        have HD2 := Lib.hid (fun w' (g : Ge wr w') => (HD.out w' g).mono (fun r w2 h => GivesO.ff h))
        clear HD hc
        rcases hf with f1 | ⟨f1, f2⟩
        · rw [f1] at HLf
          clear f1 HSr
          go_wp2_with (first
            | ((go_at_call 19; ((with_reducible refine (HLf.out _ (Ge.refl _)).mono ?_); rintro r w4 ⟨rfl, g4⟩)); have G4 := g4; have b0 := g4.keep b0; have b1 := g4.keep b1; have b2 := g4.keep b2; have b3 := g4.keep b3)
            | ((go_at_call 21; ((with_reducible refine (HD2.out _ G4).mono ?_); rintro r w6 ⟨rfl, g6⟩)); have G6 := Ge.trans G4 g6; have b0 := g6.keep b0; have b1 := g6.keep b1; have b2 := g6.keep b2; have b3 := g6.keep b3; have zl6 : B < w6.heap.size := World.block_lt_of_cell? _ _ b0; have R6 := HR.out.ge G6; obtain ⟨r0, p0, f0⟩ := R6 0 (by omega); obtain ⟨r1, p1, f1⟩ := R6 1 (by omega); obtain ⟨r2, p2, f2⟩ := R6 2 (by omega); obtain ⟨r3, p3, f3⟩ := R6 3 (by omega); have zl7 : w.heap.size + 1 < w6.heap.size := World.block_lt_of_cell? _ _ p0; have HO7 := Lib.hid (G6.owns HO.out); have hz6 := (Ge.trans HG.out G6).size; have g06 := Ge.trans HG.out G6))
          have h8 : (((((w6.setCell ⟨w.heap.size + 1, 0, none⟩ (.int .i64 (y.n : Int))).setCell ⟨w.heap.size + 1, 1, none⟩ (.int .i64 (e : Int))).setCell ⟨w.heap.size + 1, 2, none⟩ (.int .i64 y.s)).setCell ⟨w.heap.size + 1, 3, none⟩ (.slice py y.l.length cy)).alloc (.cells #[.int .i64 0, .int .i64 0, .int .i64 0, .slice none 0 0] 29)).ownsRow w.heap.size 45 3 (.slice py y.l.length cy) y.l.length (icells (flatW y.l)) :=
            owns_mono ((own_setD (own_setD (own_setD (own_setD HO7.out (by omega)) (by omega)) (by omega)) (by omega)).alloc _) (by omega)
          have h9 : Ge w (((((w6.setCell ⟨w.heap.size + 1, 0, none⟩ (.int .i64 (y.n : Int))).setCell ⟨w.heap.size + 1, 1, none⟩ (.int .i64 (e : Int))).setCell ⟨w.heap.size + 1, 2, none⟩ (.int .i64 y.s)).setCell ⟨w.heap.size + 1, 3, none⟩ (.slice py y.l.length cy)).alloc (.cells #[.int .i64 0, .int .i64 0, .int .i64 0, .slice none 0 0] 29)) := Ge.alloc (Ge.setCell (Ge.setCell (Ge.setCell (Ge.setCell g06 (by show w.heap.size ≤ w.heap.size + 1; omega) _) (by show w.heap.size ≤ w.heap.size + 1; omega) _) (by show w.heap.size ≤ w.heap.size + 1; omega) _) (by show w.heap.size ≤ w.heap.size + 1; omega) _) _
          have hk5 : k ≤ 5 := by omega
          have H9 := Lib.hid (⟨k, y, .slice py y.l.length cy, hk, hnone, hok, hk5, rfl, h8, h9⟩ : GivesA w e x (.returned (.tuple #[.agg #[.int .i64 (y.n : Int), .int .i64 (e : Int), .int .i64 y.s, .slice py y.l.length cy], .int .i64 (k : Int), .bool true])) (((((w6.setCell ⟨w.heap.size + 1, 0, none⟩ (.int .i64 (y.n : Int))).setCell ⟨w.heap.size + 1, 1, none⟩ (.int .i64 (e : Int))).setCell ⟨w.heap.size + 1, 2, none⟩ (.int .i64 y.s)).setCell ⟨w.heap.size + 1, 3, none⟩ (.slice py y.l.length cy)).alloc (.cells #[.int .i64 0, .int .i64 0, .int .i64 0, .slice none 0 0] 29)))
          clear h8 h9 hk hyn hnone hok HRA
          exact bodyPost_ret (v := .tuple #[.agg #[.int .i64 (y.n : Int), .int .i64 (e : Int), .int .i64 y.s, .slice py y.l.length cy], .int .i64 (k : Int), .bool true]) (by simp [results, Try.results10, go_sem, *]) rfl H9.out
        · rw [f1] at HLf
          rw [f2] at HSr
          clear f1 f2
          go_wp2_with (first
            | ((go_at_call 19; ((with_reducible refine (HLf.out _ (Ge.refl _)).mono ?_); rintro r w4 ⟨rfl, g4⟩)); have G4 := g4; have b0 := g4.keep b0; have b1 := g4.keep b1; have b2 := g4.keep b2; have b3 := g4.keep b3)
            | ((go_at_call 20; ((with_reducible refine (HSr.out _ G4).mono ?_); rintro r w5 ⟨rfl, g5⟩)); have G4 := Ge.trans G4 g5; have b0 := g5.keep b0; have b1 := g5.keep b1; have b2 := g5.keep b2; have b3 := g5.keep b3)
            | ((go_at_call 21; ((with_reducible refine (HD2.out _ G4).mono ?_); rintro r w6 ⟨rfl, g6⟩)); have G6 := Ge.trans G4 g6; have b0 := g6.keep b0; have b1 := g6.keep b1; have b2 := g6.keep b2; have b3 := g6.keep b3; have zl6 : B < w6.heap.size := World.block_lt_of_cell? _ _ b0; have R6 := HR.out.ge G6; obtain ⟨r0, p0, f0⟩ := R6 0 (by omega); obtain ⟨r1, p1, f1⟩ := R6 1 (by omega); obtain ⟨r2, p2, f2⟩ := R6 2 (by omega); obtain ⟨r3, p3, f3⟩ := R6 3 (by omega); have zl7 : w.heap.size + 1 < w6.heap.size := World.block_lt_of_cell? _ _ p0; have HO7 := Lib.hid (G6.owns HO.out); have hz6 := (Ge.trans HG.out G6).size; have g06 := Ge.trans HG.out G6))
          have h8 : (((((w6.setCell ⟨w.heap.size + 1, 0, none⟩ (.int .i64 (y.n : Int))).setCell ⟨w.heap.size + 1, 1, none⟩ (.int .i64 (e : Int))).setCell ⟨w.heap.size + 1, 2, none⟩ (.int .i64 y.s)).setCell ⟨w.heap.size + 1, 3, none⟩ (.slice py y.l.length cy)).alloc (.cells #[.int .i64 0, .int .i64 0, .int .i64 0, .slice none 0 0] 29)).ownsRow w.heap.size 45 3 (.slice py y.l.length cy) y.l.length (icells (flatW y.l)) :=
            owns_mono ((own_setD (own_setD (own_setD (own_setD HO7.out (by omega)) (by omega)) (by omega)) (by omega)).alloc _) (by omega)
          have h9 : Ge w (((((w6.setCell ⟨w.heap.size + 1, 0, none⟩ (.int .i64 (y.n : Int))).setCell ⟨w.heap.size + 1, 1, none⟩ (.int .i64 (e : Int))).setCell ⟨w.heap.size + 1, 2, none⟩ (.int .i64 y.s)).setCell ⟨w.heap.size + 1, 3, none⟩ (.slice py y.l.length cy)).alloc (.cells #[.int .i64 0, .int .i64 0, .int .i64 0, .slice none 0 0] 29)) := Ge.alloc (Ge.setCell (Ge.setCell (Ge.setCell (Ge.setCell g06 (by show w.heap.size ≤ w.heap.size + 1; omega) _) (by show w.heap.size ≤ w.heap.size + 1; omega) _) (by show w.heap.size ≤ w.heap.size + 1; omega) _) (by show w.heap.size ≤ w.heap.size + 1; omega) _) _
          have hk5 : k ≤ 5 := by omega
          have H9 := Lib.hid (⟨k, y, .slice py y.l.length cy, hk, hnone, hok, hk5, rfl, h8, h9⟩ : GivesA w e x (.returned (.tuple #[.agg #[.int .i64 (y.n : Int), .int .i64 (e : Int), .int .i64 y.s, .slice py y.l.length cy], .int .i64 (k : Int), .bool true])) (((((w6.setCell ⟨w.heap.size + 1, 0, none⟩ (.int .i64 (y.n : Int))).setCell ⟨w.heap.size + 1, 1, none⟩ (.int .i64 (e : Int))).setCell ⟨w.heap.size + 1, 2, none⟩ (.int .i64 y.s)).setCell ⟨w.heap.size + 1, 3, none⟩ (.slice py y.l.length cy)).alloc (.cells #[.int .i64 0, .int .i64 0, .int .i64 0, .slice none 0 0] 29)))
          clear h8 h9 hk hyn hnone hok HRA
          exact bodyPost_ret (v := .tuple #[.agg #[.int .i64 (y.n : Int), .int .i64 (e : Int), .int .i64 y.s, .slice py y.l.length cy], .int .i64 (k : Int), .bool true]) (by simp [results, Try.results10, go_sem, *]) rfl H9.out
end Go.Proofs.Ytahicfpnmjofhaa
