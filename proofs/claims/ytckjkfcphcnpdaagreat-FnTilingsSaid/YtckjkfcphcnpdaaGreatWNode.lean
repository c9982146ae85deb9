/- The closures of NetOfTiling of impl; slices.IndexFunc over rows of three integers. No condition. -/
import Derived.Test.YtckjkfcphcnpdaaGreatPlNode
import Derived.Test.YtckjkfcphcnpdaaGreatWOutL
import Derived.Deep.QuietTactic
namespace Go.Proofs.YtckjkfcphcnpdaaGreat
set_option maxRecDepth 100000
open Go.ChangeShapes Go.WideShapes Go.ChangeAt Go.RowKit Go.Joins

theorem three_cellsP {w : World} {q : Addr} {c : Nat} {a b d : Int} (h : w.ownsRow 0 3 1 (.slice (some q) 3 c) 3 (icells [a, b, d])) :
    ∃ g, q = ⟨g, 0, none⟩ ∧ w.cell? ⟨g, 0, none⟩ = some (.int .i64 a) ∧ w.cell? ⟨g, 1, none⟩ = some (.int .i64 b) ∧ w.cell? ⟨g, 2, none⟩ = some (.int .i64 d) := by
  obtain ⟨g, c', he⟩ := Go.Joins.ownsRow_form h (by omega)
  simp only [Value.slice.injEq, Option.some.injEq] at he
  obtain ⟨rfl, _, rfl⟩ := he
  exact ⟨g, rfl, by rw [h.cellAt 0 (by omega)]; rfl, by rw [h.cellAt 1 (by omega)]; rfl, by rw [h.cellAt 2 (by omega)]; rfl⟩
/-- A square in a box. -/
def SqAt (w : World) (b : Nat) (X Y Z : Int) : Prop := w.cell? ⟨b, 0, none⟩ = some (.int .i64 X) ∧ w.cell? ⟨b, 1, none⟩ = some (.int .i64 Y) ∧ w.cell? ⟨b, 2, none⟩ = some (.int .i64 Z)
theorem SqAt.ge {w w' : World} {b : Nat} {X Y Z : Int} (h : SqAt w b X Y Z) (hg : Ge w w') : SqAt w' b X Y Z := ⟨hg.keep h.1, hg.keep h.2.1, hg.keep h.2.2⟩
set_option maxHeartbeats 1600000 in
/-- Whether a row holds the square's edge. -/
theorem iMatch (q : Addr) (cq : Nat) (a b c : Int) (bY bS : Nat) (y X Y Z : Int) (w : World) (h : w.ownsRow 0 3 1 (.slice (some q) 3 cq) 3 (icells [a, b, c])) (hy : w.cell? ⟨bY, 0, none⟩ = some (.int .i64 y)) (hs : SqAt w bS X Y Z) (hX : 0 ≤ X ∧ X ≤ 200) (hZ : 0 ≤ Z ∧ Z ≤ 200) :
    Calls Tryz.prog 25 #[.slice (some q) 3 cq, .pointer (some ⟨bY, 0, none⟩), .pointer (some ⟨bS, 0, none⟩)] w fun e w' => e = .returned (.bool (decide (a = y) && decide (b ≤ X) && decide (X + Z ≤ c))) ∧ Ge w w' := by
  obtain ⟨g, rfl, x0, x1, x2⟩ := three_cellsP h
  obtain ⟨s0, s1, s2⟩ := hs
  clear h
  have e1 : IntKind.i64.wrap (X + Z) = X + Z := IntWalk.i64_in _ (by omega)
  by_cases h1 : a = y
  · subst h1
    by_cases h2 : b ≤ X
    · have t2 : decide (b ≤ X) = true := by simpa using h2
      by_cases h3 : X + Z ≤ c
      · have t3 : decide (X + Z ≤ c) = true := by simpa using h3
        go_enter Tryz.func25, Tryz.ntmps25
        go_wp2_with fail
        go_quiet (fail)
        go_wp2_with fail
        go_ret
        exact ⟨ret_bool (by simp [h2, h3]), by (repeat (first | with_reducible exact Ge.refl _ | assumption | with_reducible refine Ge.drew ?_ | with_reducible refine Ge.drewN ?_ _ | with_reducible refine Ge.alloc ?_ _ | (with_reducible refine Ge.setCell ?_ (by first | (simp; done) | omega | (simp; omega)) _) | with_reducible refine Ge.trans ?_ (by assumption)))⟩
      · have t3 : decide (X + Z ≤ c) = false := by simpa using h3
        go_enter Tryz.func25, Tryz.ntmps25
        go_wp2_with fail
        go_quiet (fail)
        go_wp2_with fail
        go_ret
        exact ⟨ret_bool (by simp [h2, h3]), by (repeat (first | with_reducible exact Ge.refl _ | assumption | with_reducible refine Ge.drew ?_ | with_reducible refine Ge.drewN ?_ _ | with_reducible refine Ge.alloc ?_ _ | (with_reducible refine Ge.setCell ?_ (by first | (simp; done) | omega | (simp; omega)) _) | with_reducible refine Ge.trans ?_ (by assumption)))⟩
    · have t2 : decide (b ≤ X) = false := by simpa using h2
      go_enter Tryz.func25, Tryz.ntmps25
      go_wp2_with fail
      go_quiet (fail)
      go_wp2_with fail
      go_ret
      exact ⟨ret_bool (by simp; intro _; omega), by (repeat (first | with_reducible exact Ge.refl _ | assumption | with_reducible refine Ge.drew ?_ | with_reducible refine Ge.drewN ?_ _ | with_reducible refine Ge.alloc ?_ _ | (with_reducible refine Ge.setCell ?_ (by first | (simp; done) | omega | (simp; omega)) _) | with_reducible refine Ge.trans ?_ (by assumption)))⟩
  · have t1 : (a == y) = false := by simpa using h1
    go_enter Tryz.func25, Tryz.ntmps25
    go_wp2_with fail
    go_quiet (fail)
    go_wp2_with fail
    go_ret
    exact ⟨ret_bool (by simp [h1]), by (repeat (first | with_reducible exact Ge.refl _ | assumption | with_reducible refine Ge.drew ?_ | with_reducible refine Ge.drewN ?_ _ | with_reducible refine Ge.alloc ?_ _ | (with_reducible refine Ge.setCell ?_ (by first | (simp; done) | omega | (simp; omega)) _) | with_reducible refine Ge.trans ?_ (by assumption)))⟩

set_option maxHeartbeats 1600000 in
theorem iIndexF (v : Value) (L : List (List Int)) (N base bY bS : Nat) (y X Y Z : Int) (w : World) (h : OwnL w base v L) (hN : L.length = N) (hm : N ≤ 1000000) (h3 : ∀ i, i < N → (rowL L i).length = 3) (hy : w.cell? ⟨bY, 0, none⟩ = some (.int .i64 y)) (hs : SqAt w bS X Y Z) (hX : 0 ≤ X ∧ X ≤ 200) (hZ : 0 ≤ Z ∧ Z ≤ 200) (fv : Value) (hf : fv = .func (.func 25) #[] #[.pointer (some ⟨bY, 0, none⟩), .pointer (some ⟨bS, 0, none⟩)]) :
    Calls Tryz.prog 24 #[v, fv] w fun e w' => e = .returned (.int .i64 (idxF (hitImp L y X Z) N)) ∧ Ge w w' := by
  subst hf
  obtain ⟨p, cap, rfl, hrows⟩ := h.rows hN
  have hrow : Hid (∀ i, i < N → ∃ b o q cq, p = some ⟨b, o, none⟩ ∧ w.cell? ⟨b, o + i, none⟩ = some (.slice (some q) 3 cq) ∧ ∀ w', Ge w w' → Calls Tryz.prog 25 #[.slice (some q) 3 cq, .pointer (some ⟨bY, 0, none⟩), .pointer (some ⟨bS, 0, none⟩)] w' fun e w2 => e = .returned (.bool (hitImp L y X Z i)) ∧ Ge w' w2) := fun i hi => by
    obtain ⟨b, o, q, cq, e1, e2, e3⟩ := hrows i hi
    have hl := h3 i hi
    rw [hl] at e2 e3
    obtain ⟨a0, a1, a2, ha⟩ : ∃ a0 a1 a2, rowL L i = [a0, a1, a2] := by
      match hr : rowL L i, hl with
      | [a0, a1, a2], _ => exact ⟨a0, a1, a2, rfl⟩
    rw [ha] at e3
    refine ⟨b, o, q, cq, e1, e2, fun w' hg => ?_⟩
    have := iMatch q cq a0 a1 a2 bY bS y X Y Z w' (hg.owns e3) (hg.keep hy) (hs.ge hg) hX hZ
    have e4 : hitImp L y X Z i = (decide (a0 = y) && decide (a1 ≤ X) && decide (X + Z ≤ a2)) := by
      unfold hitImp r0 r1 r2; rw [ha]; rfl
    rw [e4]
    exact this
  have H0 := Lib.hid (idx_start (hitImp L y X Z) N)
  have HH := Lib.hid (fun k hk => first_hit (p := hitImp L y X Z) (n := N) (k := k) hk)
  have HN := Lib.hid (fun k hk => first_next (p := hitImp L y X Z) (n := N) (k := k) hk)
  have HE := Lib.hid (fun k hk => first_end (p := hitImp L y X Z) (n := N) (k := k) hk)
  clear hrows h h3 hy hs hN
  generalize hitImp L y X Z = P at *
  generalize idxF P N = R at *
  go_enter Tryz.func24, Tryz.ntmps24
  go_wp2_with fail
  go_loopw [8] (fun i wr => ∃ k : Nat, i = .int .i64 (k : Int) ∧ k ≤ N ∧ Hid (R = firstF P (N - k) k) ∧ Ge w wr) (fun i _ => N - (intOf i).toNat)
  case atStart => exact ⟨0, rfl, Nat.zero_le _, H0.out, Ge.refl _⟩
  case round =>
    obtain ⟨k, rfl, hk, HR, hg⟩ := hrel
    by_cases hlt : k < N
    · obtain ⟨b, o, q, cq, rfl, x0, hcall⟩ := hrow.out k hlt
      have y0 := hg.keep x0
      have HC := Lib.hid (hcall wr hg)
      have HHk := Lib.hid (HH.out k hlt)
      have HNk := Lib.hid (HN.out k hlt)
      clear x0 hcall hrow HH HN HE
      cases hP : P k with
      | true =>
        rw [hP] at HC
        have HF : Hid (R = (k : Int)) := by show _ = _; rw [HR.out, HHk.out hP]
        clear hP HHk HNk HR
        go_wp2_with (go_at_call 25; ((with_reducible refine (HC.out).mono ?_); rintro e w5 ⟨rfl, g⟩); have HG := Lib.hid g; clear g)
        go_ret
        exact ⟨ret_int HF.out.symm, hg.trans HG.out⟩
      | false =>
        rw [hP] at HC
        have HF : Hid (R = firstF P (N - (k + 1)) (k + 1)) := by show _ = _; rw [HR.out, HNk.out hP]
        clear hP HHk HNk HR
        go_wp2_with (go_at_call 25; ((with_reducible refine (HC.out).mono ?_); rintro e w5 ⟨rfl, g⟩); have HG := Lib.hid g; clear g)
        go_roundw
        case rel => exact ⟨k + 1, by go_num, by omega, HF, hg.trans HG.out⟩
        case measure => simp [intOf]; omega
    · have HF : Hid (R = -1) := by show _ = _; rw [HR.out, HE.out k hlt]
      have hkN : k = N := by omega
      subst hkN
      go_wp2_with fail
      go_ret
      exact ⟨ret_int HF.out.symm, hg⟩

set_option maxHeartbeats 1600000 in
theorem iNode (v : Value) (L : List (List Int)) (N base lv ct : Nat) (y X Y Z : Int) (w : World) (h : OwnL w base v L) (hN : L.length = N) (hm : N ≤ 1000000) (h3 : ∀ i, i < N → (rowL L i).length = 3) (hlv : w.cell? ⟨lv, 0, none⟩ = some v) (hct : w.cell? ⟨ct, 0, none⟩ = some (.int .i64 (N : Int))) (hX : 0 ≤ X ∧ X ≤ 200) (hZ : 0 ≤ Z ∧ Z ≤ 200) :
    Calls Tryz.prog 23 #[.int .i64 y, .agg #[.int .i64 X, .int .i64 Y, .int .i64 Z], .pointer (some ⟨lv, 0, none⟩), .pointer (some ⟨ct, 0, none⟩)] w fun e w' => e = .returned (.int .i64 (nodeF N (idxF (hitImp L y X Z) N))) ∧ Ge w w' := by
  have zl := World.block_lt_of_cell? _ _ hlv
  have zc := World.block_lt_of_cell? _ _ hct
  simp only at zl zc
  obtain ⟨pv, cv, rfl⟩ : ∃ p c, v = .slice p N c := by
    obtain ⟨p, c, e, _⟩ := OwnL.read h hN
    exact ⟨p, c, e⟩
  have gA := Ge.alloc (Ge.alloc (Ge.refl w) (.cells #[.int .i64 y] 3)) (.cells #[.int .i64 X, .int .i64 Y, .int .i64 Z] 27)
  have HI := Lib.hid (iIndexF (.slice pv N cv) L N base w.heap.size (w.heap.size + 1) y X Y Z ((w.alloc (.cells #[.int .i64 y] 3)).alloc (.cells #[.int .i64 X, .int .i64 Y, .int .i64 Z] 27)) (h.ge gA) hN hm h3 (by simp) ⟨by simp, by simp, by simp⟩ hX hZ _ rfl)
  have hb := first_bd (p := hitImp L y X Z) N 0
  have HF : Hid (nodeF N (idxF (hitImp L y X Z) N) = if idxF (hitImp L y X Z) N = 0 then 0 else if idxF (hitImp L y X Z) N = (N : Int) - 1 then 1 else idxF (hitImp L y X Z) N + 1) := rfl
  change -1 ≤ idxF (hitImp L y X Z) N ∧ idxF (hitImp L y X Z) N < _ at hb
  generalize nodeF N (idxF (hitImp L y X Z) N) = ND at *
  generalize idxF (hitImp L y X Z) N = I at *
  have HG := Lib.hid gA
  clear h h3 gA hN
  by_cases c0 : I = 0
  · have t0 : (I == 0) = true := by simpa using c0
    have HR : Hid (ND = 0) := by show _ = _; rw [HF.out, if_pos c0]
    clear c0 HF
    go_enter Tryz.func23, Tryz.ntmps23
    go_wp2_with (go_at_call 24; ((with_reducible refine (HI.out).mono ?_); rintro e w5 ⟨rfl, g⟩); have HG5 := Lib.hid (HG.out.trans g); have hct5 := HG5.out.keep hct; clear g)
    go_ret
    exact ⟨ret_int HR.out.symm, HG5.out⟩
  · have t0 : (I == 0) = false := by simpa using c0
    by_cases c1 : I = (N : Int) - 1
    · have t1 : (I == (N : Int) - 1) = true := by simpa using c1
      have HR : Hid (ND = 1) := by show _ = _; rw [HF.out, if_neg c0, if_pos c1]
      have HC1 := Lib.hid c1
      clear c0 c1 HF
      go_enter Tryz.func23, Tryz.ntmps23
      go_wp2_with (go_at_call 24; ((with_reducible refine (HI.out).mono ?_); rintro e w5 ⟨rfl, g⟩); have HG5 := Lib.hid (HG.out.trans g); have hct5 := HG5.out.keep hct; clear g)
      go_ret
      exact ⟨ret_int HR.out.symm, HG5.out⟩
    · have t1 : (I == (N : Int) - 1) = false := by simpa using c1
      have HR : Hid (ND = I + 1) := by show _ = _; rw [HF.out, if_neg c0, if_neg c1]
      clear c0 c1 HF
      go_enter Tryz.func23, Tryz.ntmps23
      go_wp2_with (go_at_call 24; ((with_reducible refine (HI.out).mono ?_); rintro e w5 ⟨rfl, g⟩); have HG5 := Lib.hid (HG.out.trans g); have hct5 := HG5.out.keep hct; clear g)
      go_ret
      exact ⟨ret_int HR.out.symm, HG5.out⟩
end Go.Proofs.YtckjkfcphcnpdaaGreat
