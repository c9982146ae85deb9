/- ParseRatio of impl and of spec. No condition. -/
import Derived.Test.YtfhhgonoddedlaaWParseInts
import Derived.Test.YtfhhgonoddedlaaWFormatRatio
import Derived.Test.YtfhhgonoddedlaaWRes
namespace Go.Proofs.Ytfhhgonoddedlaa
set_option maxRecDepth 100000
open Go.ChangeShapes Go.WideShapes Go.ChangeAt Go.RowKit Go.Joins

/-- The parts of a fraction's text. -/
def rpts (s : List UInt8) : List (List UInt8) := pieces [47] s
noncomputable def rN (s : List UInt8) : Int := pv (tnth (rpts s) 0)
noncomputable def rD (s : List UInt8) : Int := if (rpts s).length = 2 then pv (tnth (rpts s) 1) else 1
noncomputable def rOk (s : List UInt8) : Bool := pb (tnth (rpts s) 0) && ((rpts s).length != 2 || pb (tnth (rpts s) 1))
noncomputable def rGood (s : List UInt8) : Bool := rOk s && (decide ((rpts s).length ≤ 2) && (decide (ratioTxt (rN s) (rD s) = s) && ratioOk (rN s) (rD s)))
noncomputable def ratN (s : List UInt8) : Int := if rGood s = true then rN s else 0
noncomputable def ratD (s : List UInt8) : Int := if rGood s = true then rD s else 0
theorem rat_t {s : List UInt8} (h : rGood s = true) : ratN s = rN s ∧ ratD s = rD s ∧ rGood s = true := by simp [ratN, ratD, h]
theorem rat_f {s : List UInt8} (h : rGood s = false) : ratN s = 0 ∧ ratD s = 0 ∧ rGood s = false := by simp [ratN, ratD, h]
theorem pieces_pos (b s : List UInt8) : 0 < (pieces b s).length := by simp [pieces]
theorem tail_text {b s : List UInt8} {i : Nat} : i < (pieces b s).length → (tnth (pieces b s) i).length ≤ s.length := fun h =>
  pieces_le _ (by rw [tnth_eq _ i h]; exact List.getElem_mem _)
theorem pb_nil : pb [] = false := (p_none (fun n _ e => by have := fmtInt_pos n; rw [e] at this; simp at this)).2
/-- A text that is read is that of a valid fraction. -/
theorem ok_valid {s : List UInt8} (h : rOk s = true) (ht : ratioTxt (rN s) (rD s) = s) : ratioOk (rN s) (rD s) = true := by
  cases c : ratioOk (rN s) (rD s) with
  | true => rfl
  | false =>
    exfalso
    have hs : s = [] := by rw [← ht]; simp [ratioTxt, c]
    subst hs
    have h1 : pb (tnth (rpts []) 0) = false := by
      have : tnth (rpts []) 0 = [] := rfl
      rw [this]; exact pb_nil
    simp [rOk, h1] at h

theorem own_str {w : World} {base g n cap : Nat} {e : TypeId} {l : List (List UInt8)} (h : w.ownsRow base e 1 (.slice (some ⟨g, 0, none⟩) n cap) n (scells l)) {j : Nat} (hj : j < n) : w.cell? ⟨g, j, none⟩ = some (.string (bstr (tnth l j))) := by
  have hl : l.length = n := by have := h.1; rw [scells_length] at this; omega
  rw [h.cellAt j (by omega)]
  simp [scells, hl, hj, tnth_eq]
theorem ok_f0 {s : List UInt8} (h : pb (tnth (rpts s) 0) = false) : rGood s = false := by simp [rGood, rOk, h]
theorem ok_f1 {s : List UInt8} (hr : (rpts s).length = 2) (h : pb (tnth (rpts s) 1) = false) : rGood s = false := by simp [rGood, rOk, h, hr]
theorem ok_f2 {s : List UInt8} (h : 2 < (rpts s).length) : rGood s = false := by
  have : ¬ (rpts s).length ≤ 2 := by omega
  simp [rGood, this]
theorem ok_f3 {s : List UInt8} (h : ¬ ratioTxt (rN s) (rD s) = s) : rGood s = false := by simp [rGood, h]
theorem ok_t2 {s : List UInt8} (hr : (rpts s).length = 2) (h0 : pb (tnth (rpts s) 0) = true) (h1 : pb (tnth (rpts s) 1) = true) (h : ratioTxt (rN s) (rD s) = s) : rGood s = true ∧ ratioOk (rN s) (rD s) = true := by
  have hk : rOk s = true := by simp [rOk, h0, h1]
  have hv := ok_valid hk h
  refine ⟨?_, hv⟩
  simp [rGood, hk, h, hv, hr]
theorem ok_t1 {s : List UInt8} (hr : ¬ (rpts s).length = 2) (hl : ¬ 2 < (rpts s).length) (h0 : pb (tnth (rpts s) 0) = true) (h : ratioTxt (rN s) (rD s) = s) : rGood s = true ∧ ratioOk (rN s) (rD s) = true := by
  have hk : rOk s = true := by simp [rOk, h0, hr]
  have hv := ok_valid hk h
  refine ⟨?_, hv⟩
  have : (rpts s).length ≤ 2 := by omega
  simp [rGood, hk, h, hv, this]
theorem rD_2 {s : List UInt8} (hr : (rpts s).length = 2) : rD s = pv (tnth (rpts s) 1) := by simp [rD, hr]
theorem rD_1 {s : List UInt8} (hr : ¬ (rpts s).length = 2) : rD s = 1 := by simp [rD, hr]
theorem ret_rat {a b c d : Int} {x y : Bool} (h : c = a ∧ d = b ∧ y = x) : Ending.returned (.tuple #[.agg #[.int .i64 a, .int .i64 b], .bool x]) = .returned (.tuple #[.agg #[.int .i64 c, .int .i64 d], .bool y]) := by rw [h.1, h.2.1, h.2.2]

set_option maxHeartbeats 3200000 in
theorem iParseRatio (s : List UInt8) (w : World) (hm : s.length ≤ 1048576) :
    Calls Try.prog 23 #[.string (bstr s)] w fun e w' => e = .returned (.tuple #[.agg #[.int .i64 (ratN s), .int .i64 (ratD s)], .bool (rGood s)]) ∧ Ge w w' := by
  have hS : ∀ w0, Calls Try.prog 54 #[.string (bstr s), .string ⟨#[47]⟩] w0 (GivesS w0 (rpts s)) := fun w0 => iSplitAny s [47] w0 hm
  have HS := Lib.hid hS
  have hpos := pieces_pos [47] s
  obtain ⟨r, hr⟩ : ∃ r, (rpts s).length = r := ⟨_, rfl⟩
  have hr0 : 0 < r := by rw [← hr]; exact hpos
  have HLen := Lib.hid hr
  obtain ⟨T0, hT0⟩ : ∃ T0, tnth (rpts s) 0 = T0 := ⟨_, rfl⟩
  have hl0 : T0.length ≤ 1048576 := by rw [← hT0]; exact Nat.le_trans (tail_text hpos) hm
  have HP0 := Lib.hid (fun w => iParseInt T0 w hl0)
  have hn0 : rN s = pv T0 := by rw [← hT0]; rfl
  have HN0 := Lib.hid hn0
  obtain ⟨in0, in1⟩ := pv_in (s := T0)
  clear hS hpos hr hn0
  cases c0 : pb T0 with
  | false =>
    have HF := Lib.hid (rat_f (ok_f0 (s := s) (by rw [hT0]; exact c0)))
    rw [c0] at HP0
    generalize pv T0 = N0 at *
    by_cases h2 : r = 2
    · have t2 : ((r : Int) == 2) = true := by simp [h2]
      clear h2
      go_enter Try.func23, Try.ntmps23
      go_wp2_with (first | (go_at_call 54; ((with_reducible refine (HS.out _).mono ?_); rintro e w1 ⟨v1, rfl, o1, g1⟩); rw [HLen.out] at o1; obtain ⟨g, c1, rfl⟩ := Go.Joins.ownsRow_form o1 hr0; have ob0 : Own w1 ⟨w.heap.size, 0, none⟩ _ := Ge.own g1 (own_new rfl rfl); have ob1 : Own w1 ⟨w.heap.size, 1, none⟩ _ := Ge.own g1 (own_new rfl rfl); have bc0 := ob0.1; have bf0 := ob0.2; have bc1 := ob1.1; have bf1 := ob1.2; clear ob0 ob1; simp at bc0 bc1; have x0 := own_str o1 hr0; rw [hT0] at x0; have zl : w.heap.size < w1.heap.size := (by have := g1.size; simp at this; omega); have zg : g < w1.heap.size := (o1.lt g rfl).2) | (go_at_call 59; ((with_reducible refine (HP0.out _).mono ?_); rintro e w' ⟨rfl, rfl⟩)))
      exact bodyPost_ret (v := .tuple #[.agg #[.int .i64 0, .int .i64 0], .bool false]) (by simp [results, Try.results23, go_sem, *]) rfl ⟨ret_rat ⟨HF.out.1, HF.out.2.1, HF.out.2.2⟩, by (repeat (first | with_reducible exact Ge.refl _ | assumption | with_reducible refine Ge.drew ?_ | with_reducible refine Ge.drewN ?_ _ | with_reducible refine Ge.alloc ?_ _ | (with_reducible refine Ge.setCell ?_ (by first | (simp; done) | omega | (simp; omega)) _) | with_reducible refine Ge.trans ?_ (by assumption)))⟩
    · have t2 : ((r : Int) == 2) = false := by simp; omega
      clear h2
      go_enter Try.func23, Try.ntmps23
      go_wp2_with (first | (go_at_call 54; ((with_reducible refine (HS.out _).mono ?_); rintro e w1 ⟨v1, rfl, o1, g1⟩); rw [HLen.out] at o1; obtain ⟨g, c1, rfl⟩ := Go.Joins.ownsRow_form o1 hr0; have ob0 : Own w1 ⟨w.heap.size, 0, none⟩ _ := Ge.own g1 (own_new rfl rfl); have ob1 : Own w1 ⟨w.heap.size, 1, none⟩ _ := Ge.own g1 (own_new rfl rfl); have bc0 := ob0.1; have bf0 := ob0.2; have bc1 := ob1.1; have bf1 := ob1.2; clear ob0 ob1; simp at bc0 bc1; have x0 := own_str o1 hr0; rw [hT0] at x0; have zl : w.heap.size < w1.heap.size := (by have := g1.size; simp at this; omega); have zg : g < w1.heap.size := (o1.lt g rfl).2) | (go_at_call 59; ((with_reducible refine (HP0.out _).mono ?_); rintro e w' ⟨rfl, rfl⟩)))
      exact bodyPost_ret (v := .tuple #[.agg #[.int .i64 0, .int .i64 0], .bool false]) (by simp [results, Try.results23, go_sem, *]) rfl ⟨ret_rat ⟨HF.out.1, HF.out.2.1, HF.out.2.2⟩, by (repeat (first | with_reducible exact Ge.refl _ | assumption | with_reducible refine Ge.drew ?_ | with_reducible refine Ge.drewN ?_ _ | with_reducible refine Ge.alloc ?_ _ | (with_reducible refine Ge.setCell ?_ (by first | (simp; done) | omega | (simp; omega)) _) | with_reducible refine Ge.trans ?_ (by assumption)))⟩
  | true =>
    rw [c0] at HP0
    by_cases h2 : r = 2
    · have t2 : ((r : Int) == 2) = true := by simp [h2]
      have hr1 : 1 < r := by omega
      have k1 : (1 : Int) < (r : Int) := by omega
      have t3 : ¬ (2 < (r : Int)) := by omega
      obtain ⟨T1, hT1⟩ : ∃ T1, tnth (rpts s) 1 = T1 := ⟨_, rfl⟩
      have hl1 : T1.length ≤ 1048576 := by rw [← hT1]; exact Nat.le_trans (tail_text (by show 1 < (rpts s).length; rw [HLen.out]; exact hr1)) hm
      have HP1 := Lib.hid (fun w => iParseInt T1 w hl1)
      have HD1 : Hid (rD s = pv T1) := by
        have := rD_2 (s := s) (by rw [HLen.out, h2])
        rw [hT1] at this; exact this
      cases c1' : pb T1 with
      | false =>
        have HF := Lib.hid (rat_f (ok_f1 (s := s) (by rw [HLen.out, h2]) (by rw [hT1]; exact c1')))
        rw [c1'] at HP1
        generalize pv T0 = N0 at *
        generalize pv T1 = N1 at *
        clear h2
        go_enter Try.func23, Try.ntmps23
        go_wp2_with (first | (go_at_call 54; ((with_reducible refine (HS.out _).mono ?_); rintro e w1 ⟨v1, rfl, o1, g1⟩); rw [HLen.out] at o1; obtain ⟨g, c1, rfl⟩ := Go.Joins.ownsRow_form o1 hr0; have ob0 : Own w1 ⟨w.heap.size, 0, none⟩ _ := Ge.own g1 (own_new rfl rfl); have ob1 : Own w1 ⟨w.heap.size, 1, none⟩ _ := Ge.own g1 (own_new rfl rfl); have bc0 := ob0.1; have bf0 := ob0.2; have bc1 := ob1.1; have bf1 := ob1.2; clear ob0 ob1; simp at bc0 bc1; have x0 := own_str o1 hr0; rw [hT0] at x0; have zl : w.heap.size < w1.heap.size := (by have := g1.size; simp at this; omega); have zg : g < w1.heap.size := (o1.lt g rfl).2; have x1 := own_str o1 hr1; rw [hT1] at x1) | (go_at_call 59; ((with_reducible refine (HP0.out _).mono ?_); rintro e w' ⟨rfl, rfl⟩)) | (go_at_call 59; ((with_reducible refine (HP1.out _).mono ?_); rintro e w' ⟨rfl, rfl⟩)))
        exact bodyPost_ret (v := .tuple #[.agg #[.int .i64 0, .int .i64 0], .bool false]) (by simp [results, Try.results23, go_sem, *]) rfl ⟨ret_rat ⟨HF.out.1, HF.out.2.1, HF.out.2.2⟩, by (repeat (first | with_reducible exact Ge.refl _ | assumption | with_reducible refine Ge.drew ?_ | with_reducible refine Ge.drewN ?_ _ | with_reducible refine Ge.alloc ?_ _ | (with_reducible refine Ge.setCell ?_ (by first | (simp; done) | omega | (simp; omega)) _) | with_reducible refine Ge.trans ?_ (by assumption)))⟩
      | true =>
        rw [c1'] at HP1
        by_cases hE : ratioTxt (pv T0) (pv T1) = s
        · have HF := Lib.hid (rat_t (ok_t2 (s := s) (by rw [HLen.out, h2]) (by rw [hT0]; exact c0) (by rw [hT1]; exact c1') (by rw [HN0.out, HD1.out]; exact hE)).1)
          have hE1 : bstr (ratioTxt (pv T0) (pv T1)) = bstr s := by rw [hE]
          rw [HN0.out, HD1.out] at HF
          generalize pv T0 = N0 at *
          generalize pv T1 = N1 at *
          clear h2 hE
          go_enter Try.func23, Try.ntmps23
          go_wp2_with (first | (go_at_call 54; ((with_reducible refine (HS.out _).mono ?_); rintro e w1 ⟨v1, rfl, o1, g1⟩); rw [HLen.out] at o1; obtain ⟨g, c1, rfl⟩ := Go.Joins.ownsRow_form o1 hr0; have ob0 : Own w1 ⟨w.heap.size, 0, none⟩ _ := Ge.own g1 (own_new rfl rfl); have ob1 : Own w1 ⟨w.heap.size, 1, none⟩ _ := Ge.own g1 (own_new rfl rfl); have bc0 := ob0.1; have bf0 := ob0.2; have bc1 := ob1.1; have bf1 := ob1.2; clear ob0 ob1; simp at bc0 bc1; have x0 := own_str o1 hr0; rw [hT0] at x0; have zl : w.heap.size < w1.heap.size := (by have := g1.size; simp at this; omega); have zg : g < w1.heap.size := (o1.lt g rfl).2; have x1 := own_str o1 hr1; rw [hT1] at x1) | (go_at_call 59; ((with_reducible refine (HP0.out _).mono ?_); rintro e w' ⟨rfl, rfl⟩)) | (go_at_call 59; ((with_reducible refine (HP1.out _).mono ?_); rintro e w' ⟨rfl, rfl⟩)) | (go_at_call 24; ((with_reducible refine (iFormatRatio _ _ _).mono ?_); rintro e w5 ⟨rfl, g5⟩); have d0 := Ge.keep g5 (cell_new (i := 0) rfl rfl); have d1 := Ge.keep g5 (cell_new (i := 1) rfl rfl); have bC0 := Ge.keep g5 (cell_alloc bc0); have bC1 := Ge.keep g5 (cell_alloc bc1); have bF0 := Ge.keepF g5 (cell_alloc bc0) (froz_allocW bc0 bf0); have bF1 := Ge.keepF g5 (cell_alloc bc1) (froz_allocW bc1 bf1); have G5 : Ge w w5 := Ge.trans (Ge.alloc (Ge.trans (Ge.alloc (Ge.refl w) _) g1) _) g5))
          exact bodyPost_ret (v := .tuple #[.agg #[.int .i64 N0, .int .i64 N1], .bool true]) (by simp [results, Try.results23, go_sem, *]) rfl ⟨ret_rat ⟨HF.out.1, HF.out.2.1, HF.out.2.2⟩, by (repeat (first | with_reducible exact Ge.refl _ | assumption | with_reducible refine Ge.drew ?_ | with_reducible refine Ge.drewN ?_ _ | with_reducible refine Ge.alloc ?_ _ | (with_reducible refine Ge.setCell ?_ (by first | (simp; done) | omega | (simp; omega)) _) | with_reducible refine Ge.trans ?_ (by assumption)))⟩
        · have HF := Lib.hid (rat_f (ok_f3 (s := s) (by rw [HN0.out, HD1.out]; exact hE)))
          have hE1 := bstr_neq hE
          generalize pv T0 = N0 at *
          generalize pv T1 = N1 at *
          clear h2 hE
          go_enter Try.func23, Try.ntmps23
          go_wp2_with (first | (go_at_call 54; ((with_reducible refine (HS.out _).mono ?_); rintro e w1 ⟨v1, rfl, o1, g1⟩); rw [HLen.out] at o1; obtain ⟨g, c1, rfl⟩ := Go.Joins.ownsRow_form o1 hr0; have ob0 : Own w1 ⟨w.heap.size, 0, none⟩ _ := Ge.own g1 (own_new rfl rfl); have ob1 : Own w1 ⟨w.heap.size, 1, none⟩ _ := Ge.own g1 (own_new rfl rfl); have bc0 := ob0.1; have bf0 := ob0.2; have bc1 := ob1.1; have bf1 := ob1.2; clear ob0 ob1; simp at bc0 bc1; have x0 := own_str o1 hr0; rw [hT0] at x0; have zl : w.heap.size < w1.heap.size := (by have := g1.size; simp at this; omega); have zg : g < w1.heap.size := (o1.lt g rfl).2; have x1 := own_str o1 hr1; rw [hT1] at x1) | (go_at_call 59; ((with_reducible refine (HP0.out _).mono ?_); rintro e w' ⟨rfl, rfl⟩)) | (go_at_call 59; ((with_reducible refine (HP1.out _).mono ?_); rintro e w' ⟨rfl, rfl⟩)) | (go_at_call 24; ((with_reducible refine (iFormatRatio _ _ _).mono ?_); rintro e w5 ⟨rfl, g5⟩); have d0 := Ge.keep g5 (cell_new (i := 0) rfl rfl); have d1 := Ge.keep g5 (cell_new (i := 1) rfl rfl); have bC0 := Ge.keep g5 (cell_alloc bc0); have bC1 := Ge.keep g5 (cell_alloc bc1); have bF0 := Ge.keepF g5 (cell_alloc bc0) (froz_allocW bc0 bf0); have bF1 := Ge.keepF g5 (cell_alloc bc1) (froz_allocW bc1 bf1); have G5 : Ge w w5 := Ge.trans (Ge.alloc (Ge.trans (Ge.alloc (Ge.refl w) _) g1) _) g5))
          exact bodyPost_ret (v := .tuple #[.agg #[.int .i64 0, .int .i64 0], .bool false]) (by simp [results, Try.results23, go_sem, *]) rfl ⟨ret_rat ⟨HF.out.1, HF.out.2.1, HF.out.2.2⟩, by (repeat (first | with_reducible exact Ge.refl _ | assumption | with_reducible refine Ge.drew ?_ | with_reducible refine Ge.drewN ?_ _ | with_reducible refine Ge.alloc ?_ _ | (with_reducible refine Ge.setCell ?_ (by first | (simp; done) | omega | (simp; omega)) _) | with_reducible refine Ge.trans ?_ (by assumption)))⟩
    · have t2 : ((r : Int) == 2) = false := by simp; omega
      have HD1 : Hid (rD s = 1) := rD_1 (s := s) (by rw [HLen.out]; exact h2)
      by_cases h3 : 2 < r
      · have HF := Lib.hid (rat_f (ok_f2 (s := s) (by rw [HLen.out]; exact h3)))
        have t3 : (2 : Int) < (r : Int) := by omega
        generalize pv T0 = N0 at *
        clear h2
        go_enter Try.func23, Try.ntmps23
        go_wp2_with (first | (go_at_call 54; ((with_reducible refine (HS.out _).mono ?_); rintro e w1 ⟨v1, rfl, o1, g1⟩); rw [HLen.out] at o1; obtain ⟨g, c1, rfl⟩ := Go.Joins.ownsRow_form o1 hr0; have ob0 : Own w1 ⟨w.heap.size, 0, none⟩ _ := Ge.own g1 (own_new rfl rfl); have ob1 : Own w1 ⟨w.heap.size, 1, none⟩ _ := Ge.own g1 (own_new rfl rfl); have bc0 := ob0.1; have bf0 := ob0.2; have bc1 := ob1.1; have bf1 := ob1.2; clear ob0 ob1; simp at bc0 bc1; have x0 := own_str o1 hr0; rw [hT0] at x0; have zl : w.heap.size < w1.heap.size := (by have := g1.size; simp at this; omega); have zg : g < w1.heap.size := (o1.lt g rfl).2) | (go_at_call 59; ((with_reducible refine (HP0.out _).mono ?_); rintro e w' ⟨rfl, rfl⟩)))
        exact bodyPost_ret (v := .tuple #[.agg #[.int .i64 0, .int .i64 0], .bool false]) (by simp [results, Try.results23, go_sem, *]) rfl ⟨ret_rat ⟨HF.out.1, HF.out.2.1, HF.out.2.2⟩, by (repeat (first | with_reducible exact Ge.refl _ | assumption | with_reducible refine Ge.drew ?_ | with_reducible refine Ge.drewN ?_ _ | with_reducible refine Ge.alloc ?_ _ | (with_reducible refine Ge.setCell ?_ (by first | (simp; done) | omega | (simp; omega)) _) | with_reducible refine Ge.trans ?_ (by assumption)))⟩
      · have t3 : ¬ ((2 : Int) < (r : Int)) := by omega
        by_cases hE : ratioTxt (pv T0) 1 = s
        · have HF := Lib.hid (rat_t (ok_t1 (s := s) (by rw [HLen.out]; exact h2) (by rw [HLen.out]; exact h3) (by rw [hT0]; exact c0) (by rw [HN0.out, HD1.out]; exact hE)).1)
          have hE1 : bstr (ratioTxt (pv T0) 1) = bstr s := by rw [hE]
          rw [HN0.out, HD1.out] at HF
          generalize pv T0 = N0 at *
          clear h2 hE
          go_enter Try.func23, Try.ntmps23
          go_wp2_with (first | (go_at_call 54; ((with_reducible refine (HS.out _).mono ?_); rintro e w1 ⟨v1, rfl, o1, g1⟩); rw [HLen.out] at o1; obtain ⟨g, c1, rfl⟩ := Go.Joins.ownsRow_form o1 hr0; have ob0 : Own w1 ⟨w.heap.size, 0, none⟩ _ := Ge.own g1 (own_new rfl rfl); have ob1 : Own w1 ⟨w.heap.size, 1, none⟩ _ := Ge.own g1 (own_new rfl rfl); have bc0 := ob0.1; have bf0 := ob0.2; have bc1 := ob1.1; have bf1 := ob1.2; clear ob0 ob1; simp at bc0 bc1; have x0 := own_str o1 hr0; rw [hT0] at x0; have zl : w.heap.size < w1.heap.size := (by have := g1.size; simp at this; omega); have zg : g < w1.heap.size := (o1.lt g rfl).2) | (go_at_call 59; ((with_reducible refine (HP0.out _).mono ?_); rintro e w' ⟨rfl, rfl⟩)) | (go_at_call 24; ((with_reducible refine (iFormatRatio _ _ _).mono ?_); rintro e w5 ⟨rfl, g5⟩); have d0 := Ge.keep g5 (cell_new (i := 0) rfl rfl); have d1 := Ge.keep g5 (cell_new (i := 1) rfl rfl); have bC0 := Ge.keep g5 (cell_alloc bc0); have bC1 := Ge.keep g5 (cell_alloc bc1); have bF0 := Ge.keepF g5 (cell_alloc bc0) (froz_allocW bc0 bf0); have bF1 := Ge.keepF g5 (cell_alloc bc1) (froz_allocW bc1 bf1); have G5 : Ge w w5 := Ge.trans (Ge.alloc (Ge.trans (Ge.alloc (Ge.refl w) _) g1) _) g5))
          exact bodyPost_ret (v := .tuple #[.agg #[.int .i64 N0, .int .i64 1], .bool true]) (by simp [results, Try.results23, go_sem, *]) rfl ⟨ret_rat ⟨HF.out.1, HF.out.2.1, HF.out.2.2⟩, by (repeat (first | with_reducible exact Ge.refl _ | assumption | with_reducible refine Ge.drew ?_ | with_reducible refine Ge.drewN ?_ _ | with_reducible refine Ge.alloc ?_ _ | (with_reducible refine Ge.setCell ?_ (by first | (simp; done) | omega | (simp; omega)) _) | with_reducible refine Ge.trans ?_ (by assumption)))⟩
        · have HF := Lib.hid (rat_f (ok_f3 (s := s) (by rw [HN0.out, HD1.out]; exact hE)))
          have hE1 := bstr_neq hE
          generalize pv T0 = N0 at *
          clear h2 hE
          go_enter Try.func23, Try.ntmps23
          go_wp2_with (first | (go_at_call 54; ((with_reducible refine (HS.out _).mono ?_); rintro e w1 ⟨v1, rfl, o1, g1⟩); rw [HLen.out] at o1; obtain ⟨g, c1, rfl⟩ := Go.Joins.ownsRow_form o1 hr0; have ob0 : Own w1 ⟨w.heap.size, 0, none⟩ _ := Ge.own g1 (own_new rfl rfl); have ob1 : Own w1 ⟨w.heap.size, 1, none⟩ _ := Ge.own g1 (own_new rfl rfl); have bc0 := ob0.1; have bf0 := ob0.2; have bc1 := ob1.1; have bf1 := ob1.2; clear ob0 ob1; simp at bc0 bc1; have x0 := own_str o1 hr0; rw [hT0] at x0; have zl : w.heap.size < w1.heap.size := (by have := g1.size; simp at this; omega); have zg : g < w1.heap.size := (o1.lt g rfl).2) | (go_at_call 59; ((with_reducible refine (HP0.out _).mono ?_); rintro e w' ⟨rfl, rfl⟩)) | (go_at_call 24; ((with_reducible refine (iFormatRatio _ _ _).mono ?_); rintro e w5 ⟨rfl, g5⟩); have d0 := Ge.keep g5 (cell_new (i := 0) rfl rfl); have d1 := Ge.keep g5 (cell_new (i := 1) rfl rfl); have bC0 := Ge.keep g5 (cell_alloc bc0); have bC1 := Ge.keep g5 (cell_alloc bc1); have bF0 := Ge.keepF g5 (cell_alloc bc0) (froz_allocW bc0 bf0); have bF1 := Ge.keepF g5 (cell_alloc bc1) (froz_allocW bc1 bf1); have G5 : Ge w w5 := Ge.trans (Ge.alloc (Ge.trans (Ge.alloc (Ge.refl w) _) g1) _) g5))
          exact bodyPost_ret (v := .tuple #[.agg #[.int .i64 0, .int .i64 0], .bool false]) (by simp [results, Try.results23, go_sem, *]) rfl ⟨ret_rat ⟨HF.out.1, HF.out.2.1, HF.out.2.2⟩, by (repeat (first | with_reducible exact Ge.refl _ | assumption | with_reducible refine Ge.drew ?_ | with_reducible refine Ge.drewN ?_ _ | with_reducible refine Ge.alloc ?_ _ | (with_reducible refine Ge.setCell ?_ (by first | (simp; done) | omega | (simp; omega)) _) | with_reducible refine Ge.trans ?_ (by assumption)))⟩
end Go.Proofs.Ytfhhgonoddedlaa
