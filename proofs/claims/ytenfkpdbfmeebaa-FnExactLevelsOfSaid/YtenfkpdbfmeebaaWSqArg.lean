/- Slices of squares as a law's argument: toSquare, toSquareS, eqSquareS. -/
import Derived.Test.YtenfkpdbfmeebaaWToInt
import Derived.Test.YtenfkpdbfmeebaaWFlat
namespace Go.Proofs.Ytenfkpdbfmeebaa
set_option maxRecDepth 100000
open Go.ChangeShapes Go.WideShapes Go.ChangeAt Go.RowKit Go.Joins

theorem lToSquareQ (x y z : Int) (w : World) :
    Calls Try.prog 23 #[.agg #[.int .i64 x, .int .i64 y, .int .i64 z]] w fun e w' => e = .returned (.agg #[.int .i64 x, .int .i64 y, .int .i64 z]) ∧ Ge w w' := by
  go_enter Try.func23, Try.ntmps23
  go_wp2_with fail
  exact bodyPost_ret (v := .agg #[.int .i64 x, .int .i64 y, .int .i64 z]) (by simp [results, Try.results23, go_sem]) rfl ⟨rfl, by (repeat (first | with_reducible exact Ge.refl _ | assumption | with_reducible refine Ge.drew ?_ | with_reducible refine Ge.drewN ?_ _ | with_reducible refine Ge.alloc ?_ _ | (with_reducible refine Ge.setCell ?_ (by first | (simp; done) | omega | (simp; omega)) _) | with_reducible refine Ge.trans ?_ (by assumption)))⟩

theorem inf_sq : (Try.prog.info? 45).map (fun i => (i.zero, i.size, i.bytes)) = some (some (Value.agg #[.int .i64 0, .int .i64 0, .int .i64 0]), 3, 24) := by kernel_rfl
theorem made_sq (n : Nat) : (madeCells (Value.agg #[.int .i64 0, .int .i64 0, .int .i64 0]).cells (n * 3)).toList = icells (List.replicate (n * 3) 0) := by
  apply List.ext_getElem?
  intro j
  have h3 : ((Value.agg #[.int .i64 0, .int .i64 0, .int .i64 0]).cells) = #[.int .i64 0, .int .i64 0, .int .i64 0] := rfl
  by_cases hj : j < n * 3
  · have h4 : j % 3 = 0 ∨ j % 3 = 1 ∨ j % 3 = 2 := by omega
    rcases h4 with h4 | h4 | h4 <;> simp [madeCells, icells, h3, hj, h4]
  · simp [madeCells, icells, hj]

theorem own_some {w : World} {base g n cap m : Nat} {e : TypeId} {xs : List Value} (h : w.ownsRow base e m (.slice (some ⟨g, 0, none⟩) n cap) n xs) {j : Nat} (hj : j < n * m) : ∃ u, w.cell? ⟨g, j, none⟩ = some u := by
  rw [h.cellAt j hj]
  exact ⟨_, List.getElem?_eq_getElem (by have := h.1; omega)⟩
/-- Three cells of a row, written one behind the other. -/
theorem own_three {w w0 : World} {base g n cap : Nat} {e : TypeId} {l : List Int} (h : w.ownsRow base e 3 (.slice (some ⟨g, 0, none⟩) n cap) n (icells l)) (hg : Ge w0 w) (h0 : w0.heap.size ≤ g) (j : Nat) (a b c : Int) :
    (((w.setCell ⟨g, j, none⟩ (.int .i64 a)).setCell ⟨g, j + 1, none⟩ (.int .i64 b)).setCell ⟨g, j + 2, none⟩ (.int .i64 c)).ownsRow base e 3 (.slice (some ⟨g, 0, none⟩) n cap) n (icells (((l.set j a).set (j + 1) b).set (j + 2) c)) ∧
    Ge w0 (((w.setCell ⟨g, j, none⟩ (.int .i64 a)).setCell ⟨g, j + 1, none⟩ (.int .i64 b)).setCell ⟨g, j + 2, none⟩ (.int .i64 c)) := by
  have h1 := h.stored j (.int .i64 a)
  have h2 := h1.1.stored (j + 1) (.int .i64 b)
  have h3 := h2.1.stored (j + 2) (.int .i64 c)
  refine ⟨by have := h3.1; rwa [icells_set, icells_set, icells_set] at this, ?_⟩
  have k : ∀ k, some g = some k → w0.heap.size ≤ k := fun k hk => by simp at hk; omega
  exact ((hg.grown h1.2 k).grown h2.2 k).grown h3.2 k

set_option maxHeartbeats 800000 in
theorem lToSquareS (v : Value) (n : Nat) (l : List Int) (w : World) (hv : SlF w v n 3 l) (hm : n ≤ 1048576) :
    Calls Try.prog 7 #[v] w fun e w' => ∃ v', e = .returned v' ∧ w'.ownsRow w.heap.size 45 3 v' n (icells l) ∧ Ge w w' := by
  have hn := hv.length
  obtain ⟨pv, cv', rfl, hc⟩ := hv.open
  have HC := Lib.hid hc
  have HP := Lib.hid (fun k (hk : k < n * 3) => part_step l k (by omega))
  have H0 : Hid (part l 0 = List.replicate (n * 3) 0) := by rw [part_zero, hn]; exact rfl
  have HA : Hid (part l (n * 3) = l) := by rw [← hn]; exact part_all l
  clear hv hc hn
  go_enter Try.func7, Try.ntmps7
  go_wp2_with (at_make; refine mk1 rfl _ _ _ rfl 45 _ 3 24 Try.underlying26 inf_sq (by decide) n rfl rfl (by omega) ?_; intro w1 own1 g1)
  rw [made_sq, ← H0.out] at own1
  go_loopw [4] (fun i wr => ∃ j : Nat, j ≤ n ∧ i = .int .i64 j ∧ wr.ownsRow w.heap.size 45 3 (.slice (some ⟨w.heap.size, 0, none⟩) n n) n (icells (part l (j * 3))) ∧ Ge w wr) (fun i _ => n - (intOf i).toNat)
  case atStart => exact ⟨0, Nat.zero_le _, rfl, own1, g1⟩
  case round =>
    obtain ⟨j, hj, rfl, hown, hg⟩ := hrel
    by_cases hlt : j < n
    · obtain ⟨b, o, rfl, x0, x1, x2⟩ := three_cells HC.out hlt
      have y0 := hg.keep x0
      have y1 := hg.keep x1
      have y2 := hg.keep x2
      clear x0 x1 x2
      have K1 : j * 3 < n * 3 := by omega
      have K2 : j * 3 + 1 < n * 3 := by omega
      have K3 : j * 3 + 2 < n * 3 := by omega
      have H5 : Hid ((((part l (j * 3)).set (j * 3) (nth l (j * 3))).set (j * 3 + 1) (nth l (j * 3 + 1))).set (j * 3 + 2) (nth l (j * 3 + 2)) = part l ((j + 1) * 3)) := by
        show _ = _
        rw [HP.out _ K1, HP.out _ K2, HP.out _ K3, show j * 3 + 2 + 1 = (j + 1) * 3 by omega]
      go_wp2_with (go_at_call 23; ((with_reducible refine (lToSquareQ _ _ _ _).mono ?_); rintro e w' ⟨rfl, hb⟩; have own2 := Ge.owns hb hown; have f0 := own2.frozenAt (j * 3); have f1 := own2.frozenAt (j * 3 + 1); have f2 := own2.frozenAt (j * 3 + 2); obtain ⟨u0, hu0⟩ := own_some own2 K1; obtain ⟨u1, hu1⟩ := own_some own2 K2; obtain ⟨u2, hu2⟩ := own_some own2 K3; have HT := Lib.hid (own_three own2 (Ge.trans hg hb) (Nat.le_refl _) (j * 3) (nth l (j * 3)) (nth l (j * 3 + 1)) (nth l (j * 3 + 2))); clear own2))
      go_roundw
      case rel => exact ⟨j + 1, by omega, by go_num, by have := HT.out.1; rwa [H5.out] at this, HT.out.2⟩
      case measure => simp [intOf]; omega
    · have hjn : j = n := by omega
      subst hjn
      rw [HA.out] at hown
      go_wp2_with fail
      go_ret
      exact ⟨_, rfl, hown, hg⟩
def eqQ (a b c x y z : Int) : Bool := decide (a = x) && decide (b = y) && decide (c = z)

set_option maxHeartbeats 400000 in
theorem lEqSquare (a b c x y z : Int) (w : World) :
    Calls Try.prog 29 #[.agg #[.int .i64 a, .int .i64 b, .int .i64 c], .agg #[.int .i64 x, .int .i64 y, .int .i64 z]] w fun e w' => e = .returned (.bool (eqQ a b c x y z)) ∧ Ge w w' := by
  by_cases h1 : a = x
  · subst h1
    by_cases h2 : b = y
    · subst h2
      by_cases h3 : c = z
      · subst h3
        go_enter Try.func29, Try.ntmps29
        go_wp2_with fail
        go_ret
        exact ⟨ret_bool (by simp [eqQ]), by (repeat (first | with_reducible exact Ge.refl _ | assumption | with_reducible refine Ge.drew ?_ | with_reducible refine Ge.drewN ?_ _ | with_reducible refine Ge.alloc ?_ _ | (with_reducible refine Ge.setCell ?_ (by first | (simp; done) | omega | (simp; omega)) _) | with_reducible refine Ge.trans ?_ (by assumption)))⟩
      · have t : (c != z) = true := by simp [h3]
        have t' := Lib.hid h3
        clear h3
        go_enter Try.func29, Try.ntmps29
        go_wp2_with fail
        go_ret
        exact ⟨ret_bool (by simp [eqQ, t'.out]), by (repeat (first | with_reducible exact Ge.refl _ | assumption | with_reducible refine Ge.drew ?_ | with_reducible refine Ge.drewN ?_ _ | with_reducible refine Ge.alloc ?_ _ | (with_reducible refine Ge.setCell ?_ (by first | (simp; done) | omega | (simp; omega)) _) | with_reducible refine Ge.trans ?_ (by assumption)))⟩
    · have t : (b != y) = true := by simp [h2]
      have t' := Lib.hid h2
      clear h2
      go_enter Try.func29, Try.ntmps29
      go_wp2_with fail
      go_ret
      exact ⟨ret_bool (by simp [eqQ, t'.out]), by (repeat (first | with_reducible exact Ge.refl _ | assumption | with_reducible refine Ge.drew ?_ | with_reducible refine Ge.drewN ?_ _ | with_reducible refine Ge.alloc ?_ _ | (with_reducible refine Ge.setCell ?_ (by first | (simp; done) | omega | (simp; omega)) _) | with_reducible refine Ge.trans ?_ (by assumption)))⟩
  · have t : (a != x) = true := by simp [h1]
    have t' := Lib.hid h1
    clear h1
    go_enter Try.func29, Try.ntmps29
    go_wp2_with fail
    go_ret
    exact ⟨ret_bool (by simp [eqQ, t'.out]), by (repeat (first | with_reducible exact Ge.refl _ | assumption | with_reducible refine Ge.drew ?_ | with_reducible refine Ge.drewN ?_ _ | with_reducible refine Ge.alloc ?_ _ | (with_reducible refine Ge.setCell ?_ (by first | (simp; done) | omega | (simp; omega)) _) | with_reducible refine Ge.trans ?_ (by assumption)))⟩

theorem same_stepQ {xs ys : List Int} {k : Nat} (h : Hid (∀ j, j < k → ∀ i, i < 3 → nth xs (j * 3 + i) = nth ys (j * 3 + i)))
    (he : eqQ (nth xs (k * 3)) (nth xs (k * 3 + 1)) (nth xs (k * 3 + 2)) (nth ys (k * 3)) (nth ys (k * 3 + 1)) (nth ys (k * 3 + 2)) = true) :
    Hid (∀ j, j < k + 1 → ∀ i, i < 3 → nth xs (j * 3 + i) = nth ys (j * 3 + i)) := by
  intro j h1 i hi
  by_cases e : j = k
  · subst e
    simp [eqQ] at he
    obtain ⟨⟨e1, e2⟩, e3⟩ := he
    match i, hi with
    | 0, _ => exact e1
    | 1, _ => exact e2
    | 2, _ => exact e3
  · exact h.out j (by omega) i hi

set_option maxHeartbeats 800000 in
theorem lEqSquareS (va vb : Value) (n m : Nat) (xs ys : List Int) (w : World) (ha : SlF w va n 3 xs) (hb : SlF w vb m 3 ys) (hm : n ≤ 4611686018427387904) :
    Calls Try.prog 10 #[va, vb] w fun e w' => e = .returned (.bool (decide (xs = ys))) ∧ Ge w w' := by
  have lx := ha.length
  have ly := hb.length
  obtain ⟨pa, ca, rfl, ca'⟩ := ha.open
  obtain ⟨pb, cb, rfl, cb'⟩ := hb.open
  have HX := Lib.hid lx
  have HY := Lib.hid ly
  clear lx ly ha hb
  by_cases hl : n = m
  · subst hl
    go_enter Try.func10, Try.ntmps10
    go_wp2_with fail
    go_loopw [5] (fun i wr => ∃ k : Nat, k ≤ n ∧ i = .int .i64 k ∧ Hid (∀ j, j < k → ∀ i, i < 3 → nth xs (j * 3 + i) = nth ys (j * 3 + i)) ∧ Ge w wr) (fun i _ => n - (intOf i).toNat)
    case atStart => exact ⟨0, Nat.zero_le _, rfl, fun j h1 => by omega, Ge.refl _⟩
    case round =>
      obtain ⟨k, hk, rfl, HS, hg⟩ := hrel
      by_cases hlt : k < n
      · obtain ⟨b1, o1, rfl, x1, x2, x3⟩ := three_cells ca' hlt
        obtain ⟨b2, o2, rfl, y1, y2, y3⟩ := three_cells cb' hlt
        have x1 := hg.keep x1
        have x2 := hg.keep x2
        have x3 := hg.keep x3
        have y1 := hg.keep y1
        have y2 := hg.keep y2
        have y3 := hg.keep y3
        clear ca' cb'
        cases he : eqQ (nth xs (k * 3)) (nth xs (k * 3 + 1)) (nth xs (k * 3 + 2)) (nth ys (k * 3)) (nth ys (k * 3 + 1)) (nth ys (k * 3 + 2)) with
        | true =>
          go_wp2_with fail
          go_region_held3 (fun w' => w'.cell? ⟨b1, o1 + k * 3, none⟩ = some (.int .i64 (nth xs (k * 3))) ∧ w'.cell? ⟨b1, o1 + k * 3 + 1, none⟩ = some (.int .i64 (nth xs (k * 3 + 1))) ∧ w'.cell? ⟨b1, o1 + k * 3 + 2, none⟩ = some (.int .i64 (nth xs (k * 3 + 2))) ∧ w'.cell? ⟨b2, o2 + k * 3, none⟩ = some (.int .i64 (nth ys (k * 3))) ∧ w'.cell? ⟨b2, o2 + k * 3 + 1, none⟩ = some (.int .i64 (nth ys (k * 3 + 1))) ∧ w'.cell? ⟨b2, o2 + k * 3 + 2, none⟩ = some (.int .i64 (nth ys (k * 3 + 2))) ∧ Ge w w') (first | exact ⟨hb.keep (‹_ ∧ _ ∧ _ ∧ _ ∧ _ ∧ _ ∧ _›).1, hb.keep (‹_ ∧ _ ∧ _ ∧ _ ∧ _ ∧ _ ∧ _›).2.1, hb.keep (‹_ ∧ _ ∧ _ ∧ _ ∧ _ ∧ _ ∧ _›).2.2.1, hb.keep (‹_ ∧ _ ∧ _ ∧ _ ∧ _ ∧ _ ∧ _›).2.2.2.1, hb.keep (‹_ ∧ _ ∧ _ ∧ _ ∧ _ ∧ _ ∧ _›).2.2.2.2.1, hb.keep (‹_ ∧ _ ∧ _ ∧ _ ∧ _ ∧ _ ∧ _›).2.2.2.2.2.1, Ge.trans (‹_ ∧ _ ∧ _ ∧ _ ∧ _ ∧ _ ∧ _›).2.2.2.2.2.2 hb⟩ | exact ⟨(by first | assumption | (simp; done) | (simp [*]; done)), (by first | assumption | (simp; done) | (simp [*]; done)), (by first | assumption | (simp; done) | (simp [*]; done)), (by first | assumption | (simp; done) | (simp [*]; done)), (by first | assumption | (simp; done) | (simp [*]; done)), (by first | assumption | (simp; done) | (simp [*]; done)), (by (repeat (first | with_reducible exact Ge.refl _ | assumption | with_reducible refine Ge.drew ?_ | with_reducible refine Ge.drewN ?_ _ | with_reducible refine Ge.alloc ?_ _ | (with_reducible refine Ge.setCell ?_ (by first | (simp; done) | omega | (simp; omega)) _) | with_reducible refine Ge.trans ?_ (by assumption))))⟩) (first | (go_at_call 29; ((with_reducible refine (lEqSquare _ _ _ _ _ _ _).mono ?_); rintro e w' ⟨rfl, hb⟩)) | fail)
          go_wp2_with fail
          go_roundw
          case rel => exact ⟨k + 1, by omega, by go_num, same_stepQ HS he, by (repeat (first | with_reducible exact Ge.refl _ | assumption | with_reducible refine Ge.drew ?_ | with_reducible refine Ge.drewN ?_ _ | with_reducible refine Ge.alloc ?_ _ | (with_reducible refine Ge.setCell ?_ (by first | (simp; done) | omega | (simp; omega)) _) | with_reducible refine Ge.trans ?_ (by assumption)))⟩
          case measure => simp [intOf]; omega
        | false =>
          go_wp2_with fail
          go_region_held3 (fun w' => w'.cell? ⟨b1, o1 + k * 3, none⟩ = some (.int .i64 (nth xs (k * 3))) ∧ w'.cell? ⟨b1, o1 + k * 3 + 1, none⟩ = some (.int .i64 (nth xs (k * 3 + 1))) ∧ w'.cell? ⟨b1, o1 + k * 3 + 2, none⟩ = some (.int .i64 (nth xs (k * 3 + 2))) ∧ w'.cell? ⟨b2, o2 + k * 3, none⟩ = some (.int .i64 (nth ys (k * 3))) ∧ w'.cell? ⟨b2, o2 + k * 3 + 1, none⟩ = some (.int .i64 (nth ys (k * 3 + 1))) ∧ w'.cell? ⟨b2, o2 + k * 3 + 2, none⟩ = some (.int .i64 (nth ys (k * 3 + 2))) ∧ Ge w w') (first | exact ⟨hb.keep (‹_ ∧ _ ∧ _ ∧ _ ∧ _ ∧ _ ∧ _›).1, hb.keep (‹_ ∧ _ ∧ _ ∧ _ ∧ _ ∧ _ ∧ _›).2.1, hb.keep (‹_ ∧ _ ∧ _ ∧ _ ∧ _ ∧ _ ∧ _›).2.2.1, hb.keep (‹_ ∧ _ ∧ _ ∧ _ ∧ _ ∧ _ ∧ _›).2.2.2.1, hb.keep (‹_ ∧ _ ∧ _ ∧ _ ∧ _ ∧ _ ∧ _›).2.2.2.2.1, hb.keep (‹_ ∧ _ ∧ _ ∧ _ ∧ _ ∧ _ ∧ _›).2.2.2.2.2.1, Ge.trans (‹_ ∧ _ ∧ _ ∧ _ ∧ _ ∧ _ ∧ _›).2.2.2.2.2.2 hb⟩ | exact ⟨(by first | assumption | (simp; done) | (simp [*]; done)), (by first | assumption | (simp; done) | (simp [*]; done)), (by first | assumption | (simp; done) | (simp [*]; done)), (by first | assumption | (simp; done) | (simp [*]; done)), (by first | assumption | (simp; done) | (simp [*]; done)), (by first | assumption | (simp; done) | (simp [*]; done)), (by (repeat (first | with_reducible exact Ge.refl _ | assumption | with_reducible refine Ge.drew ?_ | with_reducible refine Ge.drewN ?_ _ | with_reducible refine Ge.alloc ?_ _ | (with_reducible refine Ge.setCell ?_ (by first | (simp; done) | omega | (simp; omega)) _) | with_reducible refine Ge.trans ?_ (by assumption))))⟩) (first | (go_at_call 29; ((with_reducible refine (lEqSquare _ _ _ _ _ _ _).mono ?_); rintro e w' ⟨rfl, hb⟩)) | fail)
          go_wp2_with fail
          go_ret
          refine ⟨ret_bool ?_, by (repeat (first | with_reducible exact Ge.refl _ | assumption | with_reducible refine Ge.drew ?_ | with_reducible refine Ge.drewN ?_ _ | with_reducible refine Ge.alloc ?_ _ | (with_reducible refine Ge.setCell ?_ (by first | (simp; done) | omega | (simp; omega)) _) | with_reducible refine Ge.trans ?_ (by assumption)))⟩
          have h' : ¬ xs = ys := fun e => by rw [e] at he; simp [eqQ] at he
          simp [h']
      · go_wp2_with fail
        go_ret
        refine ⟨ret_bool ?_, by (repeat (first | with_reducible exact Ge.refl _ | assumption | with_reducible refine Ge.drew ?_ | with_reducible refine Ge.drewN ?_ _ | with_reducible refine Ge.alloc ?_ _ | (with_reducible refine Ge.setCell ?_ (by first | (simp; done) | omega | (simp; omega)) _) | with_reducible refine Ge.trans ?_ (by assumption)))⟩
        have h' : xs = ys := same_rows HX.out HY.out (fun j hj => HS.out j (by omega))
        simp [h']
  · have h1 : ((n : Int) == (m : Int)) = false := by simp; omega
    have h2 : ((n : Int) != (m : Int)) = true := by simp; omega
    go_enter Try.func10, Try.ntmps10
    go_wp2_with fail
    go_ret
    refine ⟨ret_bool ?_, by (repeat (first | with_reducible exact Ge.refl _ | assumption | with_reducible refine Ge.drew ?_ | with_reducible refine Ge.drewN ?_ _ | with_reducible refine Ge.alloc ?_ _ | (with_reducible refine Ge.setCell ?_ (by first | (simp; done) | omega | (simp; omega)) _) | with_reducible refine Ge.trans ?_ (by assumption)))⟩
    have h' : ¬ xs = ys := fun e => hl (by have := HX.out; have := HY.out; rw [e] at *; omega)
    simp [h']

theorem marked_step3 (l : List Int) (k : Int) (j : Nat) (h : j * 3 + 2 < l.length) :
    (((marked l k (j * 3)).set (j * 3) (k + j * 3)).set (j * 3 + 1) (k + j * 3 + 1)).set (j * 3 + 2) (k + j * 3 + 1 + 1) = marked l k ((j + 1) * 3) := by
  have e1 : k + (j : Int) * 3 = k + ((j * 3 : Nat) : Int) := by simp
  have e2 : k + (j : Int) * 3 + 1 = k + ((j * 3 + 1 : Nat) : Int) := by simp; omega
  have e3 : k + (j : Int) * 3 + 1 + 1 = k + ((j * 3 + 2 : Nat) : Int) := by simp; omega
  rw [e3, e2, e1, marked_step _ _ _ (by omega), marked_step _ _ _ (by omega), marked_step _ _ _ (by omega)]
  congr 1
  omega

end Go.Proofs.Ytenfkpdbfmeebaa
