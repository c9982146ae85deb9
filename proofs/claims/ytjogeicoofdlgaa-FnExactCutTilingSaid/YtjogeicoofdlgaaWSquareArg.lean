/- Slices of Square as a law's argument: toSquare, toSquareS, eqSquare, eqSquareS, szSquareS. -/
import Derived.Test.YtjogeicoofdlgaaWToInt
import Derived.Test.YtjogeicoofdlgaaWFlat
namespace Go.Proofs.Ytjogeicoofdlgaa
set_option maxRecDepth 100000
open Go.ChangeShapes Go.WideShapes Go.ChangeAt Go.RowKit Go.Joins

theorem lToSquareA (x y z : Int) (w : World) :
    Calls Try.prog 42 #[.agg #[.int .i64 x, .int .i64 y, .int .i64 z]] w fun e w' => e = .returned (.agg #[.int .i64 x, .int .i64 y, .int .i64 z]) ∧ Ge w w' := by
  go_enter Try.func42, Try.ntmps42
  go_wp2_with fail
  exact bodyPost_ret (v := .agg #[.int .i64 x, .int .i64 y, .int .i64 z]) (by simp [results, Try.results42, go_sem]) rfl ⟨rfl, by (repeat (first | with_reducible exact Ge.refl _ | assumption | with_reducible refine Ge.drew ?_ | with_reducible refine Ge.drewN ?_ _ | with_reducible refine Ge.alloc ?_ _ | (with_reducible refine Ge.setCell ?_ (by first | (simp; done) | omega | (simp; omega)) _) | with_reducible refine Ge.trans ?_ (by assumption)))⟩

theorem inf_Square : (Try.prog.info? 52).map (fun i => (i.zero, i.size, i.bytes)) = some (some (Value.agg #[.int .i64 0, .int .i64 0, .int .i64 0]), 3, 24) := by kernel_rfl
theorem made_Square (n : Nat) : (madeCells (Value.agg #[.int .i64 0, .int .i64 0, .int .i64 0]).cells (n * 3)).toList = icells (List.replicate (n * 3) 0) := by
  apply List.ext_getElem?
  intro j
  have h3 : ((Value.agg #[.int .i64 0, .int .i64 0, .int .i64 0]).cells) = #[.int .i64 0, .int .i64 0, .int .i64 0] := rfl
  by_cases hj : j < n * 3
  · have h4 : j % 3 = 0 ∨ j % 3 = 1 ∨ j % 3 = 2 := by omega
    rcases h4 with h4 | h4 | h4 <;> simp [madeCells, icells, h3, hj, h4]
  · simp [madeCells, icells, hj]
theorem own_some_Square {w : World} {base g n cap m : Nat} {e : TypeId} {xs : List Value} (h : w.ownsRow base e m (.slice (some ⟨g, 0, none⟩) n cap) n xs) {j : Nat} (hj : j < n * m) : ∃ u, w.cell? ⟨g, j, none⟩ = some u := by
  rw [h.cellAt j hj]
  exact ⟨_, List.getElem?_eq_getElem (by have := h.1; omega)⟩
theorem own_set_Square {w w0 : World} {base g n cap : Nat} {e : TypeId} {l : List Int} (h : w.ownsRow base e 3 (.slice (some ⟨g, 0, none⟩) n cap) n (icells l)) (hg : Ge w0 w) (h0 : w0.heap.size ≤ g) (j : Nat) (a b c : Int) :
    (((w.setCell ⟨g, j, none⟩ (.int .i64 a)).setCell ⟨g, j + 1, none⟩ (.int .i64 b)).setCell ⟨g, j + 2, none⟩ (.int .i64 c)).ownsRow base e 3 (.slice (some ⟨g, 0, none⟩) n cap) n (icells (((l.set j a).set (j + 1) b).set (j + 2) c)) ∧
    Ge w0 (((w.setCell ⟨g, j, none⟩ (.int .i64 a)).setCell ⟨g, j + 1, none⟩ (.int .i64 b)).setCell ⟨g, j + 2, none⟩ (.int .i64 c)) := by
  have h1 := h.stored j (.int .i64 a)
  have h2 := h1.1.stored (j + 1) (.int .i64 b)
  have h3 := h2.1.stored (j + 2) (.int .i64 c)
  refine ⟨by have := h3.1; rwa [icells_set, icells_set, icells_set] at this, ?_⟩
  have k : ∀ k, some g = some k → w0.heap.size ≤ k := fun k hk => by simp at hk; omega
  exact ((hg.grown h1.2 k).grown h2.2 k).grown h3.2 k

set_option maxHeartbeats 800000 in
theorem lToSquareS (v : Value) (n : Nat) (l : List Int) (w : World) (hv : SlF w v n 3 l) (hm : n ≤ 1048576) :
    Calls Try.prog 19 #[v] w fun e w' => ∃ v', e = .returned v' ∧ w'.ownsRow w.heap.size 52 3 v' n (icells l) ∧ Ge w w' := by
  have hn := hv.length
  obtain ⟨pv, cv', rfl, hc⟩ := hv.open
  have HC := Lib.hid hc
  have HP := Lib.hid (fun k (hk : k < n * 3) => part_step l k (by omega))
  have H0 : Hid (part l 0 = List.replicate (n * 3) 0) := by rw [part_zero, hn]; exact rfl
  have HA : Hid (part l (n * 3) = l) := by rw [← hn]; exact part_all l
  clear hv hc hn
  go_enter Try.func19, Try.ntmps19
  go_wp2_with (at_make; refine mk1 rfl _ _ _ rfl 52 _ 3 24 Try.underlying22 inf_Square (by decide) n rfl rfl (by omega) ?_; intro w1 own1 g1)
  rw [made_Square, ← H0.out] at own1
  go_loopw [4] (fun i wr => ∃ j : Nat, j ≤ n ∧ i = .int .i64 j ∧ wr.ownsRow w.heap.size 52 3 (.slice (some ⟨w.heap.size, 0, none⟩) n n) n (icells (part l (j * 3))) ∧ Ge w wr) (fun i _ => n - (intOf i).toNat)
  case atStart => exact ⟨0, Nat.zero_le _, rfl, by rw [Nat.zero_mul]; exact own1, g1⟩
  case round =>
    obtain ⟨j, hj, rfl, hown, hg⟩ := hrel
    by_cases hlt : j < n
    · obtain ⟨b, o, rfl, x0, x1, x2⟩ := three_cells HC.out hlt
      have y0 := hg.keep x0
      have y1 := hg.keep x1
      have y2 := hg.keep x2
      clear x0 x1 x2
      have K0 : j * 3 < n * 3 := by omega
      have K1 : j * 3 + 1 < n * 3 := by omega
      have K2 : j * 3 + 2 < n * 3 := by omega
      have H5 : Hid (((((part l (j * 3)).set (j * 3) (nth l (j * 3))).set (j * 3 + 1) (nth l (j * 3 + 1))).set (j * 3 + 2) (nth l (j * 3 + 2))) = part l ((j + 1) * 3)) := by
        show _ = _
        rw [HP.out _ K0, HP.out _ K1, HP.out _ K2, show j * 3 + 2 + 1 = (j + 1) * 3 by omega]
      go_wp2_with (go_at_call 42; ((with_reducible refine (lToSquareA _ _ _ _).mono ?_); rintro e w' ⟨rfl, hb⟩; have own2 := Ge.owns hb hown; have f0 := own2.frozenAt (j * 3); have f1 := own2.frozenAt (j * 3 + 1); have f2 := own2.frozenAt (j * 3 + 2); obtain ⟨u0, hu0⟩ := own_some_Square own2 K0; obtain ⟨u1, hu1⟩ := own_some_Square own2 K1; obtain ⟨u2, hu2⟩ := own_some_Square own2 K2; have HT := Lib.hid (own_set_Square own2 (Ge.trans hg hb) (Nat.le_refl _) (j * 3) (nth l (j * 3)) (nth l (j * 3 + 1)) (nth l (j * 3 + 2))); clear own2))
      go_roundw
      case rel => exact ⟨j + 1, by omega, by go_num, by have := HT.out.1; rwa [H5.out] at this, HT.out.2⟩
      case measure => simp [intOf]; omega
    · have hjn : j = n := by omega
      subst hjn
      rw [HA.out] at hown
      go_wp2_with fail
      go_ret
      exact ⟨_, rfl, hown, hg⟩

set_option maxHeartbeats 400000 in
theorem lEqSquareA (x y z : Int) (w : World) :
    Calls Try.prog 33 #[.agg #[.int .i64 x, .int .i64 y, .int .i64 z], .agg #[.int .i64 x, .int .i64 y, .int .i64 z]] w fun e w' => e = .returned (.bool true) ∧ Ge w w' := by
  have tx : (x != x) = false := by simp
  have ty : (y != y) = false := by simp
  have tz : (z != z) = false := by simp
  go_enter Try.func33, Try.ntmps33
  go_wp2_with fail
  go_ret
  exact ⟨rfl, by (repeat (first | with_reducible exact Ge.refl _ | assumption | with_reducible refine Ge.drew ?_ | with_reducible refine Ge.drewN ?_ _ | with_reducible refine Ge.alloc ?_ _ | (with_reducible refine Ge.setCell ?_ (by first | (simp; done) | omega | (simp; omega)) _) | with_reducible refine Ge.trans ?_ (by assumption)))⟩

set_option maxHeartbeats 800000 in
theorem lEqSquareS (va vb : Value) (n : Nat) (xs : List Int) (w : World) (ha : SlF w va n 3 xs) (hb : SlF w vb n 3 xs) (hm : n ≤ 4611686018427387904) :
    Calls Try.prog 9 #[va, vb] w fun e w' => e = .returned (.bool true) ∧ Ge w w' := by
  obtain ⟨pa, ca, rfl, ca'⟩ := ha.open
  obtain ⟨pb, cb, rfl, cb'⟩ := hb.open
  have CA := Lib.hid ca'
  have CB := Lib.hid cb'
  clear ha hb ca' cb'
  have tn : ((n : Int) != (n : Int)) = false := by simp
  go_enter Try.func9, Try.ntmps9
  go_wp2_with fail
  go_loopw [5] (fun i wr => ∃ k : Nat, k ≤ n ∧ i = .int .i64 k ∧ Ge w wr) (fun i _ => n - (intOf i).toNat)
  case atStart => exact ⟨0, Nat.zero_le _, rfl, Ge.refl _⟩
  case round =>
    obtain ⟨k, hk, rfl, hg⟩ := hrel
    by_cases hlt : k < n
    · obtain ⟨b1, o1, rfl, x0, x1, x2⟩ := three_cells CA.out hlt
      obtain ⟨b2, o2, rfl, y0, y1, y2⟩ := three_cells CB.out hlt
      replace x0 := hg.keep x0
      replace y0 := hg.keep y0
      replace x1 := hg.keep x1
      replace y1 := hg.keep y1
      replace x2 := hg.keep x2
      replace y2 := hg.keep y2
      go_wp2_with fail
      have hS : ∀ w', Ge wr w' → (w'.cell? ⟨b1, o1 + k * 3, none⟩ = some (.int .i64 (nth xs (k * 3))) ∧ w'.cell? ⟨b1, o1 + k * 3 + 1, none⟩ = some (.int .i64 (nth xs (k * 3 + 1))) ∧ w'.cell? ⟨b1, o1 + k * 3 + 2, none⟩ = some (.int .i64 (nth xs (k * 3 + 2))) ∧ w'.cell? ⟨b2, o2 + k * 3, none⟩ = some (.int .i64 (nth xs (k * 3))) ∧ w'.cell? ⟨b2, o2 + k * 3 + 1, none⟩ = some (.int .i64 (nth xs (k * 3 + 1))) ∧ w'.cell? ⟨b2, o2 + k * 3 + 2, none⟩ = some (.int .i64 (nth xs (k * 3 + 2))) ∧ Ge wr w') := fun w' g => ⟨g.keep (by (repeat (first | assumption | with_reducible exact Ge.refl _ | with_reducible refine cv_drew ?_ | with_reducible refine cv_alloc ?_ | with_reducible refine cv_set ?_ | (with_reducible apply cv_some; assumption) | with_reducible refine cell_drew ?_ | with_reducible refine cell_drewN ?_ | ((with_reducible refine cell_new ?_ ?_); (focus (simp; done)); rfl) | with_reducible refine cell_alloc ?_ | with_reducible refine cell_same2 ?_ | ((with_reducible refine cell_set2 ?_ ?_); focus (first | (simp; done) | (intro hE; simp at hE; done) | (intro hE; simp at hE; omega))) | with_reducible refine Ge.drew ?_ | with_reducible refine Ge.drewN ?_ _ | with_reducible refine Ge.alloc ?_ _ | ((with_reducible refine Ge.setCell ?_ ?_ _); rotate_left; focus (first | (simp; done) | omega | (simp; omega))) | with_reducible refine Ge.trans ?_ (by assumption) | with_reducible refine Ge.keep (by assumption) ?_))), g.keep (by (repeat (first | assumption | with_reducible exact Ge.refl _ | with_reducible refine cv_drew ?_ | with_reducible refine cv_alloc ?_ | with_reducible refine cv_set ?_ | (with_reducible apply cv_some; assumption) | with_reducible refine cell_drew ?_ | with_reducible refine cell_drewN ?_ | ((with_reducible refine cell_new ?_ ?_); (focus (simp; done)); rfl) | with_reducible refine cell_alloc ?_ | with_reducible refine cell_same2 ?_ | ((with_reducible refine cell_set2 ?_ ?_); focus (first | (simp; done) | (intro hE; simp at hE; done) | (intro hE; simp at hE; omega))) | with_reducible refine Ge.drew ?_ | with_reducible refine Ge.drewN ?_ _ | with_reducible refine Ge.alloc ?_ _ | ((with_reducible refine Ge.setCell ?_ ?_ _); rotate_left; focus (first | (simp; done) | omega | (simp; omega))) | with_reducible refine Ge.trans ?_ (by assumption) | with_reducible refine Ge.keep (by assumption) ?_))), g.keep (by (repeat (first | assumption | with_reducible exact Ge.refl _ | with_reducible refine cv_drew ?_ | with_reducible refine cv_alloc ?_ | with_reducible refine cv_set ?_ | (with_reducible apply cv_some; assumption) | with_reducible refine cell_drew ?_ | with_reducible refine cell_drewN ?_ | ((with_reducible refine cell_new ?_ ?_); (focus (simp; done)); rfl) | with_reducible refine cell_alloc ?_ | with_reducible refine cell_same2 ?_ | ((with_reducible refine cell_set2 ?_ ?_); focus (first | (simp; done) | (intro hE; simp at hE; done) | (intro hE; simp at hE; omega))) | with_reducible refine Ge.drew ?_ | with_reducible refine Ge.drewN ?_ _ | with_reducible refine Ge.alloc ?_ _ | ((with_reducible refine Ge.setCell ?_ ?_ _); rotate_left; focus (first | (simp; done) | omega | (simp; omega))) | with_reducible refine Ge.trans ?_ (by assumption) | with_reducible refine Ge.keep (by assumption) ?_))), g.keep (by (repeat (first | assumption | with_reducible exact Ge.refl _ | with_reducible refine cv_drew ?_ | with_reducible refine cv_alloc ?_ | with_reducible refine cv_set ?_ | (with_reducible apply cv_some; assumption) | with_reducible refine cell_drew ?_ | with_reducible refine cell_drewN ?_ | ((with_reducible refine cell_new ?_ ?_); (focus (simp; done)); rfl) | with_reducible refine cell_alloc ?_ | with_reducible refine cell_same2 ?_ | ((with_reducible refine cell_set2 ?_ ?_); focus (first | (simp; done) | (intro hE; simp at hE; done) | (intro hE; simp at hE; omega))) | with_reducible refine Ge.drew ?_ | with_reducible refine Ge.drewN ?_ _ | with_reducible refine Ge.alloc ?_ _ | ((with_reducible refine Ge.setCell ?_ ?_ _); rotate_left; focus (first | (simp; done) | omega | (simp; omega))) | with_reducible refine Ge.trans ?_ (by assumption) | with_reducible refine Ge.keep (by assumption) ?_))), g.keep (by (repeat (first | assumption | with_reducible exact Ge.refl _ | with_reducible refine cv_drew ?_ | with_reducible refine cv_alloc ?_ | with_reducible refine cv_set ?_ | (with_reducible apply cv_some; assumption) | with_reducible refine cell_drew ?_ | with_reducible refine cell_drewN ?_ | ((with_reducible refine cell_new ?_ ?_); (focus (simp; done)); rfl) | with_reducible refine cell_alloc ?_ | with_reducible refine cell_same2 ?_ | ((with_reducible refine cell_set2 ?_ ?_); focus (first | (simp; done) | (intro hE; simp at hE; done) | (intro hE; simp at hE; omega))) | with_reducible refine Ge.drew ?_ | with_reducible refine Ge.drewN ?_ _ | with_reducible refine Ge.alloc ?_ _ | ((with_reducible refine Ge.setCell ?_ ?_ _); rotate_left; focus (first | (simp; done) | omega | (simp; omega))) | with_reducible refine Ge.trans ?_ (by assumption) | with_reducible refine Ge.keep (by assumption) ?_))), g.keep (by (repeat (first | assumption | with_reducible exact Ge.refl _ | with_reducible refine cv_drew ?_ | with_reducible refine cv_alloc ?_ | with_reducible refine cv_set ?_ | (with_reducible apply cv_some; assumption) | with_reducible refine cell_drew ?_ | with_reducible refine cell_drewN ?_ | ((with_reducible refine cell_new ?_ ?_); (focus (simp; done)); rfl) | with_reducible refine cell_alloc ?_ | with_reducible refine cell_same2 ?_ | ((with_reducible refine cell_set2 ?_ ?_); focus (first | (simp; done) | (intro hE; simp at hE; done) | (intro hE; simp at hE; omega))) | with_reducible refine Ge.drew ?_ | with_reducible refine Ge.drewN ?_ _ | with_reducible refine Ge.alloc ?_ _ | ((with_reducible refine Ge.setCell ?_ ?_ _); rotate_left; focus (first | (simp; done) | omega | (simp; omega))) | with_reducible refine Ge.trans ?_ (by assumption) | with_reducible refine Ge.keep (by assumption) ?_))), Ge.trans (by (repeat (first | assumption | with_reducible exact Ge.refl _ | with_reducible refine cv_drew ?_ | with_reducible refine cv_alloc ?_ | with_reducible refine cv_set ?_ | (with_reducible apply cv_some; assumption) | with_reducible refine cell_drew ?_ | with_reducible refine cell_drewN ?_ | ((with_reducible refine cell_new ?_ ?_); (focus (simp; done)); rfl) | with_reducible refine cell_alloc ?_ | with_reducible refine cell_same2 ?_ | ((with_reducible refine cell_set2 ?_ ?_); focus (first | (simp; done) | (intro hE; simp at hE; done) | (intro hE; simp at hE; omega))) | with_reducible refine Ge.drew ?_ | with_reducible refine Ge.drewN ?_ _ | with_reducible refine Ge.alloc ?_ _ | ((with_reducible refine Ge.setCell ?_ ?_ _); rotate_left; focus (first | (simp; done) | omega | (simp; omega))) | with_reducible refine Ge.trans ?_ (by assumption) | with_reducible refine Ge.keep (by assumption) ?_))) g⟩
      go_region_held3 (fun w' => w'.cell? ⟨b1, o1 + k * 3, none⟩ = some (.int .i64 (nth xs (k * 3))) ∧ w'.cell? ⟨b1, o1 + k * 3 + 1, none⟩ = some (.int .i64 (nth xs (k * 3 + 1))) ∧ w'.cell? ⟨b1, o1 + k * 3 + 2, none⟩ = some (.int .i64 (nth xs (k * 3 + 2))) ∧ w'.cell? ⟨b2, o2 + k * 3, none⟩ = some (.int .i64 (nth xs (k * 3))) ∧ w'.cell? ⟨b2, o2 + k * 3 + 1, none⟩ = some (.int .i64 (nth xs (k * 3 + 1))) ∧ w'.cell? ⟨b2, o2 + k * 3 + 2, none⟩ = some (.int .i64 (nth xs (k * 3 + 2))) ∧ Ge wr w') (first | ((with_reducible refine hS _ ?_); (repeat (first | assumption | with_reducible exact Ge.refl _ | with_reducible refine cv_drew ?_ | with_reducible refine cv_alloc ?_ | with_reducible refine cv_set ?_ | (with_reducible apply cv_some; assumption) | with_reducible refine cell_drew ?_ | with_reducible refine cell_drewN ?_ | ((with_reducible refine cell_new ?_ ?_); (focus (simp; done)); rfl) | with_reducible refine cell_alloc ?_ | with_reducible refine cell_same2 ?_ | ((with_reducible refine cell_set2 ?_ ?_); focus (first | (simp; done) | (intro hE; simp at hE; done) | (intro hE; simp at hE; omega))) | with_reducible refine Ge.drew ?_ | with_reducible refine Ge.drewN ?_ _ | with_reducible refine Ge.alloc ?_ _ | ((with_reducible refine Ge.setCell ?_ ?_ _); rotate_left; focus (first | (simp; done) | omega | (simp; omega))) | with_reducible refine Ge.trans ?_ (by assumption) | with_reducible refine Ge.keep (by assumption) ?_)); done) | fail) (first | (go_at_call 33; ((with_reducible refine (lEqSquareA _ _ _ _).mono ?_); rintro e w' ⟨rfl, hb⟩); have hz := Ge.size hb; (try simp at hz)) | fail)
      rename_i hHeldX
      obtain ⟨q0, q1, q2, q3, q4, q5, G7⟩ := hHeldX
      clear hS
      go_wp2_with fail
      go_roundw
      case rel => exact ⟨k + 1, by omega, by go_num, by (repeat (first | with_reducible exact Ge.refl _ | assumption | with_reducible refine Ge.drew ?_ | with_reducible refine Ge.drewN ?_ _ | with_reducible refine Ge.alloc ?_ _ | (with_reducible refine Ge.setCell ?_ (by first | (simp; done) | omega | (simp; omega)) _) | with_reducible refine Ge.trans ?_ (by assumption)))⟩
      case measure => simp [intOf]; omega
    · go_wp2_with fail
      go_ret
      exact ⟨rfl, by (repeat (first | with_reducible exact Ge.refl _ | assumption | with_reducible refine Ge.drew ?_ | with_reducible refine Ge.drewN ?_ _ | with_reducible refine Ge.alloc ?_ _ | (with_reducible refine Ge.setCell ?_ (by first | (simp; done) | omega | (simp; omega)) _) | with_reducible refine Ge.trans ?_ (by assumption)))⟩

set_option maxHeartbeats 400000 in
theorem lSzSquareS (p : Option Addr) (n cap : Nat) (L : Int) (w : World) (hm : n ≤ 9223372036854775807) (h0 : 0 ≤ L) (h1 : L ≤ 1048576) :
    Calls Try.prog 17 #[.slice p n cap, .int .i64 L] w fun e w' => e = .returned (.int .i64 (if L - n < 0 then -1 else L - n)) ∧ w = w' := by
  by_cases h : L - n < 0
  · rw [if_pos h]
    go_enter Try.func17, Try.ntmps17
    go_wp2_with fail
    go_ret
    exact ⟨rfl, rfl⟩
  · rw [if_neg h]
    go_enter Try.func17, Try.ntmps17
    go_wp2_with fail
    go_ret
    exact ⟨rfl, rfl⟩
end Go.Proofs.Ytjogeicoofdlgaa
