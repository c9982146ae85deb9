/- eqWire, eqWireS, markWireS, heldWireS, eqNet, markNet, heldNet. -/
import Derived.Test.YtppabikbepdobaaWFlat
import Derived.Test.YtppabikbepdobaaWEqInt
namespace Go.Proofs.Ytppabikbepdobaa

open Go.RowKit

def eq3 (a b c x y z : Int) : Bool := decide (a = x) && decide (b = y) && decide (c = z)

set_option maxHeartbeats 400000 in
theorem lEqWire (a b c x y z : Int) (w : World) :
    Calls Try.prog 99 #[.agg #[.int .i64 a, .int .i64 b, .int .i64 c], .agg #[.int .i64 x, .int .i64 y, .int .i64 z]] w fun e w' => e = .returned (.bool (eq3 a b c x y z)) ∧ Ge w w' := by
  by_cases h1 : a = x
  · subst h1
    by_cases h2 : b = y
    · subst h2
      by_cases h3 : c = z
      · subst h3
        go_enter Try.func99, Try.ntmps99
        go_wp2_with fail
        go_ret
        exact ⟨ret_bool (by simp [eq3]), by (repeat (first | with_reducible exact Ge.refl _ | assumption | with_reducible refine Ge.drew ?_ | with_reducible refine Ge.drewN ?_ _ | with_reducible refine Ge.alloc ?_ _ | (with_reducible refine Ge.setCell ?_ (by first | (simp; done) | omega | (simp; omega)) _) | with_reducible refine Ge.trans ?_ (by assumption)))⟩
      · have t : (c != z) = true := by simp [h3]
        have t' := Lib.hid h3
        clear h3
        go_enter Try.func99, Try.ntmps99
        go_wp2_with fail
        go_ret
        exact ⟨ret_bool (by simp [eq3, t'.out]), by (repeat (first | with_reducible exact Ge.refl _ | assumption | with_reducible refine Ge.drew ?_ | with_reducible refine Ge.drewN ?_ _ | with_reducible refine Ge.alloc ?_ _ | (with_reducible refine Ge.setCell ?_ (by first | (simp; done) | omega | (simp; omega)) _) | with_reducible refine Ge.trans ?_ (by assumption)))⟩
    · have t : (b != y) = true := by simp [h2]
      have t' := Lib.hid h2
      clear h2
      go_enter Try.func99, Try.ntmps99
      go_wp2_with fail
      go_ret
      exact ⟨ret_bool (by simp [eq3, t'.out]), by (repeat (first | with_reducible exact Ge.refl _ | assumption | with_reducible refine Ge.drew ?_ | with_reducible refine Ge.drewN ?_ _ | with_reducible refine Ge.alloc ?_ _ | (with_reducible refine Ge.setCell ?_ (by first | (simp; done) | omega | (simp; omega)) _) | with_reducible refine Ge.trans ?_ (by assumption)))⟩
  · have t : (a != x) = true := by simp [h1]
    have t' := Lib.hid h1
    clear h1
    go_enter Try.func99, Try.ntmps99
    go_wp2_with fail
    go_ret
    exact ⟨ret_bool (by simp [eq3, t'.out]), by (repeat (first | with_reducible exact Ge.refl _ | assumption | with_reducible refine Ge.drew ?_ | with_reducible refine Ge.drewN ?_ _ | with_reducible refine Ge.alloc ?_ _ | (with_reducible refine Ge.setCell ?_ (by first | (simp; done) | omega | (simp; omega)) _) | with_reducible refine Ge.trans ?_ (by assumption)))⟩

theorem same_step3 {xs ys : List Int} {k : Nat} (h : Hid (∀ j, j < k → ∀ i, i < 3 → nth xs (j * 3 + i) = nth ys (j * 3 + i)))
    (he : eq3 (nth xs (k * 3)) (nth xs (k * 3 + 1)) (nth xs (k * 3 + 2)) (nth ys (k * 3)) (nth ys (k * 3 + 1)) (nth ys (k * 3 + 2)) = true) :
    Hid (∀ j, j < k + 1 → ∀ i, i < 3 → nth xs (j * 3 + i) = nth ys (j * 3 + i)) := by
  intro j h1 i hi
  by_cases e : j = k
  · subst e
    simp [eq3] at he
    obtain ⟨⟨e1, e2⟩, e3⟩ := he
    match i, hi with
    | 0, _ => exact e1
    | 1, _ => exact e2
    | 2, _ => exact e3
  · exact h.out j (by omega) i hi

set_option maxHeartbeats 800000 in
theorem lEqWireS (va vb : Value) (n m : Nat) (xs ys : List Int) (w : World) (ha : SlF w va n 3 xs) (hb : SlF w vb m 3 ys) (hm : n ≤ 4611686018427387904) :
    Calls Try.prog 54 #[va, vb] w fun e w' => e = .returned (.bool (decide (xs = ys))) ∧ Ge w w' := by
  have lx := ha.length
  have ly := hb.length
  obtain ⟨pa, ca, rfl, ca'⟩ := ha.open
  obtain ⟨pb, cb, rfl, cb'⟩ := hb.open
  have HX := Lib.hid lx
  have HY := Lib.hid ly
  clear lx ly ha hb
  by_cases hl : n = m
  · subst hl
    go_enter Try.func54, Try.ntmps54
    go_wp2_with fail
    go_loopw [5] (fun i wr => ∃ k : Nat, k ≤ n ∧ i = .int .i64 k ∧ Hid (∀ j, j < k → ∀ i, i < 3 → nth xs (j * 3 + i) = nth ys (j * 3 + i)) ∧ Ge w wr) (fun i _ => n - (intOf i).toNat)
    case atStart => exact ⟨0, Nat.zero_le _, rfl, fun j h1 => by omega, Ge.refl _⟩
    case round =>
      obtain ⟨k, hk, rfl, HS, hg⟩ := hrel
      by_cases hlt : k < n
      · obtain ⟨b1, o1, rfl, x1, x2, x3⟩ := three_cells ca' hlt
        obtain ⟨b2, o2, rfl, y1, y2, y3⟩ := three_cells cb' hlt
        have x1 := hg.keep x1
        have x2 := hg.keep x2
        have x3 := hg.keep x3
        have y1 := hg.keep y1
        have y2 := hg.keep y2
        have y3 := hg.keep y3
        clear ca' cb'
        cases he : eq3 (nth xs (k * 3)) (nth xs (k * 3 + 1)) (nth xs (k * 3 + 2)) (nth ys (k * 3)) (nth ys (k * 3 + 1)) (nth ys (k * 3 + 2)) with
        | true =>
          go_wp2_with fail
          go_region_held3 (fun w' => w'.cell? ⟨b1, o1 + k * 3, none⟩ = some (.int .i64 (nth xs (k * 3))) ∧ w'.cell? ⟨b1, o1 + k * 3 + 1, none⟩ = some (.int .i64 (nth xs (k * 3 + 1))) ∧ w'.cell? ⟨b1, o1 + k * 3 + 2, none⟩ = some (.int .i64 (nth xs (k * 3 + 2))) ∧ w'.cell? ⟨b2, o2 + k * 3, none⟩ = some (.int .i64 (nth ys (k * 3))) ∧ w'.cell? ⟨b2, o2 + k * 3 + 1, none⟩ = some (.int .i64 (nth ys (k * 3 + 1))) ∧ w'.cell? ⟨b2, o2 + k * 3 + 2, none⟩ = some (.int .i64 (nth ys (k * 3 + 2))) ∧ Ge w w') (first | exact ⟨hb.keep (‹_ ∧ _ ∧ _ ∧ _ ∧ _ ∧ _ ∧ _›).1, hb.keep (‹_ ∧ _ ∧ _ ∧ _ ∧ _ ∧ _ ∧ _›).2.1, hb.keep (‹_ ∧ _ ∧ _ ∧ _ ∧ _ ∧ _ ∧ _›).2.2.1, hb.keep (‹_ ∧ _ ∧ _ ∧ _ ∧ _ ∧ _ ∧ _›).2.2.2.1, hb.keep (‹_ ∧ _ ∧ _ ∧ _ ∧ _ ∧ _ ∧ _›).2.2.2.2.1, hb.keep (‹_ ∧ _ ∧ _ ∧ _ ∧ _ ∧ _ ∧ _›).2.2.2.2.2.1, Ge.trans (‹_ ∧ _ ∧ _ ∧ _ ∧ _ ∧ _ ∧ _›).2.2.2.2.2.2 hb⟩ | exact ⟨(by first | assumption | (simp; done) | (simp [*]; done)), (by first | assumption | (simp; done) | (simp [*]; done)), (by first | assumption | (simp; done) | (simp [*]; done)), (by first | assumption | (simp; done) | (simp [*]; done)), (by first | assumption | (simp; done) | (simp [*]; done)), (by first | assumption | (simp; done) | (simp [*]; done)), (by (repeat (first | with_reducible exact Ge.refl _ | assumption | with_reducible refine Ge.drew ?_ | with_reducible refine Ge.drewN ?_ _ | with_reducible refine Ge.alloc ?_ _ | (with_reducible refine Ge.setCell ?_ (by first | (simp; done) | omega | (simp; omega)) _) | with_reducible refine Ge.trans ?_ (by assumption))))⟩) (first | (go_at_call 99; ((with_reducible refine (lEqWire _ _ _ _ _ _ _).mono ?_); rintro e w' ⟨rfl, hb⟩)) | fail)
          go_wp2_with fail
          go_roundw
          case rel => exact ⟨k + 1, by omega, by go_num, same_step3 HS he, by (repeat (first | with_reducible exact Ge.refl _ | assumption | with_reducible refine Ge.drew ?_ | with_reducible refine Ge.drewN ?_ _ | with_reducible refine Ge.alloc ?_ _ | (with_reducible refine Ge.setCell ?_ (by first | (simp; done) | omega | (simp; omega)) _) | with_reducible refine Ge.trans ?_ (by assumption)))⟩
          case measure => simp [intOf]; omega
        | false =>
          go_wp2_with fail
          go_region_held3 (fun w' => w'.cell? ⟨b1, o1 + k * 3, none⟩ = some (.int .i64 (nth xs (k * 3))) ∧ w'.cell? ⟨b1, o1 + k * 3 + 1, none⟩ = some (.int .i64 (nth xs (k * 3 + 1))) ∧ w'.cell? ⟨b1, o1 + k * 3 + 2, none⟩ = some (.int .i64 (nth xs (k * 3 + 2))) ∧ w'.cell? ⟨b2, o2 + k * 3, none⟩ = some (.int .i64 (nth ys (k * 3))) ∧ w'.cell? ⟨b2, o2 + k * 3 + 1, none⟩ = some (.int .i64 (nth ys (k * 3 + 1))) ∧ w'.cell? ⟨b2, o2 + k * 3 + 2, none⟩ = some (.int .i64 (nth ys (k * 3 + 2))) ∧ Ge w w') (first | exact ⟨hb.keep (‹_ ∧ _ ∧ _ ∧ _ ∧ _ ∧ _ ∧ _›).1, hb.keep (‹_ ∧ _ ∧ _ ∧ _ ∧ _ ∧ _ ∧ _›).2.1, hb.keep (‹_ ∧ _ ∧ _ ∧ _ ∧ _ ∧ _ ∧ _›).2.2.1, hb.keep (‹_ ∧ _ ∧ _ ∧ _ ∧ _ ∧ _ ∧ _›).2.2.2.1, hb.keep (‹_ ∧ _ ∧ _ ∧ _ ∧ _ ∧ _ ∧ _›).2.2.2.2.1, hb.keep (‹_ ∧ _ ∧ _ ∧ _ ∧ _ ∧ _ ∧ _›).2.2.2.2.2.1, Ge.trans (‹_ ∧ _ ∧ _ ∧ _ ∧ _ ∧ _ ∧ _›).2.2.2.2.2.2 hb⟩ | exact ⟨(by first | assumption | (simp; done) | (simp [*]; done)), (by first | assumption | (simp; done) | (simp [*]; done)), (by first | assumption | (simp; done) | (simp [*]; done)), (by first | assumption | (simp; done) | (simp [*]; done)), (by first | assumption | (simp; done) | (simp [*]; done)), (by first | assumption | (simp; done) | (simp [*]; done)), (by (repeat (first | with_reducible exact Ge.refl _ | assumption | with_reducible refine Ge.drew ?_ | with_reducible refine Ge.drewN ?_ _ | with_reducible refine Ge.alloc ?_ _ | (with_reducible refine Ge.setCell ?_ (by first | (simp; done) | omega | (simp; omega)) _) | with_reducible refine Ge.trans ?_ (by assumption))))⟩) (first | (go_at_call 99; ((with_reducible refine (lEqWire _ _ _ _ _ _ _).mono ?_); rintro e w' ⟨rfl, hb⟩)) | fail)
          go_wp2_with fail
          go_ret
          refine ⟨ret_bool ?_, by (repeat (first | with_reducible exact Ge.refl _ | assumption | with_reducible refine Ge.drew ?_ | with_reducible refine Ge.drewN ?_ _ | with_reducible refine Ge.alloc ?_ _ | (with_reducible refine Ge.setCell ?_ (by first | (simp; done) | omega | (simp; omega)) _) | with_reducible refine Ge.trans ?_ (by assumption)))⟩
          have h' : ¬ xs = ys := fun e => by rw [e] at he; simp [eq3] at he
          simp [h']
      · go_wp2_with fail
        go_ret
        refine ⟨ret_bool ?_, by (repeat (first | with_reducible exact Ge.refl _ | assumption | with_reducible refine Ge.drew ?_ | with_reducible refine Ge.drewN ?_ _ | with_reducible refine Ge.alloc ?_ _ | (with_reducible refine Ge.setCell ?_ (by first | (simp; done) | omega | (simp; omega)) _) | with_reducible refine Ge.trans ?_ (by assumption)))⟩
        have h' : xs = ys := same_rows HX.out HY.out (fun j hj => HS.out j (by omega))
        simp [h']
  · have h1 : ((n : Int) == (m : Int)) = false := by simp; omega
    have h2 : ((n : Int) != (m : Int)) = true := by simp; omega
    go_enter Try.func54, Try.ntmps54
    go_wp2_with fail
    go_ret
    refine ⟨ret_bool ?_, by (repeat (first | with_reducible exact Ge.refl _ | assumption | with_reducible refine Ge.drew ?_ | with_reducible refine Ge.drewN ?_ _ | with_reducible refine Ge.alloc ?_ _ | (with_reducible refine Ge.setCell ?_ (by first | (simp; done) | omega | (simp; omega)) _) | with_reducible refine Ge.trans ?_ (by assumption)))⟩
    have h' : ¬ xs = ys := fun e => hl (by have := HX.out; have := HY.out; rw [e] at *; omega)
    simp [h']

theorem marked_step3 (l : List Int) (k : Int) (j : Nat) (h : j * 3 + 2 < l.length) :
    (((marked l k (j * 3)).set (j * 3) (k + j * 3)).set (j * 3 + 1) (k + j * 3 + 1)).set (j * 3 + 2) (k + j * 3 + 1 + 1) = marked l k ((j + 1) * 3) := by
  have e1 : k + (j : Int) * 3 = k + ((j * 3 : Nat) : Int) := by simp
  have e2 : k + (j : Int) * 3 + 1 = k + ((j * 3 + 1 : Nat) : Int) := by simp; omega
  have e3 : k + (j : Int) * 3 + 1 + 1 = k + ((j * 3 + 2 : Nat) : Int) := by simp; omega
  rw [e3, e2, e1, marked_step _ _ _ (by omega), marked_step _ _ _ (by omega), marked_step _ _ _ (by omega)]
  congr 1
  omega

set_option maxHeartbeats 800000 in
theorem lMarkWireS (base e : Nat) (v : Value) (n : Nat) (xs : List Int) (k : Int) (w : World) (h : w.ownsRow base e 3 v n (icells xs)) (hk0 : 0 ≤ k) (hk : k + n * 3 ≤ 4611686018427387904) :
    Calls Try.prog 68 #[v, .int .i64 k] w fun en w' => en = .returned (.int .i64 (k + n * 3)) ∧ Mine w w' v ∧ w'.ownsRow base e 3 v n (icells (upFrom k (n * 3))) := by
  have hlen : xs.length = n * 3 := by have := h.1; rwa [icells_length] at this
  rcases owns_cases h with ⟨rfl, rfl⟩ | ⟨g, cap, rfl⟩
  · go_enter Try.func68, Try.ntmps68
    go_wp2_with fail
    go_loopw [1, 5] (fun m i wr => m = .int .i64 k ∧ i = .int .i64 0 ∧ w = wr) (fun _ _ _ => 0)
    case atStart => exact ⟨rfl, rfl, rfl⟩
    case round =>
      obtain ⟨rfl, rfl, rfl⟩ := hrel
      go_wp2_with fail
      go_ret
      have hx : xs = upFrom k 0 := by simpa [upFrom] using hlen
      exact ⟨ret_int (by simp), World.grownBy.refl _ _, by rw [← hx]; exact h⟩
  · have HN := Lib.hid hlen
    clear hlen
    go_enter Try.func68, Try.ntmps68
    go_wp2_with fail
    go_loopw [1, 5] (fun m i wr => ∃ j : Nat, j ≤ n ∧ i = .int .i64 j ∧ m = .int .i64 (k + j * 3) ∧ wr.ownsRow base e 3 (.slice (some ⟨g, 0, none⟩) n cap) n (icells (marked xs k (j * 3))) ∧ w.grownBy wr (some g)) (fun _ i _ => n - (intOf i).toNat)
    case atStart => exact ⟨0, Nat.zero_le _, rfl, by simp, by rw [Nat.zero_mul, marked_zero]; exact h, World.grownBy.refl _ _⟩
    case round =>
      obtain ⟨j, hj, rfl, rfl, hown, hg⟩ := hrel
      by_cases hlt : j < n
      · have st1 := hown.stored (j * 3) (.int .i64 (k + j * 3))
        have st2 := st1.1.stored (j * 3 + 1) (.int .i64 (k + j * 3 + 1))
        have st3 := st2.1.stored (j * 3 + 2) (.int .i64 (k + j * 3 + 1 + 1))
        have f1 := hown.frozenAt (j * 3)
        have f2 := hown.frozenAt (j * 3 + 1)
        have f3 := hown.frozenAt (j * 3 + 2)
        obtain ⟨u1, c1⟩ : ∃ u, wr.cell? ⟨g, j * 3, none⟩ = some u := by
          rw [hown.cellAt (j * 3) (by omega)]; exact ⟨_, List.getElem?_eq_getElem (by have := hown.1; omega)⟩
        obtain ⟨u2, c2⟩ : ∃ u, wr.cell? ⟨g, j * 3 + 1, none⟩ = some u := by
          rw [hown.cellAt (j * 3 + 1) (by omega)]; exact ⟨_, List.getElem?_eq_getElem (by have := hown.1; omega)⟩
        obtain ⟨u3, c3⟩ : ∃ u, wr.cell? ⟨g, j * 3 + 2, none⟩ = some u := by
          rw [hown.cellAt (j * 3 + 2) (by omega)]; exact ⟨_, List.getElem?_eq_getElem (by have := hown.1; omega)⟩
        have T1 := Lib.hid st1.2
        have T2 := Lib.hid st2.2
        have T3 := Lib.hid st3
        clear st1 st2 st3
        go_wp2_with fail
        go_roundw
        case rel =>
          refine ⟨j + 1, by omega, by go_num, by go_num, ?_, grown_trans (grown_trans (grown_trans hg T1.out) T2.out) T3.out.2⟩
          have := T3.out.1
          rwa [icells_set, icells_set, icells_set, marked_step3 xs k j (by have := HN.out; omega)] at this
        case measure => simp [intOf]; omega
      · have hjn : j = n := by omega
        have hfin : marked xs k (j * 3) = upFrom k (n * 3) := by rw [hjn, ← HN.out, marked_all]
        rw [hfin] at hown
        clear hfin
        go_wp2_with fail
        go_ret
        exact ⟨ret_int (by omega), hg, hown⟩

set_option maxHeartbeats 800000 in
theorem lHeldWireS (v : Value) (n : Nat) (k : Int) (w : World) (h : Sl w v n 3 (icells (upFrom k (n * 3)))) (hk0 : 0 ≤ k) (hk : k + n * 3 ≤ 4611686018427387904) :
    Calls Try.prog 69 #[v, .int .i64 k] w fun en w' => en = .returned (.int .i64 (k + n * 3)) ∧ w = w' := by
  have h' : SlF w v n 3 (upFrom k (n * 3)) := h
  obtain ⟨p, c, rfl, hc⟩ := h'.open
  clear h h'
  go_enter Try.func69, Try.ntmps69
  go_wp2_with fail
  go_loop [1, 5] (fun m i => ∃ j : Nat, j ≤ n ∧ i = .int .i64 j ∧ m = .int .i64 (k + j * 3)) (fun _ i => n - (intOf i).toNat)
  case atStart => exact ⟨0, Nat.zero_le _, rfl, by simp⟩
  case round =>
    obtain ⟨j, hj, rfl, rfl⟩ := hrel
    by_cases hlt : j < n
    · obtain ⟨b, o, rfl, x1, x2, x3⟩ := three_cells hc hlt
      have e1 : nth (upFrom k (n * 3)) (j * 3) = k + j * 3 := by rw [nth_upFrom _ _ _ (by omega)]; simp
      have e2 : nth (upFrom k (n * 3)) (j * 3 + 1) = k + j * 3 + 1 := by rw [nth_upFrom _ _ _ (by omega)]; simp; omega
      have e3 : nth (upFrom k (n * 3)) (j * 3 + 2) = k + j * 3 + 1 + 1 := by rw [nth_upFrom _ _ _ (by omega)]; simp; omega
      rw [e1] at x1
      rw [e2] at x2
      rw [e3] at x3
      clear hc e1 e2 e3
      go_wp2_with fail
      go_round
      case rel => exact ⟨j + 1, by omega, by go_num, by go_num⟩
      case measure => simp [intOf]; omega
    · go_wp2_with fail
      go_ret
      exact ⟨ret_int (by omega), rfl⟩

/-- The value v reads as the network n. -/
def IsNet (w : World) (v : Value) (n : Nt) : Prop := ∃ s, v = .agg #[.int .i64 n.nodes, .int .i64 n.ends, .int .i64 n.scale, s] ∧ SlF w s n.wires.length 3 (flatW n.wires)
/-- The value v is the network n, in memory of its own from block base on. -/
def OwnsNet (w : World) (base : Nat) (v : Value) (n : Nt) : Prop :=
  ∃ s, v = .agg #[.int .i64 n.nodes, .int .i64 n.ends, .int .i64 n.scale, s] ∧ w.ownsRow base 56 3 s n.wires.length (icells (flatW n.wires))
theorem OwnsNet.is {w : World} {base : Nat} {v : Value} {n : Nt} (h : OwnsNet w base v n) : IsNet w v n := by
  obtain ⟨s, hv, ho⟩ := h; exact ⟨s, hv, SlF.of_owns ho⟩
theorem IsNet.ge {w w' : World} {v : Value} {n : Nt} (h : IsNet w v n) (hg : Ge w w') : IsNet w' v n := by
  obtain ⟨s, hv, ho⟩ := h; exact ⟨s, hv, ho.ge hg⟩
theorem OwnsNet.ge {w w' : World} {base : Nat} {v : Value} {n : Nt} (h : OwnsNet w base v n) (hg : Ge w w') : OwnsNet w' base v n := by
  obtain ⟨s, hv, ho⟩ := h; exact ⟨s, hv, hg.owns ho⟩

def netEq (a b : Nt) : Bool := decide (a = b)

set_option maxHeartbeats 800000 in
theorem lEqNet (va vb : Value) (a b : Nt) (w : World) (ha : IsNet w va a) (hb : IsNet w vb b) (hm : a.wires.length ≤ 1000000000000) :
    Calls Try.prog 19 #[va, vb] w fun e w' => e = .returned (.bool (netEq a b)) ∧ Ge w w' := by
  obtain ⟨sa, rfl, ha⟩ := ha
  obtain ⟨sb, rfl, hb'⟩ := hb
  obtain ⟨a1, a2, a3, al⟩ := a
  obtain ⟨b1, b2, b3, bl⟩ := b
  simp only at ha hb' hm ⊢
  by_cases h1 : a1 = b1
  · subst h1
    by_cases h2 : a2 = b2
    · subst h2
      by_cases h3 : a3 = b3
      · subst h3
        have HA := Lib.hid ha
        have HB := Lib.hid hb'
        clear ha hb'
        by_cases e : al = bl
        · have d : decide (flatW al = flatW bl) = true := by simp [e]
          have E := Lib.hid e
          clear e
          go_enter Try.func19, Try.ntmps19
          go_wp2_with (go_at_call 54; ((with_reducible refine (lEqWireS sa sb _ _ _ _ _ (HA.out.ge (by (repeat (first | with_reducible exact Ge.refl _ | assumption | with_reducible refine Ge.drew ?_ | with_reducible refine Ge.drewN ?_ _ | with_reducible refine Ge.alloc ?_ _ | (with_reducible refine Ge.setCell ?_ (by first | (simp; done) | omega | (simp; omega)) _) | with_reducible refine Ge.trans ?_ (by assumption))))) (HB.out.ge (by (repeat (first | with_reducible exact Ge.refl _ | assumption | with_reducible refine Ge.drew ?_ | with_reducible refine Ge.drewN ?_ _ | with_reducible refine Ge.alloc ?_ _ | (with_reducible refine Ge.setCell ?_ (by first | (simp; done) | omega | (simp; omega)) _) | with_reducible refine Ge.trans ?_ (by assumption))))) (by omega)).mono ?_); rintro e w' ⟨rfl, hb⟩))
          go_ret
          exact ⟨ret_bool (by rw [E.out]; simp [netEq]), by (repeat (first | with_reducible exact Ge.refl _ | assumption | with_reducible refine Ge.drew ?_ | with_reducible refine Ge.drewN ?_ _ | with_reducible refine Ge.alloc ?_ _ | (with_reducible refine Ge.setCell ?_ (by first | (simp; done) | omega | (simp; omega)) _) | with_reducible refine Ge.trans ?_ (by assumption)))⟩
        · have d : decide (flatW al = flatW bl) = false := by simp; exact fun e' => e (flatW_inj e')
          have E := Lib.hid e
          clear e
          go_enter Try.func19, Try.ntmps19
          go_wp2_with (go_at_call 54; ((with_reducible refine (lEqWireS sa sb _ _ _ _ _ (HA.out.ge (by (repeat (first | with_reducible exact Ge.refl _ | assumption | with_reducible refine Ge.drew ?_ | with_reducible refine Ge.drewN ?_ _ | with_reducible refine Ge.alloc ?_ _ | (with_reducible refine Ge.setCell ?_ (by first | (simp; done) | omega | (simp; omega)) _) | with_reducible refine Ge.trans ?_ (by assumption))))) (HB.out.ge (by (repeat (first | with_reducible exact Ge.refl _ | assumption | with_reducible refine Ge.drew ?_ | with_reducible refine Ge.drewN ?_ _ | with_reducible refine Ge.alloc ?_ _ | (with_reducible refine Ge.setCell ?_ (by first | (simp; done) | omega | (simp; omega)) _) | with_reducible refine Ge.trans ?_ (by assumption))))) (by omega)).mono ?_); rintro e w' ⟨rfl, hb⟩))
          go_ret
          exact ⟨ret_bool (by simp [netEq]; exact E.out), by (repeat (first | with_reducible exact Ge.refl _ | assumption | with_reducible refine Ge.drew ?_ | with_reducible refine Ge.drewN ?_ _ | with_reducible refine Ge.alloc ?_ _ | (with_reducible refine Ge.setCell ?_ (by first | (simp; done) | omega | (simp; omega)) _) | with_reducible refine Ge.trans ?_ (by assumption)))⟩
      · have t : (a3 != b3) = true := by simp [h3]
        have E := Lib.hid h3
        clear h3 ha hb'
        go_enter Try.func19, Try.ntmps19
        go_wp2_with fail
        go_ret
        exact ⟨ret_bool (by simp [netEq, E.out]), by (repeat (first | with_reducible exact Ge.refl _ | assumption | with_reducible refine Ge.drew ?_ | with_reducible refine Ge.drewN ?_ _ | with_reducible refine Ge.alloc ?_ _ | (with_reducible refine Ge.setCell ?_ (by first | (simp; done) | omega | (simp; omega)) _) | with_reducible refine Ge.trans ?_ (by assumption)))⟩
    · have t : (a2 != b2) = true := by simp [h2]
      have E := Lib.hid h2
      clear h2 ha hb'
      go_enter Try.func19, Try.ntmps19
      go_wp2_with fail
      go_ret
      exact ⟨ret_bool (by simp [netEq, E.out]), by (repeat (first | with_reducible exact Ge.refl _ | assumption | with_reducible refine Ge.drew ?_ | with_reducible refine Ge.drewN ?_ _ | with_reducible refine Ge.alloc ?_ _ | (with_reducible refine Ge.setCell ?_ (by first | (simp; done) | omega | (simp; omega)) _) | with_reducible refine Ge.trans ?_ (by assumption)))⟩
  · have t : (a1 != b1) = true := by simp [h1]
    have E := Lib.hid h1
    clear h1 ha hb'
    go_enter Try.func19, Try.ntmps19
    go_wp2_with fail
    go_ret
    exact ⟨ret_bool (by simp [netEq, E.out]), by (repeat (first | with_reducible exact Ge.refl _ | assumption | with_reducible refine Ge.drew ?_ | with_reducible refine Ge.drewN ?_ _ | with_reducible refine Ge.alloc ?_ _ | (with_reducible refine Ge.setCell ?_ (by first | (simp; done) | omega | (simp; omega)) _) | with_reducible refine Ge.trans ?_ (by assumption)))⟩

/-- The slice of wires in a network's value. -/
def wiresOf : Value → Value
  | .agg c => c.getD 3 undef
  | v => v

set_option maxHeartbeats 800000 in
theorem lMarkNet (base : Nat) (a1 a2 a3 : Int) (s : Value) (n : Nat) (xs : List Int) (k : Int) (w : World) (h : w.ownsRow base 56 3 s n (icells xs)) (hk0 : 0 ≤ k) (hk : k + n * 3 ≤ 4611686018427387904) :
    Calls Try.prog 25 #[.agg #[.int .i64 a1, .int .i64 a2, .int .i64 a3, s], .int .i64 k] w fun en w' => en = .returned (.int .i64 (k + n * 3)) ∧ Mine w w' s ∧ w'.ownsRow base 56 3 s n (icells (upFrom k (n * 3))) := by
  have HO := Lib.hid h
  clear h
  go_enter Try.func25, Try.ntmps25
  go_wp2_with (go_at_call 68; ((with_reducible refine (lMarkWireS _ _ s n xs k _ (Ge.owns (by (repeat (first | with_reducible exact Ge.refl _ | assumption | with_reducible refine Ge.drew ?_ | with_reducible refine Ge.drewN ?_ _ | with_reducible refine Ge.alloc ?_ _ | (with_reducible refine Ge.setCell ?_ (by first | (simp; done) | omega | (simp; omega)) _) | with_reducible refine Ge.trans ?_ (by assumption)))) HO.out) hk0 hk).mono ?_); rintro e w' ⟨rfl, hm, ho⟩))
  go_ret
  exact ⟨rfl, Mine.alloc _ hm, ho⟩

set_option maxHeartbeats 800000 in
theorem lHeldNet (a1 a2 a3 : Int) (s : Value) (n : Nat) (k : Int) (w : World) (h : Sl w s n 3 (icells (upFrom k (n * 3)))) (hk0 : 0 ≤ k) (hk : k + n * 3 ≤ 4611686018427387904) :
    Calls Try.prog 26 #[.agg #[.int .i64 a1, .int .i64 a2, .int .i64 a3, s], .int .i64 k] w fun en w' => en = .returned (.int .i64 (k + n * 3)) ∧ Ge w w' := by
  have HO := Lib.hid h
  clear h
  have t : decide (k + (n : Int) * 3 < 0) = false := by simp; omega
  go_enter Try.func26, Try.ntmps26
  go_wp2_with (go_at_call 69; ((with_reducible refine (lHeldWireS s n k _ (Sl.ge HO.out (by (repeat (first | with_reducible exact Ge.refl _ | assumption | with_reducible refine Ge.drew ?_ | with_reducible refine Ge.drewN ?_ _ | with_reducible refine Ge.alloc ?_ _ | (with_reducible refine Ge.setCell ?_ (by first | (simp; done) | omega | (simp; omega)) _) | with_reducible refine Ge.trans ?_ (by assumption))))) hk0 hk).mono ?_); rintro e w' ⟨rfl, rfl⟩))
  go_ret
  exact ⟨rfl, by (repeat (first | with_reducible exact Ge.refl _ | assumption | with_reducible refine Ge.drew ?_ | with_reducible refine Ge.drewN ?_ _ | with_reducible refine Ge.alloc ?_ _ | (with_reducible refine Ge.setCell ?_ (by first | (simp; done) | omega | (simp; omega)) _) | with_reducible refine Ge.trans ?_ (by assumption)))⟩
end Go.Proofs.Ytppabikbepdobaa
