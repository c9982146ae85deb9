/- Slices of slices of integers: toIntSS, eqIntSS, szIntSS. No condition. Slices of squares as a law's argument: toSquare, toSquareS, eqSquareS. The laws of TilingOk, HeightOf, WidthOf, walked. No condition. Plain law: the sizes of a tiling's squares, sorted and compact. No program in sight. SizesOf, HasEqualSquares of impl and of the reference; the library's Sort and Compact of integers. No condition. The law of SizesOf, walked. No condition. -/
import Derived.Test.YtenfkpdbfmeebaaJAf
import Derived.Test.YtenfkpdbfmeebaaWToInt
import Derived.Test.YtenfkpdbfmeebaaWFlat
import Derived.Test.YtenfkpdbfmeebaaPlTile
import Derived.Test.YtenfkpdbfmeebaaWEqInt
import Derived.Test.YtenfkpdbfmeebaaWTyInt
import Derived.Test.YtenfkpdbfmeebaaShelf
import Derived.Below
import Derived.Lib.SlicesCompact
import Derived.Lib.RowBridge
import Derived.Deep.DeepCutAuto
import Derived.Deep.QuietTactic
import Derived.Sort.OwnSortedInts
namespace Go.Proofs.Ytenfkpdbfmeebaa
set_option maxRecDepth 100000
open Go.ChangeShapes Go.WideShapes Go.ChangeAt Go.RowKit Go.Joins

theorem own_someSS {w : World} {base g n cap m : Nat} {e : TypeId} {xs : List Value} (h : w.ownsRow base e m (.slice (some ⟨g, 0, none⟩) n cap) n xs) {j : Nat} (hj : j < n * m) : ∃ u, w.cell? ⟨g, j, none⟩ = some u := by
  have h1 := h.1
  exact ⟨xs[j]'(by omega), by rw [h.cellAt j hj]; exact List.getElem?_eq_getElem (by omega)⟩
theorem inf_rowSS : (Try.prog.info? 43).map (fun i => (i.zero, i.size, i.bytes)) = some (some (Value.slice none 0 0), 1, 24) := by kernel_rfl
theorem made_rowsSS (n : Nat) : (madeCells (Value.slice none 0 0).cells (n * 1)).toList = List.replicate n (Value.slice none 0 0) := by
  simp [madeCells, Value.cells, Nat.mod_one]
  rw [List.eq_replicate_iff]; simp

def RowsSS (w : World) (g : Nat) (R : List (List Int)) (cs : List Value) (j : Nat) : Prop :=
  ∀ i, i < j → ∃ pr cr, cs[i]? = some (.slice pr ((rowL R i).length) cr) ∧ w.ownsRow (g + 1) 3 1 (.slice pr ((rowL R i).length) cr) ((rowL R i).length) (icells (rowL R i))
theorem RowsSS.ge {w w' : World} {g : Nat} {R : List (List Int)} {cs : List Value} {j : Nat} (h : RowsSS w g R cs j) (hg : Ge w w') : RowsSS w' g R cs j := fun i hi => by
  obtain ⟨pr, cr, h1, h2⟩ := h i hi
  exact ⟨pr, cr, h1, hg.owns h2⟩
theorem RowsSS.set {w : World} {g : Nat} {R : List (List Int)} {cs : List Value} {j : Nat} (h : RowsSS w g R cs j) (hj : j < cs.length) {pr : Option Addr} {cr : Nat}
    (hv : w.ownsRow (g + 1) 3 1 (.slice pr ((rowL R j).length) cr) ((rowL R j).length) (icells (rowL R j))) :
    RowsSS (w.setCell ⟨g, j, none⟩ (.slice pr ((rowL R j).length) cr)) g R (cs.set j (.slice pr ((rowL R j).length) cr)) (j + 1) := fun i hi => by
  by_cases e : i = j
  · subst e
    exact ⟨pr, cr, by simp [hj], ownsRow_setCell_below hv (show g < g + 1 by omega) _⟩
  · obtain ⟨pr', cr', h1, h2⟩ := h i (by omega)
    exact ⟨pr', cr', by rw [List.getElem?_set_ne (by omega)]; exact h1, ownsRow_setCell_below h2 (show g < g + 1 by omega) _⟩

set_option maxHeartbeats 1600000 in
theorem lEqIntSS (va vb : Value) (n : Nat) (R : List (List Int)) (w : World) (ha : SlMI w va n R) (hb : SlMI w vb n R) (hm : n ≤ 1048576) (hr : ∀ i, i < n → (rowL R i).length ≤ 1048576) :
    Calls Try.prog 9 #[va, vb] w fun e w' => e = .returned (.bool true) ∧ Ge w w' := by
  obtain ⟨pa, ca, rfl, ha⟩ := ha
  obtain ⟨pb, cb, rfl, hb⟩ := hb
  have CA := Lib.hid ha
  have CB := Lib.hid hb
  have HR := Lib.hid hr
  clear ha hb hr
  have tn : ((n : Int) != (n : Int)) = false := by simp
  go_enter Try.func9, Try.ntmps9
  go_wp2_with fail
  go_loopw [5] (fun i wr => ∃ k : Nat, k ≤ n ∧ i = .int .i64 k ∧ Ge w wr) (fun i _ => n - (intOf i).toNat)
  case atStart => exact ⟨0, Nat.zero_le _, rfl, Ge.refl _⟩
  case round =>
    obtain ⟨k, hk, rfl, hg⟩ := hrel
    by_cases hlt : k < n
    · obtain ⟨b1, o1, p1, c1, rfl, x0, hs1⟩ := CA.out k hlt
      obtain ⟨b2, o2, p2, c2, rfl, y0, hs2⟩ := CB.out k hlt
      replace x0 := hg.keep x0
      replace y0 := hg.keep y0
      have hrk := HR.out k hlt
      have HE : Hid (∀ w', Ge wr w' → Calls Try.prog 28 #[.slice p1 (rowL R k).length c1, .slice p2 (rowL R k).length c2] w' fun e w'' => e = .returned (.bool true) ∧ Ge w' w'') := by
        show ∀ w', _
        intro w' g
        have := lEqIntS (.slice p1 (rowL R k).length c1) (.slice p2 (rowL R k).length c2) (rowL R k) (rowL R k) w' (SlI.ge hs1 (Ge.trans hg g)) (SlI.ge hs2 (Ge.trans hg g)) (by omega)
        rwa [show decide (rowL R k = rowL R k) = true by simp] at this
      clear hs1 hs2
      go_wp2_with fail
      have hS : ∀ w', Ge wr w' → (w'.cell? ⟨b1, o1 + k, none⟩ = some (.slice p1 ((rowL R k).length) c1) ∧ w'.cell? ⟨b2, o2 + k, none⟩ = some (.slice p2 ((rowL R k).length) c2) ∧ Ge wr w') := fun w' g => ⟨g.keep (by (repeat (first | assumption | with_reducible exact Ge.refl _ | with_reducible refine cv_drew ?_ | with_reducible refine cv_alloc ?_ | with_reducible refine cv_set ?_ | (with_reducible apply cv_some; assumption) | with_reducible refine cell_drew ?_ | with_reducible refine cell_drewN ?_ | ((with_reducible refine cell_new ?_ ?_); (focus (simp; done)); rfl) | with_reducible refine cell_alloc ?_ | with_reducible refine cell_same2 ?_ | ((with_reducible refine cell_set2 ?_ ?_); focus (first | (simp; done) | (intro hE; simp at hE; done) | (intro hE; simp at hE; omega))) | with_reducible refine Ge.drew ?_ | with_reducible refine Ge.drewN ?_ _ | with_reducible refine Ge.alloc ?_ _ | ((with_reducible refine Ge.setCell ?_ ?_ _); rotate_left; focus (first | (simp; done) | omega | (simp; omega))) | with_reducible refine Ge.trans ?_ (by assumption) | with_reducible refine Ge.keep (by assumption) ?_))), g.keep (by (repeat (first | assumption | with_reducible exact Ge.refl _ | with_reducible refine cv_drew ?_ | with_reducible refine cv_alloc ?_ | with_reducible refine cv_set ?_ | (with_reducible apply cv_some; assumption) | with_reducible refine cell_drew ?_ | with_reducible refine cell_drewN ?_ | ((with_reducible refine cell_new ?_ ?_); (focus (simp; done)); rfl) | with_reducible refine cell_alloc ?_ | with_reducible refine cell_same2 ?_ | ((with_reducible refine cell_set2 ?_ ?_); focus (first | (simp; done) | (intro hE; simp at hE; done) | (intro hE; simp at hE; omega))) | with_reducible refine Ge.drew ?_ | with_reducible refine Ge.drewN ?_ _ | with_reducible refine Ge.alloc ?_ _ | ((with_reducible refine Ge.setCell ?_ ?_ _); rotate_left; focus (first | (simp; done) | omega | (simp; omega))) | with_reducible refine Ge.trans ?_ (by assumption) | with_reducible refine Ge.keep (by assumption) ?_))), Ge.trans (by (repeat (first | assumption | with_reducible exact Ge.refl _ | with_reducible refine cv_drew ?_ | with_reducible refine cv_alloc ?_ | with_reducible refine cv_set ?_ | (with_reducible apply cv_some; assumption) | with_reducible refine cell_drew ?_ | with_reducible refine cell_drewN ?_ | ((with_reducible refine cell_new ?_ ?_); (focus (simp; done)); rfl) | with_reducible refine cell_alloc ?_ | with_reducible refine cell_same2 ?_ | ((with_reducible refine cell_set2 ?_ ?_); focus (first | (simp; done) | (intro hE; simp at hE; done) | (intro hE; simp at hE; omega))) | with_reducible refine Ge.drew ?_ | with_reducible refine Ge.drewN ?_ _ | with_reducible refine Ge.alloc ?_ _ | ((with_reducible refine Ge.setCell ?_ ?_ _); rotate_left; focus (first | (simp; done) | omega | (simp; omega))) | with_reducible refine Ge.trans ?_ (by assumption) | with_reducible refine Ge.keep (by assumption) ?_))) g⟩
      go_region_held3 (fun w' => w'.cell? ⟨b1, o1 + k, none⟩ = some (.slice p1 ((rowL R k).length) c1) ∧ w'.cell? ⟨b2, o2 + k, none⟩ = some (.slice p2 ((rowL R k).length) c2) ∧ Ge wr w') (first | ((with_reducible refine hS _ ?_); (repeat (first | assumption | with_reducible exact Ge.refl _ | with_reducible refine cv_drew ?_ | with_reducible refine cv_alloc ?_ | with_reducible refine cv_set ?_ | (with_reducible apply cv_some; assumption) | with_reducible refine cell_drew ?_ | with_reducible refine cell_drewN ?_ | ((with_reducible refine cell_new ?_ ?_); (focus (simp; done)); rfl) | with_reducible refine cell_alloc ?_ | with_reducible refine cell_same2 ?_ | ((with_reducible refine cell_set2 ?_ ?_); focus (first | (simp; done) | (intro hE; simp at hE; done) | (intro hE; simp at hE; omega))) | with_reducible refine Ge.drew ?_ | with_reducible refine Ge.drewN ?_ _ | with_reducible refine Ge.alloc ?_ _ | ((with_reducible refine Ge.setCell ?_ ?_ _); rotate_left; focus (first | (simp; done) | omega | (simp; omega))) | with_reducible refine Ge.trans ?_ (by assumption) | with_reducible refine Ge.keep (by assumption) ?_)); done) | fail) (first | (go_at_call 28; ((with_reducible refine (HE.out _ ‹_ ∧ _ ∧ Ge wr _›.2.2).mono ?_); rintro e w' ⟨rfl, hb⟩); have hz := Ge.size hb; (try simp at hz)) | fail)
      rename_i hHeldX
      obtain ⟨q0, q1, G7⟩ := hHeldX
      clear hS
      go_wp2_with fail
      go_roundw
      case rel => exact ⟨k + 1, by omega, by go_num, by (repeat (first | with_reducible exact Ge.refl _ | assumption | with_reducible refine Ge.drew ?_ | with_reducible refine Ge.drewN ?_ _ | with_reducible refine Ge.alloc ?_ _ | (with_reducible refine Ge.setCell ?_ (by first | (simp; done) | omega | (simp; omega)) _) | with_reducible refine Ge.trans ?_ (by assumption)))⟩
      case measure => simp [intOf]; omega
    · go_wp2_with fail
      go_ret
      exact ⟨rfl, by (repeat (first | with_reducible exact Ge.refl _ | assumption | with_reducible refine Ge.drew ?_ | with_reducible refine Ge.drewN ?_ _ | with_reducible refine Ge.alloc ?_ _ | (with_reducible refine Ge.setCell ?_ (by first | (simp; done) | omega | (simp; omega)) _) | with_reducible refine Ge.trans ?_ (by assumption)))⟩

/-- What is left of L behind the sizes of the rows. -/
def szS1 (R : List (List Int)) : Nat → Int → Int
  | 0, L => L
  | k + 1, L => if L - ((rowL R (R.length - (k + 1))).length : Int) < 0 then -1 else szS1 R k (L - ((rowL R (R.length - (k + 1))).length : Int))
def szSS (L : Int) (R : List (List Int)) : Int := if L - R.length < 0 then -1 else szS1 R R.length (L - R.length)
theorem szS1_small (R : List (List Int)) : ∀ (k : Nat) (L : Int), k ≤ R.length → 0 ≤ L → 0 ≤ szS1 R k L → ∀ i, R.length - k ≤ i → i < R.length → ((rowL R i).length : Int) ≤ L
  | 0, L, _, _, _, i, h1, h2 => by omega
  | k + 1, L, hk, hL, h, i, h1, h2 => by
    simp only [szS1] at h
    split at h
    · omega
    · by_cases e : i = R.length - (k + 1)
      · subst e; omega
      · have := szS1_small R k _ (by omega) (by omega) h i (by omega) h2
        omega
theorem szSS_small {R : List (List Int)} (h : 0 ≤ szSS 1048576 R) : R.length ≤ 1048576 ∧ ∀ i, i < R.length → (rowL R i).length ≤ 1048576 := by
  unfold szSS at h
  split at h
  · omega
  · refine ⟨by omega, fun i hi => ?_⟩
    have := szS1_small R R.length _ (Nat.le_refl _) (by omega) h i (by omega) hi
    omega

end Go.Proofs.Ytenfkpdbfmeebaa

namespace Go.Proofs.Ytenfkpdbfmeebaa
set_option maxRecDepth 100000
open Go.ChangeShapes Go.WideShapes Go.ChangeAt Go.RowKit Go.Joins

theorem lToSquareQ (x y z : Int) (w : World) :
    Calls Try.prog 23 #[.agg #[.int .i64 x, .int .i64 y, .int .i64 z]] w fun e w' => e = .returned (.agg #[.int .i64 x, .int .i64 y, .int .i64 z]) ∧ Ge w w' := by
  go_enter Try.func23, Try.ntmps23
  go_wp2_with fail
  exact bodyPost_ret (v := .agg #[.int .i64 x, .int .i64 y, .int .i64 z]) (by simp [results, Try.results23, go_sem]) rfl ⟨rfl, by (repeat (first | with_reducible exact Ge.refl _ | assumption | with_reducible refine Ge.drew ?_ | with_reducible refine Ge.drewN ?_ _ | with_reducible refine Ge.alloc ?_ _ | (with_reducible refine Ge.setCell ?_ (by first | (simp; done) | omega | (simp; omega)) _) | with_reducible refine Ge.trans ?_ (by assumption)))⟩

theorem inf_sq : (Try.prog.info? 45).map (fun i => (i.zero, i.size, i.bytes)) = some (some (Value.agg #[.int .i64 0, .int .i64 0, .int .i64 0]), 3, 24) := by kernel_rfl
theorem made_sq (n : Nat) : (madeCells (Value.agg #[.int .i64 0, .int .i64 0, .int .i64 0]).cells (n * 3)).toList = icells (List.replicate (n * 3) 0) := by
  apply List.ext_getElem?
  intro j
  have h3 : ((Value.agg #[.int .i64 0, .int .i64 0, .int .i64 0]).cells) = #[.int .i64 0, .int .i64 0, .int .i64 0] := rfl
  by_cases hj : j < n * 3
  · have h4 : j % 3 = 0 ∨ j % 3 = 1 ∨ j % 3 = 2 := by omega
    rcases h4 with h4 | h4 | h4 <;> simp [madeCells, icells, h3, hj, h4]
  · simp [madeCells, icells, hj]

theorem own_some {w : World} {base g n cap m : Nat} {e : TypeId} {xs : List Value} (h : w.ownsRow base e m (.slice (some ⟨g, 0, none⟩) n cap) n xs) {j : Nat} (hj : j < n * m) : ∃ u, w.cell? ⟨g, j, none⟩ = some u := by
  rw [h.cellAt j hj]
  exact ⟨_, List.getElem?_eq_getElem (by have := h.1; omega)⟩
/-- Three cells of a row, written one behind the other. -/
theorem own_three {w w0 : World} {base g n cap : Nat} {e : TypeId} {l : List Int} (h : w.ownsRow base e 3 (.slice (some ⟨g, 0, none⟩) n cap) n (icells l)) (hg : Ge w0 w) (h0 : w0.heap.size ≤ g) (j : Nat) (a b c : Int) :
    (((w.setCell ⟨g, j, none⟩ (.int .i64 a)).setCell ⟨g, j + 1, none⟩ (.int .i64 b)).setCell ⟨g, j + 2, none⟩ (.int .i64 c)).ownsRow base e 3 (.slice (some ⟨g, 0, none⟩) n cap) n (icells (((l.set j a).set (j + 1) b).set (j + 2) c)) ∧
    Ge w0 (((w.setCell ⟨g, j, none⟩ (.int .i64 a)).setCell ⟨g, j + 1, none⟩ (.int .i64 b)).setCell ⟨g, j + 2, none⟩ (.int .i64 c)) := by
  have h1 := h.stored j (.int .i64 a)
  have h2 := h1.1.stored (j + 1) (.int .i64 b)
  have h3 := h2.1.stored (j + 2) (.int .i64 c)
  refine ⟨by have := h3.1; rwa [icells_set, icells_set, icells_set] at this, ?_⟩
  have k : ∀ k, some g = some k → w0.heap.size ≤ k := fun k hk => by simp at hk; omega
  exact ((hg.grown h1.2 k).grown h2.2 k).grown h3.2 k

set_option maxHeartbeats 800000 in
theorem lToSquareS (v : Value) (n : Nat) (l : List Int) (w : World) (hv : SlF w v n 3 l) (hm : n ≤ 1048576) :
    Calls Try.prog 7 #[v] w fun e w' => ∃ v', e = .returned v' ∧ w'.ownsRow w.heap.size 45 3 v' n (icells l) ∧ Ge w w' := by
  have hn := hv.length
  obtain ⟨pv, cv', rfl, hc⟩ := hv.open
  have HC := Lib.hid hc
  have HP := Lib.hid (fun k (hk : k < n * 3) => part_step l k (by omega))
  have H0 : Hid (part l 0 = List.replicate (n * 3) 0) := by rw [part_zero, hn]; exact rfl
  have HA : Hid (part l (n * 3) = l) := by rw [← hn]; exact part_all l
  clear hv hc hn
  go_enter Try.func7, Try.ntmps7
  go_wp2_with (at_make; refine mk1 rfl _ _ _ rfl 45 _ 3 24 Try.underlying26 inf_sq (by decide) n rfl rfl (by omega) ?_; intro w1 own1 g1)
  rw [made_sq, ← H0.out] at own1
  go_loopw [4] (fun i wr => ∃ j : Nat, j ≤ n ∧ i = .int .i64 j ∧ wr.ownsRow w.heap.size 45 3 (.slice (some ⟨w.heap.size, 0, none⟩) n n) n (icells (part l (j * 3))) ∧ Ge w wr) (fun i _ => n - (intOf i).toNat)
  case atStart => exact ⟨0, Nat.zero_le _, rfl, own1, g1⟩
  case round =>
    obtain ⟨j, hj, rfl, hown, hg⟩ := hrel
    by_cases hlt : j < n
    · obtain ⟨b, o, rfl, x0, x1, x2⟩ := three_cells HC.out hlt
      have y0 := hg.keep x0
      have y1 := hg.keep x1
      have y2 := hg.keep x2
      clear x0 x1 x2
      have K1 : j * 3 < n * 3 := by omega
      have K2 : j * 3 + 1 < n * 3 := by omega
      have K3 : j * 3 + 2 < n * 3 := by omega
      have H5 : Hid ((((part l (j * 3)).set (j * 3) (nth l (j * 3))).set (j * 3 + 1) (nth l (j * 3 + 1))).set (j * 3 + 2) (nth l (j * 3 + 2)) = part l ((j + 1) * 3)) := by
        show _ = _
        rw [HP.out _ K1, HP.out _ K2, HP.out _ K3, show j * 3 + 2 + 1 = (j + 1) * 3 by omega]
      go_wp2_with (go_at_call 23; ((with_reducible refine (lToSquareQ _ _ _ _).mono ?_); rintro e w' ⟨rfl, hb⟩; have own2 := Ge.owns hb hown; have f0 := own2.frozenAt (j * 3); have f1 := own2.frozenAt (j * 3 + 1); have f2 := own2.frozenAt (j * 3 + 2); obtain ⟨u0, hu0⟩ := own_some own2 K1; obtain ⟨u1, hu1⟩ := own_some own2 K2; obtain ⟨u2, hu2⟩ := own_some own2 K3; have HT := Lib.hid (own_three own2 (Ge.trans hg hb) (Nat.le_refl _) (j * 3) (nth l (j * 3)) (nth l (j * 3 + 1)) (nth l (j * 3 + 2))); clear own2))
      go_roundw
      case rel => exact ⟨j + 1, by omega, by go_num, by have := HT.out.1; rwa [H5.out] at this, HT.out.2⟩
      case measure => simp [intOf]; omega
    · have hjn : j = n := by omega
      subst hjn
      rw [HA.out] at hown
      go_wp2_with fail
      go_ret
      exact ⟨_, rfl, hown, hg⟩
def eqQ (a b c x y z : Int) : Bool := decide (a = x) && decide (b = y) && decide (c = z)

set_option maxHeartbeats 400000 in
theorem lEqSquare (a b c x y z : Int) (w : World) :
    Calls Try.prog 29 #[.agg #[.int .i64 a, .int .i64 b, .int .i64 c], .agg #[.int .i64 x, .int .i64 y, .int .i64 z]] w fun e w' => e = .returned (.bool (eqQ a b c x y z)) ∧ Ge w w' := by
  by_cases h1 : a = x
  · subst h1
    by_cases h2 : b = y
    · subst h2
      by_cases h3 : c = z
      · subst h3
        go_enter Try.func29, Try.ntmps29
        go_wp2_with fail
        go_ret
        exact ⟨ret_bool (by simp [eqQ]), by (repeat (first | with_reducible exact Ge.refl _ | assumption | with_reducible refine Ge.drew ?_ | with_reducible refine Ge.drewN ?_ _ | with_reducible refine Ge.alloc ?_ _ | (with_reducible refine Ge.setCell ?_ (by first | (simp; done) | omega | (simp; omega)) _) | with_reducible refine Ge.trans ?_ (by assumption)))⟩
      · have t : (c != z) = true := by simp [h3]
        have t' := Lib.hid h3
        clear h3
        go_enter Try.func29, Try.ntmps29
        go_wp2_with fail
        go_ret
        exact ⟨ret_bool (by simp [eqQ, t'.out]), by (repeat (first | with_reducible exact Ge.refl _ | assumption | with_reducible refine Ge.drew ?_ | with_reducible refine Ge.drewN ?_ _ | with_reducible refine Ge.alloc ?_ _ | (with_reducible refine Ge.setCell ?_ (by first | (simp; done) | omega | (simp; omega)) _) | with_reducible refine Ge.trans ?_ (by assumption)))⟩
    · have t : (b != y) = true := by simp [h2]
      have t' := Lib.hid h2
      clear h2
      go_enter Try.func29, Try.ntmps29
      go_wp2_with fail
      go_ret
      exact ⟨ret_bool (by simp [eqQ, t'.out]), by (repeat (first | with_reducible exact Ge.refl _ | assumption | with_reducible refine Ge.drew ?_ | with_reducible refine Ge.drewN ?_ _ | with_reducible refine Ge.alloc ?_ _ | (with_reducible refine Ge.setCell ?_ (by first | (simp; done) | omega | (simp; omega)) _) | with_reducible refine Ge.trans ?_ (by assumption)))⟩
  · have t : (a != x) = true := by simp [h1]
    have t' := Lib.hid h1
    clear h1
    go_enter Try.func29, Try.ntmps29
    go_wp2_with fail
    go_ret
    exact ⟨ret_bool (by simp [eqQ, t'.out]), by (repeat (first | with_reducible exact Ge.refl _ | assumption | with_reducible refine Ge.drew ?_ | with_reducible refine Ge.drewN ?_ _ | with_reducible refine Ge.alloc ?_ _ | (with_reducible refine Ge.setCell ?_ (by first | (simp; done) | omega | (simp; omega)) _) | with_reducible refine Ge.trans ?_ (by assumption)))⟩

theorem same_stepQ {xs ys : List Int} {k : Nat} (h : Hid (∀ j, j < k → ∀ i, i < 3 → nth xs (j * 3 + i) = nth ys (j * 3 + i)))
    (he : eqQ (nth xs (k * 3)) (nth xs (k * 3 + 1)) (nth xs (k * 3 + 2)) (nth ys (k * 3)) (nth ys (k * 3 + 1)) (nth ys (k * 3 + 2)) = true) :
    Hid (∀ j, j < k + 1 → ∀ i, i < 3 → nth xs (j * 3 + i) = nth ys (j * 3 + i)) := by
  intro j h1 i hi
  by_cases e : j = k
  · subst e
    simp [eqQ] at he
    obtain ⟨⟨e1, e2⟩, e3⟩ := he
    match i, hi with
    | 0, _ => exact e1
    | 1, _ => exact e2
    | 2, _ => exact e3
  · exact h.out j (by omega) i hi

set_option maxHeartbeats 800000 in
theorem lEqSquareS (va vb : Value) (n m : Nat) (xs ys : List Int) (w : World) (ha : SlF w va n 3 xs) (hb : SlF w vb m 3 ys) (hm : n ≤ 4611686018427387904) :
    Calls Try.prog 10 #[va, vb] w fun e w' => e = .returned (.bool (decide (xs = ys))) ∧ Ge w w' := by
  have lx := ha.length
  have ly := hb.length
  obtain ⟨pa, ca, rfl, ca'⟩ := ha.open
  obtain ⟨pb, cb, rfl, cb'⟩ := hb.open
  have HX := Lib.hid lx
  have HY := Lib.hid ly
  clear lx ly ha hb
  by_cases hl : n = m
  · subst hl
    go_enter Try.func10, Try.ntmps10
    go_wp2_with fail
    go_loopw [5] (fun i wr => ∃ k : Nat, k ≤ n ∧ i = .int .i64 k ∧ Hid (∀ j, j < k → ∀ i, i < 3 → nth xs (j * 3 + i) = nth ys (j * 3 + i)) ∧ Ge w wr) (fun i _ => n - (intOf i).toNat)
    case atStart => exact ⟨0, Nat.zero_le _, rfl, fun j h1 => by omega, Ge.refl _⟩
    case round =>
      obtain ⟨k, hk, rfl, HS, hg⟩ := hrel
      by_cases hlt : k < n
      · obtain ⟨b1, o1, rfl, x1, x2, x3⟩ := three_cells ca' hlt
        obtain ⟨b2, o2, rfl, y1, y2, y3⟩ := three_cells cb' hlt
        have x1 := hg.keep x1
        have x2 := hg.keep x2
        have x3 := hg.keep x3
        have y1 := hg.keep y1
        have y2 := hg.keep y2
        have y3 := hg.keep y3
        clear ca' cb'
        cases he : eqQ (nth xs (k * 3)) (nth xs (k * 3 + 1)) (nth xs (k * 3 + 2)) (nth ys (k * 3)) (nth ys (k * 3 + 1)) (nth ys (k * 3 + 2)) with
        | true =>
          go_wp2_with fail
          go_region_held3 (fun w' => w'.cell? ⟨b1, o1 + k * 3, none⟩ = some (.int .i64 (nth xs (k * 3))) ∧ w'.cell? ⟨b1, o1 + k * 3 + 1, none⟩ = some (.int .i64 (nth xs (k * 3 + 1))) ∧ w'.cell? ⟨b1, o1 + k * 3 + 2, none⟩ = some (.int .i64 (nth xs (k * 3 + 2))) ∧ w'.cell? ⟨b2, o2 + k * 3, none⟩ = some (.int .i64 (nth ys (k * 3))) ∧ w'.cell? ⟨b2, o2 + k * 3 + 1, none⟩ = some (.int .i64 (nth ys (k * 3 + 1))) ∧ w'.cell? ⟨b2, o2 + k * 3 + 2, none⟩ = some (.int .i64 (nth ys (k * 3 + 2))) ∧ Ge w w') (first | exact ⟨hb.keep (‹_ ∧ _ ∧ _ ∧ _ ∧ _ ∧ _ ∧ _›).1, hb.keep (‹_ ∧ _ ∧ _ ∧ _ ∧ _ ∧ _ ∧ _›).2.1, hb.keep (‹_ ∧ _ ∧ _ ∧ _ ∧ _ ∧ _ ∧ _›).2.2.1, hb.keep (‹_ ∧ _ ∧ _ ∧ _ ∧ _ ∧ _ ∧ _›).2.2.2.1, hb.keep (‹_ ∧ _ ∧ _ ∧ _ ∧ _ ∧ _ ∧ _›).2.2.2.2.1, hb.keep (‹_ ∧ _ ∧ _ ∧ _ ∧ _ ∧ _ ∧ _›).2.2.2.2.2.1, Ge.trans (‹_ ∧ _ ∧ _ ∧ _ ∧ _ ∧ _ ∧ _›).2.2.2.2.2.2 hb⟩ | exact ⟨(by first | assumption | (simp; done) | (simp [*]; done)), (by first | assumption | (simp; done) | (simp [*]; done)), (by first | assumption | (simp; done) | (simp [*]; done)), (by first | assumption | (simp; done) | (simp [*]; done)), (by first | assumption | (simp; done) | (simp [*]; done)), (by first | assumption | (simp; done) | (simp [*]; done)), (by (repeat (first | with_reducible exact Ge.refl _ | assumption | with_reducible refine Ge.drew ?_ | with_reducible refine Ge.drewN ?_ _ | with_reducible refine Ge.alloc ?_ _ | (with_reducible refine Ge.setCell ?_ (by first | (simp; done) | omega | (simp; omega)) _) | with_reducible refine Ge.trans ?_ (by assumption))))⟩) (first | (go_at_call 29; ((with_reducible refine (lEqSquare _ _ _ _ _ _ _).mono ?_); rintro e w' ⟨rfl, hb⟩)) | fail)
          go_wp2_with fail
          go_roundw
          case rel => exact ⟨k + 1, by omega, by go_num, same_stepQ HS he, by (repeat (first | with_reducible exact Ge.refl _ | assumption | with_reducible refine Ge.drew ?_ | with_reducible refine Ge.drewN ?_ _ | with_reducible refine Ge.alloc ?_ _ | (with_reducible refine Ge.setCell ?_ (by first | (simp; done) | omega | (simp; omega)) _) | with_reducible refine Ge.trans ?_ (by assumption)))⟩
          case measure => simp [intOf]; omega
        | false =>
          go_wp2_with fail
          go_region_held3 (fun w' => w'.cell? ⟨b1, o1 + k * 3, none⟩ = some (.int .i64 (nth xs (k * 3))) ∧ w'.cell? ⟨b1, o1 + k * 3 + 1, none⟩ = some (.int .i64 (nth xs (k * 3 + 1))) ∧ w'.cell? ⟨b1, o1 + k * 3 + 2, none⟩ = some (.int .i64 (nth xs (k * 3 + 2))) ∧ w'.cell? ⟨b2, o2 + k * 3, none⟩ = some (.int .i64 (nth ys (k * 3))) ∧ w'.cell? ⟨b2, o2 + k * 3 + 1, none⟩ = some (.int .i64 (nth ys (k * 3 + 1))) ∧ w'.cell? ⟨b2, o2 + k * 3 + 2, none⟩ = some (.int .i64 (nth ys (k * 3 + 2))) ∧ Ge w w') (first | exact ⟨hb.keep (‹_ ∧ _ ∧ _ ∧ _ ∧ _ ∧ _ ∧ _›).1, hb.keep (‹_ ∧ _ ∧ _ ∧ _ ∧ _ ∧ _ ∧ _›).2.1, hb.keep (‹_ ∧ _ ∧ _ ∧ _ ∧ _ ∧ _ ∧ _›).2.2.1, hb.keep (‹_ ∧ _ ∧ _ ∧ _ ∧ _ ∧ _ ∧ _›).2.2.2.1, hb.keep (‹_ ∧ _ ∧ _ ∧ _ ∧ _ ∧ _ ∧ _›).2.2.2.2.1, hb.keep (‹_ ∧ _ ∧ _ ∧ _ ∧ _ ∧ _ ∧ _›).2.2.2.2.2.1, Ge.trans (‹_ ∧ _ ∧ _ ∧ _ ∧ _ ∧ _ ∧ _›).2.2.2.2.2.2 hb⟩ | exact ⟨(by first | assumption | (simp; done) | (simp [*]; done)), (by first | assumption | (simp; done) | (simp [*]; done)), (by first | assumption | (simp; done) | (simp [*]; done)), (by first | assumption | (simp; done) | (simp [*]; done)), (by first | assumption | (simp; done) | (simp [*]; done)), (by first | assumption | (simp; done) | (simp [*]; done)), (by (repeat (first | with_reducible exact Ge.refl _ | assumption | with_reducible refine Ge.drew ?_ | with_reducible refine Ge.drewN ?_ _ | with_reducible refine Ge.alloc ?_ _ | (with_reducible refine Ge.setCell ?_ (by first | (simp; done) | omega | (simp; omega)) _) | with_reducible refine Ge.trans ?_ (by assumption))))⟩) (first | (go_at_call 29; ((with_reducible refine (lEqSquare _ _ _ _ _ _ _).mono ?_); rintro e w' ⟨rfl, hb⟩)) | fail)
          go_wp2_with fail
          go_ret
          refine ⟨ret_bool ?_, by (repeat (first | with_reducible exact Ge.refl _ | assumption | with_reducible refine Ge.drew ?_ | with_reducible refine Ge.drewN ?_ _ | with_reducible refine Ge.alloc ?_ _ | (with_reducible refine Ge.setCell ?_ (by first | (simp; done) | omega | (simp; omega)) _) | with_reducible refine Ge.trans ?_ (by assumption)))⟩
          have h' : ¬ xs = ys := fun e => by rw [e] at he; simp [eqQ] at he
          simp [h']
      · go_wp2_with fail
        go_ret
        refine ⟨ret_bool ?_, by (repeat (first | with_reducible exact Ge.refl _ | assumption | with_reducible refine Ge.drew ?_ | with_reducible refine Ge.drewN ?_ _ | with_reducible refine Ge.alloc ?_ _ | (with_reducible refine Ge.setCell ?_ (by first | (simp; done) | omega | (simp; omega)) _) | with_reducible refine Ge.trans ?_ (by assumption)))⟩
        have h' : xs = ys := same_rows HX.out HY.out (fun j hj => HS.out j (by omega))
        simp [h']
  · have h1 : ((n : Int) == (m : Int)) = false := by simp; omega
    have h2 : ((n : Int) != (m : Int)) = true := by simp; omega
    go_enter Try.func10, Try.ntmps10
    go_wp2_with fail
    go_ret
    refine ⟨ret_bool ?_, by (repeat (first | with_reducible exact Ge.refl _ | assumption | with_reducible refine Ge.drew ?_ | with_reducible refine Ge.drewN ?_ _ | with_reducible refine Ge.alloc ?_ _ | (with_reducible refine Ge.setCell ?_ (by first | (simp; done) | omega | (simp; omega)) _) | with_reducible refine Ge.trans ?_ (by assumption)))⟩
    have h' : ¬ xs = ys := fun e => hl (by have := HX.out; have := HY.out; rw [e] at *; omega)
    simp [h']

theorem marked_step3 (l : List Int) (k : Int) (j : Nat) (h : j * 3 + 2 < l.length) :
    (((marked l k (j * 3)).set (j * 3) (k + j * 3)).set (j * 3 + 1) (k + j * 3 + 1)).set (j * 3 + 2) (k + j * 3 + 1 + 1) = marked l k ((j + 1) * 3) := by
  have e1 : k + (j : Int) * 3 = k + ((j * 3 : Nat) : Int) := by simp
  have e2 : k + (j : Int) * 3 + 1 = k + ((j * 3 + 1 : Nat) : Int) := by simp; omega
  have e3 : k + (j : Int) * 3 + 1 + 1 = k + ((j * 3 + 2 : Nat) : Int) := by simp; omega
  rw [e3, e2, e1, marked_step _ _ _ (by omega), marked_step _ _ _ (by omega), marked_step _ _ _ (by omega)]
  congr 1
  omega

end Go.Proofs.Ytenfkpdbfmeebaa

namespace Go.Proofs.Ytenfkpdbfmeebaa
set_option maxRecDepth 100000
open Go.ChangeShapes Go.WideShapes Go.ChangeAt Go.RowKit Go.Joins

theorem owns_capT {w : World} {base : Nat} {e : TypeId} {sz : Nat} {v : Value} {n : Nat} {xs : List Value} (h : w.ownsRow base e sz v n xs) : ∀ p c, v = .slice p n c → n ≤ c := by
  intro p c hv
  rcases h.2 with ⟨h', h0⟩ | ⟨g, cap, cur, h', _, _, hnc, _⟩
  · omega
  · subst h'
    simp at hv
    omega

def szI (L : Int) (n : Nat) : Int := if L - n < 0 then -1 else L - n
set_option maxHeartbeats 400000 in
theorem lSzSquareS (p : Option Addr) (n cap : Nat) (L : Int) (w : World) (hm : n ≤ 9223372036854775807) (h0 : 0 ≤ L) (h1 : L ≤ 1048576) :
    Calls Try.prog 5 #[.slice p n cap, .int .i64 L] w fun e w' => e = .returned (.int .i64 (szI L n)) ∧ w = w' := by
  by_cases h : L - n < 0
  · have HF : Hid (szI L n = -1) := by simp [szI, h, Lib.hid]
    go_enter Try.func5, Try.ntmps5
    go_wp2_with fail
    go_ret
    exact ⟨ret_int HF.out.symm, rfl⟩
  · have HF : Hid (szI L n = L - n) := by simp [szI, h, Lib.hid]
    go_enter Try.func5, Try.ntmps5
    go_wp2_with fail
    go_ret
    exact ⟨ret_int HF.out.symm, rfl⟩

end Go.Proofs.Ytenfkpdbfmeebaa

namespace Go.Proofs.Ytenfkpdbfmeebaa

open Go.RowKit Go.Lib

theorem comp_facts (d : Array Int) (hmono : ∀ i j, i ≤ j → j < d.size → d[i]! ≤ d[j]!) : ∀ m, m ≤ d.size → (compactUpTo d m).Pairwise (· < ·) ∧ (∀ x, x ∈ compactUpTo d m ↔ ∃ i, i < m ∧ d[i]! = x)
  | 0, _ => by simp [compactUpTo]
  | m + 1, hm => by
    obtain ⟨h1, h2⟩ := comp_facts d hmono m (by omega)
    rw [compactUpTo_succ]
    by_cases hk : keeps d m = true
    · rw [if_pos hk]
      simp only [keeps, decide_eq_true_eq] at hk
      refine ⟨List.pairwise_append.2 ⟨h1, by simp, fun x hx y hy => ?_⟩, fun x => ?_⟩
      · simp only [List.mem_cons, List.not_mem_nil, or_false] at hy
        subst hy
        obtain ⟨i, hi, rfl⟩ := (h2 x).1 hx
        have a1 := hmono i (m - 1) (by omega) (by omega)
        have a2 := hmono (m - 1) m (by omega) (by omega)
        rcases hk with h0 | h0
        · omega
        · omega
      · simp only [List.mem_append, List.mem_cons, List.not_mem_nil, or_false, h2]
        constructor
        · rintro (⟨i, hi, rfl⟩ | rfl)
          · exact ⟨i, by omega, rfl⟩
          · exact ⟨m, by omega, rfl⟩
        · rintro ⟨i, hi, rfl⟩
          by_cases e : i = m
          · right; rw [e]
          · left; exact ⟨i, by omega, rfl⟩
    · rw [if_neg hk, List.append_nil]
      refine ⟨h1, fun x => ?_⟩
      rw [h2]
      simp only [keeps, decide_eq_true_eq, not_or, Classical.not_not] at hk
      constructor
      · rintro ⟨i, hi, rfl⟩
        exact ⟨i, by omega, rfl⟩
      · rintro ⟨i, hi, rfl⟩
        by_cases e : i = m
        · exact ⟨m - 1, by omega, by rw [e]; exact hk.2.symm⟩
        · exact ⟨i, by omega, rfl⟩
theorem strict_ext : ∀ (l1 l2 : List Int), l1.Pairwise (· < ·) → l2.Pairwise (· < ·) → (∀ x, x ∈ l1 ↔ x ∈ l2) → l1 = l2
  | [], [], _, _, _ => rfl
  | [], b :: l2, _, _, h => by have := (h b).2 (by simp); simp at this
  | a :: l1, [], _, _, h => by have := (h a).1 (by simp); simp at this
  | a :: l1, b :: l2, h1, h2, h => by
    rw [List.pairwise_cons] at h1 h2
    have e : a = b := by
      rcases List.mem_cons.1 ((h a).1 (by simp)) with e | e
      · exact e
      · rcases List.mem_cons.1 ((h b).2 (by simp)) with e2 | e2
        · exact e2.symm
        · have := h1.1 b e2
          have := h2.1 a e
          omega
    subst e
    congr 1
    refine strict_ext l1 l2 h1.2 h2.2 fun x => ⟨fun hx => ?_, fun hx => ?_⟩
    · rcases List.mem_cons.1 ((h x).1 (List.mem_cons_of_mem _ hx)) with e | e
      · have := h1.1 x hx; omega
      · exact e
    · rcases List.mem_cons.1 ((h x).2 (List.mem_cons_of_mem _ hx)) with e | e
      · have := h2.1 x hx; omega
      · exact e
/-- The numbers from 1 to K that are in l. -/
def inUpto (l : List Int) (K : Nat) : List Int := ((List.range K).map (fun (i : Nat) => (i : Int) + 1)).filter (fun k => decide (k ∈ l))
theorem inUpto_strict (l : List Int) (K : Nat) : (inUpto l K).Pairwise (· < ·) := by
  unfold inUpto
  refine List.Pairwise.filter _ ?_
  rw [List.pairwise_map]
  exact List.pairwise_lt_range.imp (fun h => by omega)
theorem compact_sort (l : List Int) (K : Nat) (h : ∀ x ∈ l, 1 ≤ x ∧ x ≤ K) : compact (l.mergeSort fun x y => decide (x ≤ y)) = inUpto l K := by
  have hp : (l.mergeSort fun x y => decide (x ≤ y)).Pairwise (fun a b => decide (a ≤ b) = true) := List.pairwise_mergeSort (fun a b c h1 h2 => by simp at *; omega) (fun a b => by simp; omega) l
  generalize hL : (l.mergeSort fun x y => decide (x ≤ y)) = L at hp
  have hmem : ∀ x, x ∈ L ↔ x ∈ l := fun x => by rw [← hL]; exact List.mem_mergeSort
  have hmono : ∀ i j, i ≤ j → j < L.toArray.size → L.toArray[i]! ≤ L.toArray[j]! := fun i j hij hj => by
    have hj' : j < L.length := by simpa using hj
    rw [getElem!_pos L.toArray i (by omega), getElem!_pos L.toArray j hj]
    simp only [List.getElem_toArray]
    by_cases e : i = j
    · subst e; omega
    · have := List.pairwise_iff_getElem.1 hp i j (by omega) hj' (by omega)
      simpa using this
  obtain ⟨h1, h2⟩ := comp_facts L.toArray hmono L.length (by simp)
  refine strict_ext _ _ h1 (inUpto_strict l K) fun x => ?_
  unfold compact
  rw [h2]
  simp only [inUpto, List.mem_filter, List.mem_map, List.mem_range, decide_eq_true_eq]
  constructor
  · rintro ⟨i, hi, rfl⟩
    have hm : L.toArray[i]! ∈ l := by
      rw [← hmem, getElem!_pos L.toArray i (by simpa using hi)]
      simp
    have := h _ hm
    exact ⟨⟨(L.toArray[i]!).toNat - 1, by omega, by omega⟩, hm⟩
  · rintro ⟨_, hx⟩
    obtain ⟨i, hi, e⟩ := List.getElem_of_mem ((hmem x).2 hx)
    exact ⟨i, hi, by rw [getElem!_pos L.toArray i (by simpa using hi)]; simpa using e⟩
theorem compact_len (l : List Int) (K : Nat) (h : ∀ x ∈ l, 1 ≤ x ∧ x ≤ K) : (inUpto l K).length ≤ l.length := by
  rw [← compact_sort l K h]
  have := compact_length_le (l.mergeSort fun x y => decide (x ≤ y))
  simpa using this
/-- The sizes of the first k squares. -/
def sqSizes (xs : List Int) (k : Nat) : List Int := (List.range k).map (fun j => ss xs j)
theorem sqSizes_succ (xs : List Int) (k : Nat) : sqSizes xs (k + 1) = sqSizes xs k ++ [ss xs k] := by simp [sqSizes, List.range_succ]
theorem sqSizes_length (xs : List Int) (k : Nat) : (sqSizes xs k).length = k := by simp [sqSizes]
theorem sqSizes_in {xs : List Int} {n : Nat} (h : ∀ k, k < n → okSq xs k) : ∀ x ∈ sqSizes xs n, 1 ≤ x ∧ x ≤ 200 := fun x hx => by
  simp only [sqSizes, List.mem_map, List.mem_range] at hx
  obtain ⟨j, hj, rfl⟩ := hx
  have := h j hj
  unfold okSq at this
  omega
theorem inUpto_succ_t {l : List Int} {K : Nat} (h : ((K : Int) + 1) ∈ l) : inUpto l (K + 1) = inUpto l K ++ [(K : Int) + 1] := by simp [inUpto, List.range_succ, h]
theorem inUpto_succ_f {l : List Int} {K : Nat} (h : ¬ ((K : Int) + 1) ∈ l) : inUpto l (K + 1) = inUpto l K := by simp [inUpto, List.range_succ, h]
theorem inUpto_mem {l : List Int} {K : Nat} {x : Int} (h : x ∈ inUpto l K) : x ≤ K := by
  simp only [inUpto, List.mem_filter, List.mem_map, List.mem_range] at h
  obtain ⟨⟨i, hi, rfl⟩, _⟩ := h
  omega
noncomputable def sizesV (n : Nat) (xs : List Int) : List Int := if tileB n xs = true then inUpto (sqSizes xs n) 200 else []
theorem sizesV_t {n : Nat} {xs : List Int} (h : tileB n xs = true) : sizesV n xs = inUpto (sqSizes xs n) 200 := if_pos h
theorem sizesV_f {n : Nat} {xs : List Int} (h : tileB n xs = false) : sizesV n xs = [] := by unfold sizesV; rw [h]; rfl
noncomputable def equalB (n : Nat) (xs : List Int) : Bool := tileB n xs && decide ((sizesV n xs).length < n)
end Go.Proofs.Ytenfkpdbfmeebaa

namespace Go.Proofs.Ytenfkpdbfmeebaa
set_option maxRecDepth 100000
open Go.ChangeShapes Go.WideShapes Go.ChangeAt Go.RowKit Go.Joins

theorem own_setCellsZ {base g cap n : Nat} {e : TypeId} : ∀ (vs : List Int) (o : Nat) (w : World) (l : List Int), w.ownsRow base e 1 (.slice (some ⟨g, 0, none⟩) n cap) n (icells l) → l.length = n → o + vs.length = n →
    (w.setCells g o (vs.map (Value.int .i64))).ownsRow base e 1 (.slice (some ⟨g, 0, none⟩) n cap) n (icells (l.take o ++ vs)) ∧ w.grownBy (w.setCells g o (vs.map (Value.int .i64))) (some g)
  | [], o, w, l, h, hl, ho => by
    simp at ho
    have : l.take o = l := by rw [ho, ← hl]; exact List.take_length
    simp only [List.map_nil, World.setCells, List.append_nil, this]
    exact ⟨h, World.grownBy.refl _ _⟩
  | v :: r, o, w, l, h, hl, ho => by
    have h1 := h.stored o (.int .i64 v)
    rw [icells_set] at h1
    simp at ho
    have h2 := own_setCellsZ r (o + 1) _ (l.set o v) h1.1 (by simpa using hl) (by omega)
    simp only [List.map_cons, World.setCells]
    refine ⟨?_, grown_trans h1.2 h2.2⟩
    have e1 : (l.set o v).take (o + 1) ++ r = l.take o ++ v :: r := by
      rw [List.take_succ_eq_append_getElem (by simp; omega)]
      simp
      exact List.take_set_of_le (Nat.le_refl _)
    rw [← e1]; exact h2.1
/-- The head of a row that is owned. -/
theorem owns_take {w : World} {base g n c k : Nat} {e : TypeId} {xs : List Value} (h : w.ownsRow base e 1 (.slice (some ⟨g, 0, none⟩) n c) n xs) (hk : k ≤ n) : w.ownsRow base e 1 (.slice (some ⟨g, 0, none⟩) k c) k (xs.take k) := by
  obtain ⟨h1, h2⟩ := h
  refine ⟨by rw [List.length_take]; omega, ?_⟩
  rcases h2 with ⟨h', _⟩ | ⟨g', cap', cur, hv, hb, hheap, hn, hcap, hsz, ht⟩
  · simp at h'
  · simp only [Value.slice.injEq, Option.some.injEq, Addr.mk.injEq, and_true, true_and] at hv
    obtain ⟨rfl, rfl⟩ := hv
    refine .inr ⟨g, c, cur, rfl, hb, hheap, by omega, hcap, hsz, ?_⟩
    rw [← ht, List.take_take]
    congr 1
    omega
theorem ap_intB {w : World} {ops : Array Oper} {rest : List Oper} {o : Oper} {a : Act} {Q : Exit → Act → World → Prop} (hgd : o.guard = none) (s x : Operand)
    (ho : o.op = .call { callee := .builtin .append, args := #[s, x], argTypes := #[43, 43] })
    (base : Nat) (v : Value) (l : List Int) (hs : a.eval s = v) (hown : w.ownsRow base 3 1 v l.length (icells l))
    (y : Int) {b0 : Nat} (hx : a.eval x = .slice (some ⟨b0, 0, none⟩) 1 1) (hb0 : b0 = w.heap.size) (hn : l.length < 1099511627776) (hbase : base ≤ w.heap.size)
    (h : ∀ v' w', w'.ownsRow base 3 1 v' (l ++ [y]).length (icells (l ++ [y])) → Mine w w' v → wpList Try.prog ops Q rest (a.put o.dst v') w') :
    wpList Try.prog ops Q (o :: rest) a (w.alloc (.cells #[.int .i64 y] 3)) := by
  subst hb0
  exact ap_int hgd s x ho base v l hs hown y hx hn hbase h
theorem owns_nilZ (w : World) (base : Nat) (e : TypeId) : w.ownsRow base e 1 (.slice none 0 0) 0 [] := ⟨rfl, .inl ⟨rfl, rfl⟩⟩

theorem sL03HasZ (v : Value) (l : List Int) (x : Int) (w : World) (h : SlI w v l) (hm : l.length ≤ 1000000) :
    Calls Try.prog 65 #[v, .int .i64 x] w fun e w' => e = .returned (.bool (decide (x ∈ l))) ∧ w = w' := by
  obtain ⟨n, hn⟩ : ∃ n, l.length = n := ⟨_, rfl⟩
  obtain ⟨p, cap, rfl, hc⟩ := h.openN hn
  have HC := Lib.hid hc
  have HN := Lib.hid hn
  rw [hn] at hm
  clear h hc hn
  go_enter Try.func65, Try.ntmps65
  go_wp2_with fail
  go_loop [9] (fun i => ∃ k : Nat, k ≤ n ∧ i = .int .i64 k ∧ Hid (∀ j, j < k → ¬ nth l j = x)) (fun i => n - (intOf i).toNat)
  case atStart => exact ⟨0, Nat.zero_le _, rfl, fun j hj => by omega⟩
  case round =>
    obtain ⟨k, hk, rfl, HA⟩ := hrel
    by_cases hlt : k < n
    · obtain ⟨b, o, rfl, x0⟩ := HC.out k hlt
      by_cases c : nth l k = x
      · have HF : Hid (decide (x ∈ l) = true) := by
          show _ = _
          have hk' : k < l.length := by rw [HN.out]; exact hlt
          rw [nth_eq l k hk'] at c
          exact decide_eq_true (c ▸ List.getElem_mem hk')
        have t : (nth l k == x) = true := by simp [c]
        clear c
        go_wp2_with fail
        go_ret
        exact ⟨ret_bool HF.out.symm, rfl⟩
      · have HA2 : Hid (∀ j, j < k + 1 → ¬ nth l j = x) := fun j hj => by
          by_cases e : j = k
          · subst e; exact c
          · exact HA.out j (by omega)
        have t : (nth l k == x) = false := by simp [c]
        clear c
        go_wp2_with fail
        go_round
        case rel => exact ⟨k + 1, by omega, by go_num, HA2.out⟩
        case measure => simp [intOf]; omega
    · have hkn : k = n := by omega
      subst hkn
      have HF : Hid (decide (x ∈ l) = false) := by
        show _ = _
        refine decide_eq_false fun h => ?_
        obtain ⟨j, hj, e⟩ := List.getElem_of_mem h
        exact HA.out j (by rw [← HN.out]; exact hj) (by rw [nth_eq l j hj]; exact e)
      go_wp2_with fail
      go_ret
      exact ⟨ret_bool HF.out.symm, rfl⟩

theorem mem_snoc_sizes (xs : List Int) (k : Nat) (x : Int) : x ∈ sqSizes xs (k + 1) ↔ x ∈ sqSizes xs k ∨ ss xs k = x := by
  rw [sqSizes_succ]; simp only [List.mem_append, List.mem_cons, List.not_mem_nil, or_false]
  exact ⟨fun h => h.imp id Eq.symm, fun h => h.imp id Eq.symm⟩
/-- The sizes up to K, and the next one if the first j squares have it. -/
def upJ (xs : List Int) (n K j : Nat) : List Int := inUpto (sqSizes xs n) K ++ (if ((K : Int) + 1) ∈ sqSizes xs j then [(K : Int) + 1] else [])
theorem upJ_0 (xs : List Int) (n K : Nat) : upJ xs n K 0 = inUpto (sqSizes xs n) K := by simp [upJ, sqSizes]
theorem upJ_n (xs : List Int) (n K : Nat) : upJ xs n K n = inUpto (sqSizes xs n) (K + 1) := by
  unfold upJ
  by_cases h : ((K : Int) + 1) ∈ sqSizes xs n
  · rw [if_pos h, inUpto_succ_t h]
  · rw [if_neg h, inUpto_succ_f h, List.append_nil]
theorem upJ_same {xs : List Int} {n K j : Nat} (h : ¬ ss xs j = (K : Int) + 1 ∨ ((K : Int) + 1) ∈ upJ xs n K j) : upJ xs n K (j + 1) = upJ xs n K j := by
  unfold upJ
  by_cases c : ((K : Int) + 1) ∈ sqSizes xs j
  · rw [if_pos c, if_pos ((mem_snoc_sizes xs j _).2 (Or.inl c))]
  · rcases h with h | h
    · rw [if_neg c, if_neg (fun k => ((mem_snoc_sizes xs j _).1 k).elim c h)]
    · unfold upJ at h
      rw [if_neg c, List.append_nil] at h
      have := inUpto_mem h
      omega
theorem upJ_new {xs : List Int} {n K j : Nat} (h : ss xs j = (K : Int) + 1) (c : ¬ ((K : Int) + 1) ∈ upJ xs n K j) : upJ xs n K (j + 1) = upJ xs n K j ++ [(K : Int) + 1] := by
  have c2 : ¬ ((K : Int) + 1) ∈ sqSizes xs j := fun k => c (by unfold upJ; rw [if_pos k]; simp)
  unfold upJ
  rw [if_neg c2, if_pos ((mem_snoc_sizes xs j _).2 (Or.inr h)), List.append_nil]
theorem upJ_len (xs : List Int) (n K j : Nat) : (upJ xs n K j).length ≤ K + 1 := by
  unfold upJ inUpto
  rw [List.length_append]
  have h1 := List.length_filter_le (fun k => decide (k ∈ sqSizes xs n)) ((List.range K).map (fun (i : Nat) => (i : Int) + 1))
  rw [List.length_map, List.length_range] at h1
  split <;> simp <;> omega

end Go.Proofs.Ytenfkpdbfmeebaa

namespace Go.Proofs.Ytenfkpdbfmeebaa
set_option maxRecDepth 100000
open Go.ChangeShapes Go.WideShapes Go.ChangeAt Go.RowKit Go.Joins

/-- A younger row is not touched by what is done to an older one. -/
theorem owns_apart2 {w2 w w' : World} {b1 b2 e1 e2 s1 s2 : Nat} {v1 v2 : Value} {n1 n2 : Nat} {x1 x2 : List Value}
    (h2 : w2.ownsRow b2 e2 s2 v2 n2 x2) (h1 : w.ownsRow b1 e1 s1 v1 n1 x1) (hb : w2.heap.size ≤ b1) (hm : Mine w w' v2) : w'.ownsRow b1 e1 s1 v1 n1 x1 := by
  refine h1.kept hm ?_
  cases hv : v1.ownBlock with
  | none => exact .inl rfl
  | some k =>
    right
    intro e
    have := (h1.lt k hv).1
    have := (h2.lt k e.symm).2
    omega

set_option maxHeartbeats 800000 in
theorem lMarkSquareS (base e : Nat) (v : Value) (n : Nat) (xs : List Int) (k : Int) (w : World) (h : w.ownsRow base e 3 v n (icells xs)) (hk0 : 0 ≤ k) (hk : k + n * 3 ≤ 4611686018427387904) :
    Calls Try.prog 11 #[v, .int .i64 k] w fun en w' => en = .returned (.int .i64 (k + n * 3)) ∧ Mine w w' v ∧ w'.ownsRow base e 3 v n (icells (upFrom k (n * 3))) := by
  have hlen : xs.length = n * 3 := by have := h.1; rwa [icells_length] at this
  rcases owns_cases h with ⟨rfl, rfl⟩ | ⟨g, cap, rfl⟩
  · go_enter Try.func11, Try.ntmps11
    go_wp2_with fail
    go_loopw [1, 5] (fun m i wr => m = .int .i64 k ∧ i = .int .i64 0 ∧ w = wr) (fun _ _ _ => 0)
    case atStart => exact ⟨rfl, rfl, rfl⟩
    case round =>
      obtain ⟨rfl, rfl, rfl⟩ := hrel
      go_wp2_with fail
      go_ret
      have hx : xs = upFrom k 0 := by simpa [upFrom] using hlen
      exact ⟨ret_int (by simp), World.grownBy.refl _ _, by rw [← hx]; exact h⟩
  · have HN := Lib.hid hlen
    clear hlen
    go_enter Try.func11, Try.ntmps11
    go_wp2_with fail
    go_loopw [1, 5] (fun m i wr => ∃ j : Nat, j ≤ n ∧ i = .int .i64 j ∧ m = .int .i64 (k + j * 3) ∧ wr.ownsRow base e 3 (.slice (some ⟨g, 0, none⟩) n cap) n (icells (marked xs k (j * 3))) ∧ w.grownBy wr (some g)) (fun _ i _ => n - (intOf i).toNat)
    case atStart => exact ⟨0, Nat.zero_le _, rfl, by simp, by rw [Nat.zero_mul, marked_zero]; exact h, World.grownBy.refl _ _⟩
    case round =>
      obtain ⟨j, hj, rfl, rfl, hown, hg⟩ := hrel
      by_cases hlt : j < n
      · have st1 := hown.stored (j * 3) (.int .i64 (k + j * 3))
        have st2 := st1.1.stored (j * 3 + 1) (.int .i64 (k + j * 3 + 1))
        have st3 := st2.1.stored (j * 3 + 2) (.int .i64 (k + j * 3 + 1 + 1))
        have f1 := hown.frozenAt (j * 3)
        have f2 := hown.frozenAt (j * 3 + 1)
        have f3 := hown.frozenAt (j * 3 + 2)
        obtain ⟨u1, c1⟩ : ∃ u, wr.cell? ⟨g, j * 3, none⟩ = some u := by
          rw [hown.cellAt (j * 3) (by omega)]; exact ⟨_, List.getElem?_eq_getElem (by have := hown.1; omega)⟩
        obtain ⟨u2, c2⟩ : ∃ u, wr.cell? ⟨g, j * 3 + 1, none⟩ = some u := by
          rw [hown.cellAt (j * 3 + 1) (by omega)]; exact ⟨_, List.getElem?_eq_getElem (by have := hown.1; omega)⟩
        obtain ⟨u3, c3⟩ : ∃ u, wr.cell? ⟨g, j * 3 + 2, none⟩ = some u := by
          rw [hown.cellAt (j * 3 + 2) (by omega)]; exact ⟨_, List.getElem?_eq_getElem (by have := hown.1; omega)⟩
        have T1 := Lib.hid st1.2
        have T2 := Lib.hid st2.2
        have T3 := Lib.hid st3
        clear st1 st2 st3
        go_wp2_with fail
        go_roundw
        case rel =>
          refine ⟨j + 1, by omega, by go_num, by go_num, ?_, grown_trans (grown_trans (grown_trans hg T1.out) T2.out) T3.out.2⟩
          have := T3.out.1
          rwa [icells_set, icells_set, icells_set, marked_step3 xs k j (by have := HN.out; omega)] at this
        case measure => simp [intOf]; omega
      · have hjn : j = n := by omega
        have hfin : marked xs k (j * 3) = upFrom k (n * 3) := by rw [hjn, ← HN.out, marked_all]
        rw [hfin] at hown
        clear hfin
        go_wp2_with fail
        go_ret
        exact ⟨ret_int (by omega), hg, hown⟩


theorem sizesV_le (n : Nat) (xs : List Int) : (sizesV n xs).length ≤ 201 := by
  cases hB : tileB n xs with
  | false => rw [sizesV_f hB]; simp
  | true =>
    rw [sizesV_t hB, ← upJ_0]
    exact upJ_len xs n 200 0

end Go.Proofs.Ytenfkpdbfmeebaa
