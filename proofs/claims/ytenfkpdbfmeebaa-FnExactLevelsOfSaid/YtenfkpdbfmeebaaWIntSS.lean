/- Slices of slices of integers: toIntSS, eqIntSS, szIntSS. No condition. -/
import Derived.Test.YtenfkpdbfmeebaaWWm
import Derived.Test.YtenfkpdbfmeebaaWToInt
import Derived.Below
namespace Go.Proofs.Ytenfkpdbfmeebaa
set_option maxRecDepth 100000
open Go.ChangeShapes Go.WideShapes Go.ChangeAt Go.RowKit Go.Joins

theorem own_someSS {w : World} {base g n cap m : Nat} {e : TypeId} {xs : List Value} (h : w.ownsRow base e m (.slice (some ⟨g, 0, none⟩) n cap) n xs) {j : Nat} (hj : j < n * m) : ∃ u, w.cell? ⟨g, j, none⟩ = some u := by
  have h1 := h.1
  exact ⟨xs[j]'(by omega), by rw [h.cellAt j hj]; exact List.getElem?_eq_getElem (by omega)⟩
theorem inf_rowSS : (Try.prog.info? 43).map (fun i => (i.zero, i.size, i.bytes)) = some (some (Value.slice none 0 0), 1, 24) := by kernel_rfl
theorem made_rowsSS (n : Nat) : (madeCells (Value.slice none 0 0).cells (n * 1)).toList = List.replicate n (Value.slice none 0 0) := by
  simp [madeCells, Value.cells, Nat.mod_one]
  rw [List.eq_replicate_iff]; simp

def RowsSS (w : World) (g : Nat) (R : List (List Int)) (cs : List Value) (j : Nat) : Prop :=
  ∀ i, i < j → ∃ pr cr, cs[i]? = some (.slice pr ((rowL R i).length) cr) ∧ w.ownsRow (g + 1) 3 1 (.slice pr ((rowL R i).length) cr) ((rowL R i).length) (icells (rowL R i))
theorem RowsSS.ge {w w' : World} {g : Nat} {R : List (List Int)} {cs : List Value} {j : Nat} (h : RowsSS w g R cs j) (hg : Ge w w') : RowsSS w' g R cs j := fun i hi => by
  obtain ⟨pr, cr, h1, h2⟩ := h i hi
  exact ⟨pr, cr, h1, hg.owns h2⟩
theorem RowsSS.set {w : World} {g : Nat} {R : List (List Int)} {cs : List Value} {j : Nat} (h : RowsSS w g R cs j) (hj : j < cs.length) {pr : Option Addr} {cr : Nat}
    (hv : w.ownsRow (g + 1) 3 1 (.slice pr ((rowL R j).length) cr) ((rowL R j).length) (icells (rowL R j))) :
    RowsSS (w.setCell ⟨g, j, none⟩ (.slice pr ((rowL R j).length) cr)) g R (cs.set j (.slice pr ((rowL R j).length) cr)) (j + 1) := fun i hi => by
  by_cases e : i = j
  · subst e
    exact ⟨pr, cr, by simp [hj], ownsRow_setCell_below hv (show g < g + 1 by omega) _⟩
  · obtain ⟨pr', cr', h1, h2⟩ := h i (by omega)
    exact ⟨pr', cr', by rw [List.getElem?_set_ne (by omega)]; exact h1, ownsRow_setCell_below h2 (show g < g + 1 by omega) _⟩

set_option maxHeartbeats 1600000 in
theorem lEqIntSS (va vb : Value) (n : Nat) (R : List (List Int)) (w : World) (ha : SlMI w va n R) (hb : SlMI w vb n R) (hm : n ≤ 1048576) (hr : ∀ i, i < n → (rowL R i).length ≤ 1048576) :
    Calls Try.prog 9 #[va, vb] w fun e w' => e = .returned (.bool true) ∧ Ge w w' := by
  obtain ⟨pa, ca, rfl, ha⟩ := ha
  obtain ⟨pb, cb, rfl, hb⟩ := hb
  have CA := Lib.hid ha
  have CB := Lib.hid hb
  have HR := Lib.hid hr
  clear ha hb hr
  have tn : ((n : Int) != (n : Int)) = false := by simp
  go_enter Try.func9, Try.ntmps9
  go_wp2_with fail
  go_loopw [5] (fun i wr => ∃ k : Nat, k ≤ n ∧ i = .int .i64 k ∧ Ge w wr) (fun i _ => n - (intOf i).toNat)
  case atStart => exact ⟨0, Nat.zero_le _, rfl, Ge.refl _⟩
  case round =>
    obtain ⟨k, hk, rfl, hg⟩ := hrel
    by_cases hlt : k < n
    · obtain ⟨b1, o1, p1, c1, rfl, x0, hs1⟩ := CA.out k hlt
      obtain ⟨b2, o2, p2, c2, rfl, y0, hs2⟩ := CB.out k hlt
      replace x0 := hg.keep x0
      replace y0 := hg.keep y0
      have hrk := HR.out k hlt
      have HE : Hid (∀ w', Ge wr w' → Calls Try.prog 28 #[.slice p1 (rowL R k).length c1, .slice p2 (rowL R k).length c2] w' fun e w'' => e = .returned (.bool true) ∧ Ge w' w'') := by
        show ∀ w', _
        intro w' g
        have := lEqIntS (.slice p1 (rowL R k).length c1) (.slice p2 (rowL R k).length c2) (rowL R k) (rowL R k) w' (SlI.ge hs1 (Ge.trans hg g)) (SlI.ge hs2 (Ge.trans hg g)) (by omega)
        rwa [show decide (rowL R k = rowL R k) = true by simp] at this
      clear hs1 hs2
      go_wp2_with fail
      have hS : ∀ w', Ge wr w' → (w'.cell? ⟨b1, o1 + k, none⟩ = some (.slice p1 ((rowL R k).length) c1) ∧ w'.cell? ⟨b2, o2 + k, none⟩ = some (.slice p2 ((rowL R k).length) c2) ∧ Ge wr w') := fun w' g => ⟨g.keep (by (repeat (first | assumption | with_reducible exact Ge.refl _ | with_reducible refine cv_drew ?_ | with_reducible refine cv_alloc ?_ | with_reducible refine cv_set ?_ | (with_reducible apply cv_some; assumption) | with_reducible refine cell_drew ?_ | with_reducible refine cell_drewN ?_ | ((with_reducible refine cell_new ?_ ?_); (focus (simp; done)); rfl) | with_reducible refine cell_alloc ?_ | with_reducible refine cell_same2 ?_ | ((with_reducible refine cell_set2 ?_ ?_); focus (first | (simp; done) | (intro hE; simp at hE; done) | (intro hE; simp at hE; omega))) | with_reducible refine Ge.drew ?_ | with_reducible refine Ge.drewN ?_ _ | with_reducible refine Ge.alloc ?_ _ | ((with_reducible refine Ge.setCell ?_ ?_ _); rotate_left; focus (first | (simp; done) | omega | (simp; omega))) | with_reducible refine Ge.trans ?_ (by assumption) | with_reducible refine Ge.keep (by assumption) ?_))), g.keep (by (repeat (first | assumption | with_reducible exact Ge.refl _ | with_reducible refine cv_drew ?_ | with_reducible refine cv_alloc ?_ | with_reducible refine cv_set ?_ | (with_reducible apply cv_some; assumption) | with_reducible refine cell_drew ?_ | with_reducible refine cell_drewN ?_ | ((with_reducible refine cell_new ?_ ?_); (focus (simp; done)); rfl) | with_reducible refine cell_alloc ?_ | with_reducible refine cell_same2 ?_ | ((with_reducible refine cell_set2 ?_ ?_); focus (first | (simp; done) | (intro hE; simp at hE; done) | (intro hE; simp at hE; omega))) | with_reducible refine Ge.drew ?_ | with_reducible refine Ge.drewN ?_ _ | with_reducible refine Ge.alloc ?_ _ | ((with_reducible refine Ge.setCell ?_ ?_ _); rotate_left; focus (first | (simp; done) | omega | (simp; omega))) | with_reducible refine Ge.trans ?_ (by assumption) | with_reducible refine Ge.keep (by assumption) ?_))), Ge.trans (by (repeat (first | assumption | with_reducible exact Ge.refl _ | with_reducible refine cv_drew ?_ | with_reducible refine cv_alloc ?_ | with_reducible refine cv_set ?_ | (with_reducible apply cv_some; assumption) | with_reducible refine cell_drew ?_ | with_reducible refine cell_drewN ?_ | ((with_reducible refine cell_new ?_ ?_); (focus (simp; done)); rfl) | with_reducible refine cell_alloc ?_ | with_reducible refine cell_same2 ?_ | ((with_reducible refine cell_set2 ?_ ?_); focus (first | (simp; done) | (intro hE; simp at hE; done) | (intro hE; simp at hE; omega))) | with_reducible refine Ge.drew ?_ | with_reducible refine Ge.drewN ?_ _ | with_reducible refine Ge.alloc ?_ _ | ((with_reducible refine Ge.setCell ?_ ?_ _); rotate_left; focus (first | (simp; done) | omega | (simp; omega))) | with_reducible refine Ge.trans ?_ (by assumption) | with_reducible refine Ge.keep (by assumption) ?_))) g⟩
      go_region_held3 (fun w' => w'.cell? ⟨b1, o1 + k, none⟩ = some (.slice p1 ((rowL R k).length) c1) ∧ w'.cell? ⟨b2, o2 + k, none⟩ = some (.slice p2 ((rowL R k).length) c2) ∧ Ge wr w') (first | ((with_reducible refine hS _ ?_); (repeat (first | assumption | with_reducible exact Ge.refl _ | with_reducible refine cv_drew ?_ | with_reducible refine cv_alloc ?_ | with_reducible refine cv_set ?_ | (with_reducible apply cv_some; assumption) | with_reducible refine cell_drew ?_ | with_reducible refine cell_drewN ?_ | ((with_reducible refine cell_new ?_ ?_); (focus (simp; done)); rfl) | with_reducible refine cell_alloc ?_ | with_reducible refine cell_same2 ?_ | ((with_reducible refine cell_set2 ?_ ?_); focus (first | (simp; done) | (intro hE; simp at hE; done) | (intro hE; simp at hE; omega))) | with_reducible refine Ge.drew ?_ | with_reducible refine Ge.drewN ?_ _ | with_reducible refine Ge.alloc ?_ _ | ((with_reducible refine Ge.setCell ?_ ?_ _); rotate_left; focus (first | (simp; done) | omega | (simp; omega))) | with_reducible refine Ge.trans ?_ (by assumption) | with_reducible refine Ge.keep (by assumption) ?_)); done) | fail) (first | (go_at_call 28; ((with_reducible refine (HE.out _ ‹_ ∧ _ ∧ Ge wr _›.2.2).mono ?_); rintro e w' ⟨rfl, hb⟩); have hz := Ge.size hb; (try simp at hz)) | fail)
      rename_i hHeldX
      obtain ⟨q0, q1, G7⟩ := hHeldX
      clear hS
      go_wp2_with fail
      go_roundw
      case rel => exact ⟨k + 1, by omega, by go_num, by (repeat (first | with_reducible exact Ge.refl _ | assumption | with_reducible refine Ge.drew ?_ | with_reducible refine Ge.drewN ?_ _ | with_reducible refine Ge.alloc ?_ _ | (with_reducible refine Ge.setCell ?_ (by first | (simp; done) | omega | (simp; omega)) _) | with_reducible refine Ge.trans ?_ (by assumption)))⟩
      case measure => simp [intOf]; omega
    · go_wp2_with fail
      go_ret
      exact ⟨rfl, by (repeat (first | with_reducible exact Ge.refl _ | assumption | with_reducible refine Ge.drew ?_ | with_reducible refine Ge.drewN ?_ _ | with_reducible refine Ge.alloc ?_ _ | (with_reducible refine Ge.setCell ?_ (by first | (simp; done) | omega | (simp; omega)) _) | with_reducible refine Ge.trans ?_ (by assumption)))⟩

/-- What is left of L behind the sizes of the rows. -/
def szS1 (R : List (List Int)) : Nat → Int → Int
  | 0, L => L
  | k + 1, L => if L - ((rowL R (R.length - (k + 1))).length : Int) < 0 then -1 else szS1 R k (L - ((rowL R (R.length - (k + 1))).length : Int))
def szSS (L : Int) (R : List (List Int)) : Int := if L - R.length < 0 then -1 else szS1 R R.length (L - R.length)
theorem szS1_small (R : List (List Int)) : ∀ (k : Nat) (L : Int), k ≤ R.length → 0 ≤ L → 0 ≤ szS1 R k L → ∀ i, R.length - k ≤ i → i < R.length → ((rowL R i).length : Int) ≤ L
  | 0, L, _, _, _, i, h1, h2 => by omega
  | k + 1, L, hk, hL, h, i, h1, h2 => by
    simp only [szS1] at h
    split at h
    · omega
    · by_cases e : i = R.length - (k + 1)
      · subst e; omega
      · have := szS1_small R k _ (by omega) (by omega) h i (by omega) h2
        omega
theorem szSS_small {R : List (List Int)} (h : 0 ≤ szSS 1048576 R) : R.length ≤ 1048576 ∧ ∀ i, i < R.length → (rowL R i).length ≤ 1048576 := by
  unfold szSS at h
  split at h
  · omega
  · refine ⟨by omega, fun i hi => ?_⟩
    have := szS1_small R R.length _ (Nat.le_refl _) (by omega) h i (by omega) hi
    omega

end Go.Proofs.Ytenfkpdbfmeebaa
