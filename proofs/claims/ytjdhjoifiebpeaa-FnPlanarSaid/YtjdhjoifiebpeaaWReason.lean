/- PlanarReason of both sides. No condition. -/
import Derived.Test.YtjdhjoifiebpeaaWMinor
namespace Go.Proofs.Ytjdhjoifiebpeaa
set_option maxRecDepth 100000
open Go.ChangeShapes Go.WideShapes Go.ChangeAt Go.RowKit Go.Joins

def GivesX (e : Ending) (w' : World) (o : Option (List Int × List Int)) : Prop :=
  match o with
  | none => e = .returned (.slice none 0 0)
  | some x => ∃ u, e = .returned u ∧ PairV w' u x
theorem PairV.cells {w : World} {u : Value} {x : List Int × List Int} {m : Nat} (h : PairV w u x) (h1 : x.1.length = m) (h2 : x.2.length = m) :
    ∃ g a ca b cb, u = .slice (some ⟨g, 0, none⟩) 2 2 ∧ w.cell? ⟨g, 0, none⟩ = some (.slice (some a) m ca) ∧ w.cell? ⟨g, 1, none⟩ = some (.slice (some b) m cb) ∧
      w.ownsRow 0 3 1 (.slice (some a) m ca) m (icells x.1) ∧ w.ownsRow 0 3 1 (.slice (some b) m cb) m (icells x.2) := by
  obtain ⟨g, a, ca, b, cb, rfl, h3, h4, h5⟩ := h
  rw [h1] at h3 h4
  rw [h2] at h3 h5
  exact ⟨g, a, ca, b, cb, rfl, by rw [h3.cellAt 0 (by omega)]; rfl, by rw [h3.cellAt 1 (by omega)]; rfl, h4, h5⟩
theorem reason_ok {M : Int → Int → Int} {S : List (List Int × List Int)} {n i : Nat} (hn : S.length = n) (hi : i < n) (h : ∀ j, j < i → 0 ≤ circD M (getP S j).1 (getP S j).2) (hx : circD M (getP S i).1 (getP S i).2 < 0) : reasonL M S = some (getP S i) := by
  rw [getP_eq (by omega)] at hx ⊢
  refine reasonL_at (by omega) (fun j hj => ?_) hx
  have := h j hj
  rw [getP_eq (by omega)] at this
  omega
theorem reason_none {M : Int → Int → Int} {S : List (List Int × List Int)} {n : Nat} (hn : S.length = n) (h : ∀ j, j < n → 0 ≤ circD M (getP S j).1 (getP S j).2) : reasonL M S = none :=
  reasonL_take (fun j hj => by have := h j (by omega); rw [getP_eq hj] at this; omega)

set_option maxHeartbeats 3200000 in
theorem iPlanarReason (N : Nat) (R : List (List Int)) (vm : Value) (w : World) (hv : SlMI w vm N R) (hN : R.length = N) (hR : wmP R) :
    Calls Try.prog 5 #[vm] w fun e w' => GivesX e w' (reasonL (entM R) (pairsM N (N / 2))) ∧ Ge w w' := by
  have hN1 : 1 ≤ N := by rw [← hN]; exact hR.1
  have hN5 : N ≤ 5 := by rw [← hN]; exact hR.2.1.1
  have hl : ∀ i, i < N → (rowL R i).length = N := fun i hi => by rw [← hN]; exact (hR.2.1.2 i (by omega)).1
  have HW := Lib.hid (iIsWeightMatrix vm N R w hv hN (by omega) (fun i hi => by rw [hl i hi]; omega))
  rw [wmB_true hR] at HW
  have HCp := Lib.hid (fun w' => iCircularPairs N w' hN1 hN5)
  have HPo := Lib.hid (pairsM_ok N (N / 2))
  have HMM := Lib.hid (fun (m : Nat) (p q : List Int) (a b : Addr) (ca cb : Nat) (w' : World) (g : Ge w w') (h1 : w'.ownsRow 0 3 1 (.slice (some a) m ca) m (icells p)) (h2 : w'.ownsRow 0 3 1 (.slice (some b) m cb) m (icells q)) (h3 : p.length = m) (h4 : q.length = m) (h5 : 1 ≤ m) (h6 : m ≤ 2) h7 h8 h9 =>
    iMinorMatrix N m R p q a b ca cb vm w' (hv.ge g) hN hR h1 h2 h3 h4 h5 h6 h7 h8 h9)
  have HRo := Lib.hid (fun n i (h0 : (pairsM N (N / 2)).length = n) (h1 : i < n) h2 h3 => reason_ok (M := entM R) h0 h1 h2 h3)
  have HRn := Lib.hid (fun n (h0 : (pairsM N (N / 2)).length = n) h => reason_none (M := entM R) h0 h)
  obtain ⟨pv, cv', rfl, _⟩ := hv
  clear hR hl
  generalize entM R = M at *
  generalize reasonL M (pairsM N (N / 2)) = RL at *
  have hN2 : N / 2 ≤ 2 := by omega
  generalize hS : pairsM N (N / 2) = S at *
  clear hS
  generalize N / 2 = N2 at *
  go_enter Try.func5, Try.ntmps5
  go_wp2_with (first
    | ((go_at_call 6; ((with_reducible refine (HW.out).mono ?_); rintro e w0 ⟨rfl, rfl⟩)))
    | ((go_at_call 12; ((with_reducible refine (HCp.out _).mono ?_); rintro e w1 ⟨vS, n, rfl, hnS, hn1, oS, gS⟩)); obtain ⟨pS, cS, rfl, hrows⟩ := oS.rows hnS))
  have HRw := Lib.hid hrows
  have HN := Lib.hid hnS
  clear hrows oS
  go_loopw [14] (fun i wr => ∃ k : Nat, k ≤ n ∧ i = .int .i64 k ∧ Hid (∀ j, j < k → 0 ≤ circD M (getP S j).1 (getP S j).2) ∧ Ge w1 wr) (fun i _ => n - (intOf i).toNat)
  case atStart => exact ⟨0, Nat.zero_le _, rfl, fun j hj => by omega, Ge.refl _⟩
  case round =>
    obtain ⟨k, hk, rfl, HA, hg⟩ := hrel
    by_cases hlt : k < n
    · obtain ⟨b0, o0, u, rfl, x0, hp⟩ := HRw.out k hlt
      obtain ⟨h1, h2, h3, h4, h5, h6⟩ := HPo.out (getP S k) (by rw [getP_eq (by rw [HN.out]; exact hlt)]; exact List.getElem_mem _)
      have HRk := Lib.hid (fun h => HRo.out n k HN.out hlt HA.out h)
      have HA2 : Hid (0 ≤ circD M (getP S k).1 (getP S k).2 → ∀ j, j < k + 1 → 0 ≤ circD M (getP S j).1 (getP S j).2) := fun g j hj => by
        by_cases e : j = k
        · subst e; exact g
        · exact HA.out j (by omega)
      have HPg := Lib.hid (fun w' (g : Ge w1 w') => hp.keepT (KeepT.of_ge g))
      obtain ⟨m, hm⟩ : ∃ m, (getP S k).1.length = m := ⟨_, rfl⟩
      rw [hm] at h1 h2 h3
      obtain ⟨g, a, ca, b, cb, rfl, y0, y1, r0, r1⟩ := hp.cells hm h1.symm
      replace x0 := hg.keep x0
      replace y0 := hg.keep y0
      replace y1 := hg.keep y1
      have HMk := Lib.hid (fun (w' : World) (g' : Ge wr w') => HMM.out m (getP S k).1 (getP S k).2 a b ca cb w' ((gS.trans hg).trans g') (g'.owns (hg.owns r0)) (g'.owns (hg.owns r1)) hm h1.symm h2 (by omega) h4 h5 h6)
      clear r0 r1 h4 h5 h6 hp hm h1 HMM
      generalize circD M (getP S k).1 (getP S k).2 = D at *
      generalize hx : getP S k = x at *
      clear hx
      go_wp2_with fail
      have hS : ∀ w', Ge wr w' → (w'.cell? ⟨g, 0, none⟩ = some (.slice (some a) m ca) ∧ w'.cell? ⟨g, 1, none⟩ = some (.slice (some b) m cb) ∧ Ge wr w') := fun w' g => ⟨g.keep (by (repeat (first | assumption | with_reducible exact Ge.refl _ | with_reducible refine cv_drew ?_ | with_reducible refine cv_alloc ?_ | with_reducible refine cv_set ?_ | (with_reducible apply cv_some; assumption) | with_reducible refine cell_drew ?_ | with_reducible refine cell_drewN ?_ | ((with_reducible refine cell_new ?_ ?_); (focus (simp; done)); rfl) | with_reducible refine cell_alloc ?_ | with_reducible refine cell_same2 ?_ | ((with_reducible refine cell_set2 ?_ ?_); focus (first | (simp; done) | (intro hE; simp at hE; done) | (intro hE; simp at hE; omega))) | with_reducible refine Ge.drew ?_ | with_reducible refine Ge.drewN ?_ _ | with_reducible refine Ge.alloc ?_ _ | ((with_reducible refine Ge.setCell ?_ ?_ _); rotate_left; focus (first | (simp; done) | omega | (simp; omega))) | with_reducible refine Ge.trans ?_ (by assumption) | with_reducible refine Ge.keep (by assumption) ?_))), g.keep (by (repeat (first | assumption | with_reducible exact Ge.refl _ | with_reducible refine cv_drew ?_ | with_reducible refine cv_alloc ?_ | with_reducible refine cv_set ?_ | (with_reducible apply cv_some; assumption) | with_reducible refine cell_drew ?_ | with_reducible refine cell_drewN ?_ | ((with_reducible refine cell_new ?_ ?_); (focus (simp; done)); rfl) | with_reducible refine cell_alloc ?_ | with_reducible refine cell_same2 ?_ | ((with_reducible refine cell_set2 ?_ ?_); focus (first | (simp; done) | (intro hE; simp at hE; done) | (intro hE; simp at hE; omega))) | with_reducible refine Ge.drew ?_ | with_reducible refine Ge.drewN ?_ _ | with_reducible refine Ge.alloc ?_ _ | ((with_reducible refine Ge.setCell ?_ ?_ _); rotate_left; focus (first | (simp; done) | omega | (simp; omega))) | with_reducible refine Ge.trans ?_ (by assumption) | with_reducible refine Ge.keep (by assumption) ?_))), Ge.trans (by (repeat (first | assumption | with_reducible exact Ge.refl _ | with_reducible refine cv_drew ?_ | with_reducible refine cv_alloc ?_ | with_reducible refine cv_set ?_ | (with_reducible apply cv_some; assumption) | with_reducible refine cell_drew ?_ | with_reducible refine cell_drewN ?_ | ((with_reducible refine cell_new ?_ ?_); (focus (simp; done)); rfl) | with_reducible refine cell_alloc ?_ | with_reducible refine cell_same2 ?_ | ((with_reducible refine cell_set2 ?_ ?_); focus (first | (simp; done) | (intro hE; simp at hE; done) | (intro hE; simp at hE; omega))) | with_reducible refine Ge.drew ?_ | with_reducible refine Ge.drewN ?_ _ | with_reducible refine Ge.alloc ?_ _ | ((with_reducible refine Ge.setCell ?_ ?_ _); rotate_left; focus (first | (simp; done) | omega | (simp; omega))) | with_reducible refine Ge.trans ?_ (by assumption) | with_reducible refine Ge.keep (by assumption) ?_))) g⟩
      go_region_held3 (fun w' => w'.cell? ⟨g, 0, none⟩ = some (.slice (some a) m ca) ∧ w'.cell? ⟨g, 1, none⟩ = some (.slice (some b) m cb) ∧ Ge wr w') (first | ((with_reducible refine hS _ ?_); (repeat (first | assumption | with_reducible exact Ge.refl _ | with_reducible refine cv_drew ?_ | with_reducible refine cv_alloc ?_ | with_reducible refine cv_set ?_ | (with_reducible apply cv_some; assumption) | with_reducible refine cell_drew ?_ | with_reducible refine cell_drewN ?_ | ((with_reducible refine cell_new ?_ ?_); (focus (simp; done)); rfl) | with_reducible refine cell_alloc ?_ | with_reducible refine cell_same2 ?_ | ((with_reducible refine cell_set2 ?_ ?_); focus (first | (simp; done) | (intro hE; simp at hE; done) | (intro hE; simp at hE; omega))) | with_reducible refine Ge.drew ?_ | with_reducible refine Ge.drewN ?_ _ | with_reducible refine Ge.alloc ?_ _ | ((with_reducible refine Ge.setCell ?_ ?_ _); rotate_left; focus (first | (simp; done) | omega | (simp; omega))) | with_reducible refine Ge.trans ?_ (by assumption) | with_reducible refine Ge.keep (by assumption) ?_)); done) | fail) (first | (go_at_call 9; ((with_reducible refine (HMk.out _ ‹_ ∧ _ ∧ Ge wr _›.2.2).mono ?_); rintro e w' ⟨rfl, hb⟩); have hz := Ge.size hb; (try simp at hz)) | fail)
      rename_i hHeldX
      obtain ⟨q0, q1, G7⟩ := hHeldX
      clear hS
      by_cases c : D < 0
      · have HX := Lib.hid (HRk.out c)
        clear HRk HA2
        go_wp2_with fail
        go_ret
        refine ⟨?_, Ge.trans gS (Ge.trans hg G7)⟩
        rw [HX.out]
        exact ⟨_, rfl, HPg.out _ (Ge.trans hg G7)⟩
      · have HX := Lib.hid (HA2.out (by omega))
        clear HRk HA2
        go_wp2_with fail
        go_roundw
        case rel => exact ⟨k + 1, by omega, by go_num, HX.out, Ge.trans hg G7⟩
        case measure => simp [intOf]; omega
    · have hkn : k = n := by omega
      subst hkn
      have HX := Lib.hid (HRn.out k HN.out HA.out)
      go_wp2_with fail
      go_ret
      refine ⟨?_, Ge.trans gS hg⟩
      rw [HX.out]
      exact rfl

end Go.Proofs.Ytjdhjoifiebpeaa
