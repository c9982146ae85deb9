/- FnFoster, walked. No condition. The law FnFoster returns true for all arguments. No condition. -/
import Derived.Test.YtoidbmlapdbjdaaJDrw
import Derived.Test.YtoidbmlapdbjdaaRBase
import Derived.Test.YtoidbmlapdbjdaaRBytes
namespace Go.Proofs.Ytoidbmlapdbjdaa
set_option maxRecDepth 100000
open Go.ChangeShapes Go.WideShapes Go.ChangeAt Go.RowKit Go.Joins

set_option maxHeartbeats 6400000 in
theorem lFnFoster (p : Option Addr) (n0 cap : Nat) (w : World) (hb : SlB w p n0) (hm0 : n0 ≤ 9223372036854775807) : Calls Try.prog 5 #[.slice p n0 cap] w fun e w' => e = .returned (.bool true) ∧ Ge w w' := by
  by_cases hbig : 1048576 < n0
  · clear hb
    go_enter Try.func5, Try.ntmps5
    go_wp2_with fail
    go_ret
    exact ⟨rfl, Ge.refl _⟩
  have hn0 : n0 ≤ 1048576 := by omega
  have HB := Lib.hid hb
  clear hb hm0
  go_enter Try.func5, Try.ntmps5
  go_wp2_with ((go_at_call 24; ((with_reducible refine (dMake _ _ _ _ HB.out hn0).mono ?_); rintro e w1 ⟨n, E, S, m, xs, q, c, rfl, hdn, g1⟩)); have HD := (Lib.hid hdn); have h2 := (hdn.dr.two); have h5 := (hdn.dr.five); have hm := (hdn.m10); have HFe := (Lib.hid (fos_end hdn.dr)); have T0 : Hid ((⟨0, 1⟩ : Rt) = ratioOf (wireS xs (forZ n m xs) 0) (treeT n m xs)) := ((ratio_zero (tree_pos hdn.dr)).symm); have T0n := (Lib.hid (congrArg Rt.n T0.out : (0 : Int) = _)); have T0d := (Lib.hid (congrArg Rt.d T0.out : (1 : Int) = _)); have N0 : (w1.alloc (.cells #[.int .i64 (n : Int), .int .i64 E, .int .i64 S, .slice q m c] 36)).cell? ⟨w1.heap.size, 0, none⟩ = some (.int .i64 (n : Int)) := (cell_new rfl rfl); have N1 : (w1.alloc (.cells #[.int .i64 (n : Int), .int .i64 E, .int .i64 S, .slice q m c] 36)).cell? ⟨w1.heap.size, 1, none⟩ = some (.int .i64 E) := (cell_new rfl rfl); have N2 : (w1.alloc (.cells #[.int .i64 (n : Int), .int .i64 E, .int .i64 S, .slice q m c] 36)).cell? ⟨w1.heap.size, 2, none⟩ = some (.int .i64 S) := (cell_new rfl rfl); have N3 : (w1.alloc (.cells #[.int .i64 (n : Int), .int .i64 E, .int .i64 S, .slice q m c] 36)).cell? ⟨w1.heap.size, 3, none⟩ = some (.slice q m c) := (cell_new rfl rfl); have M0 := (Lib.hid N0); have M1 := (Lib.hid N1); have M2 := (Lib.hid N2); have M3 := (Lib.hid N3))
  clear N0 N1 N2 N3
  go_loopw [20] (fun i wr => ∃ k : Nat, k ≤ m ∧ i = .int .i64 k ∧ wr.cell? ⟨w1.heap.size + 1, 0, none⟩ = some (.int .i64 (ratioOf (wireS xs (forZ n m xs) k) (treeT n m xs)).n) ∧ wr.cell? ⟨w1.heap.size + 1, 1, none⟩ = some (.int .i64 (ratioOf (wireS xs (forZ n m xs) k) (treeT n m xs)).d) ∧
      wr.frozen? ⟨w1.heap.size + 1, 0, none⟩ = false ∧ wr.frozen? ⟨w1.heap.size + 1, 1, none⟩ = false ∧ Ge (w1.alloc (.cells #[.int .i64 (n : Int), .int .i64 E, .int .i64 S, .slice q m c] 36)) wr) (fun i _ => m - (intOf i).toNat)
  case atStart =>
    exact ⟨0, Nat.zero_le _, rfl, by rw [← T0n.out]; exact cell_new (by simp) rfl, by rw [← T0d.out]; exact cell_new (by simp) rfl, froz_new (v := .int .i64 0) (by simp) rfl, froz_new (v := .int .i64 1) (by simp) rfl, Ge.alloc (Ge.refl _) _⟩
  case round =>
    obtain ⟨k, hk, rfl, s0, s1, sf0, sf1, hg⟩ := hrel
    have n0' := hg.keep M0.out
    have n1' := hg.keep M1.out
    have n2' := hg.keep M2.out
    have n3' := hg.keep M3.out
    have HDr := Lib.hid (HD.out.ge (Ge.trans (Ge.alloc (Ge.refl _) _) hg))
    have zb := World.block_lt_of_cell? _ _ s0
    have zn := World.block_lt_of_cell? _ _ n0'
    simp only at zb zn
    by_cases hlt : k < m
    · obtain ⟨q', c', hq, hcell⟩ := HDr.out.sl.open
      simp only [Value.slice.injEq] at hq
      obtain ⟨rfl, _, rfl⟩ := hq
      obtain ⟨b, o, rfl, e0, e1, e2⟩ := three_cells hcell hlt
      obtain ⟨k0, k1, k2, k3, _⟩ := (HDr.out.dr.good k hlt).1
      have k6 := HDr.out.dr.six k hlt
      have HTree := Lib.hid (fun w' (h : DN w' (.slice (some ⟨b, o, none⟩) m c) n E S m xs) => dTree h hlt)
      have HRes := Lib.hid (fun w' (h : DN w' (.slice (some ⟨b, o, none⟩) m c) n E S m xs) => dRes h (a := wa xs k) (b := wb xs k) (by omega) (by omega))
      have HTim := Lib.hid (qTimes (fos_times HDr.out.dr hlt HDr.out.hS))
      have HSm := Lib.hid (qSum (fos_next HDr.out.dr hlt))
      have hp := fos_pos HDr.out.dr hlt
      have hS := HDr.out.hS
      have HRof := Lib.hid (fun w' => iRatioOf (ww xs k) S w' (mid (by omega) (by omega)) (mid (by omega) (by omega)))
      replace e0 : wr.cell? ⟨b, o + k * 3, none⟩ = some (.int .i64 (wa xs k)) := e0
      replace e1 : wr.cell? ⟨b, o + k * 3 + 1, none⟩ = some (.int .i64 (wb xs k)) := e1
      replace e2 : wr.cell? ⟨b, o + k * 3 + 2, none⟩ = some (.int .i64 (ww xs k)) := e2
      clear hcell hS k0 k1 k2 k3 k6 T0 T0n T0d HFe
      generalize ratioOf (ww xs k * forZ n m xs (wa xs k) (wb xs k)) (treeT n m xs) = P at *
      generalize ratioOf (S * forZ n m xs (wa xs k) (wb xs k)) (treeT n m xs) = R at *
      generalize ratioOf (ww xs k) S = Q at *
      generalize ratioOf (wireS xs (forZ n m xs) k) (treeT n m xs) = A at *
      obtain ⟨A', hA'⟩ : ∃ r, ratioOf (wireS xs (forZ n m xs) (k + 1)) (treeT n m xs) = r := ⟨_, rfl⟩
      rw [hA'] at HSm
      have HA' := Lib.hid hA'
      clear hA'
      generalize wa xs k = ea at *
      generalize wb xs k = eb at *
      generalize ww xs k = ew at *
      go_wp2_with ((go_at_call 25; ((with_reducible refine (HTree.out _ (HDr.out.ge (Ge.alloc (Ge.refl _) _))).mono ?_); rintro e w2 ⟨rfl, g2⟩)); have G2 : Ge wr w2 := (Ge.trans (Ge.alloc (Ge.refl _) _) g2); have E0 := Ge.keep g2 (a := ⟨wr.heap.size, 0, none⟩) (v := .int .i64 ea) (by simp); have E1 := Ge.keep g2 (a := ⟨wr.heap.size, 1, none⟩) (v := .int .i64 eb) (by simp); have E2 := Ge.keep g2 (a := ⟨wr.heap.size, 2, none⟩) (v := .int .i64 ew) (by simp); have n0a := (G2.keep n0'); have n1a := (G2.keep n1'); have n2a := (G2.keep n2'); have n3a := (G2.keep n3'); have z2 : wr.heap.size < w2.heap.size := (by have := g2.size; simp at this; omega); have z3 : w1.heap.size < w2.heap.size := (by omega))
      go_wp2_with ((go_at_call 26; ((with_reducible refine (HRes.out _ (HDr.out.ge (Ge.alloc G2 _))).mono ?_); rintro e w3 ⟨rfl, g3⟩)); have G3 : Ge w2 w3 := (Ge.trans (Ge.alloc (Ge.refl _) _) g3); have P0 := Ge.keep g3 (a := ⟨w2.heap.size, 0, none⟩) (v := .int .i64 P.n) (by simp); have P1 := Ge.keep g3 (a := ⟨w2.heap.size, 1, none⟩) (v := .int .i64 P.d) (by simp); have n2b := (G3.keep n2a); have E2b := (G3.keep E2); have tp : decide (P.n < 1) = false := (by simp; omega))
      have hS : ∀ w', Ge (w3.alloc (.cells #[.int .i64 R.n, .int .i64 R.d] 39)) w' → (w'.cell? ⟨w3.heap.size, 0, none⟩ = some (.int .i64 R.n) ∧ w'.cell? ⟨w3.heap.size, 1, none⟩ = some (.int .i64 R.d) ∧ w'.cell? ⟨wr.heap.size, 2, none⟩ = some (.int .i64 ew) ∧ w'.cell? ⟨w1.heap.size, 2, none⟩ = some (.int .i64 S) ∧ w'.cell? ⟨w2.heap.size, 0, none⟩ = some (.int .i64 P.n) ∧ w'.cell? ⟨w2.heap.size, 1, none⟩ = some (.int .i64 P.d) ∧ Ge w3 w') := fun w' g => ⟨g.keep (by (repeat (first | assumption | with_reducible exact Ge.refl _ | with_reducible refine cv_drew ?_ | with_reducible refine cv_alloc ?_ | with_reducible refine cv_set ?_ | (with_reducible apply cv_some; assumption) | with_reducible refine cell_drew ?_ | with_reducible refine cell_drewN ?_ | ((with_reducible refine cell_new ?_ ?_); (focus (simp; done)); rfl) | with_reducible refine cell_alloc ?_ | with_reducible refine cell_same2 ?_ | ((with_reducible refine cell_set2 ?_ ?_); focus (first | (simp; done) | (intro hE; simp at hE; done) | (intro hE; simp at hE; omega))) | with_reducible refine Ge.drew ?_ | with_reducible refine Ge.drewN ?_ _ | with_reducible refine Ge.alloc ?_ _ | ((with_reducible refine Ge.setCell ?_ ?_ _); rotate_left; focus (first | (simp; done) | omega | (simp; omega))) | with_reducible refine Ge.trans ?_ (by assumption) | with_reducible refine Ge.keep (by assumption) ?_))), g.keep (by (repeat (first | assumption | with_reducible exact Ge.refl _ | with_reducible refine cv_drew ?_ | with_reducible refine cv_alloc ?_ | with_reducible refine cv_set ?_ | (with_reducible apply cv_some; assumption) | with_reducible refine cell_drew ?_ | with_reducible refine cell_drewN ?_ | ((with_reducible refine cell_new ?_ ?_); (focus (simp; done)); rfl) | with_reducible refine cell_alloc ?_ | with_reducible refine cell_same2 ?_ | ((with_reducible refine cell_set2 ?_ ?_); focus (first | (simp; done) | (intro hE; simp at hE; done) | (intro hE; simp at hE; omega))) | with_reducible refine Ge.drew ?_ | with_reducible refine Ge.drewN ?_ _ | with_reducible refine Ge.alloc ?_ _ | ((with_reducible refine Ge.setCell ?_ ?_ _); rotate_left; focus (first | (simp; done) | omega | (simp; omega))) | with_reducible refine Ge.trans ?_ (by assumption) | with_reducible refine Ge.keep (by assumption) ?_))), g.keep (by (repeat (first | assumption | with_reducible exact Ge.refl _ | with_reducible refine cv_drew ?_ | with_reducible refine cv_alloc ?_ | with_reducible refine cv_set ?_ | (with_reducible apply cv_some; assumption) | with_reducible refine cell_drew ?_ | with_reducible refine cell_drewN ?_ | ((with_reducible refine cell_new ?_ ?_); (focus (simp; done)); rfl) | with_reducible refine cell_alloc ?_ | with_reducible refine cell_same2 ?_ | ((with_reducible refine cell_set2 ?_ ?_); focus (first | (simp; done) | (intro hE; simp at hE; done) | (intro hE; simp at hE; omega))) | with_reducible refine Ge.drew ?_ | with_reducible refine Ge.drewN ?_ _ | with_reducible refine Ge.alloc ?_ _ | ((with_reducible refine Ge.setCell ?_ ?_ _); rotate_left; focus (first | (simp; done) | omega | (simp; omega))) | with_reducible refine Ge.trans ?_ (by assumption) | with_reducible refine Ge.keep (by assumption) ?_))), g.keep (by (repeat (first | assumption | with_reducible exact Ge.refl _ | with_reducible refine cv_drew ?_ | with_reducible refine cv_alloc ?_ | with_reducible refine cv_set ?_ | (with_reducible apply cv_some; assumption) | with_reducible refine cell_drew ?_ | with_reducible refine cell_drewN ?_ | ((with_reducible refine cell_new ?_ ?_); (focus (simp; done)); rfl) | with_reducible refine cell_alloc ?_ | with_reducible refine cell_same2 ?_ | ((with_reducible refine cell_set2 ?_ ?_); focus (first | (simp; done) | (intro hE; simp at hE; done) | (intro hE; simp at hE; omega))) | with_reducible refine Ge.drew ?_ | with_reducible refine Ge.drewN ?_ _ | with_reducible refine Ge.alloc ?_ _ | ((with_reducible refine Ge.setCell ?_ ?_ _); rotate_left; focus (first | (simp; done) | omega | (simp; omega))) | with_reducible refine Ge.trans ?_ (by assumption) | with_reducible refine Ge.keep (by assumption) ?_))), g.keep (by (repeat (first | assumption | with_reducible exact Ge.refl _ | with_reducible refine cv_drew ?_ | with_reducible refine cv_alloc ?_ | with_reducible refine cv_set ?_ | (with_reducible apply cv_some; assumption) | with_reducible refine cell_drew ?_ | with_reducible refine cell_drewN ?_ | ((with_reducible refine cell_new ?_ ?_); (focus (simp; done)); rfl) | with_reducible refine cell_alloc ?_ | with_reducible refine cell_same2 ?_ | ((with_reducible refine cell_set2 ?_ ?_); focus (first | (simp; done) | (intro hE; simp at hE; done) | (intro hE; simp at hE; omega))) | with_reducible refine Ge.drew ?_ | with_reducible refine Ge.drewN ?_ _ | with_reducible refine Ge.alloc ?_ _ | ((with_reducible refine Ge.setCell ?_ ?_ _); rotate_left; focus (first | (simp; done) | omega | (simp; omega))) | with_reducible refine Ge.trans ?_ (by assumption) | with_reducible refine Ge.keep (by assumption) ?_))), g.keep (by (repeat (first | assumption | with_reducible exact Ge.refl _ | with_reducible refine cv_drew ?_ | with_reducible refine cv_alloc ?_ | with_reducible refine cv_set ?_ | (with_reducible apply cv_some; assumption) | with_reducible refine cell_drew ?_ | with_reducible refine cell_drewN ?_ | ((with_reducible refine cell_new ?_ ?_); (focus (simp; done)); rfl) | with_reducible refine cell_alloc ?_ | with_reducible refine cell_same2 ?_ | ((with_reducible refine cell_set2 ?_ ?_); focus (first | (simp; done) | (intro hE; simp at hE; done) | (intro hE; simp at hE; omega))) | with_reducible refine Ge.drew ?_ | with_reducible refine Ge.drewN ?_ _ | with_reducible refine Ge.alloc ?_ _ | ((with_reducible refine Ge.setCell ?_ ?_ _); rotate_left; focus (first | (simp; done) | omega | (simp; omega))) | with_reducible refine Ge.trans ?_ (by assumption) | with_reducible refine Ge.keep (by assumption) ?_))), Ge.trans (by (repeat (first | assumption | with_reducible exact Ge.refl _ | with_reducible refine cv_drew ?_ | with_reducible refine cv_alloc ?_ | with_reducible refine cv_set ?_ | (with_reducible apply cv_some; assumption) | with_reducible refine cell_drew ?_ | with_reducible refine cell_drewN ?_ | ((with_reducible refine cell_new ?_ ?_); (focus (simp; done)); rfl) | with_reducible refine cell_alloc ?_ | with_reducible refine cell_same2 ?_ | ((with_reducible refine cell_set2 ?_ ?_); focus (first | (simp; done) | (intro hE; simp at hE; done) | (intro hE; simp at hE; omega))) | with_reducible refine Ge.drew ?_ | with_reducible refine Ge.drewN ?_ _ | with_reducible refine Ge.alloc ?_ _ | ((with_reducible refine Ge.setCell ?_ ?_ _); rotate_left; focus (first | (simp; done) | omega | (simp; omega))) | with_reducible refine Ge.trans ?_ (by assumption) | with_reducible refine Ge.keep (by assumption) ?_))) g⟩
      go_region_held3 (fun w' => w'.cell? ⟨w3.heap.size, 0, none⟩ = some (.int .i64 R.n) ∧ w'.cell? ⟨w3.heap.size, 1, none⟩ = some (.int .i64 R.d) ∧ w'.cell? ⟨wr.heap.size, 2, none⟩ = some (.int .i64 ew) ∧ w'.cell? ⟨w1.heap.size, 2, none⟩ = some (.int .i64 S) ∧ w'.cell? ⟨w2.heap.size, 0, none⟩ = some (.int .i64 P.n) ∧ w'.cell? ⟨w2.heap.size, 1, none⟩ = some (.int .i64 P.d) ∧ Ge w3 w') (first | ((with_reducible refine hS _ ?_); (repeat (first | assumption | with_reducible exact Ge.refl _ | with_reducible refine cv_drew ?_ | with_reducible refine cv_alloc ?_ | with_reducible refine cv_set ?_ | (with_reducible apply cv_some; assumption) | with_reducible refine cell_drew ?_ | with_reducible refine cell_drewN ?_ | ((with_reducible refine cell_new ?_ ?_); (focus (simp; done)); rfl) | with_reducible refine cell_alloc ?_ | with_reducible refine cell_same2 ?_ | ((with_reducible refine cell_set2 ?_ ?_); focus (first | (simp; done) | (intro hE; simp at hE; done) | (intro hE; simp at hE; omega))) | with_reducible refine Ge.drew ?_ | with_reducible refine Ge.drewN ?_ _ | with_reducible refine Ge.alloc ?_ _ | ((with_reducible refine Ge.setCell ?_ ?_ _); rotate_left; focus (first | (simp; done) | omega | (simp; omega))) | with_reducible refine Ge.trans ?_ (by assumption) | with_reducible refine Ge.keep (by assumption) ?_)); done) | fail) (first | (go_at_call 28; ((with_reducible refine (HRof.out _).mono ?_); rintro e w' ⟨rfl, hb⟩)) | (go_at_call 27; ((with_reducible refine (HTim.out _).mono ?_); rintro e w' ⟨rfl, hb⟩)) | fail)
      rename_i hHeldX
      obtain ⟨q0, q1, q2, q3, q4, q5, G4⟩ := hHeldX
      clear hS
      have G14 := Ge.trans (Ge.trans G2 G3) G4
      have s0d := G14.keep s0
      have s1d := G14.keep s1
      have f0d := G14.keepF s0 sf0
      have f1d := G14.keepF s1 sf1
      go_wp2_with ((go_at_call 29; ((with_reducible refine (HSm.out _).mono ?_); rintro e w5 ⟨rfl, g5⟩)); have s0e := g5.keep s0d; have s1e := g5.keep s1d; have f0e := g5.keepF s0d f0d; have f1e := g5.keepF s1d f1d)
      go_roundw
      case rel => exact ⟨k + 1, by omega, by go_num, by rw [HA'.out]; exact (Box2.put (r := A) ⟨s0e, s1e⟩ A').1, by rw [HA'.out]; exact (Box2.put (r := A) ⟨s0e, s1e⟩ A').2, froz_set (froz_set f0e), froz_set (froz_set f1e), ((hg.trans (G14.trans g5)).setCell (by simp) _).setCell (by simp) _⟩
      case measure => simp [intOf]; omega
    · have hkm : m = k := by omega
      subst hkm
      rw [HFe.out] at s0 s1
      simp only at s0 s1
      go_wp2_with fail
      go_ret
      exact ⟨rfl, g1.trans ((Ge.alloc (Ge.refl _) _).trans hg)⟩
end Go.Proofs.Ytoidbmlapdbjdaa

namespace Go.Proofs.Ytoidbmlapdbjdaa

open Go.ChangeShapes Go.WideShapes Go.ChangeAt Go.RowKit Go.Joins

theorem fnFoster_cells_byte : Try.prog.cellsOf 5 = 1 := by kernel_rfl

set_option maxRecDepth 100000 in
theorem fnFoster_lifted (os : Os) (started : os.Started) (H : Type) (enc : TypeId × Value → H) :
    ReturnsInHanded {} Try.checked os 5 .any (Rows.fnFosterSpec.pre6 enc Try.prog Try.f5 Rows.fnFosterRow.domain false) (Rows.fnFosterSpec.post enc Try.prog Try.f5 false true false false) := by
  refine returnsInHanded_of_change (C := Try.checked) own_knob started (by kernel_rfl) Try.func5
    (ChangeSpec.witness6 (enc := enc) (C := Try.checked) false ⟨#[], #[.slice none 0 0], []⟩ 8 (by kernel_rfl) (by kernel_rfl) (by kernel_rfl) (by kernel_rfl)) ?_
  intro W base args ds gs before hval0 hW hcnd _
  have hval : ∀ (j : Nat) t v, Try.f5.params[j]? = some t → args[j]? = some v → Value.okWide Try.prog W .any base t v := hval0
  have hW' := hW
  obtain ⟨p, q, hA0, hV, rfl, hfz, hnd⟩ := hW
  have hA : DataW.TrodAll enc Try.prog W 0 (fun _ => true) true Try.f5.params.toList args.toList ds p := hA0
  rw [Try.params5] at hA hval
  obtain ⟨v0, d0, rfl, rfl, h0⟩ := trodAll_one hA
  obtain ⟨rfl, rfl⟩ := trodVars_none hV
  obtain ⟨pa, na, ca, rfl, sa, ma⟩ := arg_bytes Try.underlying28 Try.underlying5 fnFoster_cells_byte (hval 0 28 v0 rfl rfl) h0
  clear hA0 hval0
  exact (lFnFoster pa na ca W sa ma).mono fun e W' ⟨he, hg⟩ =>
    law_done (B := 4) he laid_out (by kernel_rfl) Try.underlying4 (by kernel_rfl) hW' rfl rfl hg

theorem fnFoster_holds : Rows.FnFosterSaid :=
  OpenClaim.holds_of_wide 5 Try.f5 rfl rfl rfl rfl rfl rfl rfl ⟨rfl, rfl, rfl, rfl, rfl⟩ rfl rfl rfl rfl rfl (by kernel_rfl) Try.func5 (by kernel_rfl)
    (of_decide_eq_true (by kernel_rfl)) (by unfold Func.isWrapper; first | (rw [if_pos (by decide +kernel)]; kernel_rfl) | (rw [if_neg (by decide +kernel)]; exact ⟨rfl, rfl⟩))
    (fun os started H enc _ => fnFoster_lifted os started H enc)
#print axioms fnFoster_holds

end Go.Proofs.Ytoidbmlapdbjdaa
