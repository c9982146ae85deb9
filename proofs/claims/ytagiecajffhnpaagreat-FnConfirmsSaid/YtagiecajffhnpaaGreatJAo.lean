/- ResistanceOf, l05Scaled, ResistLine. No condition. (by forests) PotentialsOf, PotentialLine. No condition. CurrentsFor of impl at a valid network. No condition. -/
import Derived.Test.YtagiecajffhnpaaGreatJAn
import Derived.Test.YtagiecajffhnpaaGreatJAe
import Derived.Test.YtagiecajffhnpaaGreatJAh
import Derived.Test.YtagiecajffhnpaaGreatJAf
namespace Go.Proofs.YtagiecajffhnpaaGreat
set_option maxRecDepth 100000
open Go.ChangeShapes Go.WideShapes Go.ChangeAt Go.RowKit Go.Joins

noncomputable def resR (N E S : Int) (m : Nat) (xs : List Int) (a b : Int) : Rt := grdR (node2B N E S m xs a b) (ratioOf (S * forV N E S m xs a b) (treeV N E S m xs))
theorem res_f {N E S : Int} {m : Nat} {xs : List Int} {a b : Int} (h : node2B N E S m xs a b = false) : resR N E S m xs a b = ⟨0, 0⟩ := by unfold resR; rw [h]; rfl
theorem res_t {N E S : Int} {m : Nat} {xs : List Int} {a b : Int} (h : node2B N E S m xs a b = true) : resR N E S m xs a b = ratioOf (S * forV N E S m xs a b) (treeV N E S m xs) := by unfold resR; rw [h]; rfl
theorem net_scale {N E S : Int} {m : Nat} {xs : List Int} (h : netB N E S m xs = true) : 1 ≤ S ∧ S ≤ 1000 := (netP_of h).2.2.1
set_option maxHeartbeats 3200000 in
theorem iResistanceOf (N E S : Int) (s : Value) (m : Nat) (xs : List Int) (a b : Int) (w : World) (hs : SlF w s m 3 xs) (hm : m ≤ 9223372036854775807) :
    Calls Tryz.prog 84 #[.agg #[.int .i64 N, .int .i64 E, .int .i64 S, s], .int .i64 a, .int .i64 b] w fun e w' => e = .returned (.tuple #[.agg #[.int .i64 (resR N E S m xs a b).n, .int .i64 (resR N E S m xs a b).d], .bool (node2B N E S m xs a b)]) ∧ Ge w w' := by
  obtain ⟨p, cap, rfl, hc⟩ := hs.open
  have HV := Lib.hid hs
  clear hs hc
  cases hB : netB N E S m xs with
  | false =>
    have hT := node2_f0 (a := a) (b := b) hB
    have HF := Lib.hid (res_f hT)
    go_enter Tryz.func84, Tryz.ntmps84
    go_wp2_with ((go_at_call 43; ((with_reducible refine (iNetOk N E S _ m xs _ (HV.out.ge (Ge.alloc (Ge.alloc (Ge.refl w) _) _)) hm).mono ?_); rintro e w1 ⟨rfl, gw1⟩); have Gw1 : Ge w w1 := (Ge.trans (kge) gw1); have c0_0 : World.cell? w1 ⟨w.heap.size, 0, none⟩ = some (.int .i64 N) := Ge.keep gw1 kcell; have c0_1 : World.cell? w1 ⟨w.heap.size, 1, none⟩ = some (.int .i64 E) := Ge.keep gw1 kcell; have c0_2 : World.cell? w1 ⟨w.heap.size, 2, none⟩ = some (.int .i64 S) := Ge.keep gw1 kcell; have c0_3 : World.cell? w1 ⟨w.heap.size, 3, none⟩ = some (.slice p m cap) := Ge.keep gw1 kcell; have o1_0 : Own w1 ⟨w.heap.size + 1, 0, none⟩ _ := Ge.own gw1 (kown); have c1_0 := cv_some o1_0.1; have f1_0 := o1_0.2; clear o1_0; have o1_1 : Own w1 ⟨w.heap.size + 1, 1, none⟩ _ := Ge.own gw1 (kown); have c1_1 := cv_some o1_1.1; have f1_1 := o1_1.2; clear o1_1; have zw1 : w.heap.size + 2 ≤ w1.heap.size := (by have := Ge.size gw1; (try simp at this); omega)); rw [hB])
    exact bodyPost_ret (v := .tuple #[.agg #[.int .i64 0, .int .i64 0], .bool false]) (by simp [results, Tryz.results84, go_sem, *]) rfl ⟨by rw [HF.out, hT], kge⟩
  | true =>
    obtain ⟨⟨n1, n2⟩, h10, hK⟩ := net_wires hB
    have HK := Lib.hid hK
    clear hK
    obtain ⟨n, rfl⟩ : ∃ n : Nat, N = (n : Int) := ⟨N.toNat, by omega⟩
    by_cases ha : ¬ (0 ≤ a ∧ a < (n : Int))
    · have ia : nodeB n a = false := nodeB_f ha
      have hT := node2_f1 (E := E) (S := S) (m := m) (xs := xs) (b := b) ha
      have HF := Lib.hid (res_f hT)
      clear ha
      go_enter Tryz.func84, Tryz.ntmps84
      go_wp2_with (first | ((go_at_call 43; ((with_reducible refine (iNetOk (n : Int) E S _ m xs _ (HV.out.ge (Ge.alloc (Ge.alloc (Ge.refl w) _) _)) hm).mono ?_); rintro e w1 ⟨rfl, gw1⟩); have Gw1 : Ge w w1 := (Ge.trans (kge) gw1); have c0_0 : World.cell? w1 ⟨w.heap.size, 0, none⟩ = some (.int .i64 (n : Int)) := Ge.keep gw1 kcell; have c0_1 : World.cell? w1 ⟨w.heap.size, 1, none⟩ = some (.int .i64 E) := Ge.keep gw1 kcell; have c0_2 : World.cell? w1 ⟨w.heap.size, 2, none⟩ = some (.int .i64 S) := Ge.keep gw1 kcell; have c0_3 : World.cell? w1 ⟨w.heap.size, 3, none⟩ = some (.slice p m cap) := Ge.keep gw1 kcell; have o1_0 : Own w1 ⟨w.heap.size + 1, 0, none⟩ _ := Ge.own gw1 (kown); have c1_0 := cv_some o1_0.1; have f1_0 := o1_0.2; clear o1_0; have o1_1 : Own w1 ⟨w.heap.size + 1, 1, none⟩ _ := Ge.own gw1 (kown); have c1_1 := cv_some o1_1.1; have f1_1 := o1_1.2; clear o1_1; have zw1 : w.heap.size + 2 ≤ w1.heap.size := (by have := Ge.size gw1; (try simp at this); omega)); rw [hB]) | (go_at_call 69; ((with_reducible refine (isNodeI n E S _ _ _ rfl).mono ?_); rintro e wn ⟨rfl, gwn⟩); have Gwn : Ge w wn := (Ge.trans (kge) gwn); have c0_0 : World.cell? wn ⟨w.heap.size, 0, none⟩ = some (.int .i64 (n : Int)) := Ge.keep gwn kcell; have c0_1 : World.cell? wn ⟨w.heap.size, 1, none⟩ = some (.int .i64 E) := Ge.keep gwn kcell; have c0_2 : World.cell? wn ⟨w.heap.size, 2, none⟩ = some (.int .i64 S) := Ge.keep gwn kcell; have c0_3 : World.cell? wn ⟨w.heap.size, 3, none⟩ = some (.slice p m cap) := Ge.keep gwn kcell; have o1_0 : Own wn ⟨w.heap.size + 1, 0, none⟩ _ := Ge.own gwn (kown); have c1_0 := cv_some o1_0.1; have f1_0 := o1_0.2; clear o1_0; have o1_1 : Own wn ⟨w.heap.size + 1, 1, none⟩ _ := Ge.own gwn (kown); have c1_1 := cv_some o1_1.1; have f1_1 := o1_1.2; clear o1_1; have zwn : w.heap.size + 2 ≤ wn.heap.size := (by have := Ge.size gwn; (try simp at this); omega)))
      exact bodyPost_ret (v := .tuple #[.agg #[.int .i64 0, .int .i64 0], .bool false]) (by simp [results, Tryz.results84, go_sem, *]) rfl ⟨by rw [HF.out, hT], kge⟩
    replace ha := Classical.not_not.1 ha
    have ia : nodeB n a = true := nodeB_t ha
    by_cases hb : ¬ (0 ≤ b ∧ b < (n : Int))
    · have ib : nodeB n b = false := nodeB_f hb
      have hT := node2_f2 (E := E) (S := S) (m := m) (xs := xs) (a := a) hb
      have HF := Lib.hid (res_f hT)
      clear ha hb
      go_enter Tryz.func84, Tryz.ntmps84
      go_wp2_with (first | ((go_at_call 43; ((with_reducible refine (iNetOk (n : Int) E S _ m xs _ (HV.out.ge (Ge.alloc (Ge.alloc (Ge.refl w) _) _)) hm).mono ?_); rintro e w1 ⟨rfl, gw1⟩); have Gw1 : Ge w w1 := (Ge.trans (kge) gw1); have c0_0 : World.cell? w1 ⟨w.heap.size, 0, none⟩ = some (.int .i64 (n : Int)) := Ge.keep gw1 kcell; have c0_1 : World.cell? w1 ⟨w.heap.size, 1, none⟩ = some (.int .i64 E) := Ge.keep gw1 kcell; have c0_2 : World.cell? w1 ⟨w.heap.size, 2, none⟩ = some (.int .i64 S) := Ge.keep gw1 kcell; have c0_3 : World.cell? w1 ⟨w.heap.size, 3, none⟩ = some (.slice p m cap) := Ge.keep gw1 kcell; have o1_0 : Own w1 ⟨w.heap.size + 1, 0, none⟩ _ := Ge.own gw1 (kown); have c1_0 := cv_some o1_0.1; have f1_0 := o1_0.2; clear o1_0; have o1_1 : Own w1 ⟨w.heap.size + 1, 1, none⟩ _ := Ge.own gw1 (kown); have c1_1 := cv_some o1_1.1; have f1_1 := o1_1.2; clear o1_1; have zw1 : w.heap.size + 2 ≤ w1.heap.size := (by have := Ge.size gw1; (try simp at this); omega)); rw [hB]) | (go_at_call 69; ((with_reducible refine (isNodeI n E S _ _ _ rfl).mono ?_); rintro e wn ⟨rfl, gwn⟩); have Gwn : Ge w wn := (Ge.trans (kge) gwn); have c0_0 : World.cell? wn ⟨w.heap.size, 0, none⟩ = some (.int .i64 (n : Int)) := Ge.keep gwn kcell; have c0_1 : World.cell? wn ⟨w.heap.size, 1, none⟩ = some (.int .i64 E) := Ge.keep gwn kcell; have c0_2 : World.cell? wn ⟨w.heap.size, 2, none⟩ = some (.int .i64 S) := Ge.keep gwn kcell; have c0_3 : World.cell? wn ⟨w.heap.size, 3, none⟩ = some (.slice p m cap) := Ge.keep gwn kcell; have o1_0 : Own wn ⟨w.heap.size + 1, 0, none⟩ _ := Ge.own gwn (kown); have c1_0 := cv_some o1_0.1; have f1_0 := o1_0.2; clear o1_0; have o1_1 : Own wn ⟨w.heap.size + 1, 1, none⟩ _ := Ge.own gwn (kown); have c1_1 := cv_some o1_1.1; have f1_1 := o1_1.2; clear o1_1; have zwn : w.heap.size + 2 ≤ wn.heap.size := (by have := Ge.size gwn; (try simp at this); omega)))
      exact bodyPost_ret (v := .tuple #[.agg #[.int .i64 0, .int .i64 0], .bool false]) (by simp [results, Tryz.results84, go_sem, *]) rfl ⟨by rw [HF.out, hT], kge⟩
    replace hb := Classical.not_not.1 hb
    have ib : nodeB n b = true := nodeB_t hb
    have hT := node2_t hB ha hb
    have HF := Lib.hid (res_t hT)
    clear ha hb
    obtain ⟨k1, k2⟩ := net_scale hB
    have b1 := treeV_bd n E S m xs
    have b2 := wf_bd (N := (n : Int)) (E := E) (S := S) (m := m) (xs := xs) (u := S) (by omega) (by omega) a b
    have W1 : IntKind.i64.wrap (S * forV n E S m xs a b) = S * forV n E S m xs a b := IntWalk.i64_in _ (by omega)
    have M1 := mid (n := treeV n E S m xs) (by omega) (by omega)
    have M2 := mid (n := S * forV n E S m xs a b) (by omega) (by omega)
    have HTr := Lib.hid (fun w' (g : Ge w w') => iTreeSum n E S (.slice p m cap) m xs w' (HV.out.ge g) hm)
    have HFo := Lib.hid (fun w' (g : Ge w w') => iForestSum n E S (.slice p m cap) m xs a b w' (HV.out.ge g) hm)
    have HR := Lib.hid (fun w' => iRatioOf _ _ w' M2 M1)
    clear k1 k2
    go_enter Tryz.func84, Tryz.ntmps84
    go_wp2_with (first | ((go_at_call 43; ((with_reducible refine (iNetOk (n : Int) E S _ m xs _ (HV.out.ge (Ge.alloc (Ge.alloc (Ge.refl w) _) _)) hm).mono ?_); rintro e w1 ⟨rfl, gw1⟩); have Gw1 : Ge w w1 := (Ge.trans (kge) gw1); have c0_0 : World.cell? w1 ⟨w.heap.size, 0, none⟩ = some (.int .i64 (n : Int)) := Ge.keep gw1 kcell; have c0_1 : World.cell? w1 ⟨w.heap.size, 1, none⟩ = some (.int .i64 E) := Ge.keep gw1 kcell; have c0_2 : World.cell? w1 ⟨w.heap.size, 2, none⟩ = some (.int .i64 S) := Ge.keep gw1 kcell; have c0_3 : World.cell? w1 ⟨w.heap.size, 3, none⟩ = some (.slice p m cap) := Ge.keep gw1 kcell; have o1_0 : Own w1 ⟨w.heap.size + 1, 0, none⟩ _ := Ge.own gw1 (kown); have c1_0 := cv_some o1_0.1; have f1_0 := o1_0.2; clear o1_0; have o1_1 : Own w1 ⟨w.heap.size + 1, 1, none⟩ _ := Ge.own gw1 (kown); have c1_1 := cv_some o1_1.1; have f1_1 := o1_1.2; clear o1_1; have zw1 : w.heap.size + 2 ≤ w1.heap.size := (by have := Ge.size gw1; (try simp at this); omega)); rw [hB]) | (go_at_call 69; ((with_reducible refine (isNodeI n E S _ _ _ rfl).mono ?_); rintro e wn ⟨rfl, gwn⟩); have Gwn : Ge w wn := (Ge.trans (kge) gwn); have c0_0 : World.cell? wn ⟨w.heap.size, 0, none⟩ = some (.int .i64 (n : Int)) := Ge.keep gwn kcell; have c0_1 : World.cell? wn ⟨w.heap.size, 1, none⟩ = some (.int .i64 E) := Ge.keep gwn kcell; have c0_2 : World.cell? wn ⟨w.heap.size, 2, none⟩ = some (.int .i64 S) := Ge.keep gwn kcell; have c0_3 : World.cell? wn ⟨w.heap.size, 3, none⟩ = some (.slice p m cap) := Ge.keep gwn kcell; have o1_0 : Own wn ⟨w.heap.size + 1, 0, none⟩ _ := Ge.own gwn (kown); have c1_0 := cv_some o1_0.1; have f1_0 := o1_0.2; clear o1_0; have o1_1 : Own wn ⟨w.heap.size + 1, 1, none⟩ _ := Ge.own gwn (kown); have c1_1 := cv_some o1_1.1; have f1_1 := o1_1.2; clear o1_1; have zwn : w.heap.size + 2 ≤ wn.heap.size := (by have := Ge.size gwn; (try simp at this); omega)))
    go_region_held3 (fun w' => w'.cell? ⟨w.heap.size, 0, none⟩ = some (.int .i64 (n : Int)) ∧ w'.cell? ⟨w.heap.size, 1, none⟩ = some (.int .i64 E) ∧ w'.cell? ⟨w.heap.size, 2, none⟩ = some (.int .i64 S) ∧ w'.cell? ⟨w.heap.size, 3, none⟩ = some (.slice p m cap) ∧ w'.cell? ⟨w.heap.size + 1, 0, none⟩ = some (cv w' ⟨w.heap.size + 1, 0, none⟩) ∧ w'.cell? ⟨w.heap.size + 1, 1, none⟩ = some (cv w' ⟨w.heap.size + 1, 1, none⟩) ∧ w'.frozen? ⟨w.heap.size + 1, 0, none⟩ = false ∧ w'.frozen? ⟨w.heap.size + 1, 1, none⟩ = false ∧ Ge w w') (first | exact ⟨hb.keep (‹_ ∧ _ ∧ _ ∧ _ ∧ _ ∧ _ ∧ _ ∧ _ ∧ _›).1, hb.keep (‹_ ∧ _ ∧ _ ∧ _ ∧ _ ∧ _ ∧ _ ∧ _ ∧ _›).2.1, hb.keep (‹_ ∧ _ ∧ _ ∧ _ ∧ _ ∧ _ ∧ _ ∧ _ ∧ _›).2.2.1, hb.keep (‹_ ∧ _ ∧ _ ∧ _ ∧ _ ∧ _ ∧ _ ∧ _ ∧ _›).2.2.2.1, cv_some (hb.keep (‹_ ∧ _ ∧ _ ∧ _ ∧ _ ∧ _ ∧ _ ∧ _ ∧ _›).2.2.2.2.1), cv_some (hb.keep (‹_ ∧ _ ∧ _ ∧ _ ∧ _ ∧ _ ∧ _ ∧ _ ∧ _›).2.2.2.2.2.1), hb.keepF (‹_ ∧ _ ∧ _ ∧ _ ∧ _ ∧ _ ∧ _ ∧ _ ∧ _›).2.2.2.2.1 (‹_ ∧ _ ∧ _ ∧ _ ∧ _ ∧ _ ∧ _ ∧ _ ∧ _›).2.2.2.2.2.2.1, hb.keepF (‹_ ∧ _ ∧ _ ∧ _ ∧ _ ∧ _ ∧ _ ∧ _ ∧ _›).2.2.2.2.2.1 (‹_ ∧ _ ∧ _ ∧ _ ∧ _ ∧ _ ∧ _ ∧ _ ∧ _›).2.2.2.2.2.2.2.1, Ge.trans (‹_ ∧ _ ∧ _ ∧ _ ∧ _ ∧ _ ∧ _ ∧ _ ∧ _›).2.2.2.2.2.2.2.2 hb⟩ | ((refine ⟨?_, ?_, ?_, ?_, ?_, ?_, ?_, ?_, ?_⟩ <;> (repeat (first | assumption | with_reducible exact Ge.refl _ | with_reducible refine cv_drew ?_ | with_reducible refine cv_alloc ?_ | with_reducible refine cv_set ?_ | with_reducible refine cell_drew ?_ | ((with_reducible refine cell_new ?_ ?_); (focus (simp; done)); rfl) | ((with_reducible refine froz_new (v := undef) ?_ ?_); (focus (simp; done)); rfl) | with_reducible refine cell_drewN ?_ | with_reducible refine cell_alloc ?_ | ((with_reducible refine cell_set ?_ ?_); rotate_left; focus (simp; done)) | with_reducible refine froz_drew ?_ | with_reducible refine froz_set ?_ | with_reducible refine froz_alloc (by assumption) ?_ | with_reducible refine Ge.drew ?_ | with_reducible refine Ge.drewN ?_ _ | with_reducible refine Ge.alloc ?_ _ | ((with_reducible refine Ge.setCell ?_ ?_ _); rotate_left; focus (first | (simp; done) | omega | (simp; omega))) | with_reducible refine Ge.trans ?_ (by assumption)))); done) | ((obtain ⟨s0, s1, s2, s3, s4, s5, s6, s7, s8⟩ := ‹_ ∧ _ ∧ _ ∧ _ ∧ _ ∧ _ ∧ _ ∧ _ ∧ _›); refine ⟨?_, ?_, ?_, ?_, ?_, ?_, ?_, ?_, ?_⟩ <;> (repeat (first | assumption | with_reducible exact Ge.refl _ | with_reducible refine cv_drew ?_ | with_reducible refine cv_alloc ?_ | with_reducible refine cv_set ?_ | with_reducible refine cell_drew ?_ | ((with_reducible refine cell_new ?_ ?_); (focus (simp; done)); rfl) | ((with_reducible refine froz_new (v := undef) ?_ ?_); (focus (simp; done)); rfl) | with_reducible refine cell_drewN ?_ | with_reducible refine cell_alloc ?_ | ((with_reducible refine cell_set ?_ ?_); rotate_left; focus (simp; done)) | with_reducible refine froz_drew ?_ | with_reducible refine froz_set ?_ | with_reducible refine froz_alloc (by assumption) ?_ | with_reducible refine Ge.drew ?_ | with_reducible refine Ge.drewN ?_ _ | with_reducible refine Ge.alloc ?_ _ | ((with_reducible refine Ge.setCell ?_ ?_ _); rotate_left; focus (first | (simp; done) | omega | (simp; omega))) | with_reducible refine Ge.trans ?_ (by assumption))))) (first | (go_at_call 85; ((with_reducible refine (HTr.out _ (‹_ ∧ _ ∧ _ ∧ _ ∧ _ ∧ _ ∧ _ ∧ _ ∧ Ge w _›.2.2.2.2.2.2.2.2)).mono ?_); rintro e w' ⟨rfl, hb⟩)) | (go_at_call 90; ((with_reducible refine (HFo.out _ (‹_ ∧ _ ∧ _ ∧ _ ∧ _ ∧ _ ∧ _ ∧ _ ∧ Ge w _›.2.2.2.2.2.2.2.2)).mono ?_); rintro e w' ⟨rfl, hb⟩)) | (go_at_call 81; ((with_reducible refine (HR.out _).mono ?_); rintro e w' ⟨rfl, hb⟩)) | fail); (rename_i hHeldX; obtain ⟨c0_0, c0_1, c0_2, c0_3, c1_0, c1_1, f1_0, f1_1, G9⟩ := hHeldX)
    obtain ⟨r0, r1⟩ := res2W c1_0 c1_1 (by simp)
    clear c1_0 c1_1
    go_wp2_with fail
    exact bodyPost_ret (v := .tuple #[.agg #[.int .i64 (ratioOf (S * forV n E S m xs a b) (treeV n E S m xs)).n, .int .i64 (ratioOf (S * forV n E S m xs a b) (treeV n E S m xs)).d], .bool true]) (by simp [results, Tryz.results84, go_sem, *]) rfl ⟨by rw [HF.out, hT], kge⟩

/-- "resistance R trees T". -/
noncomputable def resLine (N E S : Int) (m : Nat) (xs : List Int) (a b : Int) : List UInt8 := if node2B N E S m xs a b = true then [114, 101, 115, 105, 115, 116, 97, 110, 99, 101, 32] ++ ratioTxt (resR N E S m xs a b).n (resR N E S m xs a b).d ++ [32, 116, 114, 101, 101, 115, 32] ++ fmtInt (treeV N E S m xs) else []
theorem resLine_f {N E S : Int} {m : Nat} {xs : List Int} {a b : Int} (h : node2B N E S m xs a b = false) : (⟨#[]⟩ : ByteArray) = bstr (resLine N E S m xs a b) := by unfold resLine; rw [h]; rfl
theorem resLine_t {N E S : Int} {m : Nat} {xs : List Int} {a b : Int} (h : node2B N E S m xs a b = true) : (⟨#[114, 101, 115, 105, 115, 116, 97, 110, 99, 101, 32]⟩ : ByteArray) ++ bstr (ratioTxt (resR N E S m xs a b).n (resR N E S m xs a b).d) ++ (⟨#[32, 116, 114, 101, 101, 115, 32]⟩ : ByteArray) ++ bstr (fmtInt (treeV N E S m xs)) = bstr (resLine N E S m xs a b) := by
  unfold resLine; rw [h, if_pos rfl]
  rw [show (⟨#[114, 101, 115, 105, 115, 116, 97, 110, 99, 101, 32]⟩ : ByteArray) = bstr [114, 101, 115, 105, 115, 116, 97, 110, 99, 101, 32] from rfl, show (⟨#[32, 116, 114, 101, 101, 115, 32]⟩ : ByteArray) = bstr [32, 116, 114, 101, 101, 115, 32] from rfl, bstr_append, bstr_append, bstr_append]

set_option maxHeartbeats 1600000 in
theorem iResistLine (N E S : Int) (s : Value) (m : Nat) (xs : List Int) (a b : Int) (w : World) (hs : SlF w s m 3 xs) (hm : m ≤ 9223372036854775807) :
    Calls Tryz.prog 48 #[.agg #[.int .i64 N, .int .i64 E, .int .i64 S, s], .int .i64 a, .int .i64 b] w fun e w' => e = .returned (.string (bstr (resLine N E S m xs a b))) ∧ Ge w w' := by
  obtain ⟨p, cap, rfl, hc⟩ := hs.open
  have HV := Lib.hid hs
  clear hs hc
  have HRe := Lib.hid (fun w' (g : Ge w w') => iResistanceOf N E S (.slice p m cap) m xs a b w' (HV.out.ge g) hm)
  cases hT : node2B N E S m xs a b with
  | false =>
    have HF := Lib.hid (resLine_f hT)
    rw [hT] at HRe
    go_enter Tryz.func48, Tryz.ntmps48
    go_wp2_with (go_at_call 84; ((with_reducible refine (HRe.out _ (Ge.alloc (Ge.refl w) _)).mono ?_); rintro e w1 ⟨rfl, gw1⟩); have Gw1 : Ge w w1 := (Ge.trans (kge) gw1); have c0_0 : World.cell? w1 ⟨w.heap.size, 0, none⟩ = some (.int .i64 N) := Ge.keep gw1 kcell; have c0_1 : World.cell? w1 ⟨w.heap.size, 1, none⟩ = some (.int .i64 E) := Ge.keep gw1 kcell; have c0_2 : World.cell? w1 ⟨w.heap.size, 2, none⟩ = some (.int .i64 S) := Ge.keep gw1 kcell; have c0_3 : World.cell? w1 ⟨w.heap.size, 3, none⟩ = some (.slice p m cap) := Ge.keep gw1 kcell; have zw1 : w.heap.size + 1 ≤ w1.heap.size := (by have := Ge.size gw1; (try simp at this); omega))
    go_ret
    exact ⟨ret_str HF.out, kge⟩
  | true =>
    have HF := Lib.hid (resLine_t hT)
    rw [hT] at HRe
    have HTr := Lib.hid (fun w' (g : Ge w w') => iTreeSum N E S (.slice p m cap) m xs w' (HV.out.ge g) hm)
    have b1 := treeV_bd N E S m xs
    have HFi := Lib.hid (fun w' => iFormatInt (treeV N E S m xs) w' (by omega) (by omega))
    have l1 : (bstr (ratioTxt (resR N E S m xs a b).n (resR N E S m xs a b).d)).size ≤ 45 := by rw [bstr_size]; exact ratioTxt_le _ _
    have l2 := fsz (treeV N E S m xs)
    generalize resLine N E S m xs a b = L at *
    generalize hX : (resR N E S m xs a b).n = X at *
    generalize hY : (resR N E S m xs a b).d = Y at *
    generalize hTT : treeV N E S m xs = TT at *
    clear hX hY hTT b1
    have z1 : ¬ (9223372036854775807 < 11 + (bstr (ratioTxt X Y)).size) := by omega
    have z2 : ¬ (9223372036854775807 < 11 + (bstr (ratioTxt X Y)).size + 7) := by omega
    have z3 : ¬ (9223372036854775807 < 11 + (bstr (ratioTxt X Y)).size + 7 + (bstr (fmtInt TT)).size) := by omega
    go_enter Tryz.func48, Tryz.ntmps48
    go_wp2_with (go_at_call 84; ((with_reducible refine (HRe.out _ (Ge.alloc (Ge.refl w) _)).mono ?_); rintro e w1 ⟨rfl, gw1⟩); have Gw1 : Ge w w1 := (Ge.trans (kge) gw1); have c0_0 : World.cell? w1 ⟨w.heap.size, 0, none⟩ = some (.int .i64 N) := Ge.keep gw1 kcell; have c0_1 : World.cell? w1 ⟨w.heap.size, 1, none⟩ = some (.int .i64 E) := Ge.keep gw1 kcell; have c0_2 : World.cell? w1 ⟨w.heap.size, 2, none⟩ = some (.int .i64 S) := Ge.keep gw1 kcell; have c0_3 : World.cell? w1 ⟨w.heap.size, 3, none⟩ = some (.slice p m cap) := Ge.keep gw1 kcell; have zw1 : w.heap.size + 1 ≤ w1.heap.size := (by have := Ge.size gw1; (try simp at this); omega))
    go_region_held3 (fun w' => w'.cell? ⟨w.heap.size, 0, none⟩ = some (.int .i64 N) ∧ w'.cell? ⟨w.heap.size, 1, none⟩ = some (.int .i64 E) ∧ w'.cell? ⟨w.heap.size, 2, none⟩ = some (.int .i64 S) ∧ w'.cell? ⟨w.heap.size, 3, none⟩ = some (.slice p m cap) ∧ w'.cell? ⟨w1.heap.size, 0, none⟩ = some (.int .i64 X) ∧ w'.cell? ⟨w1.heap.size, 1, none⟩ = some (.int .i64 Y) ∧ Ge w w') (first | exact ⟨hb.keep (‹_ ∧ _ ∧ _ ∧ _ ∧ _ ∧ _ ∧ _›).1, hb.keep (‹_ ∧ _ ∧ _ ∧ _ ∧ _ ∧ _ ∧ _›).2.1, hb.keep (‹_ ∧ _ ∧ _ ∧ _ ∧ _ ∧ _ ∧ _›).2.2.1, hb.keep (‹_ ∧ _ ∧ _ ∧ _ ∧ _ ∧ _ ∧ _›).2.2.2.1, hb.keep (‹_ ∧ _ ∧ _ ∧ _ ∧ _ ∧ _ ∧ _›).2.2.2.2.1, hb.keep (‹_ ∧ _ ∧ _ ∧ _ ∧ _ ∧ _ ∧ _›).2.2.2.2.2.1, Ge.trans (‹_ ∧ _ ∧ _ ∧ _ ∧ _ ∧ _ ∧ _›).2.2.2.2.2.2 hb⟩ | ((refine ⟨?_, ?_, ?_, ?_, ?_, ?_, ?_⟩ <;> (repeat (first | assumption | with_reducible exact Ge.refl _ | with_reducible refine cv_drew ?_ | with_reducible refine cv_alloc ?_ | with_reducible refine cv_set ?_ | with_reducible refine cell_drew ?_ | ((with_reducible refine cell_new ?_ ?_); (focus (simp; done)); rfl) | ((with_reducible refine froz_new (v := undef) ?_ ?_); (focus (simp; done)); rfl) | with_reducible refine cell_drewN ?_ | with_reducible refine cell_alloc ?_ | ((with_reducible refine cell_set ?_ ?_); rotate_left; focus (simp; done)) | with_reducible refine froz_drew ?_ | with_reducible refine froz_set ?_ | with_reducible refine froz_alloc (by assumption) ?_ | with_reducible refine Ge.drew ?_ | with_reducible refine Ge.drewN ?_ _ | with_reducible refine Ge.alloc ?_ _ | ((with_reducible refine Ge.setCell ?_ ?_ _); rotate_left; focus (first | (simp; done) | omega | (simp; omega))) | with_reducible refine Ge.trans ?_ (by assumption)))); done) | ((obtain ⟨s0, s1, s2, s3, s4, s5, s6⟩ := ‹_ ∧ _ ∧ _ ∧ _ ∧ _ ∧ _ ∧ _›); refine ⟨?_, ?_, ?_, ?_, ?_, ?_, ?_⟩ <;> (repeat (first | assumption | with_reducible exact Ge.refl _ | with_reducible refine cv_drew ?_ | with_reducible refine cv_alloc ?_ | with_reducible refine cv_set ?_ | with_reducible refine cell_drew ?_ | ((with_reducible refine cell_new ?_ ?_); (focus (simp; done)); rfl) | ((with_reducible refine froz_new (v := undef) ?_ ?_); (focus (simp; done)); rfl) | with_reducible refine cell_drewN ?_ | with_reducible refine cell_alloc ?_ | ((with_reducible refine cell_set ?_ ?_); rotate_left; focus (simp; done)) | with_reducible refine froz_drew ?_ | with_reducible refine froz_set ?_ | with_reducible refine froz_alloc (by assumption) ?_ | with_reducible refine Ge.drew ?_ | with_reducible refine Ge.drewN ?_ _ | with_reducible refine Ge.alloc ?_ _ | ((with_reducible refine Ge.setCell ?_ ?_ _); rotate_left; focus (first | (simp; done) | omega | (simp; omega))) | with_reducible refine Ge.trans ?_ (by assumption))))) (first | (go_at_call 85; ((with_reducible refine (HTr.out _ (‹_ ∧ _ ∧ _ ∧ _ ∧ _ ∧ _ ∧ Ge w _›.2.2.2.2.2.2)).mono ?_); rintro e w' ⟨rfl, hb⟩)) | (go_at_call 51; ((with_reducible refine (iFormatRatio X Y _).mono ?_); rintro e w' ⟨rfl, hb⟩)) | (go_at_call 6; ((with_reducible refine (HFi.out _).mono ?_); rintro e w' ⟨rfl, rfl⟩)) | fail); (rename_i hHeldX; obtain ⟨c0_0, c0_1, c0_2, c0_3, c1_0, c1_1, G9⟩ := hHeldX)
    go_wp2_with fail
    go_ret
    exact ⟨ret_str HF.out, kge⟩

end Go.Proofs.YtagiecajffhnpaaGreat

namespace Go.Proofs.YtagiecajffhnpaaGreat
set_option maxRecDepth 100000
open Go.ChangeShapes Go.WideShapes Go.ChangeAt Go.RowKit Go.Joins

theorem inf_RatioP : (Tryz.prog.info? 86).map (fun i => (i.zero, i.size, i.bytes)) = some (some (Value.agg #[.int .i64 0, .int .i64 0]), 2, 16) := by kernel_rfl
/-- Appending one fraction in a drawn region. -/
theorem ap_rat1 {w0 wr w : World} {o : Oper} {a : Act} {K : Act → World → Prop} {Q : Exit → Act → World → Prop} (s x : Operand)
    (ho : o.op = .call { callee := .builtin .append, args := #[s, x], argTypes := #[78, 78] })
    (v : Value) (n : Nat) (l : List Int) (hs : a.eval s = v) (hg0 : Ge w0 wr) (hg : Ge wr w) (hown : wr.ownsRow w0.heap.size 86 2 v n (icells l))
    (y z : Int) {b0 : Nat} (hx : a.eval x = .slice (some ⟨b0, 0, none⟩) 1 1) (hb0 : b0 = w.heap.size) (hn : n < 1000)
    (h : ∀ v' w', w'.ownsRow w0.heap.size 86 2 v' (n + 1) (icells (l ++ [y, z])) → Ge w0 w' → K (a.put o.dst v') w') :
    o.wp Tryz.prog a (w.alloc (.cells #[.int .i64 y, .int .i64 z] 86)) K Q := by
  subst hb0
  obtain ⟨i, hi1, hi2, hi3, hi4⟩ := info_parts inf_RatioP
  have own2 : (w.alloc (.cells #[.int .i64 y, .int .i64 z] 86)).ownsRow w0.heap.size 86 2 v n (icells l) := (Ge.owns hg hown).alloc _
  have g2 : Ge w0 (w.alloc (.cells #[.int .i64 y, .int .i64 z] 86)) := Ge.alloc (Ge.trans hg0 hg) _
  refine wp_append_own _ s x 78 ho w0.heap.size 86 i _ 2 16 Tryz.underlying78 hi1 hi2 hi3 hi4 rfl (by decide) v n (icells l) hs own2 ⟨w.heap.size, 0, none⟩ 1 1 [.int .i64 y, .int .i64 z] hx rfl ?_ (by simp [Value.oneCell']) (by unfold maxLen; omega) ?_ g2.size ?_
  · intro j u hu
    have hadd : (⟨w.heap.size, 0, none⟩ : Addr).add j = ⟨w.heap.size, j, none⟩ := by unfold Addr.add; split <;> simp_all
    rw [hadd, cell_of_row (w.alloc (.cells #[.int .i64 y, .int .i64 z] 86)) w.heap.size j _ _ (0, 0) (heap_alloc_new w _)]
    simpa using hu
  · have : (n + 1) * 16 ≤ (n + 1) * 100 := Nat.mul_le_mul_left _ (by decide)
    omega
  · intro v' w' h2 h3 _
    exact h v' w' (by simpa [icells] using h2) (g2.mine own2 (Nat.le_refl _) h3)

noncomputable def potP (N E S : Int) (m : Nat) (xs : List Int) (a b x : Int) : Int := forV N E S m xs a b + forV N E S m xs x b - forV N E S m xs a x
theorem potP_bd (N E S : Int) (m : Nat) (xs : List Int) (a b x : Int) : -3000000000000 ≤ potP N E S m xs a b x ∧ potP N E S m xs a b x ≤ 3000000000000 := by
  have p1 := forV_bd N E S m xs a b
  have p2 := forV_bd N E S m xs x b
  have p3 := forV_bd N E S m xs a x
  unfold potP
  omega
noncomputable def potQ (n : Nat) (E S : Int) (m : Nat) (xs : List Int) (a b v : Int) : Rt := ratioOf (S * potP n E S m xs a b v) (2 * treeV n E S m xs)
/-- The first k potentials. -/
noncomputable def potL (n : Nat) (E S : Int) (m : Nat) (xs : List Int) (a b : Int) : Nat → List Int
  | 0 => []
  | k + 1 => potL n E S m xs a b k ++ [(potQ n E S m xs a b k).n, (potQ n E S m xs a b k).d]
theorem ratioOf_in (n d : Int) : (-9223372036854775808 ≤ (ratioOf n d).n ∧ (ratioOf n d).n ≤ 9223372036854775807) ∧ (-9223372036854775808 ≤ (ratioOf n d).d ∧ (ratioOf n d).d ≤ 9223372036854775807) := by
  rcases ratioOf_ok n d with h | h
  · rw [h]; decide
  · exact ratio_sm h
theorem potL_in (n : Nat) (E S : Int) (m : Nat) (xs : List Int) (a b : Int) : ∀ k, ∀ x ∈ potL n E S m xs a b k, -9223372036854775808 ≤ x ∧ x ≤ 9223372036854775807
  | 0 => fun x hx => by simp [potL] at hx
  | k + 1 => fun x hx => by
    simp only [potL, List.mem_append, List.mem_cons, List.not_mem_nil, or_false] at hx
    have := ratioOf_in (S * potP n E S m xs a b k) (2 * treeV n E S m xs)
    rcases hx with h | h | h
    · exact potL_in n E S m xs a b k x h
    · rw [h]; exact this.1
    · rw [h]; exact this.2
theorem nth_all {l : List Int} (h : ∀ x ∈ l, -9223372036854775808 ≤ x ∧ x ≤ 9223372036854775807) (j : Nat) : -9223372036854775808 ≤ nth l j ∧ nth l j ≤ 9223372036854775807 := by
  by_cases hj : j < l.length
  · rw [nth_eq l j hj]; exact h _ (List.getElem_mem hj)
  · have : nth l j = 0 := by unfold nth; simp [List.getD_eq_getElem?_getD, List.getElem?_eq_none (by omega : l.length ≤ j)]
    omega
noncomputable def potLine (N E S : Int) (m : Nat) (xs : List Int) (a b : Int) : List UInt8 := if difB N E S m xs a b = true then rowLine N.toNat (potL N.toNat E S m xs a b N.toNat) else []
theorem potLine_f {N E S : Int} {m : Nat} {xs : List Int} {a b : Int} (h : difB N E S m xs a b = false) : (⟨#[]⟩ : ByteArray) = bstr (potLine N E S m xs a b) := by unfold potLine; rw [h]; rfl
theorem potLine_t {n : Nat} {E S : Int} {m : Nat} {xs : List Int} {a b : Int} (h : difB n E S m xs a b = true) : potLine n E S m xs a b = rowLine n (potL n E S m xs a b n) := by unfold potLine; rw [h, if_pos rfl]; rfl
theorem prod_bd {S x B : Int} (h0 : 1 ≤ S) (h1 : S ≤ 1000) (h2 : -B ≤ x) (h3 : x ≤ B) (hB : 0 ≤ B) : -(1000 * B) ≤ S * x ∧ S * x ≤ 1000 * B := mul_bd (by omega) h1 h2 h3 hB

set_option maxHeartbeats 1600000 in
theorem iPotentialsF (N E S : Int) (s : Value) (m : Nat) (xs : List Int) (a b : Int) (w : World) (hs : SlF w s m 3 xs) (hm : m ≤ 9223372036854775807) (hD : difB N E S m xs a b = false) :
    Calls Tryz.prog 86 #[.agg #[.int .i64 N, .int .i64 E, .int .i64 S, s], .int .i64 a, .int .i64 b] w fun e w' => e = .returned (.tuple #[.slice none 0 0, .bool false]) ∧ Ge w w' := by
  obtain ⟨p, cap, rfl, hc⟩ := hs.open
  have HV := Lib.hid hs
  clear hs hc
  cases hB : netB N E S m xs with
  | false =>
    clear hD
    go_enter Tryz.func86, Tryz.ntmps86
    go_wp2_with ((go_at_call 43; ((with_reducible refine (iNetOk N E S _ m xs _ (HV.out.ge (Ge.alloc (Ge.refl w) _)) hm).mono ?_); rintro e w1 ⟨rfl, gw1⟩); have Gw1 : Ge w w1 := (Ge.trans (kge) gw1); have c0_0 : World.cell? w1 ⟨w.heap.size, 0, none⟩ = some (.int .i64 N) := Ge.keep gw1 kcell; have c0_1 : World.cell? w1 ⟨w.heap.size, 1, none⟩ = some (.int .i64 E) := Ge.keep gw1 kcell; have c0_2 : World.cell? w1 ⟨w.heap.size, 2, none⟩ = some (.int .i64 S) := Ge.keep gw1 kcell; have c0_3 : World.cell? w1 ⟨w.heap.size, 3, none⟩ = some (.slice p m cap) := Ge.keep gw1 kcell; have zw1 : w.heap.size + 1 ≤ w1.heap.size := (by have := Ge.size gw1; (try simp at this); omega)); rw [hB])
    exact bodyPost_ret (v := .tuple #[.slice none 0 0, .bool false]) (by simp [results, Tryz.results86, go_sem, *]) rfl ⟨rfl, kge⟩
  | true =>
    obtain ⟨⟨n1, n2⟩, h10, _⟩ := net_wires hB
    obtain ⟨n, rfl⟩ : ∃ n : Nat, N = (n : Int) := ⟨N.toNat, by omega⟩
    by_cases ha : ¬ (0 ≤ a ∧ a < (n : Int))
    · have ia : nodeB n a = false := nodeB_f ha
      clear hD ha
      go_enter Tryz.func86, Tryz.ntmps86
      go_wp2_with (first | ((go_at_call 43; ((with_reducible refine (iNetOk (n : Int) E S _ m xs _ (HV.out.ge (Ge.alloc (Ge.refl w) _)) hm).mono ?_); rintro e w1 ⟨rfl, gw1⟩); have Gw1 : Ge w w1 := (Ge.trans (kge) gw1); have c0_0 : World.cell? w1 ⟨w.heap.size, 0, none⟩ = some (.int .i64 (n : Int)) := Ge.keep gw1 kcell; have c0_1 : World.cell? w1 ⟨w.heap.size, 1, none⟩ = some (.int .i64 E) := Ge.keep gw1 kcell; have c0_2 : World.cell? w1 ⟨w.heap.size, 2, none⟩ = some (.int .i64 S) := Ge.keep gw1 kcell; have c0_3 : World.cell? w1 ⟨w.heap.size, 3, none⟩ = some (.slice p m cap) := Ge.keep gw1 kcell; have zw1 : w.heap.size + 1 ≤ w1.heap.size := (by have := Ge.size gw1; (try simp at this); omega)); rw [hB]) | (go_at_call 69; ((with_reducible refine (isNodeI n E S _ _ _ rfl).mono ?_); rintro e wn ⟨rfl, gwn⟩); have zlt : w.heap.size < wn.heap.size := (by have := Ge.size gwn; (try simp at this); omega); have Gwn : Ge w wn := (Ge.trans (kge) gwn); have c0_0 : World.cell? wn ⟨w.heap.size, 0, none⟩ = some (.int .i64 (n : Int)) := Ge.keep gwn kcell; have c0_1 : World.cell? wn ⟨w.heap.size, 1, none⟩ = some (.int .i64 E) := Ge.keep gwn kcell; have c0_2 : World.cell? wn ⟨w.heap.size, 2, none⟩ = some (.int .i64 S) := Ge.keep gwn kcell; have c0_3 : World.cell? wn ⟨w.heap.size, 3, none⟩ = some (.slice p m cap) := Ge.keep gwn kcell; have zwn : w.heap.size + 1 ≤ wn.heap.size := (by have := Ge.size gwn; (try simp at this); omega)))
      exact bodyPost_ret (v := .tuple #[.slice none 0 0, .bool false]) (by simp [results, Tryz.results86, go_sem, *]) rfl ⟨rfl, kge⟩
    replace ha := Classical.not_not.1 ha
    have ia : nodeB n a = true := nodeB_t ha
    by_cases hb : ¬ (0 ≤ b ∧ b < (n : Int))
    · have ib : nodeB n b = false := nodeB_f hb
      clear hD ha hb
      go_enter Tryz.func86, Tryz.ntmps86
      go_wp2_with (first | ((go_at_call 43; ((with_reducible refine (iNetOk (n : Int) E S _ m xs _ (HV.out.ge (Ge.alloc (Ge.refl w) _)) hm).mono ?_); rintro e w1 ⟨rfl, gw1⟩); have Gw1 : Ge w w1 := (Ge.trans (kge) gw1); have c0_0 : World.cell? w1 ⟨w.heap.size, 0, none⟩ = some (.int .i64 (n : Int)) := Ge.keep gw1 kcell; have c0_1 : World.cell? w1 ⟨w.heap.size, 1, none⟩ = some (.int .i64 E) := Ge.keep gw1 kcell; have c0_2 : World.cell? w1 ⟨w.heap.size, 2, none⟩ = some (.int .i64 S) := Ge.keep gw1 kcell; have c0_3 : World.cell? w1 ⟨w.heap.size, 3, none⟩ = some (.slice p m cap) := Ge.keep gw1 kcell; have zw1 : w.heap.size + 1 ≤ w1.heap.size := (by have := Ge.size gw1; (try simp at this); omega)); rw [hB]) | (go_at_call 69; ((with_reducible refine (isNodeI n E S _ _ _ rfl).mono ?_); rintro e wn ⟨rfl, gwn⟩); have zlt : w.heap.size < wn.heap.size := (by have := Ge.size gwn; (try simp at this); omega); have Gwn : Ge w wn := (Ge.trans (kge) gwn); have c0_0 : World.cell? wn ⟨w.heap.size, 0, none⟩ = some (.int .i64 (n : Int)) := Ge.keep gwn kcell; have c0_1 : World.cell? wn ⟨w.heap.size, 1, none⟩ = some (.int .i64 E) := Ge.keep gwn kcell; have c0_2 : World.cell? wn ⟨w.heap.size, 2, none⟩ = some (.int .i64 S) := Ge.keep gwn kcell; have c0_3 : World.cell? wn ⟨w.heap.size, 3, none⟩ = some (.slice p m cap) := Ge.keep gwn kcell; have zwn : w.heap.size + 1 ≤ wn.heap.size := (by have := Ge.size gwn; (try simp at this); omega)))
      exact bodyPost_ret (v := .tuple #[.slice none 0 0, .bool false]) (by simp [results, Tryz.results86, go_sem, *]) rfl ⟨rfl, kge⟩
    replace hb := Classical.not_not.1 hb
    have ib : nodeB n b = true := nodeB_t hb
    by_cases hab : a = b
    · have t : (a == b) = true := by simp [hab]
      clear hD ha hb hab
      go_enter Tryz.func86, Tryz.ntmps86
      go_wp2_with (first | ((go_at_call 43; ((with_reducible refine (iNetOk (n : Int) E S _ m xs _ (HV.out.ge (Ge.alloc (Ge.refl w) _)) hm).mono ?_); rintro e w1 ⟨rfl, gw1⟩); have Gw1 : Ge w w1 := (Ge.trans (kge) gw1); have c0_0 : World.cell? w1 ⟨w.heap.size, 0, none⟩ = some (.int .i64 (n : Int)) := Ge.keep gw1 kcell; have c0_1 : World.cell? w1 ⟨w.heap.size, 1, none⟩ = some (.int .i64 E) := Ge.keep gw1 kcell; have c0_2 : World.cell? w1 ⟨w.heap.size, 2, none⟩ = some (.int .i64 S) := Ge.keep gw1 kcell; have c0_3 : World.cell? w1 ⟨w.heap.size, 3, none⟩ = some (.slice p m cap) := Ge.keep gw1 kcell; have zw1 : w.heap.size + 1 ≤ w1.heap.size := (by have := Ge.size gw1; (try simp at this); omega)); rw [hB]) | (go_at_call 69; ((with_reducible refine (isNodeI n E S _ _ _ rfl).mono ?_); rintro e wn ⟨rfl, gwn⟩); have zlt : w.heap.size < wn.heap.size := (by have := Ge.size gwn; (try simp at this); omega); have Gwn : Ge w wn := (Ge.trans (kge) gwn); have c0_0 : World.cell? wn ⟨w.heap.size, 0, none⟩ = some (.int .i64 (n : Int)) := Ge.keep gwn kcell; have c0_1 : World.cell? wn ⟨w.heap.size, 1, none⟩ = some (.int .i64 E) := Ge.keep gwn kcell; have c0_2 : World.cell? wn ⟨w.heap.size, 2, none⟩ = some (.int .i64 S) := Ge.keep gwn kcell; have c0_3 : World.cell? wn ⟨w.heap.size, 3, none⟩ = some (.slice p m cap) := Ge.keep gwn kcell; have zwn : w.heap.size + 1 ≤ wn.heap.size := (by have := Ge.size gwn; (try simp at this); omega)))
      exact bodyPost_ret (v := .tuple #[.slice none 0 0, .bool false]) (by simp [results, Tryz.results86, go_sem, *]) rfl ⟨rfl, kge⟩
    · rw [dif_t hB ha hb hab] at hD; cases hD

set_option maxHeartbeats 3200000 in
theorem iPotentialsT (n : Nat) (E S : Int) (s : Value) (m : Nat) (xs : List Int) (a b : Int) (w : World) (hs : SlF w s m 3 xs) (hm : m ≤ 9223372036854775807) (hD : difB n E S m xs a b = true) :
    Calls Tryz.prog 86 #[.agg #[.int .i64 (n : Int), .int .i64 E, .int .i64 S, s], .int .i64 a, .int .i64 b] w fun e w' => ∃ v, e = .returned (.tuple #[v, .bool true]) ∧ SlF w' v n 2 (potL n E S m xs a b n) ∧ Ge w w' := by
  obtain ⟨p, cap, rfl, hc⟩ := hs.open
  have HV := Lib.hid hs
  clear hs hc
  obtain ⟨hB, ha, hb, hab⟩ := dif_of hD
  obtain ⟨⟨n1, n2⟩, h10, _⟩ := net_wires hB
  obtain ⟨k1, k2⟩ := net_scale hB
  have b1 := treeV_bd n E S m xs
  have ia : nodeB n a = true := nodeB_t ha
  have ib : nodeB n b = true := nodeB_t hb
  have t : (a == b) = false := by simp [hab]
  have HP := Lib.hid (fun (v : Nat) w' (g : Ge w w') => iPotential n E S (.slice p m cap) m xs a b v w' (HV.out.ge g) hm)
  have HTr := Lib.hid (fun w' (g : Ge w w') => iTreeSum n E S (.slice p m cap) m xs w' (HV.out.ge g) hm)
  clear hD ha hb hab
  go_enter Tryz.func86, Tryz.ntmps86
  go_wp2_with (first | ((go_at_call 43; ((with_reducible refine (iNetOk (n : Int) E S _ m xs _ (HV.out.ge (Ge.alloc (Ge.refl w) _)) hm).mono ?_); rintro e w1 ⟨rfl, gw1⟩); have Gw1 : Ge w w1 := (Ge.trans (kge) gw1); have c0_0 : World.cell? w1 ⟨w.heap.size, 0, none⟩ = some (.int .i64 (n : Int)) := Ge.keep gw1 kcell; have c0_1 : World.cell? w1 ⟨w.heap.size, 1, none⟩ = some (.int .i64 E) := Ge.keep gw1 kcell; have c0_2 : World.cell? w1 ⟨w.heap.size, 2, none⟩ = some (.int .i64 S) := Ge.keep gw1 kcell; have c0_3 : World.cell? w1 ⟨w.heap.size, 3, none⟩ = some (.slice p m cap) := Ge.keep gw1 kcell; have zw1 : w.heap.size + 1 ≤ w1.heap.size := (by have := Ge.size gw1; (try simp at this); omega)); rw [hB]) | (go_at_call 69; ((with_reducible refine (isNodeI n E S _ _ _ rfl).mono ?_); rintro e wn ⟨rfl, gwn⟩); have zlt : w.heap.size < wn.heap.size := (by have := Ge.size gwn; (try simp at this); omega); have Gwn : Ge w wn := (Ge.trans (kge) gwn); have c0_0 : World.cell? wn ⟨w.heap.size, 0, none⟩ = some (.int .i64 (n : Int)) := Ge.keep gwn kcell; have c0_1 : World.cell? wn ⟨w.heap.size, 1, none⟩ = some (.int .i64 E) := Ge.keep gwn kcell; have c0_2 : World.cell? wn ⟨w.heap.size, 2, none⟩ = some (.int .i64 S) := Ge.keep gwn kcell; have c0_3 : World.cell? wn ⟨w.heap.size, 3, none⟩ = some (.slice p m cap) := Ge.keep gwn kcell; have zwn : w.heap.size + 1 ≤ wn.heap.size := (by have := Ge.size gwn; (try simp at this); omega)))
  go_loopw [8, 33] (fun o i wr => ∃ (k : Nat) (u : Value), k ≤ n ∧ i = .int .i64 k ∧ o = u ∧ wr.ownsRow wn.heap.size 86 2 u k (icells (potL n E S m xs a b k)) ∧ Ge wn wr) (fun _ i _ => n - (intOf i).toNat)
  case atStart => exact ⟨0, _, Nat.zero_le _, rfl, rfl, owns_lit0 _ _ _, kge⟩
  case round =>
    obtain ⟨k, u, hk, rfl, rfl, hown, hg⟩ := hrel
    have gwr : Ge w wr := Ge.trans Gwn hg
    have d0 := hg.keep c0_0
    have d1 := hg.keep c0_1
    have d2 := hg.keep c0_2
    have d3 := hg.keep c0_3
    by_cases hlt : k < n
    · have hSn : Hid (potL n E S m xs a b k ++ [(potQ n E S m xs a b k).n, (potQ n E S m xs a b k).d] = potL n E S m xs a b (k + 1)) := rfl
      have f1 := potP_bd n E S m xs a b k
      have HPk : Hid (∀ w', Ge w w' → Calls Tryz.prog 87 #[.agg #[.int .i64 (n : Int), .int .i64 E, .int .i64 S, .slice p m cap], .int .i64 a, .int .i64 b, .int .i64 (k : Int)] w' fun e w'' => e = .returned (.int .i64 (potP n E S m xs a b k)) ∧ Ge w' w'') := fun w' g => HP.out k w' g
      have hQ : Hid (potQ n E S m xs a b k = ratioOf (S * potP n E S m xs a b k) (2 * treeV n E S m xs)) := rfl
      generalize potQ n E S m xs a b k = Q at *
      generalize potP n E S m xs a b k = V at *
      have b3 := prod_bd k1 k2 (x := V) (B := 3000000000000) (by omega) (by omega) (by omega)
      have HRk := Lib.hid (fun w' => iRatioOf (S * V) (2 * treeV n E S m xs) w' (mid (by omega) (by omega)) (mid (by omega) (by omega)))
      rw [← hQ.out] at HRk
      generalize hSV : S * V = SV at *
      have W1 : IntKind.i64.wrap SV = SV := IntWalk.i64_in _ (by omega)
      have W2 : IntKind.i64.wrap (2 * treeV n E S m xs) = 2 * treeV n E S m xs := IntWalk.i64_in _ (by omega)
      clear f1 b3 hQ
      generalize potL n E S m xs a b k = L at *
      go_wp2_with fail
      have hS : ∀ w', Ge wn w' → (w'.cell? ⟨w.heap.size, 0, none⟩ = some (.int .i64 (n : Int)) ∧ w'.cell? ⟨w.heap.size, 1, none⟩ = some (.int .i64 E) ∧ w'.cell? ⟨w.heap.size, 2, none⟩ = some (.int .i64 S) ∧ w'.cell? ⟨w.heap.size, 3, none⟩ = some (.slice p m cap) ∧ Ge wn w') := fun w' g => ⟨g.keep (kch), g.keep (kch), g.keep (kch), g.keep (kch), Ge.trans (kch) g⟩
      go_region_held3 (fun w' => w'.cell? ⟨w.heap.size, 0, none⟩ = some (.int .i64 (n : Int)) ∧ w'.cell? ⟨w.heap.size, 1, none⟩ = some (.int .i64 E) ∧ w'.cell? ⟨w.heap.size, 2, none⟩ = some (.int .i64 S) ∧ w'.cell? ⟨w.heap.size, 3, none⟩ = some (.slice p m cap) ∧ Ge wn w') (first | ((with_reducible refine hS _ ?_); exact kch) | fail) (first | (go_at_call 87; ((with_reducible refine (HPk.out _ (kch)).mono ?_); rintro e w5 ⟨rfl, hb⟩)) | (go_at_call 85; ((with_reducible refine (HTr.out _ (kch)).mono ?_); rintro e w5 ⟨rfl, hb⟩)) | (go_at_call 81; ((with_reducible refine (HRk.out _).mono ?_); rintro e w5 ⟨rfl, hb⟩)) | (refine ap_rat1 (w0 := wn) (wr := wr) _ _ rfl u8 k L rfl hg (kch) hown _ _ rfl rfl (by omega) ?_; intro v6 w6 own6 g6) | fail)
      rename_i hHeldX
      obtain ⟨q0, q1, q2, q3, G7⟩ := hHeldX
      clear hS
      all_goals
        go_wp2_with fail
        go_roundw
        case rel => exact ⟨k + 1, _, by omega, by go_num, rfl, by rw [← hSn.out]; exact own6, g6⟩
        case measure => simp [intOf]; omega
    · have hkn : n = k := by omega
      subst hkn
      go_wp2_with fail
      exact bodyPost_ret (v := .tuple #[u8, .bool true]) (by simp [results, Tryz.results86, go_sem]) rfl ⟨_, rfl, SlF.of_owns hown, kge⟩

set_option maxHeartbeats 1600000 in
theorem iPotentialLine (N E S : Int) (s : Value) (m : Nat) (xs : List Int) (a b : Int) (w : World) (hs : SlF w s m 3 xs) (hm : m ≤ 9223372036854775807) :
    Calls Tryz.prog 49 #[.agg #[.int .i64 N, .int .i64 E, .int .i64 S, s], .int .i64 a, .int .i64 b] w fun e w' => e = .returned (.string (bstr (potLine N E S m xs a b))) ∧ Ge w w' := by
  obtain ⟨p, cap, rfl, hc⟩ := hs.open
  have HV := Lib.hid hs
  clear hs hc
  cases hT : difB N E S m xs a b with
  | false =>
    have HF := Lib.hid (potLine_f hT)
    have HP := Lib.hid (fun w' (g : Ge w w') => iPotentialsF N E S (.slice p m cap) m xs a b w' (HV.out.ge g) hm hT)
    go_enter Tryz.func49, Tryz.ntmps49
    go_wp2_with (go_at_call 86; ((with_reducible refine (HP.out _ (Ge.alloc (Ge.refl w) _)).mono ?_); rintro e w1 ⟨rfl, g1⟩))
    go_ret
    exact ⟨ret_str HF.out, kge⟩
  | true =>
    obtain ⟨⟨n1, n2⟩, h10, _⟩ := net_wires (dif_of hT).1
    obtain ⟨n, rfl⟩ : ∃ n : Nat, N = (n : Int) := ⟨N.toNat, by omega⟩
    have HF := Lib.hid (potLine_t hT)
    have HP := Lib.hid (fun w' (g : Ge w w') => iPotentialsT n E S (.slice p m cap) m xs a b w' (HV.out.ge g) hm hT)
    have HB := Lib.hid (nth_all (potL_in n E S m xs a b n))
    have n5 : n ≤ 1048576 := by omega
    generalize potL n E S m xs a b n = L at *
    clear hT
    go_enter Tryz.func49, Tryz.ntmps49
    go_wp2_with (first | (go_at_call 86; ((with_reducible refine (HP.out _ (Ge.alloc (Ge.refl w) _)).mono ?_); rintro e w1 ⟨v1, rfl, s1, g1⟩)) | (go_at_call 46; ((with_reducible refine (iFormatRow _ n L _ s1 n5 HB.out).mono ?_); rintro e w2 ⟨rfl, g2⟩)))
    go_ret
    exact ⟨ret_str (by rw [HF.out]), kge⟩

end Go.Proofs.YtagiecajffhnpaaGreat

namespace Go.Proofs.YtagiecajffhnpaaGreat
set_option maxRecDepth 100000
open Go.ChangeShapes Go.WideShapes Go.ChangeAt Go.RowKit Go.Joins

def fdS (n e m : Nat) (xs l : List Int) (i : Nat) : Nat → Int
  | 0 => 0
  | j + 1 => fdS n e m xs l i j + topZ n e m xs i j * nth l j
noncomputable def fdQ (n e m : Nat) (S : Int) (xs l : List Int) (i : Nat) : Rt := ratioOf (fdS n e m xs l i e) (S * dwnZ n e m xs)
noncomputable def fdL (n e m : Nat) (S : Int) (xs l : List Int) : Nat → List Int
  | 0 => []
  | k + 1 => fdL n e m S xs l k ++ [(fdQ n e m S xs l k).n, (fdQ n e m S xs l k).d]
theorem fdL_in (n e m : Nat) (S : Int) (xs l : List Int) : ∀ k, ∀ x ∈ fdL n e m S xs l k, -9223372036854775808 ≤ x ∧ x ≤ 9223372036854775807
  | 0 => fun x hx => by simp [fdL] at hx
  | k + 1 => fun x hx => by
    simp only [fdL, List.mem_append, List.mem_cons, List.not_mem_nil, or_false] at hx
    have := ratioOf_in (fdS n e m xs l k e) (S * dwnZ n e m xs)
    rcases hx with h | h | h
    · exact fdL_in n e m S xs l k x h
    · rw [h]; exact this.1
    · rw [h]; exact this.2
theorem top_bd2 {n e m : Nat} {xs : List Int} (hn : n ≤ 5) (h : ∀ k, k < m → goodW n xs k) (h1 : 2 ≤ e) (he : e ≤ n) (a b : Nat) : absB (topZ n e m xs a b) 256000000000000 := by
  have hl := innZ_length e (n - e)
  have h3 := detF_bdE (lapZ_800 hn h) ((a : Int) :: innZ e (n - e)) ((b : Int) :: innZ e (n - e)) (by simp only [List.length_cons]; omega)
  have h2 : detE ((a : Int) :: innZ e (n - e)).length ≤ 256000000000000 := by
    rw [List.length_cons, hl]
    have : n - e = 0 ∨ n - e = 1 ∨ n - e = 2 ∨ n - e = 3 := by omega
    rcases this with h | h | h | h <;> rw [h] <;> decide
  unfold absB at *
  unfold topZ
  omega
/-- The sums stay small. -/
def fdOk (e : Nat) (l : List Int) : Prop := ∀ j, j < e → (-100 ≤ nth l j ∧ nth l j ≤ 100) ∧ (e = 1 → -8 ≤ nth l j ∧ nth l j ≤ 8)
theorem fd_one {n e m : Nat} {xs l : List Int} (hn : n ≤ 5) (h : ∀ k, k < m → goodW n xs k) (h1 : 1 ≤ e) (he : e ≤ n) (hl : fdOk e l) (i : Nat) {j : Nat} (hj : j < e) : absB (topZ n e m xs i j * nth l j) (if e = 1 then 8192000000000000000 else 25600000000000000) := by
  obtain ⟨ha, hb⟩ := hl j hj
  by_cases c : e = 1
  · rw [if_pos c]
    have := absB_mul (A := 1024000000000000000) (B := 8) (by decide) (top_bd hn h h1 he i j) (hb c) (by decide)
    unfold absB at *
    omega
  · rw [if_neg c]
    have := absB_mul (A := 256000000000000) (B := 100) (by decide) (top_bd2 hn h (by omega) he i j) ha (by decide)
    unfold absB at *
    omega
theorem fd_sum {n e m : Nat} {xs l : List Int} (hn : n ≤ 5) (h : ∀ k, k < m → goodW n xs k) (h1 : 1 ≤ e) (he : e ≤ n) (hl : fdOk e l) (i : Nat) : ∀ j : Nat, j ≤ e → absB (fdS n e m xs l i j) (if e = 1 then 8192000000000000000 * j else 25600000000000000 * j)
  | 0, _ => by unfold fdS absB; split <;> omega
  | j + 1, hj => by
    have h2 := fd_sum hn h h1 he hl i j (by omega)
    have h3 := fd_one hn h h1 he hl i (j := j) (by omega)
    unfold fdS
    by_cases c : e = 1
    · rw [if_pos c] at *
      unfold absB at *
      omega
    · rw [if_neg c] at *
      unfold absB at *
      omega
theorem fd_bd {n e m : Nat} {xs l : List Int} (hn : n ≤ 5) (h : ∀ k, k < m → goodW n xs k) (h1 : 1 ≤ e) (he : e ≤ n) (hl : fdOk e l) (i : Nat) {j : Nat} (hj : j ≤ e) : -8200000000000000000 ≤ fdS n e m xs l i j ∧ fdS n e m xs l i j ≤ 8200000000000000000 := by
  have h2 := fd_sum hn h h1 he hl i j hj
  by_cases c : e = 1
  · rw [if_pos c] at h2
    unfold absB at h2
    have : j ≤ 1 := by omega
    omega
  · rw [if_neg c] at h2
    unfold absB at h2
    omega
theorem fd_bd1 {n e m : Nat} {xs l : List Int} (hn : n ≤ 5) (h : ∀ k, k < m → goodW n xs k) (h1 : 1 ≤ e) (he : e ≤ n) (hl : fdOk e l) (i : Nat) {j : Nat} (hj : j < e) : -8200000000000000000 ≤ topZ n e m xs i j * nth l j ∧ topZ n e m xs i j * nth l j ≤ 8200000000000000000 := by
  have h2 := fd_one hn h h1 he hl i hj
  unfold absB at h2
  split at h2 <;> omega

theorem ap_ratF {w : World} {ops : Array Oper} {rest : List Oper} {o : Oper} {a : Act} {Q : Exit → Act → World → Prop} (hgd : o.guard = none) (s x : Operand)
    (ho : o.op = .call { callee := .builtin .append, args := #[s, x], argTypes := #[78, 78] })
    (base : Nat) (v : Value) (n : Nat) (l : List Int) (hs : a.eval s = v) (hown : w.ownsRow base 86 2 v n (icells l)) (hb : base ≤ w.heap.size)
    (y z : Int) {b0 : Nat} (hx : a.eval x = .slice (some ⟨b0, 0, none⟩) 1 1) (hb0 : b0 = w.heap.size) (hn : n < 1000)
    (h : ∀ v' w', w'.ownsRow base 86 2 v' (n + 1) (icells (l ++ [y, z])) → Mine w w' v → wpList Tryz.prog ops Q rest (a.put o.dst v') w') :
    wpList Tryz.prog ops Q (o :: rest) a (w.alloc (.cells #[.int .i64 y, .int .i64 z] 86)) := by
  subst hb0
  exact wpList_plain hgd fun _ hK => ap_ratK s x ho base v n l hs (hown.alloc _) (by simp; omega) y z hx (cell_new rfl rfl) (cell_new rfl rfl) hn (fun v' w' h1 h2 => hK _ _ (h v' w' h1 (Mine.alloc _ h2)))
set_option maxHeartbeats 3200000 in
theorem iCurrentsForT (n e : Nat) (S : Int) (s vv : Value) (m : Nat) (xs l : List Int) (w : World) (hs : SlF w s m 3 xs) (hv : SlI w vv l) (hB : netB n e S m xs = true) (hle : l.length = e) (hl : fdOk e l) :
    Calls Tryz.prog 44 #[.agg #[.int .i64 (n : Int), .int .i64 (e : Int), .int .i64 S, s], vv] w fun r w' => ∃ v, r = .returned (.tuple #[v, .bool true]) ∧ w'.ownsRow w.heap.size 86 2 v e (icells (fdL n e m S xs l e)) ∧ Ge w w' := by
  obtain ⟨⟨h1, h5⟩, ⟨e1, e2⟩, ⟨s1, s2⟩, hok, _⟩ := netP_of hB
  have hm : m ≤ 10 := prs_len (by omega) hok
  have HV := Lib.hid hs
  obtain ⟨p, cap, rfl, _⟩ := hs.open
  have HNo := Lib.hid (fun w' (g : Ge w w') => iNetOk n e S (.slice p m cap) m xs w' (HV.out.ge g) (by omega))
  rw [hB] at HNo
  have HRe := Lib.hid (fun w' (g : Ge w w') => iResponse n e S (.slice p m cap) m xs w' (HV.out.ge g) hB)
  have HF1 := Lib.hid (fun (i j : Nat) (hj : j < e) => fd_bd1 (m := m) (xs := xs) (by omega) hok (by omega) (by omega) hl i hj)
  have HF2 := Lib.hid (fun (i j : Nat) (hj : j ≤ e) => fd_bd (m := m) (xs := xs) (by omega) hok (by omega) (by omega) hl i hj)
  have HF0 : Hid (∀ i, fdS n e m xs l i 0 = 0) := fun i => rfl
  have HFs : Hid (∀ i j, fdS n e m xs l i (j + 1) = fdS n e m xs l i j + topZ n e m xs i j * nth l j) := fun i j => rfl
  have HL0 : Hid (fdL n e m S xs l 0 = []) := rfl
  have HLs : Hid (∀ k, fdL n e m S xs l (k + 1) = fdL n e m S xs l k ++ [(fdQ n e m S xs l k).n, (fdQ n e m S xs l k).d]) := fun k => rfl
  have HQ : Hid (∀ k, fdQ n e m S xs l k = ratioOf (fdS n e m xs l k e) (S * dwnZ n e m xs)) := fun k => rfl
  have HLk := Lib.hid hl
  have hsd := sdwn_bd (m := m) (xs := xs) (S := S) (by omega) hok (show 1 ≤ e by omega) s1 s2
  generalize S * dwnZ n e m xs = DW at *
  have MD := mid (n := DW) (by omega) (by omega)
  have HRo := Lib.hid (fun x w' (hx : Mid x) => iRatioOf x DW w' hx MD)
  obtain ⟨pv, cv, rfl, hvc⟩ := hv.openN hle
  have HVc := Lib.hid hvc
  have NB0 := NetIn.new w n e S (.slice p m cap)
  have tne : ((e : Int) != (e : Int)) = false := by simp
  clear hs hv hB hok hvc hl MD
  go_enter Tryz.func44, Tryz.ntmps44
  go_wp2_with ((go_at_call 43; ((with_reducible refine (HNo.out _ (kge)).mono ?_); rintro r w1 ⟨rfl, g1⟩)); have HN1 := Lib.hid (NB0.ge g1); obtain ⟨b0, b1, b2, b3⟩ := HN1.out; have G1 : Ge w w1 := (kge))
  go_loopw [27] (fun i wr => ∃ j : Nat, i = .int .i64 (j : Int) ∧ j ≤ e ∧ w1 = wr) (fun i _ => e - (intOf i).toNat)
  case atStart => exact ⟨0, rfl, Nat.zero_le _, rfl⟩
  case round =>
    obtain ⟨j, rfl, hj, rfl⟩ := hrel
    by_cases hlt : j < e
    · obtain ⟨b, o, rfl, x0⟩ := HVc.out j hlt
      have y0 := G1.keep x0
      obtain ⟨ha, _⟩ := HLk.out j hlt
      have t1 : decide (nth l j < -100) = false := by simp; omega
      have t2 : decide ((100 : Int) < nth l j) = false := by simp; omega
      generalize nth l j = V at *
      clear x0
      go_wp2_with fail
      go_roundw
      case rel => exact ⟨j + 1, by go_num, by omega, by trivial⟩
      case measure => simp [intOf]; omega
    · have hje : e = j := by omega
      subst hje
      go_wp2_with ((go_at_call 80; ((with_reducible refine (HRe.out _ G1).mono ?_); rintro r w2 ⟨v2, rfl, hR2, g2⟩)); have HR2 := Lib.hid hR2.ints; have G2 : Ge w w2 := G1.trans g2; obtain ⟨bR, oR, cR, hvR, hRc⟩ := HR2.out; subst hvR; have HRc := Lib.hid hRc; clear hR2 hRc HR2)
      have z2 := g2.size
      go_loopw [10, 46] (fun o i wr => ∃ (k : Nat) (u : Value), k ≤ e ∧ i = .int .i64 (k : Int) ∧ o = u ∧ Hid (wr.ownsRow w2.heap.size 86 2 u k (icells (fdL n e m S xs l k))) ∧ Hid (Ge w2 wr)) (fun _ i _ => e - (intOf i).toNat)
      case atStart => exact ⟨0, _, Nat.zero_le _, rfl, rfl, by rw [HL0.out]; exact owns_lit0 _ _ _, Ge.alloc (Ge.refl _) _⟩
      case round =>
        obtain ⟨k, u, hk, rfl, rfl, HOw, HG⟩ := hrel
        by_cases hlt2 : k < e
        · obtain ⟨pk, kk, x0, hent⟩ := HRc.out k hlt2
          have y0 := HG.out.keep x0
          have HEn := Lib.hid hent
          have HQk := Lib.hid (HQ.out k)
          have HLk2 := Lib.hid (HLs.out k)
          clear x0 hent
          go_wp2_with fail
          go_loopw [12, 51] (fun s i wx => ∃ j : Nat, j ≤ e ∧ i = .int .i64 (j : Int) ∧ s = .int .i64 (fdS n e m xs l k j) ∧ wr = wx) (fun _ i _ => e - (intOf i).toNat)
          case atStart => exact ⟨0, Nat.zero_le _, rfl, by rw [HF0.out], rfl⟩
          case round =>
            obtain ⟨j, hj, rfl, rfl, rfl⟩ := hrel
            by_cases hlt3 : j < e
            · obtain ⟨b, o, rfl, x0⟩ := HVc.out j hlt3
              obtain ⟨br, or', rfl, x1⟩ := HEn.out j hlt3
              have y1 := (G2.trans HG.out).keep x0
              have y2 := HG.out.keep x1
              have q1 := HF1.out k j hlt3
              have q2 := HF2.out k (j + 1) (by omega)
              have HFj := Lib.hid (HFs.out k j)
              rw [HFj.out] at q2
              generalize topZ n e m xs k j = TZ at *
              generalize nth l j = V at *
              generalize fdS n e m xs l k j = FS at *
              have tw1 : wrap64 (TZ * V) = TZ * V := IntWalk.wrap64_in _ ⟨by omega, by omega⟩
              have tw2 : wrap64 (FS + TZ * V) = FS + TZ * V := IntWalk.wrap64_in _ ⟨by omega, by omega⟩
              clear x0 x1
              go_wp2_with fail
              go_roundw
              case rel => exact ⟨j + 1, by omega, by go_num, by rw [HFj.out], by trivial⟩
              case measure => simp [intOf]; omega
            · have hje : e = j := by omega
              subst hje
              have q2 := HF2.out k e (Nat.le_refl _)
              have HRk := Lib.hid (fun w' => HRo.out (fdS n e m xs l k e) w' (mid (by omega) (by omega)))
              rw [← HQk.out] at HRk
              generalize fdS n e m xs l k e = FS at *
              generalize fdQ n e m S xs l k = Q at *
              generalize fdL n e m S xs l k = LL at *
              go_wp2_with (first
                | ((go_at_call 81; ((with_reducible refine (HRk.out _).mono ?_); rintro r w6 ⟨rfl, g6⟩)); have HO6 := Lib.hid (g6.owns HOw.out); have z6 : w2.heap.size ≤ w6.heap.size := Nat.le_trans HG.out.size g6.size; have HG6 := Lib.hid (HG.out.trans g6))
                | (at_builtin; refine ap_ratF rfl _ _ rfl w2.heap.size u10 k LL rfl HO6.out z6 _ _ rfl rfl (by omega) ?_; intro v7 w7 own7 m7; have HO7 := Lib.hid own7; have HG7 := Lib.hid (Ge.mine HG6.out HO6.out (Nat.le_refl _) m7); obtain ⟨p7, c7, rfl⟩ := owns_form own7; clear own7 m7))
              go_roundw
              case rel => exact ⟨k + 1, _, by omega, by go_num, rfl, by rw [HLk2.out]; exact HO7.out, HG7.out⟩
              case measure => simp [intOf]; omega
        · have hke : e = k := by omega
          subst hke
          obtain ⟨pu, cu, rfl⟩ := owns_form HOw.out
          have GW := Lib.hid (G2.trans HG.out)
          go_wp2_with fail
          exact bodyPost_ret (v := .tuple #[.slice pu e cu, .bool true]) (by simp [results, Tryz.results44, go_sem]) rfl ⟨_, rfl, owns_mono HOw.out G2.size, GW.out⟩
set_option maxHeartbeats 1600000 in
theorem iCurrentsForF (n e : Nat) (S : Int) (s vv : Value) (m : Nat) (xs l : List Int) (w : World) (hs : SlF w s m 3 xs) (hv : SlI w vv l) (hB : netB n e S m xs = true) (hle : ¬ l.length = e) :
    Calls Tryz.prog 44 #[.agg #[.int .i64 (n : Int), .int .i64 (e : Int), .int .i64 S, s], vv] w fun r w' => r = .returned (.tuple #[.slice none 0 0, .bool false]) ∧ Ge w w' := by
  obtain ⟨⟨h1, h5⟩, ⟨e1, e2⟩, ⟨s1, s2⟩, hok, _⟩ := netP_of hB
  have hm : m ≤ 10 := prs_len (by omega) hok
  have HV := Lib.hid hs
  obtain ⟨p, cap, rfl, _⟩ := hs.open
  have HNo := Lib.hid (fun w' (g : Ge w w') => iNetOk n e S (.slice p m cap) m xs w' (HV.out.ge g) (by omega))
  rw [hB] at HNo
  obtain ⟨k, hk⟩ : ∃ k, l.length = k := ⟨_, rfl⟩
  obtain ⟨pv, cv, rfl, hvc⟩ := hv.openN hk
  have NB0 := NetIn.new w n e S (.slice p m cap)
  have tne : ((k : Int) != (e : Int)) = true := by simp; omega
  clear hs hv hB hok hvc hle hk
  go_enter Tryz.func44, Tryz.ntmps44
  go_wp2_with ((go_at_call 43; ((with_reducible refine (HNo.out _ (kge)).mono ?_); rintro r w1 ⟨rfl, g1⟩)); obtain ⟨b0, b1, b2, b3⟩ := NB0.ge g1; have G1 : Ge w w1 := (kge))
  exact bodyPost_ret (v := .tuple #[.slice none 0 0, .bool false]) (by simp [results, Tryz.results44, go_sem]) rfl ⟨rfl, G1⟩
end Go.Proofs.YtagiecajffhnpaaGreat
