/- CurrentOn of impl, for all arguments, at a valid network. No condition. SwapNodes of impl, for all arguments, at a valid network. No condition. -/
import Derived.Test.YtagiecajffhnpaaGreatJAo
import Derived.Test.YtagiecajffhnpaaGreatJAg
import Derived.BigRegion
namespace Go.Proofs.YtagiecajffhnpaaGreat
set_option maxRecDepth 100000
open Go.ChangeShapes Go.WideShapes Go.ChangeAt Go.RowKit Go.Joins

noncomputable def curB (N E S : Int) (m : Nat) (xs : List Int) (a b x y : Int) : Bool := difB N E S m xs a b && (decide (0 ≤ x ∧ x < N) && decide (0 ≤ y ∧ y < N))
noncomputable def curR (N E S : Int) (m : Nat) (xs : List Int) (a b x y : Int) : Rt := grdR (curB N E S m xs a b x y) (ratioOf (wbet xs m x y * (potP N E S m xs a b x - potP N E S m xs a b y)) (2 * treeV N E S m xs))
theorem cur_f {N E S : Int} {m : Nat} {xs : List Int} {a b x y : Int} (h : curB N E S m xs a b x y = false) : curR N E S m xs a b x y = ⟨0, 0⟩ := by unfold curR; rw [h]; rfl
theorem cur_t {N E S : Int} {m : Nat} {xs : List Int} {a b x y : Int} (h : curB N E S m xs a b x y = true) : curR N E S m xs a b x y = ratioOf (wbet xs m x y * (potP N E S m xs a b x - potP N E S m xs a b y)) (2 * treeV N E S m xs) := by unfold curR; rw [h]; rfl

set_option maxHeartbeats 3200000 in
theorem iCurrentOn (n : Nat) (E S : Int) (s : Value) (m : Nat) (xs : List Int) (a b x y : Int) (w : World) (hs : SlF w s m 3 xs) (hm : m ≤ 9223372036854775807) :
    Calls Tryz.prog 50 #[.agg #[.int .i64 (n : Int), .int .i64 E, .int .i64 S, s], .int .i64 a, .int .i64 b, .int .i64 x, .int .i64 y] w fun e w' => e = .returned (.tuple #[.agg #[.int .i64 (curR n E S m xs a b x y).n, .int .i64 (curR n E S m xs a b x y).d], .bool (curB n E S m xs a b x y)]) ∧ Ge w w' := by
  obtain ⟨p, cap, rfl, hc⟩ := hs.open
  have HV := Lib.hid hs
  clear hs hc
  cases hD : difB n E S m xs a b with
  | false =>
    have hT : curB n E S m xs a b x y = false := by simp [curB, hD]
    have HF := Lib.hid (cur_f hT)
    go_enter Tryz.func50, Tryz.ntmps50
    go_wp2_with ((go_at_call 86; ((with_reducible refine (iPotentialsF (n : Int) E S _ m xs a b _ (HV.out.ge (Ge.alloc (Ge.alloc (Ge.refl w) _) _)) hm hD).mono ?_); rintro e w1 ⟨rfl, gw1⟩); have Gw1 : Ge w w1 := (Ge.trans (kge) gw1); have c0_0 : World.cell? w1 ⟨w.heap.size, 0, none⟩ = some (.int .i64 (n : Int)) := Ge.keep gw1 kcell; have c0_1 : World.cell? w1 ⟨w.heap.size, 1, none⟩ = some (.int .i64 E) := Ge.keep gw1 kcell; have c0_2 : World.cell? w1 ⟨w.heap.size, 2, none⟩ = some (.int .i64 S) := Ge.keep gw1 kcell; have c0_3 : World.cell? w1 ⟨w.heap.size, 3, none⟩ = some (.slice p m cap) := Ge.keep gw1 kcell; have o1_0 : Own w1 ⟨w.heap.size + 1, 0, none⟩ _ := Ge.own gw1 (kown); have c1_0 := cv_some o1_0.1; have f1_0 := o1_0.2; clear o1_0; have o1_1 : Own w1 ⟨w.heap.size + 1, 1, none⟩ _ := Ge.own gw1 (kown); have c1_1 := cv_some o1_1.1; have f1_1 := o1_1.2; clear o1_1; have zw1 : w.heap.size + 2 ≤ w1.heap.size := (by have := Ge.size gw1; (try simp at this); omega)))
    exact bodyPost_ret (v := .tuple #[.agg #[.int .i64 0, .int .i64 0], .bool false]) (by simp [results, Tryz.results50, go_sem, *]) rfl ⟨by rw [HF.out, hT], kge⟩
  | true =>
    by_cases h1 : 0 ≤ x ∧ x < (n : Int)
    · have iv : nodeB n x = true := nodeB_t h1
      by_cases h2 : 0 ≤ y ∧ y < (n : Int)
      · have iy : nodeB n y = true := nodeB_t h2
        obtain ⟨hB, ha, hb, hab⟩ := dif_of hD
        obtain ⟨⟨n1, n2⟩, h10, hK⟩ := net_wires hB
        have hT : curB n E S m xs a b x y = true := by simp [curB, hD, h1, h2]
        have HF := Lib.hid (cur_t hT)
        have q1 := potP_bd n E S m xs a b x
        have q2 := potP_bd n E S m xs a b y
        have q3 := treeV_bd n E S m xs
        have q4 := wbet_bd hK x y
        have H1 : Hid (∀ w', Ge w w' → Calls Tryz.prog 87 #[.agg #[.int .i64 (n : Int), .int .i64 E, .int .i64 S, .slice p m cap], .int .i64 a, .int .i64 b, .int .i64 x] w' fun e w2 => e = .returned (.int .i64 (potP n E S m xs a b x)) ∧ Ge w' w2) := fun w' g => iPotential n E S (.slice p m cap) m xs a b x w' (HV.out.ge g) hm
        have H2 : Hid (∀ w', Ge w w' → Calls Tryz.prog 87 #[.agg #[.int .i64 (n : Int), .int .i64 E, .int .i64 S, .slice p m cap], .int .i64 a, .int .i64 b, .int .i64 y] w' fun e w2 => e = .returned (.int .i64 (potP n E S m xs a b y)) ∧ Ge w' w2) := fun w' g => iPotential n E S (.slice p m cap) m xs a b y w' (HV.out.ge g) hm
        have H3 := Lib.hid (fun w' (g : Ge w w') => iWeightBetween n E S (.slice p m cap) m xs x y w' (HV.out.ge g) h10 hK)
        have H4 := Lib.hid (fun w' (g : Ge w w') => iTreeSum n E S (.slice p m cap) m xs w' (HV.out.ge g) hm)
        generalize potP n E S m xs a b x = PX at *
        generalize potP n E S m xs a b y = PY at *
        generalize treeV n E S m xs = TV at *
        generalize wbet xs m x y = WB at *
        have q5 : absB (WB * (PX - PY)) (200 * 6000000000000) := absB_mul (by decide) ⟨by omega, by omega⟩ ⟨by omega, by omega⟩ (by decide)
        obtain ⟨q6, q7⟩ := q5
        have tw1 : IntKind.i64.wrap (PX - PY) = PX - PY := IntWalk.i64_in _ (by omega)
        have tw2 : IntKind.i64.wrap (WB * (PX - PY)) = WB * (PX - PY) := IntWalk.i64_in _ (by omega)
        have tw3 : IntKind.i64.wrap (2 * TV) = 2 * TV := IntWalk.i64_in _ (by omega)
        have M1 := mid (n := WB * (PX - PY)) (by omega) (by omega)
        have M2 := mid (n := 2 * TV) (by omega) (by omega)
        have HR := Lib.hid (fun w' => iRatioOf _ _ w' M1 M2)
        generalize hDD : PX - PY = DD at *
        generalize hPP : WB * DD = PP at *
        clear q1 q2 q3 q4 q6 q7 M1 M2 ha hb hab n1 n2 h10 hK h1 h2 hB
        go_enter Tryz.func50, Tryz.ntmps50
        go_wp2_with (first | ((go_at_call 86; ((with_reducible refine (iPotentialsT n E S _ m xs a b _ (HV.out.ge (Ge.alloc (Ge.alloc (Ge.refl w) _) _)) hm hD).mono ?_); rintro e w1 ⟨v1, rfl, o1, gw1⟩); have Gw1 : Ge w w1 := (Ge.trans (kge) gw1); have c0_0 : World.cell? w1 ⟨w.heap.size, 0, none⟩ = some (.int .i64 (n : Int)) := Ge.keep gw1 kcell; have c0_1 : World.cell? w1 ⟨w.heap.size, 1, none⟩ = some (.int .i64 E) := Ge.keep gw1 kcell; have c0_2 : World.cell? w1 ⟨w.heap.size, 2, none⟩ = some (.int .i64 S) := Ge.keep gw1 kcell; have c0_3 : World.cell? w1 ⟨w.heap.size, 3, none⟩ = some (.slice p m cap) := Ge.keep gw1 kcell; have o1_0 : Own w1 ⟨w.heap.size + 1, 0, none⟩ _ := Ge.own gw1 (kown); have c1_0 := cv_some o1_0.1; have f1_0 := o1_0.2; clear o1_0; have o1_1 : Own w1 ⟨w.heap.size + 1, 1, none⟩ _ := Ge.own gw1 (kown); have c1_1 := cv_some o1_1.1; have f1_1 := o1_1.2; clear o1_1; have zw1 : w.heap.size + 2 ≤ w1.heap.size := (by have := Ge.size gw1; (try simp at this); omega))) | ((go_at_call 69; ((with_reducible refine (isNodeI n E S _ x _ rfl).mono ?_); rintro e w2 ⟨rfl, gw2⟩); have Gw2 : Ge w w2 := (Ge.trans (kge) gw2); have c0_0 : World.cell? w2 ⟨w.heap.size, 0, none⟩ = some (.int .i64 (n : Int)) := Ge.keep gw2 kcell; have c0_1 : World.cell? w2 ⟨w.heap.size, 1, none⟩ = some (.int .i64 E) := Ge.keep gw2 kcell; have c0_2 : World.cell? w2 ⟨w.heap.size, 2, none⟩ = some (.int .i64 S) := Ge.keep gw2 kcell; have c0_3 : World.cell? w2 ⟨w.heap.size, 3, none⟩ = some (.slice p m cap) := Ge.keep gw2 kcell; have o1_0 : Own w2 ⟨w.heap.size + 1, 0, none⟩ _ := Ge.own gw2 (kown); have c1_0 := cv_some o1_0.1; have f1_0 := o1_0.2; clear o1_0; have o1_1 : Own w2 ⟨w.heap.size + 1, 1, none⟩ _ := Ge.own gw2 (kown); have c1_1 := cv_some o1_1.1; have f1_1 := o1_1.2; clear o1_1; have zw2 : w.heap.size + 2 ≤ w2.heap.size := (by have := Ge.size gw2; (try simp at this); omega))) | ((go_at_call 69; ((with_reducible refine (isNodeI n E S _ y _ rfl).mono ?_); rintro e w3 ⟨rfl, gw3⟩); have Gw3 : Ge w w3 := (Ge.trans (kge) gw3); have c0_0 : World.cell? w3 ⟨w.heap.size, 0, none⟩ = some (.int .i64 (n : Int)) := Ge.keep gw3 kcell; have c0_1 : World.cell? w3 ⟨w.heap.size, 1, none⟩ = some (.int .i64 E) := Ge.keep gw3 kcell; have c0_2 : World.cell? w3 ⟨w.heap.size, 2, none⟩ = some (.int .i64 S) := Ge.keep gw3 kcell; have c0_3 : World.cell? w3 ⟨w.heap.size, 3, none⟩ = some (.slice p m cap) := Ge.keep gw3 kcell; have o1_0 : Own w3 ⟨w.heap.size + 1, 0, none⟩ _ := Ge.own gw3 (kown); have c1_0 := cv_some o1_0.1; have f1_0 := o1_0.2; clear o1_0; have o1_1 : Own w3 ⟨w.heap.size + 1, 1, none⟩ _ := Ge.own gw3 (kown); have c1_1 := cv_some o1_1.1; have f1_1 := o1_1.2; clear o1_1; have zw3 : w.heap.size + 2 ≤ w3.heap.size := (by have := Ge.size gw3; (try simp at this); omega))))
        go_region_held3 (fun w' => w'.cell? ⟨w.heap.size, 0, none⟩ = some (.int .i64 (n : Int)) ∧ w'.cell? ⟨w.heap.size, 1, none⟩ = some (.int .i64 E) ∧ w'.cell? ⟨w.heap.size, 2, none⟩ = some (.int .i64 S) ∧ w'.cell? ⟨w.heap.size, 3, none⟩ = some (.slice p m cap) ∧ w'.cell? ⟨w.heap.size + 1, 0, none⟩ = some (cv w' ⟨w.heap.size + 1, 0, none⟩) ∧ w'.cell? ⟨w.heap.size + 1, 1, none⟩ = some (cv w' ⟨w.heap.size + 1, 1, none⟩) ∧ w'.frozen? ⟨w.heap.size + 1, 0, none⟩ = false ∧ w'.frozen? ⟨w.heap.size + 1, 1, none⟩ = false ∧ Ge w w') (first | exact ⟨hb.keep (‹_ ∧ _ ∧ _ ∧ _ ∧ _ ∧ _ ∧ _ ∧ _ ∧ _›).1, hb.keep (‹_ ∧ _ ∧ _ ∧ _ ∧ _ ∧ _ ∧ _ ∧ _ ∧ _›).2.1, hb.keep (‹_ ∧ _ ∧ _ ∧ _ ∧ _ ∧ _ ∧ _ ∧ _ ∧ _›).2.2.1, hb.keep (‹_ ∧ _ ∧ _ ∧ _ ∧ _ ∧ _ ∧ _ ∧ _ ∧ _›).2.2.2.1, cv_some (hb.keep (‹_ ∧ _ ∧ _ ∧ _ ∧ _ ∧ _ ∧ _ ∧ _ ∧ _›).2.2.2.2.1), cv_some (hb.keep (‹_ ∧ _ ∧ _ ∧ _ ∧ _ ∧ _ ∧ _ ∧ _ ∧ _›).2.2.2.2.2.1), hb.keepF (‹_ ∧ _ ∧ _ ∧ _ ∧ _ ∧ _ ∧ _ ∧ _ ∧ _›).2.2.2.2.1 (‹_ ∧ _ ∧ _ ∧ _ ∧ _ ∧ _ ∧ _ ∧ _ ∧ _›).2.2.2.2.2.2.1, hb.keepF (‹_ ∧ _ ∧ _ ∧ _ ∧ _ ∧ _ ∧ _ ∧ _ ∧ _›).2.2.2.2.2.1 (‹_ ∧ _ ∧ _ ∧ _ ∧ _ ∧ _ ∧ _ ∧ _ ∧ _›).2.2.2.2.2.2.2.1, Ge.trans (‹_ ∧ _ ∧ _ ∧ _ ∧ _ ∧ _ ∧ _ ∧ _ ∧ _›).2.2.2.2.2.2.2.2 hb⟩ | ((refine ⟨?_, ?_, ?_, ?_, ?_, ?_, ?_, ?_, ?_⟩ <;> (repeat (first | assumption | with_reducible exact Ge.refl _ | with_reducible refine cv_drew ?_ | with_reducible refine cv_alloc ?_ | with_reducible refine cv_set ?_ | with_reducible refine cell_drew ?_ | ((with_reducible refine cell_new ?_ ?_); (focus (simp; done)); rfl) | ((with_reducible refine froz_new (v := undef) ?_ ?_); (focus (simp; done)); rfl) | with_reducible refine cell_drewN ?_ | with_reducible refine cell_alloc ?_ | ((with_reducible refine cell_set ?_ ?_); rotate_left; focus (simp; done)) | with_reducible refine froz_drew ?_ | with_reducible refine froz_set ?_ | with_reducible refine froz_alloc (by assumption) ?_ | with_reducible refine Ge.drew ?_ | with_reducible refine Ge.drewN ?_ _ | with_reducible refine Ge.alloc ?_ _ | ((with_reducible refine Ge.setCell ?_ ?_ _); rotate_left; focus (first | (simp; done) | omega | (simp; omega))) | with_reducible refine Ge.trans ?_ (by assumption)))); done) | ((obtain ⟨s0, s1, s2, s3, s4, s5, s6, s7, s8⟩ := ‹_ ∧ _ ∧ _ ∧ _ ∧ _ ∧ _ ∧ _ ∧ _ ∧ _›); refine ⟨?_, ?_, ?_, ?_, ?_, ?_, ?_, ?_, ?_⟩ <;> (repeat (first | assumption | with_reducible exact Ge.refl _ | with_reducible refine cv_drew ?_ | with_reducible refine cv_alloc ?_ | with_reducible refine cv_set ?_ | with_reducible refine cell_drew ?_ | ((with_reducible refine cell_new ?_ ?_); (focus (simp; done)); rfl) | ((with_reducible refine froz_new (v := undef) ?_ ?_); (focus (simp; done)); rfl) | with_reducible refine cell_drewN ?_ | with_reducible refine cell_alloc ?_ | ((with_reducible refine cell_set ?_ ?_); rotate_left; focus (simp; done)) | with_reducible refine froz_drew ?_ | with_reducible refine froz_set ?_ | with_reducible refine froz_alloc (by assumption) ?_ | with_reducible refine Ge.drew ?_ | with_reducible refine Ge.drewN ?_ _ | with_reducible refine Ge.alloc ?_ _ | ((with_reducible refine Ge.setCell ?_ ?_ _); rotate_left; focus (first | (simp; done) | omega | (simp; omega))) | with_reducible refine Ge.trans ?_ (by assumption))))) (first | (go_at_call 87; ((with_reducible refine (H1.out _ (‹_ ∧ _ ∧ _ ∧ _ ∧ _ ∧ _ ∧ _ ∧ _ ∧ Ge w _›.2.2.2.2.2.2.2.2)).mono ?_); rintro e w' ⟨rfl, hb⟩)) | (go_at_call 87; ((with_reducible refine (H2.out _ (‹_ ∧ _ ∧ _ ∧ _ ∧ _ ∧ _ ∧ _ ∧ _ ∧ Ge w _›.2.2.2.2.2.2.2.2)).mono ?_); rintro e w' ⟨rfl, hb⟩)) | fail); (rename_i hHeldX; obtain ⟨c0_0, c0_1, c0_2, c0_3, c1_0, c1_1, f1_0, f1_1, G9⟩ := hHeldX)
        go_wp2_with fail
        go_region_held3 (fun w' => w'.cell? ⟨w.heap.size, 0, none⟩ = some (.int .i64 (n : Int)) ∧ w'.cell? ⟨w.heap.size, 1, none⟩ = some (.int .i64 E) ∧ w'.cell? ⟨w.heap.size, 2, none⟩ = some (.int .i64 S) ∧ w'.cell? ⟨w.heap.size, 3, none⟩ = some (.slice p m cap) ∧ w'.cell? ⟨w.heap.size + 1, 0, none⟩ = some (cv w' ⟨w.heap.size + 1, 0, none⟩) ∧ w'.cell? ⟨w.heap.size + 1, 1, none⟩ = some (cv w' ⟨w.heap.size + 1, 1, none⟩) ∧ w'.frozen? ⟨w.heap.size + 1, 0, none⟩ = false ∧ w'.frozen? ⟨w.heap.size + 1, 1, none⟩ = false ∧ Ge w w') (first | exact ⟨hb.keep (‹_ ∧ _ ∧ _ ∧ _ ∧ _ ∧ _ ∧ _ ∧ _ ∧ _›).1, hb.keep (‹_ ∧ _ ∧ _ ∧ _ ∧ _ ∧ _ ∧ _ ∧ _ ∧ _›).2.1, hb.keep (‹_ ∧ _ ∧ _ ∧ _ ∧ _ ∧ _ ∧ _ ∧ _ ∧ _›).2.2.1, hb.keep (‹_ ∧ _ ∧ _ ∧ _ ∧ _ ∧ _ ∧ _ ∧ _ ∧ _›).2.2.2.1, cv_some (hb.keep (‹_ ∧ _ ∧ _ ∧ _ ∧ _ ∧ _ ∧ _ ∧ _ ∧ _›).2.2.2.2.1), cv_some (hb.keep (‹_ ∧ _ ∧ _ ∧ _ ∧ _ ∧ _ ∧ _ ∧ _ ∧ _›).2.2.2.2.2.1), hb.keepF (‹_ ∧ _ ∧ _ ∧ _ ∧ _ ∧ _ ∧ _ ∧ _ ∧ _›).2.2.2.2.1 (‹_ ∧ _ ∧ _ ∧ _ ∧ _ ∧ _ ∧ _ ∧ _ ∧ _›).2.2.2.2.2.2.1, hb.keepF (‹_ ∧ _ ∧ _ ∧ _ ∧ _ ∧ _ ∧ _ ∧ _ ∧ _›).2.2.2.2.2.1 (‹_ ∧ _ ∧ _ ∧ _ ∧ _ ∧ _ ∧ _ ∧ _ ∧ _›).2.2.2.2.2.2.2.1, Ge.trans (‹_ ∧ _ ∧ _ ∧ _ ∧ _ ∧ _ ∧ _ ∧ _ ∧ _›).2.2.2.2.2.2.2.2 hb⟩ | ((refine ⟨?_, ?_, ?_, ?_, ?_, ?_, ?_, ?_, ?_⟩ <;> (repeat (first | assumption | with_reducible exact Ge.refl _ | with_reducible refine cv_drew ?_ | with_reducible refine cv_alloc ?_ | with_reducible refine cv_set ?_ | with_reducible refine cell_drew ?_ | ((with_reducible refine cell_new ?_ ?_); (focus (simp; done)); rfl) | ((with_reducible refine froz_new (v := undef) ?_ ?_); (focus (simp; done)); rfl) | with_reducible refine cell_drewN ?_ | with_reducible refine cell_alloc ?_ | ((with_reducible refine cell_set ?_ ?_); rotate_left; focus (simp; done)) | with_reducible refine froz_drew ?_ | with_reducible refine froz_set ?_ | with_reducible refine froz_alloc (by assumption) ?_ | with_reducible refine Ge.drew ?_ | with_reducible refine Ge.drewN ?_ _ | with_reducible refine Ge.alloc ?_ _ | ((with_reducible refine Ge.setCell ?_ ?_ _); rotate_left; focus (first | (simp; done) | omega | (simp; omega))) | with_reducible refine Ge.trans ?_ (by assumption)))); done) | ((obtain ⟨s0, s1, s2, s3, s4, s5, s6, s7, s8⟩ := ‹_ ∧ _ ∧ _ ∧ _ ∧ _ ∧ _ ∧ _ ∧ _ ∧ _›); refine ⟨?_, ?_, ?_, ?_, ?_, ?_, ?_, ?_, ?_⟩ <;> (repeat (first | assumption | with_reducible exact Ge.refl _ | with_reducible refine cv_drew ?_ | with_reducible refine cv_alloc ?_ | with_reducible refine cv_set ?_ | with_reducible refine cell_drew ?_ | ((with_reducible refine cell_new ?_ ?_); (focus (simp; done)); rfl) | ((with_reducible refine froz_new (v := undef) ?_ ?_); (focus (simp; done)); rfl) | with_reducible refine cell_drewN ?_ | with_reducible refine cell_alloc ?_ | ((with_reducible refine cell_set ?_ ?_); rotate_left; focus (simp; done)) | with_reducible refine froz_drew ?_ | with_reducible refine froz_set ?_ | with_reducible refine froz_alloc (by assumption) ?_ | with_reducible refine Ge.drew ?_ | with_reducible refine Ge.drewN ?_ _ | with_reducible refine Ge.alloc ?_ _ | ((with_reducible refine Ge.setCell ?_ ?_ _); rotate_left; focus (first | (simp; done) | omega | (simp; omega))) | with_reducible refine Ge.trans ?_ (by assumption))))) (first | (go_at_call 75; ((with_reducible refine (H3.out _ (‹_ ∧ _ ∧ _ ∧ _ ∧ _ ∧ _ ∧ _ ∧ _ ∧ Ge w _›.2.2.2.2.2.2.2.2)).mono ?_); rintro e w' ⟨rfl, hb⟩)) | (go_at_call 85; ((with_reducible refine (H4.out _ (‹_ ∧ _ ∧ _ ∧ _ ∧ _ ∧ _ ∧ _ ∧ _ ∧ Ge w _›.2.2.2.2.2.2.2.2)).mono ?_); rintro e w' ⟨rfl, hb⟩)) | (go_at_call 81; ((with_reducible refine (HR.out _).mono ?_); rintro e w' ⟨rfl, hb⟩)) | fail); (rename_i hHeldX; obtain ⟨c0_0, c0_1, c0_2, c0_3, c1_0, c1_1, f1_0, f1_1, G10⟩ := hHeldX)
        obtain ⟨r0, r1⟩ := res2W c1_0 c1_1 (by simp)
        clear c1_0 c1_1
        go_wp2_with fail
        exact bodyPost_ret (v := .tuple #[.agg #[.int .i64 (ratioOf PP (2 * TV)).n, .int .i64 (ratioOf PP (2 * TV)).d], .bool true]) (by simp [results, Tryz.results50, go_sem, *]) rfl ⟨by rw [HF.out, hT], kge⟩
      · have iy : nodeB n y = false := nodeB_f h2
        have hT : curB n E S m xs a b x y = false := by simp [curB, h2]
        have HF := Lib.hid (cur_f hT)
        clear h1 h2
        go_enter Tryz.func50, Tryz.ntmps50
        go_wp2_with (first | ((go_at_call 86; ((with_reducible refine (iPotentialsT n E S _ m xs a b _ (HV.out.ge (Ge.alloc (Ge.alloc (Ge.refl w) _) _)) hm hD).mono ?_); rintro e w1 ⟨v1, rfl, o1, gw1⟩); have Gw1 : Ge w w1 := (Ge.trans (kge) gw1); have c0_0 : World.cell? w1 ⟨w.heap.size, 0, none⟩ = some (.int .i64 (n : Int)) := Ge.keep gw1 kcell; have c0_1 : World.cell? w1 ⟨w.heap.size, 1, none⟩ = some (.int .i64 E) := Ge.keep gw1 kcell; have c0_2 : World.cell? w1 ⟨w.heap.size, 2, none⟩ = some (.int .i64 S) := Ge.keep gw1 kcell; have c0_3 : World.cell? w1 ⟨w.heap.size, 3, none⟩ = some (.slice p m cap) := Ge.keep gw1 kcell; have o1_0 : Own w1 ⟨w.heap.size + 1, 0, none⟩ _ := Ge.own gw1 (kown); have c1_0 := cv_some o1_0.1; have f1_0 := o1_0.2; clear o1_0; have o1_1 : Own w1 ⟨w.heap.size + 1, 1, none⟩ _ := Ge.own gw1 (kown); have c1_1 := cv_some o1_1.1; have f1_1 := o1_1.2; clear o1_1; have zw1 : w.heap.size + 2 ≤ w1.heap.size := (by have := Ge.size gw1; (try simp at this); omega))) | ((go_at_call 69; ((with_reducible refine (isNodeI n E S _ x _ rfl).mono ?_); rintro e w2 ⟨rfl, gw2⟩); have Gw2 : Ge w w2 := (Ge.trans (kge) gw2); have c0_0 : World.cell? w2 ⟨w.heap.size, 0, none⟩ = some (.int .i64 (n : Int)) := Ge.keep gw2 kcell; have c0_1 : World.cell? w2 ⟨w.heap.size, 1, none⟩ = some (.int .i64 E) := Ge.keep gw2 kcell; have c0_2 : World.cell? w2 ⟨w.heap.size, 2, none⟩ = some (.int .i64 S) := Ge.keep gw2 kcell; have c0_3 : World.cell? w2 ⟨w.heap.size, 3, none⟩ = some (.slice p m cap) := Ge.keep gw2 kcell; have o1_0 : Own w2 ⟨w.heap.size + 1, 0, none⟩ _ := Ge.own gw2 (kown); have c1_0 := cv_some o1_0.1; have f1_0 := o1_0.2; clear o1_0; have o1_1 : Own w2 ⟨w.heap.size + 1, 1, none⟩ _ := Ge.own gw2 (kown); have c1_1 := cv_some o1_1.1; have f1_1 := o1_1.2; clear o1_1; have zw2 : w.heap.size + 2 ≤ w2.heap.size := (by have := Ge.size gw2; (try simp at this); omega))) | ((go_at_call 69; ((with_reducible refine (isNodeI n E S _ y _ rfl).mono ?_); rintro e w3 ⟨rfl, gw3⟩); have Gw3 : Ge w w3 := (Ge.trans (kge) gw3); have c0_0 : World.cell? w3 ⟨w.heap.size, 0, none⟩ = some (.int .i64 (n : Int)) := Ge.keep gw3 kcell; have c0_1 : World.cell? w3 ⟨w.heap.size, 1, none⟩ = some (.int .i64 E) := Ge.keep gw3 kcell; have c0_2 : World.cell? w3 ⟨w.heap.size, 2, none⟩ = some (.int .i64 S) := Ge.keep gw3 kcell; have c0_3 : World.cell? w3 ⟨w.heap.size, 3, none⟩ = some (.slice p m cap) := Ge.keep gw3 kcell; have o1_0 : Own w3 ⟨w.heap.size + 1, 0, none⟩ _ := Ge.own gw3 (kown); have c1_0 := cv_some o1_0.1; have f1_0 := o1_0.2; clear o1_0; have o1_1 : Own w3 ⟨w.heap.size + 1, 1, none⟩ _ := Ge.own gw3 (kown); have c1_1 := cv_some o1_1.1; have f1_1 := o1_1.2; clear o1_1; have zw3 : w.heap.size + 2 ≤ w3.heap.size := (by have := Ge.size gw3; (try simp at this); omega))))
        exact bodyPost_ret (v := .tuple #[.agg #[.int .i64 0, .int .i64 0], .bool false]) (by simp [results, Tryz.results50, go_sem, *]) rfl ⟨by rw [HF.out, hT], kge⟩
    · have iv : nodeB n x = false := nodeB_f h1
      have hT : curB n E S m xs a b x y = false := by simp [curB, h1]
      have HF := Lib.hid (cur_f hT)
      clear h1
      go_enter Tryz.func50, Tryz.ntmps50
      go_wp2_with (first | ((go_at_call 86; ((with_reducible refine (iPotentialsT n E S _ m xs a b _ (HV.out.ge (Ge.alloc (Ge.alloc (Ge.refl w) _) _)) hm hD).mono ?_); rintro e w1 ⟨v1, rfl, o1, gw1⟩); have Gw1 : Ge w w1 := (Ge.trans (kge) gw1); have c0_0 : World.cell? w1 ⟨w.heap.size, 0, none⟩ = some (.int .i64 (n : Int)) := Ge.keep gw1 kcell; have c0_1 : World.cell? w1 ⟨w.heap.size, 1, none⟩ = some (.int .i64 E) := Ge.keep gw1 kcell; have c0_2 : World.cell? w1 ⟨w.heap.size, 2, none⟩ = some (.int .i64 S) := Ge.keep gw1 kcell; have c0_3 : World.cell? w1 ⟨w.heap.size, 3, none⟩ = some (.slice p m cap) := Ge.keep gw1 kcell; have o1_0 : Own w1 ⟨w.heap.size + 1, 0, none⟩ _ := Ge.own gw1 (kown); have c1_0 := cv_some o1_0.1; have f1_0 := o1_0.2; clear o1_0; have o1_1 : Own w1 ⟨w.heap.size + 1, 1, none⟩ _ := Ge.own gw1 (kown); have c1_1 := cv_some o1_1.1; have f1_1 := o1_1.2; clear o1_1; have zw1 : w.heap.size + 2 ≤ w1.heap.size := (by have := Ge.size gw1; (try simp at this); omega))) | ((go_at_call 69; ((with_reducible refine (isNodeI n E S _ x _ rfl).mono ?_); rintro e w2 ⟨rfl, gw2⟩); have Gw2 : Ge w w2 := (Ge.trans (kge) gw2); have c0_0 : World.cell? w2 ⟨w.heap.size, 0, none⟩ = some (.int .i64 (n : Int)) := Ge.keep gw2 kcell; have c0_1 : World.cell? w2 ⟨w.heap.size, 1, none⟩ = some (.int .i64 E) := Ge.keep gw2 kcell; have c0_2 : World.cell? w2 ⟨w.heap.size, 2, none⟩ = some (.int .i64 S) := Ge.keep gw2 kcell; have c0_3 : World.cell? w2 ⟨w.heap.size, 3, none⟩ = some (.slice p m cap) := Ge.keep gw2 kcell; have o1_0 : Own w2 ⟨w.heap.size + 1, 0, none⟩ _ := Ge.own gw2 (kown); have c1_0 := cv_some o1_0.1; have f1_0 := o1_0.2; clear o1_0; have o1_1 : Own w2 ⟨w.heap.size + 1, 1, none⟩ _ := Ge.own gw2 (kown); have c1_1 := cv_some o1_1.1; have f1_1 := o1_1.2; clear o1_1; have zw2 : w.heap.size + 2 ≤ w2.heap.size := (by have := Ge.size gw2; (try simp at this); omega))))
      exact bodyPost_ret (v := .tuple #[.agg #[.int .i64 0, .int .i64 0], .bool false]) (by simp [results, Tryz.results50, go_sem, *]) rfl ⟨by rw [HF.out, hT], kge⟩
end Go.Proofs.YtagiecajffhnpaaGreat

namespace Go.Proofs.YtagiecajffhnpaaGreat
set_option maxRecDepth 100000
open Go.ChangeShapes Go.WideShapes Go.ChangeAt Go.RowKit Go.Joins

def swpI (a b i : Nat) : Nat := if i = a then b else if i = b then a else i
theorem swpI_lt {a b n i : Nat} (ha : a < n) (hb : b < n) (hi : i < n) : swpI a b i < n := by unfold swpI; split <;> (try split) <;> omega
/-- Two rows change their places. -/
theorem OMat.swapRows {w : World} {B G n : Nat} {f : Nat → Nat} {cs : List Value} {M : Nat → Nat → Int} (h : OMat w B G n f cs n M) {a b : Nat} (ha : a < n) (hb : b < n) :
    OMat ((w.setCell ⟨G, a, none⟩ (.slice (some ⟨f b, 0, none⟩) n n)).setCell ⟨G, b, none⟩ (.slice (some ⟨f a, 0, none⟩) n n)) B G n (fun i => f (swpI a b i)) ((cs.set a (.slice (some ⟨f b, 0, none⟩) n n)).set b (.slice (some ⟨f a, 0, none⟩) n n)) n (fun i j => M (swpI a b i) j) := by
  have hl := h.lt
  have h1 := h.1.stored a (.slice (some ⟨f b, 0, none⟩) n n)
  have h2 := h1.1.stored b (.slice (some ⟨f a, 0, none⟩) n n)
  have hcl : cs.length = n := by have := h.1.1; omega
  have keep : ∀ {e s m : Nat} {v : Value} {xs : List Value}, w.ownsRow B e s v m xs → v.ownBlock ≠ some G → ((w.setCell ⟨G, a, none⟩ (.slice (some ⟨f b, 0, none⟩) n n)).setCell ⟨G, b, none⟩ (.slice (some ⟨f a, 0, none⟩) n n)).ownsRow B e s v m xs := fun ho hne =>
    (ho.kept h1.2 (.inr (fun e => hne (by simpa [Value.ownBlock] using e)))).kept h2.2 (.inr (fun e => hne (by simpa [Value.ownBlock] using e)))
  refine ⟨h2.1, fun i hi => ⟨?_, ?_, ?_, fun i' hi' hne => ?_⟩⟩
  · unfold swpI
    by_cases e2 : i = b
    · subst e2
      rw [List.getElem?_set_self (by simp; omega)]
      by_cases e1 : i = a
      · subst e1; simp
      · simp [e1]
    · rw [List.getElem?_set_ne (by omega)]
      by_cases e1 : i = a
      · subst e1
        rw [List.getElem?_set_self (by omega)]; simp
      · rw [List.getElem?_set_ne (by omega), (h.2 i hi).1]; simp [e1, e2]
  · have hs := swpI_lt ha hb hi
    exact keep (h.2 _ hs).2.1 (by have := (hl.2.2 _ hs).2.2; simp [Value.ownBlock]; exact this)
  · exact (hl.2.2 _ (swpI_lt ha hb hi)).2.2
  · exact (h.2 _ (swpI_lt ha hb hi)).2.2.2 _ (swpI_lt ha hb hi') (by unfold swpI; intro e; split at e <;> split at e <;> (try split at e) <;> (try split at e) <;> omega)
/-- The columns behind k rounds. -/
def swpR (T : Nat → Nat → Int) (a b k i j : Nat) : Int := if i < k then T (swpI a b i) (swpI a b j) else T (swpI a b i) j
theorem swpR_zero (T : Nat → Nat → Int) (a b n : Nat) : ∀ i j, i < n → j < n → T (swpI a b i) j = swpR T a b 0 i j := fun i j _ _ => by unfold swpR; rw [if_neg (by omega)]
theorem swpR_at (T : Nat → Nat → Int) (a b k j : Nat) : swpR T a b k k j = T (swpI a b k) j := by unfold swpR; rw [if_neg (by omega)]
theorem swpR_step (T : Nat → Nat → Int) (a b n : Nat) {k : Nat} : ∀ i j, i < n → j < n → (if i = k ∧ j = b then T (swpI a b k) a else if i = k ∧ j = a then T (swpI a b k) b else swpR T a b k i j) = swpR T a b (k + 1) i j := fun i j _ _ => by
  unfold swpR
  by_cases c1 : i = k ∧ j = b
  · obtain ⟨rfl, rfl⟩ := c1
    rw [if_pos ⟨rfl, rfl⟩, if_pos (by omega)]
    congr 1
    unfold swpI; split
    · next h => exact h.symm
    · rw [if_pos rfl]
  · rw [if_neg c1]
    by_cases c2 : i = k ∧ j = a
    · obtain ⟨rfl, rfl⟩ := c2
      rw [if_pos ⟨rfl, rfl⟩, if_pos (by omega)]
      congr 1
      unfold swpI; rw [if_pos rfl]
    · rw [if_neg c2]
      by_cases c3 : i < k
      · rw [if_pos c3, if_pos (by omega)]
      · rw [if_neg c3]
        by_cases c4 : i = k
        · rw [if_pos (by omega)]
          congr 1
          unfold swpI; rw [if_neg (by omega), if_neg (by omega)]
        · rw [if_neg (by omega)]
theorem swpR_all (T : Nat → Nat → Int) (a b n : Nat) : ∀ i j, i < n → j < n → swpR T a b n i j = T (swpI a b i) (swpI a b j) := fun i j hi _ => by unfold swpR; rw [if_pos hi]
def swG (n : Nat) (a b : Int) : Prop := (0 ≤ a ∧ a < n) ∧ (0 ≤ b ∧ b < n)
instance (n : Nat) (a b : Int) : Decidable (swG n a b) := by unfold swG; infer_instance
def swM (n m : Nat) (xs : List Int) (a b : Nat) : List Wr := tabC (fun (i j : Nat) => wbet xs m (swpI a b i : Nat) (swpI a b j : Nat)) n n
noncomputable def swB (n : Nat) (e S : Int) (m : Nat) (xs : List Int) (a b : Int) : Bool := decide (swG n a b) && netB n e S (swM n m xs a.toNat b.toNat).length (flatW (swM n m xs a.toNat b.toNat))
theorem swB_f {n : Nat} {e S : Int} {m : Nat} {xs : List Int} {a b : Int} (h : ¬ swG n a b) : swB n e S m xs a b = false := by simp [swB, h]
theorem swB_t {n : Nat} {e S : Int} {m : Nat} {xs : List Int} {a b : Nat} (h : swG n a b) : swB n e S m xs a b = netB n e S (swM n m xs a b).length (flatW (swM n m xs a b)) := by simp [swB, h]

set_option maxHeartbeats 6400000 in
theorem iSwapNodes (n e : Nat) (S a b : Int) (s : Value) (m : Nat) (xs : List Int) (w : World) (hs : SlF w s m 3 xs) (hB : netB n e S m xs = true) :
    Calls Tryz.prog 36 #[.agg #[.int .i64 (n : Int), .int .i64 (e : Int), .int .i64 S, s], .int .i64 a, .int .i64 b] w (GivesO w (swB n e S m xs a b) n e S (swM n m xs a.toNat b.toNat)) := by
  obtain ⟨⟨h1, h5⟩, ⟨e1, e2⟩, ⟨s1, s2⟩, hok, _⟩ := netP_of hB
  have hm : m ≤ 10 := prs_len (by omega) hok
  have HV := Lib.hid hs
  have HK := Lib.hid hok
  have hTb : ∀ a b : Nat, 0 ≤ wbet xs m (a : Int) (b : Int) ∧ wbet xs m (a : Int) (b : Int) ≤ 200 := fun a b => wbet_bd hok _ _
  obtain ⟨p, cap, rfl, _⟩ := hs.open
  have HNo := Lib.hid (fun w' (g : Ge w w') => iNetOk n e S (.slice p m cap) m xs w' (HV.out.ge g) (by omega))
  rw [hB] at HNo
  have HTa := Lib.hid (fun w' (g : Ge w w') => iTable n e S (.slice p m cap) m xs w' (HV.out.ge g) hm (by omega) (by omega) HK.out)
  have HIa := Lib.hid (fun w' => isNodeI n e S (.slice p m cap) a w' rfl)
  have HIb := Lib.hid (fun w' => isNodeI n e S (.slice p m cap) b w' rfl)
  clear hs hok hB
  obtain ⟨NB0, R0⟩ := in_res w n e S (.slice p m cap)
  have zR : w.heap.size + 1 < ((w.alloc (.cells #[.int .i64 n, .int .i64 e, .int .i64 S, .slice p m cap] 33)).alloc (.cells #[.int .i64 0, .int .i64 0, .int .i64 0, .slice none 0 0] 33)).heap.size := by simp
  by_cases hG : swG n a b
  · obtain ⟨ha, hb⟩ := id hG
    rw [nodeB_t ha] at HIa
    rw [nodeB_t hb] at HIb
    obtain ⟨a, rfl⟩ := Int.eq_ofNat_of_zero_le ha.1
    obtain ⟨b, rfl⟩ := Int.eq_ofNat_of_zero_le hb.1
    rw [swB_t hG]
    simp only [Int.toNat_natCast]
    have hi : a < n := by omega
    have hj : b < n := by omega
    obtain ⟨T, hT⟩ : ∃ T : Nat → Nat → Int, (fun (a b : Nat) => wbet xs m (a : Int) (b : Int)) = T := ⟨_, rfl⟩
    have hTb' : ∀ a b : Nat, 0 ≤ T a b ∧ T a b ≤ 200 := fun a b => by rw [← hT]; exact hTb a b
    have HMe : Hid (∀ (Z : Int → Int → Int), (∀ i j : Nat, Z i j = T (swpI a b i) (swpI a b j)) → tabC (fun i j => Z i j) n n = swM n m xs a b) := fun Z hZ => by unfold swM; rw [← hT] at hZ; exact tabC_congr (fun i j _ _ => hZ i j)
    rw [hT] at HTa
    have HTb := Lib.hid hTb'
    generalize swM n m xs a b = MM at *
    clear hTb hTb' hT
    go_enter Tryz.func36, Tryz.ntmps36
    go_upto_region 4 with (first | ((go_at_call 43; ((with_reducible refine (HNo.out _ (kge)).mono ?_); rintro r w1 ⟨rfl, g1⟩)); have NB1 := NB0.ge g1; have R1 := R0.ge g1; have gw1 : Ge w w1 := (kge); obtain ⟨b0, b1, b2, b3⟩ := NB1; obtain ⟨r0, p0, f0⟩ := R1 0 (by omega); obtain ⟨r1, p1, f1⟩ := R1 1 (by omega); obtain ⟨r2, p2, f2⟩ := R1 2 (by omega); obtain ⟨r3, p3, f3⟩ := R1 3 (by omega); have z1 := Nat.lt_of_lt_of_le zR g1.size) | ((go_at_call 69; ((with_reducible refine (HIa.out _).mono ?_); rintro r w2 ⟨rfl, g2⟩)); have gw1 := Ge.trans gw1 g2; have b0 := Ge.keep g2 b0; have b1 := Ge.keep g2 b1; have b2 := Ge.keep g2 b2; have b3 := Ge.keep g2 b3; have R1 := R1.ge g2; obtain ⟨r0, p0, f0⟩ := R1 0 (by omega); obtain ⟨r1, p1, f1⟩ := R1 1 (by omega); obtain ⟨r2, p2, f2⟩ := R1 2 (by omega); obtain ⟨r3, p3, f3⟩ := R1 3 (by omega); have z1 := Nat.lt_of_lt_of_le z1 g2.size) | ((go_at_call 69; ((with_reducible refine (HIb.out _).mono ?_); rintro r w2 ⟨rfl, g2⟩)); have gw1 := Ge.trans gw1 g2; have b0 := Ge.keep g2 b0; have b1 := Ge.keep g2 b1; have b2 := Ge.keep g2 b2; have b3 := Ge.keep g2 b3; have R1 := R1.ge g2; obtain ⟨r0, p0, f0⟩ := R1 0 (by omega); obtain ⟨r1, p1, f1⟩ := R1 1 (by omega); obtain ⟨r2, p2, f2⟩ := R1 2 (by omega); obtain ⟨r3, p3, f3⟩ := R1 3 (by omega); have z1 := Nat.lt_of_lt_of_le z1 g2.size) | ((go_at_call 70; ((with_reducible refine (HTa.out _ gw1).mono ?_); rintro r w3 ⟨G, f, cs, rfl, hO, g3⟩)); have HO := Lib.hid hO; have NB3 := Lib.hid (NetIn.ge (w := w2) (B := w.heap.size) (n := n) (e := e) (S := S) (v := .slice p m cap) ⟨b0, b1, b2, b3⟩ g3); have R3 := Lib.hid (R1.ge g3); have gw3 := Ge.trans gw1 g3; clear hO))
    have x0 := HO.out.row hi hi
    have x1 := HO.out.row hj hj
    have xf0 := HO.out.1.frozenAt a
    have xf1 := HO.out.1.frozenAt b
    obtain ⟨v', hy'⟩ := cell?_setCell_some (w := w3) (p := ⟨G, a, none⟩) (x := .slice (some ⟨f b, 0, none⟩) n n) (q := ⟨G, b, none⟩) (v := .slice (some ⟨f b, 0, none⟩) n n) x1
    go_region
    have hl := HO.out.lt
    have k0 : ∀ (c y : Nat), (⟨G, c, none⟩ : Addr) ≠ ⟨w.heap.size, y, none⟩ := fun c y ee => by have := congrArg Addr.block ee; simp at this; omega
    have k1 : ∀ (c y : Nat), (⟨G, c, none⟩ : Addr) ≠ ⟨w.heap.size + 1, y, none⟩ := fun c y ee => by have := congrArg Addr.block ee; simp at this; omega
    have HO4 := Lib.hid ((HO.out.swapRows hi hj).ge (Ge.drew (Ge.refl _)))
    have NB4 : Hid (NetIn ((w3.setCell ⟨G, a, none⟩ (.slice (some ⟨f b, 0, none⟩) n n)).setCell ⟨G, b, none⟩ (.slice (some ⟨f a, 0, none⟩) n n)).drew w.heap.size n e S (.slice p m cap)) := by
      obtain ⟨b0, b1, b2, b3⟩ := NB3.out
      exact ⟨cell_drew (cell_set2 (k0 b 0) (cell_set2 (k0 a 0) b0)), cell_drew (cell_set2 (k0 b 1) (cell_set2 (k0 a 1) b1)), cell_drew (cell_set2 (k0 b 2) (cell_set2 (k0 a 2) b2)), cell_drew (cell_set2 (k0 b 3) (cell_set2 (k0 a 3) b3))⟩
    have R4 : Hid (ResD ((w3.setCell ⟨G, a, none⟩ (.slice (some ⟨f b, 0, none⟩) n n)).setCell ⟨G, b, none⟩ (.slice (some ⟨f a, 0, none⟩) n n)).drew (w.heap.size + 1)) := fun x hx => by
      obtain ⟨u, r1, r2⟩ := R3.out x hx
      exact ⟨u, cell_drew (cell_set2 (k1 b x) (cell_set2 (k1 a x) r1)), froz_drew (froz_set (froz_set r2))⟩
    have G4 : Ge w ((w3.setCell ⟨G, a, none⟩ (.slice (some ⟨f b, 0, none⟩) n n)).setCell ⟨G, b, none⟩ (.slice (some ⟨f a, 0, none⟩) n n)).drew := Ge.drew (Ge.setCell (Ge.setCell gw3 (p := ⟨G, a, none⟩) (by show w.heap.size ≤ G; omega) _) (p := ⟨G, b, none⟩) (by show w.heap.size ≤ G; omega) _)
    have lG := hl.1
    clear hl x0 x1 xf0 xf1 hy' k0 k1 HO NB3 R3 gw3
    generalize ((w3.setCell ⟨G, a, none⟩ (.slice (some ⟨f b, 0, none⟩) n n)).setCell ⟨G, b, none⟩ (.slice (some ⟨f a, 0, none⟩) n n)).drew = w4 at *
    have HO0 : Hid (∃ f cs, OMat w4 w2.heap.size G n f cs n (swpR T a b 0)) := ⟨_, _, HO4.out.congr (swpR_zero T a b n)⟩
    clear HO4 b0 b1 b2 b3 R1 R0 NB0
    go_wp2_with fail
    go_loopw [44] (fun i' wr => ∃ i : Nat, i ≤ n ∧ i' = .int .i64 i ∧ Hid (∃ f cs, OMat wr w2.heap.size G n f cs n (swpR T a b i)) ∧ Hid (NetIn wr w.heap.size n e S (.slice p m cap)) ∧ Hid (ResD wr (w.heap.size + 1)) ∧ Ge w wr) (fun i _ => n - (intOf i).toNat)
    case atStart => exact ⟨0, Nat.zero_le _, rfl, HO0.out, NB4.out, R4.out, G4⟩
    case round =>
      clear HO0 NB4 R4
      obtain ⟨i, hi', rfl, HOx, HNi, HRi, hg⟩ := hrel
      obtain ⟨f, cs, HO⟩ := HOx
      have HOi := Lib.hid HO
      clear HO
      by_cases hlt : i < n
      · have x0 := HOi.out.row hlt hlt
        have y0 := HOi.out.entry hlt hi
        have y1 := HOi.out.entry hlt hj
        have yf := HOi.out.froz hlt a
        have yg := HOi.out.froz hlt b
        rw [swpR_at] at y0 y1
        have hl := HOi.out.lt
        have hE := HOi.out.setE hlt hi (T (swpI a b i) b)
        have hE2 := hE.1.setE hlt hj (T (swpI a b i) a)
        have HE := Lib.hid ((hE2.1.congr (swpR_step T a b n)).ge (Ge.drew (Ge.refl _)))
        have fi := hl.2.2 i hlt
        have ka : ∀ c x : Nat, (⟨f i, c, none⟩ : Addr) ≠ ⟨w.heap.size, x, none⟩ := fun c x ee => by have := congrArg Addr.block ee; simp at this; omega
        have ka1 : ∀ c x : Nat, (⟨f i, c, none⟩ : Addr) ≠ ⟨w.heap.size + 1, x, none⟩ := fun c x ee => by have := congrArg Addr.block ee; simp at this; omega
        generalize T (swpI a b i) a = X at *
        generalize T (swpI a b i) b = Y at *
        have HNe : Hid (NetIn ((wr.setCell ⟨f i, a, none⟩ (.int .i64 Y)).setCell ⟨f i, b, none⟩ (.int .i64 X)).drew w.heap.size n e S (.slice p m cap)) := by
          obtain ⟨b0, b1, b2, b3⟩ := HNi.out
          exact ⟨cell_drew (cell_set2 (ka b 0) (cell_set2 (ka a 0) b0)), cell_drew (cell_set2 (ka b 1) (cell_set2 (ka a 1) b1)), cell_drew (cell_set2 (ka b 2) (cell_set2 (ka a 2) b2)), cell_drew (cell_set2 (ka b 3) (cell_set2 (ka a 3) b3))⟩
        have HRe : Hid (ResD ((wr.setCell ⟨f i, a, none⟩ (.int .i64 Y)).setCell ⟨f i, b, none⟩ (.int .i64 X)).drew (w.heap.size + 1)) := fun x hx => by
          obtain ⟨u, r1, r2⟩ := HRi.out x hx
          exact ⟨u, cell_drew (cell_set2 (ka1 b x) (cell_set2 (ka1 a x) r1)), froz_drew (froz_set (froz_set r2))⟩
        have hgE := Ge.drew (Ge.setCell (Ge.setCell hg (p := ⟨f i, a, none⟩) (by show w.heap.size ≤ f i; omega) (.int .i64 Y)) (p := ⟨f i, b, none⟩) (by show w.heap.size ≤ f i; omega) (.int .i64 X))
        obtain ⟨v', hy'⟩ := cell?_setCell_some (w := wr) (p := ⟨f i, a, none⟩) (x := .int .i64 Y) (q := ⟨f i, b, none⟩) (v := .int .i64 Y) y1
        clear hE hE2 hl HOi HNi HRi ka ka1
        go_wp2_with fail
        go_region
        go_wp2_with fail
        go_roundw
        case rel => exact ⟨i + 1, by omega, by go_num, ⟨f, cs, HE.out⟩, HNe.out, HRe.out, hgE⟩
        case measure => simp [intOf]; omega
      · have hin : i = n := by omega
        subst hin
        obtain ⟨f, cs, HOx⟩ := (⟨f, cs, HOi.out⟩ : ∃ f cs, OMat wr w2.heap.size G i f cs i (swpR T a b i))
        have HM := Lib.hid ((HOx.congr (swpR_all T a b i)).slMM (Z := fun (x y : Int) => T (swpI a b x.toNat) (swpI a b y.toNat)) (fun x y _ _ => by simp))
        have HZ := HMe.out (fun (x y : Int) => T (swpI a b x.toNat) (swpI a b y.toNat)) (fun x y => by simp)
        have HN6 := Lib.hid (iNetOfU i e S (fun (x y : Int) => T (swpI a b x.toNat) (swpI a b y.toNat)) _ wr HM.out (by omega) (by omega) (by omega) (fun x y _ _ => by have := HTb.out (swpI a b (x : Int).toNat) (swpI a b (y : Int).toNat); omega))
        rw [HZ] at HN6
        obtain ⟨b0, b1, b2, b3⟩ := HNi.out
        have z6 : w.heap.size + 1 < wr.heap.size := by obtain ⟨u, r1, _⟩ := HRi.out 0 (by omega); exact World.block_lt_of_cell? _ _ r1
        obtain ⟨r0, p0, f0⟩ := HRi.out 0 (by omega)
        obtain ⟨r1, p1, f1⟩ := HRi.out 1 (by omega)
        obtain ⟨r2, p2, f2⟩ := HRi.out 2 (by omega)
        obtain ⟨r3, p3, f3⟩ := HRi.out 3 (by omega)
        have HG6 := Lib.hid hg
        clear HOx HOi HM HZ HMe
        cases hBB : netB i e S MM.length (flatW MM) with
        | true =>
          rw [hBB] at HN6
          have HT1 := Lib.hid (fun u w' ho g => GivesO.t (w := w) (w' := w') (N := i) (E := e) (S := S) (L := MM) (u := u) hBB ho g)
          have HNt := Lib.hid (HN6.out.mono (fun e w' h => h.tt))
          go_wp2_with ((go_at_call 71; ((with_reducible refine (HNt.out).mono ?_); rintro r w9 ⟨u9, rfl, o9, g9⟩)); obtain ⟨pu, cu, rfl⟩ := owns_form o9; have q0 := g9.keep p0; have q1 := g9.keep p1; have q2 := g9.keep p2; have q3 := g9.keep p3; have h0 := g9.keepF p0 f0; have h1 := g9.keepF p1 f1; have h2 := g9.keepF p2 f2; have h3 := g9.keepF p3 f3; have gw9 := HG6.out.trans g9; have O9 := Lib.hid o9; clear o9)
          exact bodyPost_ret (v := .tuple #[.agg #[.int .i64 (i : Int), .int .i64 (e : Int), .int .i64 S, .slice pu MM.length cu], .bool true]) (by simp [results, Tryz.results36, go_sem, *]) rfl (HT1.out _ _ (by refine owns_mono (base := wr.heap.size) ?_ (by omega); repeat (first | exact O9.out | refine own_setD ?_ (by omega))) (kge))
        | false =>
          rw [hBB] at HN6
          have HT1 := Lib.hid (fun w' g => GivesO.f (w := w) (w' := w') (N := i) (E := e) (S := S) (L := MM) hBB g)
          have HNt := Lib.hid (HN6.out.mono (fun e w' h => h.ff))
          go_wp2_with ((go_at_call 71; ((with_reducible refine (HNt.out).mono ?_); rintro r w9 ⟨rfl, g9⟩)); have q0 := g9.keep p0; have q1 := g9.keep p1; have q2 := g9.keep p2; have q3 := g9.keep p3; have h0 := g9.keepF p0 f0; have h1 := g9.keepF p1 f1; have h2 := g9.keepF p2 f2; have h3 := g9.keepF p3 f3; have gw9 := HG6.out.trans g9)
          exact bodyPost_ret (v := .tuple #[.agg #[.int .i64 0, .int .i64 0, .int .i64 0, .slice none 0 0], .bool false]) (by simp [results, Tryz.results36, go_sem, *]) rfl (HT1.out _ (kge))
  · rw [swB_f hG]
    have HT := Lib.hid (fun w' g => GivesO.f (w := w) (w' := w') (b := false) (N := n) (E := e) (S := S) (L := swM n m xs a.toNat b.toNat) rfl g)
    generalize swM n m xs a.toNat b.toNat = MM at *
    clear HTa HK hTb
    by_cases ha : 0 ≤ a ∧ a < (n : Int)
    · rw [nodeB_t ha] at HIa
      have hb : ¬ (0 ≤ b ∧ b < (n : Int)) := fun h => hG ⟨ha, h⟩
      rw [nodeB_f hb] at HIb
      go_enter Tryz.func36, Tryz.ntmps36
      go_wp2_with (first | ((go_at_call 43; ((with_reducible refine (HNo.out _ (kge)).mono ?_); rintro r w1 ⟨rfl, g1⟩)); have NB1 := NB0.ge g1; have R1 := R0.ge g1; have gw1 : Ge w w1 := (kge); obtain ⟨b0, b1, b2, b3⟩ := NB1; obtain ⟨r0, p0, f0⟩ := R1 0 (by omega); obtain ⟨r1, p1, f1⟩ := R1 1 (by omega); obtain ⟨r2, p2, f2⟩ := R1 2 (by omega); obtain ⟨r3, p3, f3⟩ := R1 3 (by omega); have z1 := Nat.lt_of_lt_of_le zR g1.size) | ((go_at_call 69; ((with_reducible refine (HIa.out _).mono ?_); rintro r w2 ⟨rfl, g2⟩)); have gw1 := Ge.trans gw1 g2; have b0 := Ge.keep g2 b0; have b1 := Ge.keep g2 b1; have b2 := Ge.keep g2 b2; have b3 := Ge.keep g2 b3; have R1 := R1.ge g2; obtain ⟨r0, p0, f0⟩ := R1 0 (by omega); obtain ⟨r1, p1, f1⟩ := R1 1 (by omega); obtain ⟨r2, p2, f2⟩ := R1 2 (by omega); obtain ⟨r3, p3, f3⟩ := R1 3 (by omega); have z1 := Nat.lt_of_lt_of_le z1 g2.size) | ((go_at_call 69; ((with_reducible refine (HIb.out _).mono ?_); rintro r w2 ⟨rfl, g2⟩)); have gw1 := Ge.trans gw1 g2; have b0 := Ge.keep g2 b0; have b1 := Ge.keep g2 b1; have b2 := Ge.keep g2 b2; have b3 := Ge.keep g2 b3; have R1 := R1.ge g2; obtain ⟨r0, p0, f0⟩ := R1 0 (by omega); obtain ⟨r1, p1, f1⟩ := R1 1 (by omega); obtain ⟨r2, p2, f2⟩ := R1 2 (by omega); obtain ⟨r3, p3, f3⟩ := R1 3 (by omega); have z1 := Nat.lt_of_lt_of_le z1 g2.size))
      exact bodyPost_ret (v := .tuple #[.agg #[.int .i64 0, .int .i64 0, .int .i64 0, .slice none 0 0], .bool false]) (by simp [results, Tryz.results36, go_sem, *]) rfl (HT.out _ (kge))
    · rw [nodeB_f ha] at HIa
      go_enter Tryz.func36, Tryz.ntmps36
      go_wp2_with (first | ((go_at_call 43; ((with_reducible refine (HNo.out _ (kge)).mono ?_); rintro r w1 ⟨rfl, g1⟩)); have NB1 := NB0.ge g1; have R1 := R0.ge g1; have gw1 : Ge w w1 := (kge); obtain ⟨b0, b1, b2, b3⟩ := NB1; obtain ⟨r0, p0, f0⟩ := R1 0 (by omega); obtain ⟨r1, p1, f1⟩ := R1 1 (by omega); obtain ⟨r2, p2, f2⟩ := R1 2 (by omega); obtain ⟨r3, p3, f3⟩ := R1 3 (by omega); have z1 := Nat.lt_of_lt_of_le zR g1.size) | ((go_at_call 69; ((with_reducible refine (HIa.out _).mono ?_); rintro r w2 ⟨rfl, g2⟩)); have gw1 := Ge.trans gw1 g2; have b0 := Ge.keep g2 b0; have b1 := Ge.keep g2 b1; have b2 := Ge.keep g2 b2; have b3 := Ge.keep g2 b3; have R1 := R1.ge g2; obtain ⟨r0, p0, f0⟩ := R1 0 (by omega); obtain ⟨r1, p1, f1⟩ := R1 1 (by omega); obtain ⟨r2, p2, f2⟩ := R1 2 (by omega); obtain ⟨r3, p3, f3⟩ := R1 3 (by omega); have z1 := Nat.lt_of_lt_of_le z1 g2.size) | ((go_at_call 69; ((with_reducible refine (HIb.out _).mono ?_); rintro r w2 ⟨rfl, g2⟩)); have gw1 := Ge.trans gw1 g2; have b0 := Ge.keep g2 b0; have b1 := Ge.keep g2 b1; have b2 := Ge.keep g2 b2; have b3 := Ge.keep g2 b3; have R1 := R1.ge g2; obtain ⟨r0, p0, f0⟩ := R1 0 (by omega); obtain ⟨r1, p1, f1⟩ := R1 1 (by omega); obtain ⟨r2, p2, f2⟩ := R1 2 (by omega); obtain ⟨r3, p3, f3⟩ := R1 3 (by omega); have z1 := Nat.lt_of_lt_of_le z1 g2.size))
      exact bodyPost_ret (v := .tuple #[.agg #[.int .i64 0, .int .i64 0, .int .i64 0, .slice none 0 0], .bool false]) (by simp [results, Tryz.results36, go_sem, *]) rfl (HT.out _ (kge))
end Go.Proofs.YtagiecajffhnpaaGreat
