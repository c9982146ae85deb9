/- fits, calculable, RatioSum, RatioInverse, positive, SeriesRatio, ParallelRatio, and the reference's. -/
import Derived.Test.YtahicfpnmjofhabWRatio
import Derived.Test.YtahicfpnmjofhabPlSum
namespace Go.Proofs.Ytahicfpnmjofhab

open Go.RowKit

theorem froz_alloc {w : World} {o : Obj} {a : Addr} {v : Value} (hc : w.cell? a = some v) (h : w.frozen? a = false) : (w.alloc o).frozen? a = false := Ge.keepF ((Ge.refl w).alloc o) hc h

theorem set_read {w : World} {a : Addr} {x u : Value} (h : (w.setCell a x).cell? a = some u) : (w.setCell a x).cell? a = some x := by
  cases e : w.cell? a with
  | some z => exact World.cell?_setCell_same w a x e
  | none =>
    exfalso
    simp only [World.setCell, World.cell?, Array.getElem?_modify, if_pos] at h e
    cases hb : w.heap[a.block]? with
    | none => rw [hb] at h; simp at h
    | some o =>
      rw [hb] at h e
      cases o with
      | cells c t f =>
        simp only [Option.map_some] at h
        cases hs : a.spot with
        | some sp => rw [hs] at h; simp at h
        | none =>
          rw [hs] at h e
          simp only [Option.isSome_none, Bool.false_eq_true, if_false] at h e
          have h1 : a.off < c.size := by have := (Array.getElem?_eq_some_iff.1 h).1; simpa using this
          have h2 := Array.getElem?_eq_none_iff.1 e
          omega
      | _ => simp at h
theorem res2 {w : World} {a b : Addr} {x y u v : Value} (h : ((w.setCell a x).setCell b y).cell? a = some u) (k : ((w.setCell a x).setCell b y).cell? b = some v) (hne : b ≠ a) :
    ((w.setCell a x).setCell b y).cell? a = some x ∧ ((w.setCell a x).setCell b y).cell? b = some y := by
  refine ⟨?_, set_read k⟩
  rw [World.cell?_setCell_other _ _ _ _ hne] at h ⊢
  exact set_read h

theorem ret_agg2 {a b c d : Int} (h : a = c) (k : b = d) : Ending.returned (.agg #[.int .i64 a, .int .i64 b]) = .returned (.agg #[.int .i64 c, .int .i64 d]) := by rw [h, k]

/-- A number of a fraction: within the bounds of MaxNum. -/
def Small (a : Int) : Prop := -1000000000000000000 ≤ a ∧ a ≤ 1000000000000000000
theorem small {a : Int} (h0 : -1000000000000000000 ≤ a) (h1 : a ≤ 1000000000000000000) : Small a := ⟨h0, h1⟩

theorem iFits (a b : Int) (w : World) (ha : Small a) (hb : Small b) :
    Calls Try.prog 32 #[.int .i64 a, .int .i64 b] w fun e w' => e = .returned (.bool (fitsB a b)) ∧ w = w' := by
  obtain ⟨a0, a1⟩ := ha
  obtain ⟨b0, b1⟩ := hb
  by_cases h0 : a = 0
  · subst h0
    go_enter Try.func32, Try.ntmps32
    go_wp2_with fail
    go_ret
    exact ⟨ret_bool (fits_zero_left b).symm, rfl⟩
  · have t0 : (a == 0) = false := by simp [h0]
    by_cases h1 : b = 0
    · subst h1
      go_enter Try.func32, Try.ntmps32
      go_wp2_with fail
      go_ret
      exact ⟨ret_bool (fits_zero_right a).symm, rfl⟩
    · have t1 : (b == 0) = false := by simp [h1]
      have HF := Lib.hid (fits_div a b h1 h0)
      obtain ⟨x, hx⟩ : ∃ x, a.natAbs = x := ⟨_, rfl⟩
      obtain ⟨y, hy⟩ : ∃ y, b.natAbs = y := ⟨_, rfl⟩
      have y0 : 0 < y := by omega
      have y1 : ¬ y = 0 := by omega
      have x2 : x ≤ 1000000000000000000 := by omega
      have y2 : y ≤ 1000000000000000000 := by omega
      have HSa := Lib.hid (fun w => by have := iSize a w (by omega) (by omega); rwa [hx] at this : ∀ w, Calls Try.prog 30 #[.int .i64 a] w fun e w' => e = .returned (.int .u64 (x : Int)) ∧ w = w')
      have HSb := Lib.hid (fun w => by have := iSize b w (by omega) (by omega); rwa [hy] at this : ∀ w, Calls Try.prog 30 #[.int .i64 b] w fun e w' => e = .returned (.int .u64 (y : Int)) ∧ w = w')
      have HX : Hid (fitsB a b = decide ((x : Int) ≤ 1000000000000000000 / (y : Int))) := by
        rw [HF.out, hx, hy]
        congr 1
        rw [show (1000000000000000000 : Int) / (y : Int) = ((1000000000000000000 / y : Nat) : Int) from by simp]
        simp only [Int.ofNat_le]
      clear HF hx hy h0 h1
      go_enter Try.func32, Try.ntmps32
      go_wp2_with (first | (go_at_call 30; ((with_reducible refine (HSa.out _).mono ?_); rintro e w' ⟨rfl, rfl⟩)) | (go_at_call 30; ((with_reducible refine (HSb.out _).mono ?_); rintro e w' ⟨rfl, rfl⟩)))
      go_ret
      exact ⟨ret_bool HX.out.symm, rfl⟩

theorem ok_small {n d : Int} (h : ratioOk n d = true) : -1000000000000000000 ≤ n ∧ n ≤ 1000000000000000000 ∧ 1 ≤ d ∧ d ≤ 1000000000000000 := by
  rw [ratioOk_iff] at h; omega

set_option maxHeartbeats 1600000 in
theorem iCalculable (n1 d1 n2 d2 : Int) (w : World) :
    Calls Try.prog 22 #[.agg #[.int .i64 n1, .int .i64 d1], .agg #[.int .i64 n2, .int .i64 d2]] w fun e w' => e = .returned (.bool (calcB ⟨n1, d1⟩ ⟨n2, d2⟩)) ∧ Ge w w' := by
  cases o1 : ratioOk n1 d1 with
  | false =>
    go_enter Try.func22, Try.ntmps22
    go_wp2_with (first | (go_at_call 31; ((with_reducible refine (iRatioOk _ _ _).mono ?_); rintro e w1 ⟨rfl, gw1⟩); have Gw1 : Ge w w1 := (Ge.trans (by (repeat (first | with_reducible exact Ge.refl _ | assumption | with_reducible refine Ge.drew ?_ | with_reducible refine Ge.drewN ?_ _ | with_reducible refine Ge.alloc ?_ _ | (with_reducible refine Ge.setCell ?_ (by first | (simp; done) | omega | (simp; omega)) _) | with_reducible refine Ge.trans ?_ (by assumption)))) gw1); have c0_0 : World.cell? w1 ⟨w.heap.size, 0, none⟩ = some (.int .i64 n1) := Ge.keep gw1 (by repeat (first | assumption | exact (own_new (by simp) rfl).1 | with_reducible refine cell_drew ?_ | with_reducible refine cell_drewN ?_ | with_reducible refine cell_alloc ?_ | (simp [*]; done))); have c0_1 : World.cell? w1 ⟨w.heap.size, 1, none⟩ = some (.int .i64 d1) := Ge.keep gw1 (by repeat (first | assumption | exact (own_new (by simp) rfl).1 | with_reducible refine cell_drew ?_ | with_reducible refine cell_drewN ?_ | with_reducible refine cell_alloc ?_ | (simp [*]; done))); have c1_0 : World.cell? w1 ⟨w.heap.size + 1, 0, none⟩ = some (.int .i64 n2) := Ge.keep gw1 (by repeat (first | assumption | exact (own_new (by simp) rfl).1 | with_reducible refine cell_drew ?_ | with_reducible refine cell_drewN ?_ | with_reducible refine cell_alloc ?_ | (simp [*]; done))); have c1_1 : World.cell? w1 ⟨w.heap.size + 1, 1, none⟩ = some (.int .i64 d2) := Ge.keep gw1 (by repeat (first | assumption | exact (own_new (by simp) rfl).1 | with_reducible refine cell_drew ?_ | with_reducible refine cell_drewN ?_ | with_reducible refine cell_alloc ?_ | (simp [*]; done))); have zw1 : w.heap.size + 2 ≤ w1.heap.size := (by have := Ge.size gw1; (try simp at this); omega)) | (go_at_call 32; ((with_reducible refine (iFits _ _ _ (small (by omega) (by omega)) (small (by omega) (by omega))).mono ?_); rintro e w' ⟨rfl, rfl⟩)))
    go_ret
    exact ⟨ret_bool (by simp [calcB, o1]), by (repeat (first | with_reducible exact Ge.refl _ | assumption | with_reducible refine Ge.drew ?_ | with_reducible refine Ge.drewN ?_ _ | with_reducible refine Ge.alloc ?_ _ | (with_reducible refine Ge.setCell ?_ (by first | (simp; done) | omega | (simp; omega)) _) | with_reducible refine Ge.trans ?_ (by assumption)))⟩
  | true =>
    obtain ⟨a1, a2, a3, a4⟩ := ok_small o1
    cases o2 : ratioOk n2 d2 with
    | false =>
      go_enter Try.func22, Try.ntmps22
      go_wp2_with (first | (go_at_call 31; ((with_reducible refine (iRatioOk _ _ _).mono ?_); rintro e w1 ⟨rfl, gw1⟩); have Gw1 : Ge w w1 := (Ge.trans (by (repeat (first | with_reducible exact Ge.refl _ | assumption | with_reducible refine Ge.drew ?_ | with_reducible refine Ge.drewN ?_ _ | with_reducible refine Ge.alloc ?_ _ | (with_reducible refine Ge.setCell ?_ (by first | (simp; done) | omega | (simp; omega)) _) | with_reducible refine Ge.trans ?_ (by assumption)))) gw1); have c0_0 : World.cell? w1 ⟨w.heap.size, 0, none⟩ = some (.int .i64 n1) := Ge.keep gw1 (by repeat (first | assumption | exact (own_new (by simp) rfl).1 | with_reducible refine cell_drew ?_ | with_reducible refine cell_drewN ?_ | with_reducible refine cell_alloc ?_ | (simp [*]; done))); have c0_1 : World.cell? w1 ⟨w.heap.size, 1, none⟩ = some (.int .i64 d1) := Ge.keep gw1 (by repeat (first | assumption | exact (own_new (by simp) rfl).1 | with_reducible refine cell_drew ?_ | with_reducible refine cell_drewN ?_ | with_reducible refine cell_alloc ?_ | (simp [*]; done))); have c1_0 : World.cell? w1 ⟨w.heap.size + 1, 0, none⟩ = some (.int .i64 n2) := Ge.keep gw1 (by repeat (first | assumption | exact (own_new (by simp) rfl).1 | with_reducible refine cell_drew ?_ | with_reducible refine cell_drewN ?_ | with_reducible refine cell_alloc ?_ | (simp [*]; done))); have c1_1 : World.cell? w1 ⟨w.heap.size + 1, 1, none⟩ = some (.int .i64 d2) := Ge.keep gw1 (by repeat (first | assumption | exact (own_new (by simp) rfl).1 | with_reducible refine cell_drew ?_ | with_reducible refine cell_drewN ?_ | with_reducible refine cell_alloc ?_ | (simp [*]; done))); have zw1 : w.heap.size + 2 ≤ w1.heap.size := (by have := Ge.size gw1; (try simp at this); omega)) | (go_at_call 32; ((with_reducible refine (iFits _ _ _ (small (by omega) (by omega)) (small (by omega) (by omega))).mono ?_); rintro e w' ⟨rfl, rfl⟩)))
      go_ret
      exact ⟨ret_bool (by simp [calcB, o1, o2]), by (repeat (first | with_reducible exact Ge.refl _ | assumption | with_reducible refine Ge.drew ?_ | with_reducible refine Ge.drewN ?_ _ | with_reducible refine Ge.alloc ?_ _ | (with_reducible refine Ge.setCell ?_ (by first | (simp; done) | omega | (simp; omega)) _) | with_reducible refine Ge.trans ?_ (by assumption)))⟩
    | true =>
      obtain ⟨b1, b2, b3, b4⟩ := ok_small o2
      cases o3 : fitsB n1 d2 with
      | false =>
        go_enter Try.func22, Try.ntmps22
        go_wp2_with (first | (go_at_call 31; ((with_reducible refine (iRatioOk _ _ _).mono ?_); rintro e w1 ⟨rfl, gw1⟩); have Gw1 : Ge w w1 := (Ge.trans (by (repeat (first | with_reducible exact Ge.refl _ | assumption | with_reducible refine Ge.drew ?_ | with_reducible refine Ge.drewN ?_ _ | with_reducible refine Ge.alloc ?_ _ | (with_reducible refine Ge.setCell ?_ (by first | (simp; done) | omega | (simp; omega)) _) | with_reducible refine Ge.trans ?_ (by assumption)))) gw1); have c0_0 : World.cell? w1 ⟨w.heap.size, 0, none⟩ = some (.int .i64 n1) := Ge.keep gw1 (by repeat (first | assumption | exact (own_new (by simp) rfl).1 | with_reducible refine cell_drew ?_ | with_reducible refine cell_drewN ?_ | with_reducible refine cell_alloc ?_ | (simp [*]; done))); have c0_1 : World.cell? w1 ⟨w.heap.size, 1, none⟩ = some (.int .i64 d1) := Ge.keep gw1 (by repeat (first | assumption | exact (own_new (by simp) rfl).1 | with_reducible refine cell_drew ?_ | with_reducible refine cell_drewN ?_ | with_reducible refine cell_alloc ?_ | (simp [*]; done))); have c1_0 : World.cell? w1 ⟨w.heap.size + 1, 0, none⟩ = some (.int .i64 n2) := Ge.keep gw1 (by repeat (first | assumption | exact (own_new (by simp) rfl).1 | with_reducible refine cell_drew ?_ | with_reducible refine cell_drewN ?_ | with_reducible refine cell_alloc ?_ | (simp [*]; done))); have c1_1 : World.cell? w1 ⟨w.heap.size + 1, 1, none⟩ = some (.int .i64 d2) := Ge.keep gw1 (by repeat (first | assumption | exact (own_new (by simp) rfl).1 | with_reducible refine cell_drew ?_ | with_reducible refine cell_drewN ?_ | with_reducible refine cell_alloc ?_ | (simp [*]; done))); have zw1 : w.heap.size + 2 ≤ w1.heap.size := (by have := Ge.size gw1; (try simp at this); omega)) | (go_at_call 32; ((with_reducible refine (iFits _ _ _ (small (by omega) (by omega)) (small (by omega) (by omega))).mono ?_); rintro e w' ⟨rfl, rfl⟩)))
        go_ret
        exact ⟨ret_bool (by simp [calcB, o1, o2, o3]), by (repeat (first | with_reducible exact Ge.refl _ | assumption | with_reducible refine Ge.drew ?_ | with_reducible refine Ge.drewN ?_ _ | with_reducible refine Ge.alloc ?_ _ | (with_reducible refine Ge.setCell ?_ (by first | (simp; done) | omega | (simp; omega)) _) | with_reducible refine Ge.trans ?_ (by assumption)))⟩
      | true =>
        cases o4 : fitsB n2 d1 with
        | false =>
          go_enter Try.func22, Try.ntmps22
          go_wp2_with (first | (go_at_call 31; ((with_reducible refine (iRatioOk _ _ _).mono ?_); rintro e w1 ⟨rfl, gw1⟩); have Gw1 : Ge w w1 := (Ge.trans (by (repeat (first | with_reducible exact Ge.refl _ | assumption | with_reducible refine Ge.drew ?_ | with_reducible refine Ge.drewN ?_ _ | with_reducible refine Ge.alloc ?_ _ | (with_reducible refine Ge.setCell ?_ (by first | (simp; done) | omega | (simp; omega)) _) | with_reducible refine Ge.trans ?_ (by assumption)))) gw1); have c0_0 : World.cell? w1 ⟨w.heap.size, 0, none⟩ = some (.int .i64 n1) := Ge.keep gw1 (by repeat (first | assumption | exact (own_new (by simp) rfl).1 | with_reducible refine cell_drew ?_ | with_reducible refine cell_drewN ?_ | with_reducible refine cell_alloc ?_ | (simp [*]; done))); have c0_1 : World.cell? w1 ⟨w.heap.size, 1, none⟩ = some (.int .i64 d1) := Ge.keep gw1 (by repeat (first | assumption | exact (own_new (by simp) rfl).1 | with_reducible refine cell_drew ?_ | with_reducible refine cell_drewN ?_ | with_reducible refine cell_alloc ?_ | (simp [*]; done))); have c1_0 : World.cell? w1 ⟨w.heap.size + 1, 0, none⟩ = some (.int .i64 n2) := Ge.keep gw1 (by repeat (first | assumption | exact (own_new (by simp) rfl).1 | with_reducible refine cell_drew ?_ | with_reducible refine cell_drewN ?_ | with_reducible refine cell_alloc ?_ | (simp [*]; done))); have c1_1 : World.cell? w1 ⟨w.heap.size + 1, 1, none⟩ = some (.int .i64 d2) := Ge.keep gw1 (by repeat (first | assumption | exact (own_new (by simp) rfl).1 | with_reducible refine cell_drew ?_ | with_reducible refine cell_drewN ?_ | with_reducible refine cell_alloc ?_ | (simp [*]; done))); have zw1 : w.heap.size + 2 ≤ w1.heap.size := (by have := Ge.size gw1; (try simp at this); omega)) | (go_at_call 32; ((with_reducible refine (iFits _ _ _ (small (by omega) (by omega)) (small (by omega) (by omega))).mono ?_); rintro e w' ⟨rfl, rfl⟩)))
          go_ret
          exact ⟨ret_bool (by simp [calcB, o1, o2, o3, o4]), by (repeat (first | with_reducible exact Ge.refl _ | assumption | with_reducible refine Ge.drew ?_ | with_reducible refine Ge.drewN ?_ _ | with_reducible refine Ge.alloc ?_ _ | (with_reducible refine Ge.setCell ?_ (by first | (simp; done) | omega | (simp; omega)) _) | with_reducible refine Ge.trans ?_ (by assumption)))⟩
        | true =>
          cases o5 : fitsB d1 d2 with
          | false =>
            go_enter Try.func22, Try.ntmps22
            go_wp2_with (first | (go_at_call 31; ((with_reducible refine (iRatioOk _ _ _).mono ?_); rintro e w1 ⟨rfl, gw1⟩); have Gw1 : Ge w w1 := (Ge.trans (by (repeat (first | with_reducible exact Ge.refl _ | assumption | with_reducible refine Ge.drew ?_ | with_reducible refine Ge.drewN ?_ _ | with_reducible refine Ge.alloc ?_ _ | (with_reducible refine Ge.setCell ?_ (by first | (simp; done) | omega | (simp; omega)) _) | with_reducible refine Ge.trans ?_ (by assumption)))) gw1); have c0_0 : World.cell? w1 ⟨w.heap.size, 0, none⟩ = some (.int .i64 n1) := Ge.keep gw1 (by repeat (first | assumption | exact (own_new (by simp) rfl).1 | with_reducible refine cell_drew ?_ | with_reducible refine cell_drewN ?_ | with_reducible refine cell_alloc ?_ | (simp [*]; done))); have c0_1 : World.cell? w1 ⟨w.heap.size, 1, none⟩ = some (.int .i64 d1) := Ge.keep gw1 (by repeat (first | assumption | exact (own_new (by simp) rfl).1 | with_reducible refine cell_drew ?_ | with_reducible refine cell_drewN ?_ | with_reducible refine cell_alloc ?_ | (simp [*]; done))); have c1_0 : World.cell? w1 ⟨w.heap.size + 1, 0, none⟩ = some (.int .i64 n2) := Ge.keep gw1 (by repeat (first | assumption | exact (own_new (by simp) rfl).1 | with_reducible refine cell_drew ?_ | with_reducible refine cell_drewN ?_ | with_reducible refine cell_alloc ?_ | (simp [*]; done))); have c1_1 : World.cell? w1 ⟨w.heap.size + 1, 1, none⟩ = some (.int .i64 d2) := Ge.keep gw1 (by repeat (first | assumption | exact (own_new (by simp) rfl).1 | with_reducible refine cell_drew ?_ | with_reducible refine cell_drewN ?_ | with_reducible refine cell_alloc ?_ | (simp [*]; done))); have zw1 : w.heap.size + 2 ≤ w1.heap.size := (by have := Ge.size gw1; (try simp at this); omega)) | (go_at_call 32; ((with_reducible refine (iFits _ _ _ (small (by omega) (by omega)) (small (by omega) (by omega))).mono ?_); rintro e w' ⟨rfl, rfl⟩)))
            go_ret
            exact ⟨ret_bool (by simp [calcB, o1, o2, o3, o4, o5]), by (repeat (first | with_reducible exact Ge.refl _ | assumption | with_reducible refine Ge.drew ?_ | with_reducible refine Ge.drewN ?_ _ | with_reducible refine Ge.alloc ?_ _ | (with_reducible refine Ge.setCell ?_ (by first | (simp; done) | omega | (simp; omega)) _) | with_reducible refine Ge.trans ?_ (by assumption)))⟩
          | true =>
            cases o6 : fitsB n1 n2 with
            | false =>
              go_enter Try.func22, Try.ntmps22
              go_wp2_with (first | (go_at_call 31; ((with_reducible refine (iRatioOk _ _ _).mono ?_); rintro e w1 ⟨rfl, gw1⟩); have Gw1 : Ge w w1 := (Ge.trans (by (repeat (first | with_reducible exact Ge.refl _ | assumption | with_reducible refine Ge.drew ?_ | with_reducible refine Ge.drewN ?_ _ | with_reducible refine Ge.alloc ?_ _ | (with_reducible refine Ge.setCell ?_ (by first | (simp; done) | omega | (simp; omega)) _) | with_reducible refine Ge.trans ?_ (by assumption)))) gw1); have c0_0 : World.cell? w1 ⟨w.heap.size, 0, none⟩ = some (.int .i64 n1) := Ge.keep gw1 (by repeat (first | assumption | exact (own_new (by simp) rfl).1 | with_reducible refine cell_drew ?_ | with_reducible refine cell_drewN ?_ | with_reducible refine cell_alloc ?_ | (simp [*]; done))); have c0_1 : World.cell? w1 ⟨w.heap.size, 1, none⟩ = some (.int .i64 d1) := Ge.keep gw1 (by repeat (first | assumption | exact (own_new (by simp) rfl).1 | with_reducible refine cell_drew ?_ | with_reducible refine cell_drewN ?_ | with_reducible refine cell_alloc ?_ | (simp [*]; done))); have c1_0 : World.cell? w1 ⟨w.heap.size + 1, 0, none⟩ = some (.int .i64 n2) := Ge.keep gw1 (by repeat (first | assumption | exact (own_new (by simp) rfl).1 | with_reducible refine cell_drew ?_ | with_reducible refine cell_drewN ?_ | with_reducible refine cell_alloc ?_ | (simp [*]; done))); have c1_1 : World.cell? w1 ⟨w.heap.size + 1, 1, none⟩ = some (.int .i64 d2) := Ge.keep gw1 (by repeat (first | assumption | exact (own_new (by simp) rfl).1 | with_reducible refine cell_drew ?_ | with_reducible refine cell_drewN ?_ | with_reducible refine cell_alloc ?_ | (simp [*]; done))); have zw1 : w.heap.size + 2 ≤ w1.heap.size := (by have := Ge.size gw1; (try simp at this); omega)) | (go_at_call 32; ((with_reducible refine (iFits _ _ _ (small (by omega) (by omega)) (small (by omega) (by omega))).mono ?_); rintro e w' ⟨rfl, rfl⟩)))
              go_ret
              exact ⟨ret_bool (by simp [calcB, o1, o2, o3, o4, o5, o6]), by (repeat (first | with_reducible exact Ge.refl _ | assumption | with_reducible refine Ge.drew ?_ | with_reducible refine Ge.drewN ?_ _ | with_reducible refine Ge.alloc ?_ _ | (with_reducible refine Ge.setCell ?_ (by first | (simp; done) | omega | (simp; omega)) _) | with_reducible refine Ge.trans ?_ (by assumption)))⟩
            | true =>
              go_enter Try.func22, Try.ntmps22
              go_wp2_with (first | (go_at_call 31; ((with_reducible refine (iRatioOk _ _ _).mono ?_); rintro e w1 ⟨rfl, gw1⟩); have Gw1 : Ge w w1 := (Ge.trans (by (repeat (first | with_reducible exact Ge.refl _ | assumption | with_reducible refine Ge.drew ?_ | with_reducible refine Ge.drewN ?_ _ | with_reducible refine Ge.alloc ?_ _ | (with_reducible refine Ge.setCell ?_ (by first | (simp; done) | omega | (simp; omega)) _) | with_reducible refine Ge.trans ?_ (by assumption)))) gw1); have c0_0 : World.cell? w1 ⟨w.heap.size, 0, none⟩ = some (.int .i64 n1) := Ge.keep gw1 (by repeat (first | assumption | exact (own_new (by simp) rfl).1 | with_reducible refine cell_drew ?_ | with_reducible refine cell_drewN ?_ | with_reducible refine cell_alloc ?_ | (simp [*]; done))); have c0_1 : World.cell? w1 ⟨w.heap.size, 1, none⟩ = some (.int .i64 d1) := Ge.keep gw1 (by repeat (first | assumption | exact (own_new (by simp) rfl).1 | with_reducible refine cell_drew ?_ | with_reducible refine cell_drewN ?_ | with_reducible refine cell_alloc ?_ | (simp [*]; done))); have c1_0 : World.cell? w1 ⟨w.heap.size + 1, 0, none⟩ = some (.int .i64 n2) := Ge.keep gw1 (by repeat (first | assumption | exact (own_new (by simp) rfl).1 | with_reducible refine cell_drew ?_ | with_reducible refine cell_drewN ?_ | with_reducible refine cell_alloc ?_ | (simp [*]; done))); have c1_1 : World.cell? w1 ⟨w.heap.size + 1, 1, none⟩ = some (.int .i64 d2) := Ge.keep gw1 (by repeat (first | assumption | exact (own_new (by simp) rfl).1 | with_reducible refine cell_drew ?_ | with_reducible refine cell_drewN ?_ | with_reducible refine cell_alloc ?_ | (simp [*]; done))); have zw1 : w.heap.size + 2 ≤ w1.heap.size := (by have := Ge.size gw1; (try simp at this); omega)) | (go_at_call 32; ((with_reducible refine (iFits _ _ _ (small (by omega) (by omega)) (small (by omega) (by omega))).mono ?_); rintro e w' ⟨rfl, rfl⟩)))
              go_ret
              exact ⟨ret_bool (by simp [calcB, o1, o2, o3, o4, o5, o6]), by (repeat (first | with_reducible exact Ge.refl _ | assumption | with_reducible refine Ge.drew ?_ | with_reducible refine Ge.drewN ?_ _ | with_reducible refine Ge.alloc ?_ _ | (with_reducible refine Ge.setCell ?_ (by first | (simp; done) | omega | (simp; omega)) _) | with_reducible refine Ge.trans ?_ (by assumption)))⟩

theorem prod_small {a b : Int} (h : fitsB a b = true) : -1000000000000000000 ≤ a * b ∧ a * b ≤ 1000000000000000000 := fitsB_iff.1 h

set_option maxHeartbeats 1600000 in
theorem iRatioSum (n1 d1 n2 d2 : Int) (w : World) :
    Calls Try.prog 8 #[.agg #[.int .i64 n1, .int .i64 d1], .agg #[.int .i64 n2, .int .i64 d2]] w fun e w' => e = .returned (.agg #[.int .i64 (ratioSum ⟨n1, d1⟩ ⟨n2, d2⟩).n, .int .i64 (ratioSum ⟨n1, d1⟩ ⟨n2, d2⟩).d]) ∧ Ge w w' := by
  cases c : calcB ⟨n1, d1⟩ ⟨n2, d2⟩ with
  | false =>
    have HF : Hid (ratioSum ⟨n1, d1⟩ ⟨n2, d2⟩ = ⟨0, 0⟩) := by simp [ratioSum, c, zeroR]; exact trivial
    go_enter Try.func8, Try.ntmps8
    go_wp2_with (go_at_call 22; ((with_reducible refine (iCalculable _ _ _ _ _).mono ?_); rintro e w1 ⟨rfl, gw1⟩); have Gw1 : Ge w w1 := (Ge.trans (by (repeat (first | with_reducible exact Ge.refl _ | assumption | with_reducible refine Ge.drew ?_ | with_reducible refine Ge.drewN ?_ _ | with_reducible refine Ge.alloc ?_ _ | (with_reducible refine Ge.setCell ?_ (by first | (simp; done) | omega | (simp; omega)) _) | with_reducible refine Ge.trans ?_ (by assumption)))) gw1); have c0_0 : World.cell? w1 ⟨w.heap.size, 0, none⟩ = some (.int .i64 n1) := Ge.keep gw1 (by repeat (first | assumption | exact (own_new (by simp) rfl).1 | with_reducible refine cell_drew ?_ | with_reducible refine cell_drewN ?_ | with_reducible refine cell_alloc ?_ | (simp [*]; done))); have c0_1 : World.cell? w1 ⟨w.heap.size, 1, none⟩ = some (.int .i64 d1) := Ge.keep gw1 (by repeat (first | assumption | exact (own_new (by simp) rfl).1 | with_reducible refine cell_drew ?_ | with_reducible refine cell_drewN ?_ | with_reducible refine cell_alloc ?_ | (simp [*]; done))); have c1_0 : World.cell? w1 ⟨w.heap.size + 1, 0, none⟩ = some (.int .i64 n2) := Ge.keep gw1 (by repeat (first | assumption | exact (own_new (by simp) rfl).1 | with_reducible refine cell_drew ?_ | with_reducible refine cell_drewN ?_ | with_reducible refine cell_alloc ?_ | (simp [*]; done))); have c1_1 : World.cell? w1 ⟨w.heap.size + 1, 1, none⟩ = some (.int .i64 d2) := Ge.keep gw1 (by repeat (first | assumption | exact (own_new (by simp) rfl).1 | with_reducible refine cell_drew ?_ | with_reducible refine cell_drewN ?_ | with_reducible refine cell_alloc ?_ | (simp [*]; done))); have o2_0 : Own w1 ⟨w.heap.size + 2, 0, none⟩ _ := Ge.own gw1 ((by repeat (first | exact ⟨by assumption, by assumption⟩ | exact own_new (by simp) rfl | with_reducible refine own_drew ?_ | with_reducible refine own_old ?_ | (constructor <;> (simp [*]; done))))); have c2_0 := cv_some o2_0.1; have f2_0 := o2_0.2; clear o2_0; have o2_1 : Own w1 ⟨w.heap.size + 2, 1, none⟩ _ := Ge.own gw1 ((by repeat (first | exact ⟨by assumption, by assumption⟩ | exact own_new (by simp) rfl | with_reducible refine own_drew ?_ | with_reducible refine own_old ?_ | (constructor <;> (simp [*]; done))))); have c2_1 := cv_some o2_1.1; have f2_1 := o2_1.2; clear o2_1; have zw1 : w.heap.size + 3 ≤ w1.heap.size := (by have := Ge.size gw1; (try simp at this); omega))
    exact bodyPost_ret (v := .agg #[.int .i64 0, .int .i64 0]) (by simp [results, Try.results8, go_sem, *]) rfl ⟨by rw [HF.out], by (repeat (first | with_reducible exact Ge.refl _ | assumption | with_reducible refine Ge.drew ?_ | with_reducible refine Ge.drewN ?_ _ | with_reducible refine Ge.alloc ?_ _ | (with_reducible refine Ge.setCell ?_ (by first | (simp; done) | omega | (simp; omega)) _) | with_reducible refine Ge.trans ?_ (by assumption)))⟩
  | true =>
    obtain ⟨o1, o2, o3, o4, o5, o6⟩ := calcB_iff.1 c
    have HF : Hid (ratioSum ⟨n1, d1⟩ ⟨n2, d2⟩ = ratioOf (n1 * d2 + n2 * d1) (d1 * d2)) := by simp [ratioSum, c]; exact trivial
    obtain ⟨p1, p2⟩ := prod_small o3
    obtain ⟨p3, p4⟩ := prod_small o4
    obtain ⟨p5, p6⟩ := prod_small o5
    simp only at p1 p2 p3 p4 p5 p6
    clear o1 o2 o3 o4 o5 o6
    go_enter Try.func8, Try.ntmps8
    go_wp2_with (first | (go_at_call 22; ((with_reducible refine (iCalculable _ _ _ _ _).mono ?_); rintro e w1 ⟨rfl, gw1⟩); have Gw1 : Ge w w1 := (Ge.trans (by (repeat (first | with_reducible exact Ge.refl _ | assumption | with_reducible refine Ge.drew ?_ | with_reducible refine Ge.drewN ?_ _ | with_reducible refine Ge.alloc ?_ _ | (with_reducible refine Ge.setCell ?_ (by first | (simp; done) | omega | (simp; omega)) _) | with_reducible refine Ge.trans ?_ (by assumption)))) gw1); have c0_0 : World.cell? w1 ⟨w.heap.size, 0, none⟩ = some (.int .i64 n1) := Ge.keep gw1 (by repeat (first | assumption | exact (own_new (by simp) rfl).1 | with_reducible refine cell_drew ?_ | with_reducible refine cell_drewN ?_ | with_reducible refine cell_alloc ?_ | (simp [*]; done))); have c0_1 : World.cell? w1 ⟨w.heap.size, 1, none⟩ = some (.int .i64 d1) := Ge.keep gw1 (by repeat (first | assumption | exact (own_new (by simp) rfl).1 | with_reducible refine cell_drew ?_ | with_reducible refine cell_drewN ?_ | with_reducible refine cell_alloc ?_ | (simp [*]; done))); have c1_0 : World.cell? w1 ⟨w.heap.size + 1, 0, none⟩ = some (.int .i64 n2) := Ge.keep gw1 (by repeat (first | assumption | exact (own_new (by simp) rfl).1 | with_reducible refine cell_drew ?_ | with_reducible refine cell_drewN ?_ | with_reducible refine cell_alloc ?_ | (simp [*]; done))); have c1_1 : World.cell? w1 ⟨w.heap.size + 1, 1, none⟩ = some (.int .i64 d2) := Ge.keep gw1 (by repeat (first | assumption | exact (own_new (by simp) rfl).1 | with_reducible refine cell_drew ?_ | with_reducible refine cell_drewN ?_ | with_reducible refine cell_alloc ?_ | (simp [*]; done))); have o2_0 : Own w1 ⟨w.heap.size + 2, 0, none⟩ _ := Ge.own gw1 ((by repeat (first | exact ⟨by assumption, by assumption⟩ | exact own_new (by simp) rfl | with_reducible refine own_drew ?_ | with_reducible refine own_old ?_ | (constructor <;> (simp [*]; done))))); have c2_0 := cv_some o2_0.1; have f2_0 := o2_0.2; clear o2_0; have o2_1 : Own w1 ⟨w.heap.size + 2, 1, none⟩ _ := Ge.own gw1 ((by repeat (first | exact ⟨by assumption, by assumption⟩ | exact own_new (by simp) rfl | with_reducible refine own_drew ?_ | with_reducible refine own_old ?_ | (constructor <;> (simp [*]; done))))); have c2_1 := cv_some o2_1.1; have f2_1 := o2_1.2; clear o2_1; have zw1 : w.heap.size + 3 ≤ w1.heap.size := (by have := Ge.size gw1; (try simp at this); omega)) | (go_at_call 19; ((with_reducible refine (iRatioOf _ _ _ (mid (by omega) (by omega)) (mid (by omega) (by omega))).mono ?_); rintro e w2 ⟨rfl, gw2⟩); have Gw2 : Ge w w2 := (Ge.trans (by (repeat (first | with_reducible exact Ge.refl _ | assumption | with_reducible refine Ge.drew ?_ | with_reducible refine Ge.drewN ?_ _ | with_reducible refine Ge.alloc ?_ _ | (with_reducible refine Ge.setCell ?_ (by first | (simp; done) | omega | (simp; omega)) _) | with_reducible refine Ge.trans ?_ (by assumption)))) gw2); have c0_0 : World.cell? w2 ⟨w.heap.size, 0, none⟩ = some (.int .i64 n1) := Ge.keep gw2 (by repeat (first | assumption | exact (own_new (by simp) rfl).1 | with_reducible refine cell_drew ?_ | with_reducible refine cell_drewN ?_ | with_reducible refine cell_alloc ?_ | (simp [*]; done))); have c0_1 : World.cell? w2 ⟨w.heap.size, 1, none⟩ = some (.int .i64 d1) := Ge.keep gw2 (by repeat (first | assumption | exact (own_new (by simp) rfl).1 | with_reducible refine cell_drew ?_ | with_reducible refine cell_drewN ?_ | with_reducible refine cell_alloc ?_ | (simp [*]; done))); have c1_0 : World.cell? w2 ⟨w.heap.size + 1, 0, none⟩ = some (.int .i64 n2) := Ge.keep gw2 (by repeat (first | assumption | exact (own_new (by simp) rfl).1 | with_reducible refine cell_drew ?_ | with_reducible refine cell_drewN ?_ | with_reducible refine cell_alloc ?_ | (simp [*]; done))); have c1_1 : World.cell? w2 ⟨w.heap.size + 1, 1, none⟩ = some (.int .i64 d2) := Ge.keep gw2 (by repeat (first | assumption | exact (own_new (by simp) rfl).1 | with_reducible refine cell_drew ?_ | with_reducible refine cell_drewN ?_ | with_reducible refine cell_alloc ?_ | (simp [*]; done))); have o2_0 : Own w2 ⟨w.heap.size + 2, 0, none⟩ _ := Ge.own gw2 ((by repeat (first | exact ⟨by assumption, by assumption⟩ | exact own_new (by simp) rfl | with_reducible refine own_drew ?_ | with_reducible refine own_old ?_ | (constructor <;> (simp [*]; done))))); have c2_0 := cv_some o2_0.1; have f2_0 := o2_0.2; clear o2_0; have o2_1 : Own w2 ⟨w.heap.size + 2, 1, none⟩ _ := Ge.own gw2 ((by repeat (first | exact ⟨by assumption, by assumption⟩ | exact own_new (by simp) rfl | with_reducible refine own_drew ?_ | with_reducible refine own_old ?_ | (constructor <;> (simp [*]; done))))); have c2_1 := cv_some o2_1.1; have f2_1 := o2_1.2; clear o2_1; have zw2 : w.heap.size + 3 ≤ w2.heap.size := (by have := Ge.size gw2; (try simp at this); omega)))
    exact bodyPost_ret (v := .agg #[.int .i64 (ratioOf (n1 * d2 + n2 * d1) (d1 * d2)).n, .int .i64 (ratioOf (n1 * d2 + n2 * d1) (d1 * d2)).d]) (by simp [results, Try.results8, go_sem, *]) rfl ⟨by rw [HF.out], by (repeat (first | with_reducible exact Ge.refl _ | assumption | with_reducible refine Ge.drew ?_ | with_reducible refine Ge.drewN ?_ _ | with_reducible refine Ge.alloc ?_ _ | (with_reducible refine Ge.setCell ?_ (by first | (simp; done) | omega | (simp; omega)) _) | with_reducible refine Ge.trans ?_ (by assumption)))⟩

end Go.Proofs.Ytahicfpnmjofhab
