/- Tilings: TilingOk, HeightOf, WidthOf of spec and of impl. No condition. -/
import Derived.Test.YtckjkfcphcnpdaaGreatWTile4
import Derived.Test.YtckjkfcphcnpdaaGreatWTile2
namespace Go.Proofs.YtckjkfcphcnpdaaGreat
set_option maxRecDepth 100000
open Go.ChangeShapes Go.WideShapes Go.ChangeAt Go.RowKit Go.Joins

set_option maxHeartbeats 3200000 in
theorem sTilingOk (v : Value) (n : Nat) (xs : List Int) (w : World) (hv : SlF w v n 3 xs) (hm : n ≤ 9223372036854775807) (hb : ∀ j, -9223372036854775808 ≤ nth xs j ∧ nth xs j ≤ 9223372036854775807) (hcap : ∀ p c, v = .slice p n c → n ≤ c) :
    Calls Tryz.prog 43 #[v] w fun e w' => e = .returned (.bool (tileB n xs)) ∧ Ge w w' := by
  obtain ⟨p, cap, rfl, hc⟩ := hv.open
  have HV := Lib.hid hv
  have HC := Lib.hid hc
  have HBd := Lib.hid hb
  have HCap := Lib.hid hcap
  clear hv hc hb hcap
  by_cases h1 : ¬ (1 ≤ n ∧ n ≤ 12)
  · have HF : Hid (tileB n xs = false) := tileB_false (fun h => h1 ⟨h.1, h.2.1⟩)
    have i1 : inB (n : Int) 1 12 = false := inB_false (by omega)
    clear h1
    go_enter Tryz.func43, Tryz.ntmps43
    go_wp2_with (go_at_call 47; ((with_reducible refine (sL01In _ _ _ _).mono ?_); rintro e w' ⟨rfl, rfl⟩))
    go_ret
    exact ⟨ret_bool HF.out.symm, by (repeat (first | with_reducible exact Ge.refl _ | assumption | with_reducible refine Ge.drew ?_ | with_reducible refine Ge.drewN ?_ _ | with_reducible refine Ge.alloc ?_ _ | (with_reducible refine Ge.setCell ?_ (by first | (simp; done) | omega | (simp; omega)) _) | with_reducible refine Ge.trans ?_ (by assumption)))⟩
  replace h1 := Classical.not_not.1 h1
  obtain ⟨h1, h2⟩ := h1
  have i1 : inB (n : Int) 1 12 = true := inB_true (by omega) (by omega)
  by_cases hsq : ¬ squaresP n xs
  · have HF : Hid (tileB n xs = false) := tileB_false (fun h => hsq h.2.2.1)
    have i2 : squaresB n xs = false := squaresB_false hsq
    clear hsq
    go_enter Tryz.func43, Tryz.ntmps43
    go_wp2_with (first | (go_at_call 47; ((with_reducible refine (sL01In _ _ _ _).mono ?_); rintro e w' ⟨rfl, rfl⟩)) | (go_at_call 61; ((with_reducible refine (sL13Squares _ _ _ _ HV.out h2 HBd.out HCap.out).mono ?_); rintro e w' ⟨rfl, hb⟩)))
    go_ret
    exact ⟨ret_bool HF.out.symm, by (repeat (first | with_reducible exact Ge.refl _ | assumption | with_reducible refine Ge.drew ?_ | with_reducible refine Ge.drewN ?_ _ | with_reducible refine Ge.alloc ?_ _ | (with_reducible refine Ge.setCell ?_ (by first | (simp; done) | omega | (simp; omega)) _) | with_reducible refine Ge.trans ?_ (by assumption)))⟩
  replace hsq := Classical.not_not.1 hsq
  have i2 : squaresB n xs = true := squaresB_true hsq
  have HK := Lib.hid hsq
  have HOK : Hid (∀ i, i < n → okSq xs i) := fun i hi => (hsq i hi).1
  clear hsq
  obtain ⟨b, o, rfl, x0, x1, x2⟩ := three_cells HC.out h1
  change w.cell? _ = some (.int .i64 (sx xs 0)) at x0
  change w.cell? _ = some (.int .i64 (sy xs 0)) at x1
  obtain ⟨xa, xb, xc, xd, xe, xf⟩ := HOK.out 0 h1
  have lb := World.block_lt_of_cell? w _ x0
  simp at lb
  simp only [Nat.zero_mul, Nat.add_zero] at x0 x1 x2
  have e1 : minX1 xs n = minX xs n := by
    obtain ⟨m, rfl⟩ : ∃ m, n = m + 1 := ⟨n - 1, by omega⟩
    exact minX1_eq m HOK.out
  have e2 : minY xs n = sy xs 0 := by
    obtain ⟨m, rfl⟩ : ∃ m, n = m + 1 := ⟨n - 1, by omega⟩
    exact (minY_first m HK.out).1
  have E1 := Lib.hid e1
  have E2 := Lib.hid e2
  clear e1 e2
  go_enter Tryz.func43, Tryz.ntmps43
  go_wp2_with (first | (go_at_call 47; ((with_reducible refine (sL01In _ _ _ _).mono ?_); rintro e w' ⟨rfl, rfl⟩)) | (go_at_call 61; ((with_reducible refine (sL13Squares _ _ _ _ HV.out h2 HBd.out HCap.out).mono ?_); rintro e w' ⟨rfl, hb⟩; have x0 := Ge.keep hb x0)))
  go_loopw [3, 4, 22] (fun a b i wr => ∃ k : Nat, k ≤ n ∧ i = .int .i64 k ∧ a = .int .i64 (areaSq xs k) ∧ b = .int .i64 (minX1 xs k) ∧ Ge w wr) (fun _ _ i _ => n - (intOf i).toNat)
  case atStart => exact ⟨0, Nat.zero_le _, rfl, rfl, rfl, by (repeat (first | with_reducible exact Ge.refl _ | assumption | with_reducible refine Ge.drew ?_ | with_reducible refine Ge.drewN ?_ _ | with_reducible refine Ge.alloc ?_ _ | (with_reducible refine Ge.setCell ?_ (by first | (simp; done) | omega | (simp; omega)) _) | with_reducible refine Ge.trans ?_ (by assumption)))⟩
  case round =>
    obtain ⟨k, hk, rfl, rfl, rfl, hg⟩ := hrel
    obtain ⟨m4, m5⟩ := area_bd k (fun i hi => HOK.out i (by omega))
    have m0 : 0 ≤ minX1 xs k ∧ minX1 xs k ≤ 200 := by
      cases k with
      | zero => exact ⟨xa, xb⟩
      | succ k => rw [minX1_eq k (fun i hi => HOK.out i (by omega))]; exact minX_bd _ (fun i hi => HOK.out i (by omega))
    obtain ⟨m0, m1⟩ := m0
    by_cases hlt : k < n
    · obtain ⟨b', o', e', z0, z1, z2⟩ := three_cells HC.out hlt
      simp only [Option.some.injEq, Addr.mk.injEq, and_true] at e'
      obtain ⟨rfl, rfl⟩ := e'
      have y0 := hg.keep z0
      have y1 := hg.keep z1
      have y2 := hg.keep z2
      clear z0 z1 z2
      change wr.cell? _ = some (.int .i64 (sx xs k)) at y0
      change wr.cell? _ = some (.int .i64 (sy xs k)) at y1
      change wr.cell? _ = some (.int .i64 (ss xs k)) at y2
      obtain ⟨r0, r1, r2, r3, r4, r5⟩ := HOK.out k hlt
      have HX : Hid (minX1 xs (k + 1) = min (minX1 xs k) (sx xs k)) := rfl
      have HA : Hid (areaSq xs (k + 1) = areaSq xs k + ss xs k * ss xs k) := rfl
      have m6 : ss xs k * ss xs k ≤ 200 * 200 := Int.mul_le_mul (by omega) (by omega) (by omega) (by omega)
      have m7 : 0 ≤ ss xs k * ss xs k := Int.mul_nonneg (by omega) (by omega)
      generalize hq : ss xs k * ss xs k = q at *
      go_wp2_with fail
      go_roundw
      case rel => exact ⟨k + 1, by omega, by go_num, congrArg _ (by rw [HA.out]), congrArg _ (by rw [HX.out] <;> (split <;> omega)), by (repeat (first | with_reducible exact Ge.refl _ | assumption | with_reducible refine Ge.drew ?_ | with_reducible refine Ge.drewN ?_ _ | with_reducible refine Ge.alloc ?_ _ | (with_reducible refine Ge.setCell ?_ (by first | (simp; done) | omega | (simp; omega)) _) | with_reducible refine Ge.trans ?_ (by assumption)))⟩
      case measure => simp [intOf]; omega
    · have hkn : k = n := by omega
      subst hkn
      obtain ⟨r0, r1⟩ := right_bd k (fun i hi => HOK.out i hi)
      obtain ⟨l0, l1⟩ := low_bd k (fun i hi => HOK.out i hi)
      have m6 : rightSq xs k * lowSq xs k ≤ 400 * 400 := Int.mul_le_mul (by omega) (by omega) (by omega) (by omega)
      have m7 : 0 ≤ rightSq xs k * lowSq xs k := Int.mul_nonneg (by omega) (by omega)
      have x1' := hg.keep x1
      clear x1
      by_cases e1 : minX1 xs k = 0
      · have e1b : (minX1 xs k == 0) = true := by simp [e1]
        by_cases e2 : sy xs 0 = 0
        · have e2b : (sy xs 0 == 0) = true := by simp [e2]
          by_cases e3 : areaSq xs k = rightSq xs k * lowSq xs k
          · have e3b : (areaSq xs k == rightSq xs k * lowSq xs k) = true := by simp [e3]
            have HF : Hid (tileB k xs = true) := tileB_true ⟨by omega, by omega, HK.out, E1.out ▸ e1, E2.out ▸ e2, e3⟩
            go_wp2_with (first | (go_at_call 44; ((with_reducible refine (sL13Right _ _ _ _ (HV.out.ge hg) h2 HOK.out).mono ?_); rintro e w' ⟨rfl, hr⟩)) | (go_at_call 45; ((with_reducible refine (sL13Low _ _ _ _ (HV.out.ge (hg.trans hr)) h2 HOK.out).mono ?_); rintro e w' ⟨rfl, hl⟩)))
            go_ret
            exact ⟨ret_bool HF.out.symm, by (repeat (first | with_reducible exact Ge.refl _ | assumption | with_reducible refine Ge.drew ?_ | with_reducible refine Ge.drewN ?_ _ | with_reducible refine Ge.alloc ?_ _ | (with_reducible refine Ge.setCell ?_ (by first | (simp; done) | omega | (simp; omega)) _) | with_reducible refine Ge.trans ?_ (by assumption)))⟩
          · have e3b : (areaSq xs k == rightSq xs k * lowSq xs k) = false := by simp [e3]
            have HF : Hid (tileB k xs = false) := tileB_false (fun h => e3 h.2.2.2.2.2)
            go_wp2_with (first | (go_at_call 44; ((with_reducible refine (sL13Right _ _ _ _ (HV.out.ge hg) h2 HOK.out).mono ?_); rintro e w' ⟨rfl, hr⟩)) | (go_at_call 45; ((with_reducible refine (sL13Low _ _ _ _ (HV.out.ge (hg.trans hr)) h2 HOK.out).mono ?_); rintro e w' ⟨rfl, hl⟩)))
            go_ret
            exact ⟨ret_bool HF.out.symm, by (repeat (first | with_reducible exact Ge.refl _ | assumption | with_reducible refine Ge.drew ?_ | with_reducible refine Ge.drewN ?_ _ | with_reducible refine Ge.alloc ?_ _ | (with_reducible refine Ge.setCell ?_ (by first | (simp; done) | omega | (simp; omega)) _) | with_reducible refine Ge.trans ?_ (by assumption)))⟩
        · have e2b : (sy xs 0 == 0) = false := by simp [e2]
          have HF : Hid (tileB k xs = false) := tileB_false (fun h => e2 (E2.out ▸ h.2.2.2.2.1))
          go_wp2_with fail
          go_ret
          exact ⟨ret_bool HF.out.symm, by (repeat (first | with_reducible exact Ge.refl _ | assumption | with_reducible refine Ge.drew ?_ | with_reducible refine Ge.drewN ?_ _ | with_reducible refine Ge.alloc ?_ _ | (with_reducible refine Ge.setCell ?_ (by first | (simp; done) | omega | (simp; omega)) _) | with_reducible refine Ge.trans ?_ (by assumption)))⟩
      · have e1b : (minX1 xs k == 0) = false := by simp [e1]
        have HF : Hid (tileB k xs = false) := tileB_false (fun h => e1 (E1.out.trans h.2.2.2.1))
        go_wp2_with fail
        go_ret
        exact ⟨ret_bool HF.out.symm, by (repeat (first | with_reducible exact Ge.refl _ | assumption | with_reducible refine Ge.drew ?_ | with_reducible refine Ge.drewN ?_ _ | with_reducible refine Ge.alloc ?_ _ | (with_reducible refine Ge.setCell ?_ (by first | (simp; done) | omega | (simp; omega)) _) | with_reducible refine Ge.trans ?_ (by assumption)))⟩

noncomputable def heightQ (n : Nat) (xs : List Int) : Int := if tileB n xs = true then lowSq xs n else 0
theorem heightQ_t {n : Nat} {xs : List Int} (h : tileB n xs = true) : heightQ n xs = lowSq xs n := by simp [heightQ, h]
theorem heightQ_f {n : Nat} {xs : List Int} (h : tileB n xs = false) : heightQ n xs = 0 := by simp [heightQ, h]

set_option maxHeartbeats 800000 in
theorem iHeightOf (v : Value) (n : Nat) (xs : List Int) (w : World) (hv : SlF w v n 3 xs) (hm : n ≤ 9223372036854775807) (hb : ∀ j, -9223372036854775808 ≤ nth xs j ∧ nth xs j ≤ 9223372036854775807) (hcap : ∀ p c, v = .slice p n c → n ≤ c) :
    Calls Tryz.prog 6 #[v] w fun e w' => e = .returned (.int .i64 (heightQ n xs)) ∧ Ge w w' := by
  obtain ⟨p, cap, rfl, hc⟩ := hv.open
  have HV := Lib.hid hv
  have HBd := Lib.hid hb
  have HCap := Lib.hid hcap
  have HT : Hid (tileB n xs = true → tileP n xs) := fun h => by
    unfold tileB at h
    split at h
    · assumption
    · cases h
  clear hv hc hb hcap
  by_cases hB : tileB n xs = true
  · obtain ⟨_, h12, hsq, _⟩ := HT.out hB
    have HOK : Hid (∀ i, i < n → okSq xs i) := fun i hi => (hsq i hi).1
    clear hsq
    have HF := Lib.hid (heightQ_t hB)
    go_enter Tryz.func6, Tryz.ntmps6
    go_wp2_with (first | (go_at_call 11; ((with_reducible refine (iTilingOk _ n xs _ HV.out hm HBd.out HCap.out).mono ?_); rintro e w' ⟨rfl, hb⟩)) | (go_at_call 18; ((with_reducible refine (iSides _ n xs _ (HV.out.ge hb) h12 HOK.out).mono ?_); rintro e w' ⟨rfl, hr⟩)))
    go_ret
    exact ⟨ret_int HF.out.symm, by (repeat (first | with_reducible exact Ge.refl _ | assumption | with_reducible refine Ge.drew ?_ | with_reducible refine Ge.drewN ?_ _ | with_reducible refine Ge.alloc ?_ _ | (with_reducible refine Ge.setCell ?_ (by first | (simp; done) | omega | (simp; omega)) _) | with_reducible refine Ge.trans ?_ (by assumption)))⟩
  · have hB : tileB n xs = false := by simpa using hB
    have HF := Lib.hid (heightQ_f hB)
    go_enter Tryz.func6, Tryz.ntmps6
    go_wp2_with ((go_at_call 11; ((with_reducible refine (iTilingOk _ n xs _ HV.out hm HBd.out HCap.out).mono ?_); rintro e w' ⟨rfl, hb⟩)))
    go_ret
    exact ⟨ret_int HF.out.symm, by (repeat (first | with_reducible exact Ge.refl _ | assumption | with_reducible refine Ge.drew ?_ | with_reducible refine Ge.drewN ?_ _ | with_reducible refine Ge.alloc ?_ _ | (with_reducible refine Ge.setCell ?_ (by first | (simp; done) | omega | (simp; omega)) _) | with_reducible refine Ge.trans ?_ (by assumption)))⟩

noncomputable def widthQ (n : Nat) (xs : List Int) : Int := if tileB n xs = true then rightSq xs n else 0
theorem widthQ_t {n : Nat} {xs : List Int} (h : tileB n xs = true) : widthQ n xs = rightSq xs n := by simp [widthQ, h]
theorem widthQ_f {n : Nat} {xs : List Int} (h : tileB n xs = false) : widthQ n xs = 0 := by simp [widthQ, h]

set_option maxHeartbeats 800000 in
theorem iWidthOf (v : Value) (n : Nat) (xs : List Int) (w : World) (hv : SlF w v n 3 xs) (hm : n ≤ 9223372036854775807) (hb : ∀ j, -9223372036854775808 ≤ nth xs j ∧ nth xs j ≤ 9223372036854775807) (hcap : ∀ p c, v = .slice p n c → n ≤ c) :
    Calls Tryz.prog 5 #[v] w fun e w' => e = .returned (.int .i64 (widthQ n xs)) ∧ Ge w w' := by
  obtain ⟨p, cap, rfl, hc⟩ := hv.open
  have HV := Lib.hid hv
  have HBd := Lib.hid hb
  have HCap := Lib.hid hcap
  have HT : Hid (tileB n xs = true → tileP n xs) := fun h => by
    unfold tileB at h
    split at h
    · assumption
    · cases h
  clear hv hc hb hcap
  by_cases hB : tileB n xs = true
  · obtain ⟨_, h12, hsq, _⟩ := HT.out hB
    have HOK : Hid (∀ i, i < n → okSq xs i) := fun i hi => (hsq i hi).1
    clear hsq
    have HF := Lib.hid (widthQ_t hB)
    go_enter Tryz.func5, Tryz.ntmps5
    go_wp2_with (first | (go_at_call 11; ((with_reducible refine (iTilingOk _ n xs _ HV.out hm HBd.out HCap.out).mono ?_); rintro e w' ⟨rfl, hb⟩)) | (go_at_call 18; ((with_reducible refine (iSides _ n xs _ (HV.out.ge hb) h12 HOK.out).mono ?_); rintro e w' ⟨rfl, hr⟩)))
    go_ret
    exact ⟨ret_int HF.out.symm, by (repeat (first | with_reducible exact Ge.refl _ | assumption | with_reducible refine Ge.drew ?_ | with_reducible refine Ge.drewN ?_ _ | with_reducible refine Ge.alloc ?_ _ | (with_reducible refine Ge.setCell ?_ (by first | (simp; done) | omega | (simp; omega)) _) | with_reducible refine Ge.trans ?_ (by assumption)))⟩
  · have hB : tileB n xs = false := by simpa using hB
    have HF := Lib.hid (widthQ_f hB)
    go_enter Tryz.func5, Tryz.ntmps5
    go_wp2_with ((go_at_call 11; ((with_reducible refine (iTilingOk _ n xs _ HV.out hm HBd.out HCap.out).mono ?_); rintro e w' ⟨rfl, hb⟩)))
    go_ret
    exact ⟨ret_int HF.out.symm, by (repeat (first | with_reducible exact Ge.refl _ | assumption | with_reducible refine Ge.drew ?_ | with_reducible refine Ge.drewN ?_ _ | with_reducible refine Ge.alloc ?_ _ | (with_reducible refine Ge.setCell ?_ (by first | (simp; done) | omega | (simp; omega)) _) | with_reducible refine Ge.trans ?_ (by assumption)))⟩
end Go.Proofs.YtckjkfcphcnpdaaGreat
