/- Comparing positive fractions: floor, compare of impl; l02Floor of the reference. No condition. -/
import Derived.Test.YtmcnfhpjjmbdmaaPlCmp
import Derived.Test.YtmcnfhpjjmbdmaaWLaw
import Derived.Deep.DeepCutAuto
namespace Go.Proofs.Ytmcnfhpjjmbdmaa
set_option maxRecDepth 100000
open Go.ChangeShapes Go.WideShapes Go.ChangeAt Go.RowKit Go.Joins

theorem tdivN (a b : Nat) : Int.tdiv (a : Int) (b : Int) = ((a / b : Nat) : Int) := (Int.ofNat_tdiv a b).symm
theorem tmodN (a b : Nat) : Int.tmod (a : Int) (b : Int) = ((a % b : Nat) : Int) := (Int.ofNat_tmod a b).symm
set_option maxHeartbeats 800000 in
theorem iFloor (a b : Nat) (w : World) (hb : 1 ≤ b) (hb2 : b ≤ 1000000000) (ha : a ≤ 1000000000) : Calls Try.prog 44 #[.int .i64 (a : Int), .int .i64 (b : Int)] w fun e w' => e = .returned (.int .i64 ((a / b : Nat) : Int)) ∧ w = w' := by
  have tq := tdivN a b
  have hle : ((a / b : Nat) : Int) * (b : Int) ≤ (a : Int) := by
    have := Nat.div_mul_le_self a b
    exact_mod_cast this
  have hnn : 0 ≤ ((a / b : Nat) : Int) * (b : Int) := Int.mul_nonneg (Int.natCast_nonneg _) (Int.natCast_nonneg _)
  have hq : a / b ≤ a := Nat.div_le_self a b
  generalize a / b = q at *
  have tm : IntKind.i64.wrap ((q : Int) * (b : Int)) = (q : Int) * (b : Int) := IntWalk.i64_in _ (by omega)
  have tw : IntKind.i64.wrap (q : Int) = (q : Int) := IntWalk.i64_in _ (by omega)
  have nz : ((b : Int) == 0) = false := by simp; omega
  have nz2 : ¬ (b : Int) = 0 := by omega
  have nz3 : ¬ b = 0 := by omega
  generalize hM : (q : Int) * (b : Int) = M at *
  have t1 : decide ((a : Int) < M) = false := decide_eq_false (by omega)
  go_enter Try.func44, Try.ntmps44
  go_wp2_with fail
  go_ret
  exact ⟨rfl, rfl⟩
set_option maxHeartbeats 800000 in
theorem sFloor (a b : Nat) (w : World) (hb : 1 ≤ b) (hb2 : b ≤ 1000000000) (ha : a ≤ 1000000000) : Calls Try.prog 47 #[.int .i64 (a : Int), .int .i64 (b : Int)] w fun e w' => e = .returned (.int .i64 ((a / b : Nat) : Int)) ∧ w = w' := by
  have tq := tdivN a b
  have tr := tmodN a b
  have hq : a / b ≤ a := Nat.div_le_self a b
  generalize a / b = q at *
  generalize a % b = r at *
  have tw : IntKind.i64.wrap (q : Int) = (q : Int) := IntWalk.i64_in _ (by omega)
  have nz : ((b : Int) == 0) = false := by simp; omega
  have nz2 : ¬ (b : Int) = 0 := by omega
  have nz3 : ¬ b = 0 := by omega
  have t1 : decide ((r : Int) < 0) = false := decide_eq_false (by omega)
  have t2 : (0 : Int) ≤ (r : Int) := by omega
  go_enter Try.func47, Try.ntmps47
  go_wp2_with fail
  go_ret
  exact ⟨rfl, rfl⟩

set_option maxHeartbeats 1600000 in
theorem iCompare : ∀ (k : Nat) (a b c d : Nat) (w : World), b + d ≤ k → 1 ≤ b → 1 ≤ d → a ≤ 1000000000 → b ≤ 1000000000 → c ≤ 1000000000 → d ≤ 1000000000 →
    Calls Try.prog 32 #[.int .i64 (a : Int), .int .i64 (b : Int), .int .i64 (c : Int), .int .i64 (d : Int)] w fun e w' => e = .returned (.int .i64 (cmpQ a b c d)) ∧ w = w' := by
  intro k
  induction k with
  | zero => intro a b c d w hk hb hd; omega
  | succ k ih =>
    intro a b c d w hk hb hd ha hb2 hc hd2
    have HF1 := Lib.hid (fun w' => iFloor a b w' hb hb2 ha)
    have HF2 := Lib.hid (fun w' => iFloor c d w' hd hd2 hc)
    have hm1 : a % b < b := Nat.mod_lt _ (by omega)
    have hm2 : c % d < d := Nat.mod_lt _ (by omega)
    have e1 : (a : Int) - ((a / b : Nat) : Int) * (b : Int) = ((a % b : Nat) : Int) := by
      have := Nat.div_add_mod a b
      have h2 : (b : Int) * ((a / b : Nat) : Int) + ((a % b : Nat) : Int) = (a : Int) := by exact_mod_cast this
      rw [Int.mul_comm] at h2
      omega
    have e2 : (c : Int) - ((c / d : Nat) : Int) * (d : Int) = ((c % d : Nat) : Int) := by
      have := Nat.div_add_mod c d
      have h2 : (d : Int) * ((c / d : Nat) : Int) + ((c % d : Nat) : Int) = (c : Int) := by exact_mod_cast this
      rw [Int.mul_comm] at h2
      omega
    have HL := Lib.hid (fun h => cmpQ_less (a := a) (c := c) hb hd h)
    have HM := Lib.hid (fun h => cmpQ_more (a := a) (c := c) hb hd h)
    have HS := Lib.hid (fun h => cmpQ_same (a := a) (c := c) hb hd h)
    have H00 := Lib.hid (fun h h1 h2 => cmpQ_00 (a := a) (c := c) hb hd h h1 h2)
    have H0 := Lib.hid (fun h h1 h2 => cmpQ_0 (a := a) (c := c) hb hd h h1 h2)
    have H1 := Lib.hid (fun h h1 h2 => cmpQ_1 (a := a) (c := c) hb hd h h1 h2)
    have HI := Lib.hid (fun w' (h1 : 1 ≤ a % b) (h2 : 1 ≤ c % d) => ih d (c % d) b (a % b) w' (by omega) h2 h1 (by omega) (by omega) (by omega) (by omega))
    have hq1 : a / b ≤ a := Nat.div_le_self a b
    have hq2 : c / d ≤ c := Nat.div_le_self c d
    generalize cmpQ a b c d = CQ at *
    generalize a / b = x at *
    generalize c / d = y at *
    generalize a % b = p at *
    generalize c % d = q at *
    generalize hX : (x : Int) * (b : Int) = X at *
    generalize hY : (y : Int) * (d : Int) = Y at *
    have wX : IntKind.i64.wrap X = X := IntWalk.i64_in _ (by omega)
    have wY : IntKind.i64.wrap Y = Y := IntWalk.i64_in _ (by omega)
    have wX2 : IntKind.i64.wrap ((x : Int) * (b : Int)) = X := by rw [hX]; exact wX
    have wY2 : IntKind.i64.wrap ((y : Int) * (d : Int)) = Y := by rw [hY]; exact wY
    have wp : IntKind.i64.wrap ((a : Int) - X) = (p : Int) := by rw [e1]; exact IntWalk.i64_in _ (by omega)
    have wq : IntKind.i64.wrap ((c : Int) - Y) = (q : Int) := by rw [e2]; exact IntWalk.i64_in _ (by omega)
    clear ih hX hY
    by_cases c1 : x < y
    · have HF := Lib.hid (HL.out c1)
      have i1 : (x : Int) < (y : Int) := by omega
      clear HL HM HS H00 H0 H1 HI
      go_enter Try.func32, Try.ntmps32
      go_wp2_with (first | ((go_at_call 44; ((with_reducible refine (HF1.out _).mono ?_); rintro e w0 ⟨rfl, rfl⟩))) | ((go_at_call 44; ((with_reducible refine (HF2.out _).mono ?_); rintro e w0 ⟨rfl, rfl⟩))))
      go_ret
      exact ⟨ret_int HF.out.symm, rfl⟩
    · by_cases c2 : y < x
      · have HF := Lib.hid (HM.out c2)
        have i1 : (y : Int) < (x : Int) := by omega
        clear HL HM HS H00 H0 H1 HI
        go_enter Try.func32, Try.ntmps32
        go_wp2_with (first | ((go_at_call 44; ((with_reducible refine (HF1.out _).mono ?_); rintro e w0 ⟨rfl, rfl⟩))) | ((go_at_call 44; ((with_reducible refine (HF2.out _).mono ?_); rintro e w0 ⟨rfl, rfl⟩))))
        go_ret
        exact ⟨ret_int HF.out.symm, rfl⟩
      · have hxy : x = y := by omega
        by_cases hp : p = 0
        · by_cases hq : q = 0
          · have HF := Lib.hid (H00.out hxy hp hq)
            have tp : ((p : Int) == 0) = true := by simp [hp]
            have tq : ((q : Int) == 0) = true := by simp [hq]
            clear HL HM HS H00 H0 H1 HI hp hq e1 e2
            subst hxy
            go_enter Try.func32, Try.ntmps32
            go_wp2_with (first | ((go_at_call 44; ((with_reducible refine (HF1.out _).mono ?_); rintro e w0 ⟨rfl, rfl⟩))) | ((go_at_call 44; ((with_reducible refine (HF2.out _).mono ?_); rintro e w0 ⟨rfl, rfl⟩))))
            go_ret
            exact ⟨ret_int HF.out.symm, rfl⟩
          · have HF := Lib.hid (H0.out hxy hp (by omega))
            have tp : ((p : Int) == 0) = true := by simp [hp]
            have tq : ((q : Int) == 0) = false := by simp; omega
            clear HL HM HS H00 H0 H1 HI hp hq e1 e2
            subst hxy
            go_enter Try.func32, Try.ntmps32
            go_wp2_with (first | ((go_at_call 44; ((with_reducible refine (HF1.out _).mono ?_); rintro e w0 ⟨rfl, rfl⟩))) | ((go_at_call 44; ((with_reducible refine (HF2.out _).mono ?_); rintro e w0 ⟨rfl, rfl⟩))))
            go_ret
            exact ⟨ret_int HF.out.symm, rfl⟩
        · by_cases hq : q = 0
          · have HF := Lib.hid (H1.out hxy (by omega) hq)
            have tp : ((p : Int) == 0) = false := by simp; omega
            have tq : ((q : Int) == 0) = true := by simp [hq]
            clear HL HM HS H00 H0 H1 HI hp hq e1 e2
            subst hxy
            go_enter Try.func32, Try.ntmps32
            go_wp2_with (first | ((go_at_call 44; ((with_reducible refine (HF1.out _).mono ?_); rintro e w0 ⟨rfl, rfl⟩))) | ((go_at_call 44; ((with_reducible refine (HF2.out _).mono ?_); rintro e w0 ⟨rfl, rfl⟩))))
            go_ret
            exact ⟨ret_int HF.out.symm, rfl⟩
          · have HF := Lib.hid (HS.out hxy)
            have HI2 := Lib.hid (fun w' => HI.out w' (by omega) (by omega))
            have tp : ((p : Int) == 0) = false := by simp; omega
            have tq : ((q : Int) == 0) = false := by simp; omega
            clear HL HM HS H00 H0 H1 HI hp hq e1 e2
            subst hxy
            go_enter Try.func32, Try.ntmps32
            go_wp2_with (first | ((go_at_call 44; ((with_reducible refine (HF1.out _).mono ?_); rintro e w0 ⟨rfl, rfl⟩))) | ((go_at_call 44; ((with_reducible refine (HF2.out _).mono ?_); rintro e w0 ⟨rfl, rfl⟩))) | ((go_at_call 32; ((with_reducible refine (HI2.out _).mono ?_); rintro e w0 ⟨rfl, rfl⟩))))
            go_ret
            exact ⟨ret_int HF.out.symm, rfl⟩
end Go.Proofs.Ytmcnfhpjjmbdmaa
