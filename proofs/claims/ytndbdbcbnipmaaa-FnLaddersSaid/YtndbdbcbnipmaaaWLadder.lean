/- RatioOfTerms of both sides. -/
import Derived.Test.YtndbdbcbnipmaaaWSum
import Derived.Test.YtndbdbcbnipmaaaWIn
import Derived.Test.YtndbdbcbnipmaaaPlLadder
namespace Go.Proofs.Ytndbdbcbnipmaaa
set_option maxRecDepth 100000
open Go.ChangeShapes Go.WideShapes Go.ChangeAt Go.RowKit Go.Joins

set_option maxHeartbeats 1600000 in
theorem iRatioOfTerms (v : Value) (l : List Int) (w : World) (hv : SlI w v l) (hm : l.length ≤ 9223372036854775807) :
    Calls Try.prog 48 #[v] w fun e w' => e = .returned (.tuple #[.agg #[.int .i64 (valOf l).n, .int .i64 (valOf l).d], .bool (valOk l)]) ∧ Ge w w' := by
  obtain ⟨n, hn⟩ : ∃ n, l.length = n := ⟨_, rfl⟩
  obtain ⟨pv, cv', rfl, hc⟩ := hv.openN hn
  rw [hn] at hm
  have HN : Hid (l.length = n) := hn
  clear hv
  have HZ : ¬ termsP l → Hid (valOf l = ⟨0, 0⟩ ∧ valOk l = false) := fun h => valOf_bad h
  have HC := Lib.hid hc
  clear hc
  by_cases h0 : n = 0
  · have HF := HZ (bad_len hn (.inl h0))
    clear HZ
    subst h0
    clear hn
    go_enter Try.func48, Try.ntmps48
    go_wp2_with fail
    exact bodyPost_ret (v := .tuple #[.agg #[.int .i64 0, .int .i64 0], .bool false]) (by simp [results, Try.results48, go_sem, *]) rfl ⟨by rw [HF.out.1, HF.out.2], by (repeat (first | with_reducible exact Ge.refl _ | assumption | with_reducible refine Ge.drew ?_ | with_reducible refine Ge.drewN ?_ _ | with_reducible refine Ge.alloc ?_ _ | (with_reducible refine Ge.setCell ?_ (by first | (simp; done) | omega | (simp; omega)) _) | with_reducible refine Ge.trans ?_ (by assumption)))⟩
  have e0 : ((n : Int) == 0) = false := by simp; omega
  by_cases h40 : 40 < n
  · have HF := HZ (bad_len hn (.inr h40))
    clear HZ hn
    go_enter Try.func48, Try.ntmps48
    go_wp2_with fail
    exact bodyPost_ret (v := .tuple #[.agg #[.int .i64 0, .int .i64 0], .bool false]) (by simp [results, Try.results48, go_sem, *]) rfl ⟨by rw [HF.out.1, HF.out.2], by (repeat (first | with_reducible exact Ge.refl _ | assumption | with_reducible refine Ge.drew ?_ | with_reducible refine Ge.drewN ?_ _ | with_reducible refine Ge.alloc ?_ _ | (with_reducible refine Ge.setCell ?_ (by first | (simp; done) | omega | (simp; omega)) _) | with_reducible refine Ge.trans ?_ (by assumption)))⟩
  have HB : Hid _ := Lib.hid (fun k (hk : k < n) => bad_at hn hk)
  have HG := Lib.hid (good_all hn (by omega) (by omega))
  have HS := Lib.hid (fun k (hk : k < n) => isum_nth l k (by omega))
  have HA : Hid (l.take n = l) := by rw [← hn]; exact List.take_length
  have HL : Hid (∀ k, k < n → lad (l.drop k) = (nth l k * (lad (l.drop (k + 1))).1 + (lad (l.drop (k + 1))).2, (lad (l.drop (k + 1))).1)) := fun k hk => lad_cons_drop l k (by omega)
  have HD : Hid (lad (l.drop n) = (1, 0)) := by rw [← hn, List.drop_length]; exact rfl
  have HM := Lib.hid (fun (h : termsP l) => valOf_good h)
  have HW := Lib.hid (fun (h : termsP l) => lad_bd h)
  clear hn
  go_enter Try.func48, Try.ntmps48
  go_wp2_with fail
  go_loop [4, 21] (fun s i => ∃ k : Nat, k ≤ n ∧ i = .int .i64 k ∧ s = .int .i64 (isum (l.take k)) ∧ 0 ≤ isum (l.take k) ∧ isum (l.take k) ≤ 40 * k ∧ Hid (∀ j, j < k → goodT (nth l j) j)) (fun _ i => n - (intOf i).toNat)
  case atStart => exact ⟨0, Nat.zero_le _, rfl, by simp [isum], by simp [isum], by simp [isum], fun j hj => by omega⟩
  case round =>
    obtain ⟨k, hk, rfl, rfl, s0, s1, HK⟩ := hrel
    by_cases hlt : k < n
    · obtain ⟨b, o, rfl, x0⟩ := HC.out k hlt
      have x1 := Ge.keep ((Ge.refl w).alloc (.cells #[.int .i64 0, .int .i64 0] 52)) x0
      clear x0
      have H3 : Hid _ := Lib.hid (HS.out k hlt)
      by_cases hneg : nth l k < 0
      · have HF := HZ (HB.out k hlt (.inl hneg))
        go_wp2_with fail
        exact bodyPost_ret (v := .tuple #[.agg #[.int .i64 0, .int .i64 0], .bool false]) (by simp [results, Try.results48, go_sem, *]) rfl ⟨by rw [HF.out.1, HF.out.2], by (repeat (first | with_reducible exact Ge.refl _ | assumption | with_reducible refine Ge.drew ?_ | with_reducible refine Ge.drewN ?_ _ | with_reducible refine Ge.alloc ?_ _ | (with_reducible refine Ge.setCell ?_ (by first | (simp; done) | omega | (simp; omega)) _) | with_reducible refine Ge.trans ?_ (by assumption)))⟩
      by_cases hbig : 40 < nth l k
      · have HF := HZ (HB.out k hlt (.inr (.inl hbig)))
        go_wp2_with fail
        exact bodyPost_ret (v := .tuple #[.agg #[.int .i64 0, .int .i64 0], .bool false]) (by simp [results, Try.results48, go_sem, *]) rfl ⟨by rw [HF.out.1, HF.out.2], by (repeat (first | with_reducible exact Ge.refl _ | assumption | with_reducible refine Ge.drew ?_ | with_reducible refine Ge.drewN ?_ _ | with_reducible refine Ge.alloc ?_ _ | (with_reducible refine Ge.setCell ?_ (by first | (simp; done) | omega | (simp; omega)) _) | with_reducible refine Ge.trans ?_ (by assumption)))⟩
      by_cases hz : nth l k = 0
      · have ez : (nth l k == 0) = true := by simp [hz]
        by_cases hp : 0 < k
        · have HF := HZ (HB.out k hlt (.inr (.inr ⟨hz, hp⟩)))
          clear hz
          go_wp2_with fail
          exact bodyPost_ret (v := .tuple #[.agg #[.int .i64 0, .int .i64 0], .bool false]) (by simp [results, Try.results48, go_sem, *]) rfl ⟨by rw [HF.out.1, HF.out.2], by (repeat (first | with_reducible exact Ge.refl _ | assumption | with_reducible refine Ge.drew ?_ | with_reducible refine Ge.drewN ?_ _ | with_reducible refine Ge.alloc ?_ _ | (with_reducible refine Ge.setCell ?_ (by first | (simp; done) | omega | (simp; omega)) _) | with_reducible refine Ge.trans ?_ (by assumption)))⟩
        · have HK' := good_step HK (by omega) (by omega) (fun h => hp h.2)
          clear hz
          go_wp2_with fail
          go_round
          case rel => exact ⟨k + 1, by omega, by go_num, by rw [H3.out], by rw [H3.out]; omega, by rw [H3.out]; omega, HK'⟩
          case measure => simp [intOf]; omega
      · have ez : (nth l k == 0) = false := by simp [hz]
        have HK' := good_step HK (by omega) (by omega) (fun h => hz h.1)
        clear hz
        go_wp2_with fail
        go_round
        case rel => exact ⟨k + 1, by omega, by go_num, by rw [H3.out], by rw [H3.out]; omega, by rw [H3.out]; omega, HK'⟩
        case measure => simp [intOf]; omega
    · have hkn : k = n := by omega
      subst hkn
      rw [HA.out]
      rw [HA.out] at s0 s1
      by_cases hz : isum l = 0
      · have ez : (isum l == 0) = true := by simp [hz]
        have HF := HZ (bad_sum (.inl (by omega)))
        clear hz
        go_wp2_with fail
        exact bodyPost_ret (v := .tuple #[.agg #[.int .i64 0, .int .i64 0], .bool false]) (by simp [results, Try.results48, go_sem, *]) rfl ⟨by rw [HF.out.1, HF.out.2], by (repeat (first | with_reducible exact Ge.refl _ | assumption | with_reducible refine Ge.drew ?_ | with_reducible refine Ge.drewN ?_ _ | with_reducible refine Ge.alloc ?_ _ | (with_reducible refine Ge.setCell ?_ (by first | (simp; done) | omega | (simp; omega)) _) | with_reducible refine Ge.trans ?_ (by assumption)))⟩
      have ez : (isum l == 0) = false := by simp [hz]
      by_cases hb : 40 < isum l
      · have HF := HZ (bad_sum (.inr hb))
        clear hz
        go_wp2_with fail
        exact bodyPost_ret (v := .tuple #[.agg #[.int .i64 0, .int .i64 0], .bool false]) (by simp [results, Try.results48, go_sem, *]) rfl ⟨by rw [HF.out.1, HF.out.2], by (repeat (first | with_reducible exact Ge.refl _ | assumption | with_reducible refine Ge.drew ?_ | with_reducible refine Ge.drewN ?_ _ | with_reducible refine Ge.alloc ?_ _ | (with_reducible refine Ge.setCell ?_ (by first | (simp; done) | omega | (simp; omega)) _) | with_reducible refine Ge.trans ?_ (by assumption)))⟩
      have hT := HG.out HK.out (by omega) (by omega)
      have HF := Lib.hid (HM.out hT)
      have HE := Lib.hid (HW.out hT)
      clear hz hT HZ HB HG HS HM HW
      go_wp2_with fail
      have w1 : IntKind.i64.wrap ((k : Int) - 1) = (k : Int) - 1 := IntWalk.i64_in _ (by omega)
      go_loop [7, 8, 9] (fun p q i => ∃ (m : Nat) (z : Int), m ≤ k ∧ z + 1 = m ∧ i = .int .i64 z ∧ p = .int .i64 (lad (l.drop m)).1 ∧ q = .int .i64 (lad (l.drop m)).2) (fun _ _ i => (intOf i + 1).toNat)
      case atStart => exact ⟨k, _, Nat.le_refl _, by omega, rfl, by rw [HD.out], by rw [HD.out]⟩
      case round =>
        obtain ⟨m, z, hm, hz, rfl, rfl, rfl⟩ := hrel
        by_cases hz0 : z < 0
        · have hm0 : m = 0 := by omega
          subst hm0
          obtain ⟨b1, b2, b3, b4⟩ := HE.out 0
          have HF' : Hid (valOf l = ratioOf (lad (l.drop 0)).1 (lad (l.drop 0)).2 ∧ valOk l = true) := by rw [List.drop_zero]; exact HF.out
          generalize (lad (l.drop 0)).1 = p at *
          generalize (lad (l.drop 0)).2 = q at *
          go_wp2_with (go_at_call 53; ((with_reducible refine (iRatioOf _ _ _ (mid (by omega) (by omega)) (mid (by omega) (by omega))).mono ?_); rintro e w2 ⟨rfl, gw2⟩); have Gw2 : Ge w w2 := (Ge.trans (by (repeat (first | with_reducible exact Ge.refl _ | assumption | with_reducible refine Ge.drew ?_ | with_reducible refine Ge.drewN ?_ _ | with_reducible refine Ge.alloc ?_ _ | (with_reducible refine Ge.setCell ?_ (by first | (simp; done) | omega | (simp; omega)) _) | with_reducible refine Ge.trans ?_ (by assumption)))) gw2); have o0_0 : Own w2 ⟨w.heap.size, 0, none⟩ _ := Ge.own gw2 ((by repeat (first | exact ⟨by assumption, by assumption⟩ | exact own_new (by simp) rfl | with_reducible refine own_drew ?_ | with_reducible refine own_old ?_ | (constructor <;> (simp [*]; done))))); have c0_0 := cv_some o0_0.1; have f0_0 := o0_0.2; clear o0_0; have o0_1 : Own w2 ⟨w.heap.size, 1, none⟩ _ := Ge.own gw2 ((by repeat (first | exact ⟨by assumption, by assumption⟩ | exact own_new (by simp) rfl | with_reducible refine own_drew ?_ | with_reducible refine own_old ?_ | (constructor <;> (simp [*]; done))))); have c0_1 := cv_some o0_1.1; have f0_1 := o0_1.2; clear o0_1; have zw2 : w.heap.size + 1 ≤ w2.heap.size := (by have := Ge.size gw2; (try simp at this); omega))
          exact bodyPost_ret (v := .tuple #[.agg #[.int .i64 (ratioOf p q).n, .int .i64 (ratioOf p q).d], .bool true]) (by simp [results, Try.results48, go_sem, *]) rfl ⟨by rw [HF'.out.1, HF'.out.2], by (repeat (first | with_reducible exact Ge.refl _ | assumption | with_reducible refine Ge.drew ?_ | with_reducible refine Ge.drewN ?_ _ | with_reducible refine Ge.alloc ?_ _ | (with_reducible refine Ge.setCell ?_ (by first | (simp; done) | omega | (simp; omega)) _) | with_reducible refine Ge.trans ?_ (by assumption)))⟩
        · obtain ⟨j, rfl⟩ : ∃ j : Nat, z = j := ⟨z.toNat, by omega⟩
          have hmj : m = j + 1 := by omega
          subst hmj
          obtain ⟨b, o, rfl, x0⟩ := HC.out j (by omega)
          have x1 := Ge.keep ((Ge.refl w).alloc (.cells #[.int .i64 0, .int .i64 0] 52)) x0
          clear x0
          obtain ⟨b1, b2, b3, b4⟩ := HE.out (j + 1)
          obtain ⟨c1, c2, c3, c4⟩ := HE.out j
          have H5 : Hid _ := Lib.hid (HL.out j (by omega))
          rw [H5.out] at c1 c2
          generalize hP : (lad (l.drop (j + 1))).1 = p at *
          generalize hQ : (lad (l.drop (j + 1))).2 = q at *
          simp only at c1 c2
          have d1 : 0 ≤ nth l j * p := Int.mul_nonneg (HK.out j (by omega)).1 b1
          go_wp2_with fail
          go_round
          case rel => exact ⟨j, _, by omega, by omega, rfl, by rw [H5.out], by rw [H5.out]⟩
          case measure => simp [intOf]

end Go.Proofs.Ytndbdbcbnipmaaa
