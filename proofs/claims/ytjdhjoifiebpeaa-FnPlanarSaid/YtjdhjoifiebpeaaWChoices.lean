/- choices of impl, l09Lists of the reference. No condition. -/
import Derived.Test.YtjdhjoifiebpeaaWLists
namespace Go.Proofs.Ytjdhjoifiebpeaa
set_option maxRecDepth 100000
open Go.ChangeShapes Go.WideShapes Go.ChangeAt Go.RowKit Go.Joins

set_option maxHeartbeats 3200000 in
theorem iChoices (k m : Nat) (w : World) (hk : k ≤ 5) (hm : m ≤ 2) :
    Calls Try.prog 18 #[.int .i64 (k : Int), .int .i64 (m : Int)] w fun e w' => ∃ v n, e = .returned v ∧ (listsL k m).length = n ∧ n ≤ 25 ∧ OwnL w' 0 v (listsL k m) ∧ Ge w w' := by
  have HB25 : Hid (∀ t, t ≤ 2 → (listsL k t).length ≤ 25) := by
    show ∀ t, _
    intro t ht
    have := listsL_len k t
    have : k ^ t ≤ 5 ^ 2 := Nat.le_trans (Nat.pow_le_pow_left hk t) (Nat.pow_le_pow_right (by omega) (by omega))
    omega
  go_enter Try.func18, Try.ntmps18
  go_wp2_with fail
  go_loopw [5,13] (fun o i wr => ∃ (t n : Nat) (u : Value), t ≤ m ∧ i = .int .i64 t ∧ o = u ∧ (listsL k t).length = n ∧ OwnL wr 0 u (listsL k t) ∧ Ge w wr) (fun _ i _ => m - (intOf i).toNat)
  case atStart => exact ⟨0, 1, _, Nat.zero_le _, rfl, rfl, rfl, own_lit _, by (repeat (first | with_reducible exact Ge.refl _ | assumption | with_reducible refine Ge.drew ?_ | with_reducible refine Ge.drewN ?_ _ | with_reducible refine Ge.alloc ?_ _ | (with_reducible refine Ge.setCell ?_ (by first | (simp; done) | omega | (simp; omega)) _) | with_reducible refine Ge.trans ?_ (by assumption)))⟩
  case round =>
    obtain ⟨t, n, u, ht, rfl, rfl, hn, hss, hg⟩ := hrel
    by_cases hlt : t < m
    · have hn25 := HB25.out t (by omega)
      rw [hn] at hn25
      have HL := Lib.hid hn
      have HSucc : Hid (listsL k (t + 1) = nextL k (listsL k t) n) := by
        show _ = _
        rw [← hn]; rfl
      have HOk := Lib.hid (listsL_ok k t)
      obtain ⟨p, cap, rfl, hrows⟩ := hss.read hn
      have HRo := Lib.hid hrows
      have HN0 := Lib.hid (nextL_zero k (listsL k t))
      have HNs : Hid (∀ s, s < n → nextL k (listsL k t) (s + 1) = nextL k (listsL k t) s ++ extL (rowL (listsL k t) s) k) := by
        show ∀ s, _
        intro s hs
        rw [nextL_succ (by omega), rowL_eq (by omega)]
      have HNl : Hid (∀ s, s ≤ n → (nextL k (listsL k t) s).length ≤ s * k) := by
        show ∀ s, _
        intro s hs
        exact nextL_len k (listsL k t) s (by omega)
      clear hrows hn hss
      generalize listsL k t = L at *
      go_wp2_with fail
      obtain ⟨wa, hwa⟩ : ∃ wa, wa = wr := ⟨_, rfl⟩
      subst hwa
      go_loopw [6,18] (fun o i wr => ∃ (s : Nat) (u : Value), s ≤ n ∧ i = .int .i64 s ∧ o = u ∧ OwnL wr wa.heap.size u (nextL k L s) ∧ Ge wa wr) (fun _ i _ => n - (intOf i).toNat)
      case atStart => exact ⟨0, _, Nat.zero_le _, rfl, rfl, by rw [HN0.out]; exact OwnL.nil _, by (repeat (first | with_reducible exact Ge.refl _ | assumption | with_reducible refine Ge.drew ?_ | with_reducible refine Ge.drewN ?_ _ | with_reducible refine Ge.alloc ?_ _ | (with_reducible refine Ge.setCell ?_ (by first | (simp; done) | omega | (simp; omega)) _) | with_reducible refine Ge.trans ?_ (by assumption)))⟩
      case round =>
        obtain ⟨s, u, hs, rfl, rfl, hown, hgs⟩ := hrel
        by_cases hls : s < n
        · obtain ⟨b, o, q, cq, rfl, x0, hsl⟩ := HRo.out s hls
          have hrl := HNl.out s (by omega)
          have hrl2 : s * k ≤ 25 * 5 := Nat.mul_le_mul (by omega) hk
          have HNx := Lib.hid (HNs.out s hls)
          have hmem := HOk.out (rowL L s) (rowL_mem (by rw [HL.out]; exact hls))
          have hlx := hmem.1
          rw [hlx] at x0 hsl
          have y0 := hgs.keep x0
          have HX := Lib.hid hsl
          have HLx := Lib.hid hlx
          have HRl := Lib.hid hrl
          clear x0 hsl hmem hlx hrl
          generalize rowL L s = l at *
          generalize nextL k L s = NL at *
          have HO := Lib.hid hown
          clear hown
          go_wp2_with fail
          go_loopw [6,23] (fun o i wr => ∃ (j : Nat) (u : Value), j ≤ k ∧ i = .int .i64 j ∧ o = u ∧ OwnL wr wa.heap.size u (NL ++ extL l j) ∧ Ge wa wr) (fun _ i _ => k - (intOf i).toNat)
          case atStart => exact ⟨0, _, Nat.zero_le _, rfl, rfl, by simpa [extL] using HO.out, hgs⟩
          case round =>
            obtain ⟨j, u, hj, rfl, rfl, hown, hgj⟩ := hrel
            have HO2 := Lib.hid hown
            have zaj := hgj.size
            clear hown HO hgs y0
            by_cases hlj : j < k
            · have HC := Lib.hid (containsInt _ l (j : Int) wr (SlI.ge HX.out hgj) (by have := HLx.out; omega))
              by_cases c : decide ((j : Int) ∈ l) = true
              · rw [c] at HC
                have HE := Lib.hid (extL_in c)
                clear c
                go_wp2_with (go_at_call 25; ((with_reducible refine HC.out.mono ?_); rintro e w' ⟨rfl, rfl⟩))
                go_roundw
                case rel => exact ⟨j + 1, _, by omega, by go_num, rfl, by rw [HE.out]; exact HO2.out, hgj⟩
                case measure => simp [intOf]; omega
              · have c' : decide ((j : Int) ∈ l) = false := by simpa using c
                rw [c'] at HC
                have HE := Lib.hid (extL_out c')
                have HSx := Lib.hid (SlI.ge HX.out hgj)
                have HLn : Hid ((NL ++ extL l j).length < 1000) := by
                  show _ < _
                  have h1 := extL_len l j
                  have h2 := HRl.out
                  rw [List.length_append]; omega
                have HL1 : Hid ((l ++ [(j : Int)]).length = t + 1) := by
                  show _ = _
                  simp [HLx.out]
                clear c c'
                go_wp2_with (first
                  | (go_at_call 25; ((with_reducible refine HC.out.mono ?_); rintro e w' ⟨rfl, rfl⟩))
                  | (go_at_call 19; ((with_reducible refine (cloneA _ _ _ l _ HSx.out HLx.out (by omega)).mono ?_); rintro e wC ⟨gq, cc, rfl, oC, gC⟩))
                  | (at_builtin; refine ap_int rfl _ _ rfl wr.heap.size _ l rfl (by rw [HLx.out]; exact oC) _ rfl (by rw [HLx.out]; omega) gC.size ?_; intro v' w6 own6 hm6; rw [HL1.out] at own6; obtain ⟨g6, c6, rfl⟩ := Go.Joins.ownsRow_form own6 (by omega); have G6 := Lib.hid (gC.mine oC (Nat.le_refl _) hm6); have O6 := Lib.hid own6; clear own6 hm6 oC gC)
                  | (at_builtin; refine ap_list rfl _ _ rfl wa.heap.size _ (NL ++ extL l j) rfl (HO2.out.ge G6.out) (l ++ [(j : Int)]) _ _ _ HL1.out (owns_mono O6.out (Nat.zero_le _)) rfl (by have := HLn.out; omega) (Nat.le_trans zaj G6.out.size) ?_; intro v7 w7 own7 g7))
                go_roundw
                case rel => exact ⟨j + 1, _, by omega, by go_num, rfl, by rw [HE.out, ← List.append_assoc]; exact own7, g7 _ (hgj.trans G6.out) (Nat.le_refl _)⟩
                case measure => simp [intOf]; omega
            · have hjk : j = k := by omega
              subst hjk
              go_wp2_with fail
              go_roundw
              case rel => exact ⟨s + 1, _, by omega, by go_num, rfl, by rw [HNx.out]; exact HO2.out, hgj⟩
              case measure => simp [intOf]; omega
        · have hsn : s = n := by omega
          subst hsn
          have HO := Lib.hid hown
          clear hown
          go_wp2_with fail
          go_roundw
          case rel => exact ⟨t + 1, _, _, by omega, by go_num, rfl, rfl, by rw [HSucc.out]; exact HO.out.mono (Nat.zero_le _), by (repeat (first | with_reducible exact Ge.refl _ | assumption | with_reducible refine Ge.drew ?_ | with_reducible refine Ge.drewN ?_ _ | with_reducible refine Ge.alloc ?_ _ | (with_reducible refine Ge.setCell ?_ (by first | (simp; done) | omega | (simp; omega)) _) | with_reducible refine Ge.trans ?_ (by assumption)))⟩
          case measure => simp [intOf]; omega
    · have htm : t = m := by omega
      subst htm
      have HS := Lib.hid hss
      have HN := Lib.hid hn
      clear hss hn
      go_wp2_with fail
      go_ret
      exact ⟨_, n, rfl, HN.out, by rw [← HN.out]; exact HB25.out _ (by omega), HS.out, hg⟩

end Go.Proofs.Ytjdhjoifiebpeaa
