/- CutTiling of both sides. No condition. -/
import Derived.Test.YtjogeicoofdlgaaWIns
import Derived.Test.YtjogeicoofdlgaaWIn
namespace Go.Proofs.Ytjogeicoofdlgaa
set_option maxRecDepth 100000
open Go.ChangeShapes Go.WideShapes Go.ChangeAt Go.RowKit Go.Joins

theorem cut_last {a b k : Nat} (hs : ∀ j, j < k → ¬ stopC a b j) : ∀ j, j + 1 = k → nth (cutX a b k) (j * 3 + 1) < ((stC a b k).y : Int) ∨ nth (cutX a b k) (j * 3 + 1) = ((stC a b k).y : Int) ∧ nth (cutX a b k) (j * 3) < ((stC a b k).x : Int) := fun j hj => by
  subst hj
  obtain ⟨a1, a2⟩ := cutX_nth (w := a) (h := b) (k := j + 1) (j := j) (by omega)
  rw [a1, a2]
  have := stC_next (hs j (by omega))
  omega
set_option maxHeartbeats 1600000 in
theorem sCutT (a b : Nat) (w : World) (ha : 1 ≤ a ∧ a ≤ 200) (hb : 1 ≤ b ∧ b ≤ 200) :
    Calls Try.prog 7 #[.int .i64 (a : Int), .int .i64 (b : Int)] w fun e w' => GivesC w (cutO a b) a b e w' ∧ Ge w w' := by
  rw [cutO_t ha hb]
  have HB := Lib.hid (stC_bd ha.2 hb.2)
  have HX := Lib.hid (cutX_succ a b)
  have HS := Lib.hid (stC_succ a b)
  have HR := Lib.hid (fun k (hk : k ≤ 12) hs h1 => cutR_some (w := a) (h := b) (k := k) hk hs h1)
  have HLa := Lib.hid (fun k (h : ∀ j, j < k → ¬ stopC a b j) => cut_last h)
  have ta : inB (a : Int) 1 200 = true := by simp [inB]; omega
  have tb : inB (b : Int) 1 200 = true := by simp [inB]; omega
  have HN : Hid ((∀ j, j < 13 → ¬ stopC a b j) → cutR a b = none) := cutR_none
  have HSt : Hid (∀ k, stopC a b k ↔ (stC a b k).w = 0 ∨ (stC a b k).h = 0) := fun _ => Iff.rfl
  have H0 : Hid ((stC a b 0).w = a ∧ (stC a b 0).h = b ∧ (stC a b 0).x = 0 ∧ (stC a b 0).y = 0 ∧ cutX a b 0 = []) := ⟨rfl, rfl, rfl, rfl, rfl⟩
  generalize cutR a b = CR at *
  go_enter Try.func7, Try.ntmps7
  go_wp2_with ((go_at_call 29; ((with_reducible refine (sL01In _ _ _ _).mono ?_); rintro e w0 ⟨rfl, rfl⟩)))
  go_loopw [0, 1, 6, 7, 8] (fun p q o x y wr => ∃ (k g c : Nat), k ≤ 12 ∧ p = .int .i64 ((stC a b k).w : Int) ∧ q = .int .i64 ((stC a b k).h : Int) ∧ o = .slice (some ⟨g, 0, none⟩) k c ∧ x = .int .i64 ((stC a b k).x : Int) ∧ y = .int .i64 ((stC a b k).y : Int) ∧
    wr.ownsRow w.heap.size 52 3 (.slice (some ⟨g, 0, none⟩) k c) k (icells (cutX a b k)) ∧ Hid (∀ j, j < k → ¬ stopC a b j) ∧ Ge w wr) (fun p q _ _ _ _ => (intOf p).toNat + (intOf q).toNat)
  case atStart => exact ⟨0, _, _, Nat.zero_le _, by rw [H0.out.1], by rw [H0.out.2.1], rfl, by rw [H0.out.2.2.1]; rfl, by rw [H0.out.2.2.2.1]; rfl, by rw [H0.out.2.2.2.2]; exact owns_lit0 _ _ _, fun j hj => by omega, by (repeat (first | with_reducible exact Ge.refl _ | assumption | with_reducible refine Ge.drew ?_ | with_reducible refine Ge.drewN ?_ _ | with_reducible refine Ge.alloc ?_ _ | (with_reducible refine Ge.setCell ?_ (by first | (simp; done) | omega | (simp; omega)) _) | with_reducible refine Ge.trans ?_ (by assumption)))⟩
  case round =>
    obtain ⟨k, gq, cq, hk, rfl, rfl, rfl, rfl, rfl, hown, HA, hg⟩ := hrel
    obtain ⟨b1, b2⟩ := HB.out k
    have HXk := Lib.hid (HX.out k)
    have HSk := Lib.hid (HS.out k)
    have HStk := Lib.hid (HSt.out k)
    have HRk := Lib.hid (fun h => HR.out k hk HA.out h)
    have HAn : Hid (¬ stopC a b k → ∀ j, j < k + 1 → ¬ stopC a b j) := fun g j hj => by
      by_cases e : j = k
      · subst e; exact g
      · exact HA.out j (by omega)
    have hlast := HLa.out k HA.out
    have HOw := Lib.hid hown
    have zg := hg.size
    clear hown
    generalize hst : stC a b k = st at *
    obtain ⟨W, H, X, Y⟩ := st
    simp only at b1 b2 HXk HSk HStk hlast ⊢
    have HLs := Lib.hid hlast
    clear hlast
    by_cases hs : W = 0 ∨ H = 0
    · have HF := Lib.hid (HRk.out (HStk.out.2 hs))
      clear HRk HAn HXk HSk HStk HLs
      by_cases hw : W = 0
      · subst hw
        clear hs b1 b2
        go_wp2_with fail
        exact bodyPost_ret (v := .tuple #[.slice (some ⟨gq, 0, none⟩) k cq, .bool true]) (by simp [results, Try.results7, go_sem]) rfl ⟨by rw [HF.out]; exact ⟨_, rfl, HOw.out⟩, hg⟩
      · have hh : H = 0 := by omega
        subst hh
        have hw2 : (0 : Int) < (W : Int) := by omega
        clear hs b1 b2
        go_wp2_with fail
        exact bodyPost_ret (v := .tuple #[.slice (some ⟨gq, 0, none⟩) k cq, .bool true]) (by simp [results, Try.results7, go_sem]) rfl ⟨by rw [HF.out]; exact ⟨_, rfl, HOw.out⟩, hg⟩
    · have HA2 := Lib.hid (HAn.out (fun h => hs (HStk.out.1 h)))
      have hw : (0 : Int) < (W : Int) := by omega
      have hh : (0 : Int) < (H : Int) := by omega
      clear HRk HAn HStk
      by_cases hk12 : k = 12
      · have HF := Lib.hid (HN.out (fun j hj => HA2.out j (by omega)))
        have tk : ((k : Int) == 12) = true := by simp; omega
        clear HXk HSk HA2 HA HLs
        generalize cutX a b k = L at *
        go_wp2_with fail
        exact bodyPost_ret (v := .tuple #[.slice none 0 0, .bool false]) (by simp [results, Try.results7, go_sem]) rfl ⟨by rw [HF.out]; exact rfl, hg⟩
      · have tk : ((k : Int) == 12) = false := by simp; omega
        by_cases hwh : H < W
        · have tm : min (W : Int) (H : Int) = (H : Int) := by omega
          have e1 : min W H = H := by omega
          have tg : (H : Int) < (W : Int) := by omega
          have HXe := Lib.hid (HXk.out)
          rw [e1] at HXe
          have HSe : Hid (stC a b (k + 1) = ⟨W - H, H, X + H, Y⟩) := by
            show _ = _
            rw [HSk.out]; simp [stepC, hwh]
          clear HXk HSk e1
          have HIn := Lib.hid (sL13Insert ⟨gq, 0, none⟩ k cq (cutX a b k) (X : Int) (Y : Int) (H : Int) wr (SlF.of_owns HOw.out) hk HLs.out)
          generalize cutX a b k = L at *
          go_wp2_with ((go_at_call 30; ((with_reducible refine (HIn.out).mono ?_); rintro e w4 ⟨g4, c4, rfl, o4, G4⟩)))
          go_roundw
          case rel => exact ⟨k + 1, _, _, by omega, by rw [HSe.out]; simp only; congr 1; omega, by rw [HSe.out], rfl, by rw [HSe.out]; simp only; congr 1, by rw [HSe.out], by rw [HXe.out]; exact owns_mono o4 zg, HA2, Ge.trans hg G4⟩
          case measure => simp [intOf]; omega
        · have tm : min (W : Int) (H : Int) = (W : Int) := by omega
          have e1 : min W H = W := by omega
          have tg : ¬ (H : Int) < (W : Int) := by omega
          have HXe := Lib.hid (HXk.out)
          rw [e1] at HXe
          have HSe : Hid (stC a b (k + 1) = ⟨W, H - W, X, Y + W⟩) := by
            show _ = _
            rw [HSk.out]; simp [stepC, hwh]
          clear HXk HSk e1
          have HIn := Lib.hid (sL13Insert ⟨gq, 0, none⟩ k cq (cutX a b k) (X : Int) (Y : Int) (W : Int) wr (SlF.of_owns HOw.out) hk HLs.out)
          generalize cutX a b k = L at *
          go_wp2_with ((go_at_call 30; ((with_reducible refine (HIn.out).mono ?_); rintro e w4 ⟨g4, c4, rfl, o4, G4⟩)))
          go_roundw
          case rel => exact ⟨k + 1, _, _, by omega, by rw [HSe.out], by rw [HSe.out]; simp only; congr 1; omega, rfl, by rw [HSe.out], by rw [HSe.out]; simp only; congr 1, by rw [HXe.out]; exact owns_mono o4 zg, HA2, Ge.trans hg G4⟩
          case measure => simp [intOf]; omega

set_option maxHeartbeats 1600000 in
theorem iCut (a b : Int) (w : World) : Calls Try.prog 8 #[.int .i64 a, .int .i64 b] w fun e w' => GivesC w (cutO a b) a b e w' ∧ Ge w w' := by
  by_cases h : (1 ≤ a ∧ a ≤ 200) ∧ (1 ≤ b ∧ b ≤ 200)
  · obtain ⟨p, rfl⟩ : ∃ p : Nat, a = p := ⟨a.toNat, by omega⟩
    obtain ⟨q, rfl⟩ : ∃ q : Nat, b = q := ⟨b.toNat, by omega⟩
    exact iCutT p q w ⟨by omega, by omega⟩ ⟨by omega, by omega⟩
  · rw [cutO_f h]
    by_cases h1 : a < 1
    · go_enter Try.func8, Try.ntmps8
      go_wp2_with fail
      exact bodyPost_ret (v := .tuple #[.slice none 0 0, .bool false]) (by simp [results, Try.results8, go_sem]) rfl ⟨rfl, Ge.refl _⟩
    · by_cases h2 : 200 < a
      · go_enter Try.func8, Try.ntmps8
        go_wp2_with fail
        exact bodyPost_ret (v := .tuple #[.slice none 0 0, .bool false]) (by simp [results, Try.results8, go_sem]) rfl ⟨rfl, Ge.refl _⟩
      · by_cases h3 : b < 1
        · go_enter Try.func8, Try.ntmps8
          go_wp2_with fail
          exact bodyPost_ret (v := .tuple #[.slice none 0 0, .bool false]) (by simp [results, Try.results8, go_sem]) rfl ⟨rfl, Ge.refl _⟩
        · have h4 : 200 < b := by omega
          go_enter Try.func8, Try.ntmps8
          go_wp2_with fail
          exact bodyPost_ret (v := .tuple #[.slice none 0 0, .bool false]) (by simp [results, Try.results8, go_sem]) rfl ⟨rfl, Ge.refl _⟩
set_option maxHeartbeats 1600000 in
theorem sCut (a b : Int) (w : World) : Calls Try.prog 7 #[.int .i64 a, .int .i64 b] w fun e w' => GivesC w (cutO a b) a b e w' ∧ Ge w w' := by
  by_cases h : (1 ≤ a ∧ a ≤ 200) ∧ (1 ≤ b ∧ b ≤ 200)
  · obtain ⟨p, rfl⟩ : ∃ p : Nat, a = p := ⟨a.toNat, by omega⟩
    obtain ⟨q, rfl⟩ : ∃ q : Nat, b = q := ⟨b.toNat, by omega⟩
    exact sCutT p q w ⟨by omega, by omega⟩ ⟨by omega, by omega⟩
  · rw [cutO_f h]
    cases ta : inB a 1 200 with
    | false =>
      go_enter Try.func7, Try.ntmps7
      go_wp2_with ((go_at_call 29; ((with_reducible refine (sL01In _ _ _ _).mono ?_); rintro e w0 ⟨rfl, rfl⟩)))
      exact bodyPost_ret (v := .tuple #[.slice none 0 0, .bool false]) (by simp [results, Try.results7, go_sem]) rfl ⟨rfl, Ge.refl _⟩
    | true =>
      have tb : inB b 1 200 = false := by
        simp only [inB, Bool.and_eq_true, decide_eq_true_eq] at ta
        unfold inB
        rw [Bool.and_eq_false_iff]
        by_cases e : 1 ≤ b
        · right; simp; omega
        · left; simp; omega
      clear h
      go_enter Try.func7, Try.ntmps7
      go_wp2_with ((go_at_call 29; ((with_reducible refine (sL01In _ _ _ _).mono ?_); rintro e w0 ⟨rfl, rfl⟩)))
      exact bodyPost_ret (v := .tuple #[.slice none 0 0, .bool false]) (by simp [results, Try.results7, go_sem]) rfl ⟨rfl, Ge.refl _⟩
end Go.Proofs.Ytjogeicoofdlgaa
