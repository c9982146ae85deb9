/- l13Segment of the reference. No condition. -/
import Derived.Test.YtckjkfcphcnpdaaGreatWNode
namespace Go.Proofs.YtckjkfcphcnpdaaGreat
set_option maxRecDepth 100000
open Go.ChangeShapes Go.WideShapes Go.ChangeAt Go.RowKit Go.Joins

def segF (n i : Int) : Int := if i < 0 then 0 else nodeF n i
theorem segF_neg (n : Int) : segF n (-1) = 0 := by unfold segF; rw [if_pos (by omega)]
theorem segF_0 {n : Int} {k : Nat} (h : k = 0) : segF n k = 0 := by subst h; unfold segF nodeF; simp
theorem segF_1 {n : Int} {k : Nat} (h : ¬ k = 0) (h1 : (k : Int) = n - 1) : segF n k = 1 := by unfold segF nodeF; rw [if_neg (by omega), if_neg (by omega), if_pos h1]
theorem segF_k {n : Int} {k : Nat} (h : ¬ k = 0) (h1 : ¬ (k : Int) = n - 1) : segF n k = k + 1 := by unfold segF nodeF; rw [if_neg (by omega), if_neg (by omega), if_neg h1]

set_option maxHeartbeats 3200000 in
theorem sSegment (v : Value) (L : List (List Int)) (N base : Nat) (y X : Int) (w : World) (h : OwnL w base v L) (hN : L.length = N) (hm : N ≤ 1000000) (h3 : ∀ i, i < N → (rowL L i).length = 3) :
    Calls Tryz.prog 21 #[v, .int .i64 y, .int .i64 X] w fun e w' => e = .returned (.int .i64 (segF N (idxF (hitSeg L y X) N))) ∧ Ge w w' := by
  obtain ⟨p, cap, rfl, hrows⟩ := h.rows hN
  have hrow : Hid (∀ i, i < N → ∃ b o q cq, p = some ⟨b, o, none⟩ ∧ w.cell? ⟨b, o + i, none⟩ = some (.slice (some ⟨q, 0, none⟩) 3 cq) ∧ w.cell? ⟨q, 0, none⟩ = some (.int .i64 (r0 L i)) ∧ w.cell? ⟨q, 1, none⟩ = some (.int .i64 (r1 L i)) ∧ w.cell? ⟨q, 2, none⟩ = some (.int .i64 (r2 L i))) := fun i hi => by
    obtain ⟨b, o, q, cq, e1, e2, e3⟩ := hrows i hi
    have hl := h3 i hi
    rw [hl] at e2 e3
    obtain ⟨a0, a1, a2, ha⟩ : ∃ a0 a1 a2, rowL L i = [a0, a1, a2] := by
      match hr : rowL L i, hl with
      | [a0, a1, a2], _ => exact ⟨a0, a1, a2, rfl⟩
    rw [ha] at e3
    obtain ⟨g, rfl, x0, x1, x2⟩ := three_cellsP e3
    unfold r0 r1 r2
    rw [ha]
    exact ⟨b, o, g, cq, e1, e2, x0, x1, x2⟩
  have H0 := Lib.hid (idx_start (hitSeg L y X) N)
  have HH := Lib.hid (fun k hk => first_hit (p := hitSeg L y X) (n := N) (k := k) hk)
  have HN := Lib.hid (fun k hk => first_next (p := hitSeg L y X) (n := N) (k := k) hk)
  have HE := Lib.hid (fun k hk => first_end (p := hitSeg L y X) (n := N) (k := k) hk)
  have HP : Hid (∀ k, hitSeg L y X k = (decide (r0 L k = y) && decide (r1 L k ≤ X) && decide (X < r2 L k))) := fun k => rfl
  clear hrows h h3 hN
  generalize hitSeg L y X = P at *
  obtain ⟨R, hR⟩ : ∃ R, segF N (idxF P N) = R := ⟨_, rfl⟩
  rw [hR]
  have HR0 := Lib.hid hR
  clear hR
  go_enter Tryz.func21, Tryz.ntmps21
  go_wp2_with fail
  go_loopw [11] (fun i wr => ∃ k : Nat, i = .int .i64 (k : Int) ∧ k ≤ N ∧ Hid (idxF P N = firstF P (N - k) k) ∧ w = wr) (fun i _ => N - (intOf i).toNat)
  case atStart => exact ⟨0, rfl, Nat.zero_le _, H0.out, rfl⟩
  case round =>
    obtain ⟨k, rfl, hk, HR, rfl⟩ := hrel
    by_cases hlt : k < N
    · obtain ⟨b, o, q, cq, rfl, x, y0, y1, y2⟩ := hrow.out k hlt
      have HHk := Lib.hid (HH.out k hlt)
      have HNk := Lib.hid (HN.out k hlt)
      have HPk := Lib.hid (HP.out k)
      clear hrow HH HN HE H0 HP
      generalize r0 L k = a at *
      generalize r1 L k = c at *
      generalize r2 L k = d at *
      by_cases h1 : a = y
      · have t1 : (a == y) = true := by simpa using h1
        by_cases h2 : c ≤ X
        · have t2 : decide (c ≤ X) = true := by simpa using h2
          by_cases h4 : X < d
          · have t4 : decide (X < d) = true := by simpa using h4
            have hP : P k = true := by rw [HPk.out]; simp [h1, h2, h4]
            have HI : Hid (idxF P N = (k : Int)) := by show _ = _; rw [HR.out, HHk.out hP]
            clear HHk HNk HPk HR hP h1
            by_cases k0 : k = 0
            · have HF : Hid (R = 0) := by show _ = _; rw [← HR0.out, HI.out, segF_0 k0]
              have tk : ((k : Int) == 0) = true := by simp [k0]
              clear k0 HI HR0
              go_wp2_with fail
              go_ret
              exact ⟨ret_int HF.out.symm, Ge.refl _⟩
            · have tk : ((k : Int) == 0) = false := by simp; omega
              by_cases k1 : (k : Int) = (N : Int) - 1
              · have HF : Hid (R = 1) := by show _ = _; rw [← HR0.out, HI.out, segF_1 k0 k1]
                have tk1 : ((k : Int) == (N : Int) - 1) = true := by simpa using k1
                clear k1 HI HR0
                go_wp2_with fail
                go_ret
                exact ⟨ret_int HF.out.symm, Ge.refl _⟩
              · have HF : Hid (R = k + 1) := by show _ = _; rw [← HR0.out, HI.out, segF_k k0 k1]
                have tk1 : ((k : Int) == (N : Int) - 1) = false := by simpa using k1
                clear HI HR0
                go_wp2_with fail
                go_ret
                exact ⟨ret_int HF.out.symm, Ge.refl _⟩
          · have t4 : decide (X < d) = false := by simpa using h4
            have hP : P k = false := by rw [HPk.out]; simp [h4]
            have HI : Hid (idxF P N = firstF P (N - (k + 1)) (k + 1)) := by show _ = _; rw [HR.out, HNk.out hP]
            clear HHk HNk HPk HR hP h1 HR0
            go_wp2_with fail
            go_roundw
            case rel => exact ⟨k + 1, by go_num, by omega, HI, by trivial⟩
            case measure => simp [intOf]; omega
        · have t2 : decide (c ≤ X) = false := by simpa using h2
          have hP : P k = false := by rw [HPk.out]; simp [h2]
          have HI : Hid (idxF P N = firstF P (N - (k + 1)) (k + 1)) := by show _ = _; rw [HR.out, HNk.out hP]
          clear HHk HNk HPk HR hP h1 HR0
          go_wp2_with fail
          go_roundw
          case rel => exact ⟨k + 1, by go_num, by omega, HI, by trivial⟩
          case measure => simp [intOf]; omega
      · have t1 : (a == y) = false := by simpa using h1
        have hP : P k = false := by rw [HPk.out]; simp [h1]
        have HI : Hid (idxF P N = firstF P (N - (k + 1)) (k + 1)) := by show _ = _; rw [HR.out, HNk.out hP]
        clear HHk HNk HPk HR hP h1 HR0
        go_wp2_with fail
        go_roundw
        case rel => exact ⟨k + 1, by go_num, by omega, HI, by trivial⟩
        case measure => simp [intOf]; omega
    · have HF : Hid (R = 0) := by show _ = _; rw [← HR0.out, HR.out, HE.out k hlt, segF_neg]
      have hkN : k = N := by omega
      subst hkN
      go_wp2_with fail
      go_ret
      exact ⟨ret_int HF.out.symm, Ge.refl _⟩
end Go.Proofs.YtckjkfcphcnpdaaGreat
