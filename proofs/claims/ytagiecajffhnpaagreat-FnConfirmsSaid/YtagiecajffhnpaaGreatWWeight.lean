/- WeightBetween, WeightAt, isNode, l03Find. No condition. -/
import Derived.Test.YtagiecajffhnpaaGreatPlWeight
import Derived.Test.YtagiecajffhnpaaGreatWIn
import Derived.Test.YtagiecajffhnpaaGreatWLaw
namespace Go.Proofs.YtagiecajffhnpaaGreat
set_option maxRecDepth 100000
open Go.ChangeShapes Go.WideShapes Go.ChangeAt Go.RowKit Go.Joins

theorem isNodeI (n : Nat) (E S : Int) (s : Value) (v : Int) (w : World) (_ : s.oneCell' = true) :
    Calls Tryz.prog 69 #[.agg #[.int .i64 (n : Int), .int .i64 E, .int .i64 S, s], .int .i64 v] w fun e w' => e = .returned (.bool (nodeB n v)) ∧ Ge w w' := by
  by_cases h1 : 0 ≤ v
  · by_cases h2 : v < n
    · have HF : Hid (nodeB n v = true) := nodeB_t ⟨h1, h2⟩
      go_enter Tryz.func69, Tryz.ntmps69
      go_wp2_with fail
      go_ret
      exact ⟨ret_bool HF.out.symm, kge⟩
    · have HF : Hid (nodeB n v = false) := nodeB_f (fun h => h2 h.2)
      go_enter Tryz.func69, Tryz.ntmps69
      go_wp2_with fail
      go_ret
      exact ⟨ret_bool HF.out.symm, kge⟩
  · have HF : Hid (nodeB n v = false) := nodeB_f (fun h => h1 h.1)
    go_enter Tryz.func69, Tryz.ntmps69
    go_wp2_with fail
    go_ret
    exact ⟨ret_bool HF.out.symm, kge⟩

theorem no_wire {xs : List Int} {a b : Int} {k : Nat} (h : Hid (∀ j, j < k → ¬ isW xs a b j)) (hk : ¬ isW xs a b k) : Hid (∀ j, j < k + 1 → ¬ isW xs a b j) := fun j hj => by
  by_cases e : j = k
  · subst e; exact hk
  · exact h.out j (by omega)

set_option maxHeartbeats 1600000 in
theorem iWeightBetween (n : Nat) (E S : Int) (s : Value) (m : Nat) (xs : List Int) (a b : Int) (w : World) (hs : SlF w s m 3 xs) (hm : m ≤ 10) (hok : ∀ k, k < m → goodW n xs k) :
    Calls Tryz.prog 75 #[.agg #[.int .i64 (n : Int), .int .i64 E, .int .i64 S, s], .int .i64 a, .int .i64 b] w fun e w' => e = .returned (.int .i64 (wbet xs m a b)) ∧ Ge w w' := by
  obtain ⟨p, cap, rfl, hc⟩ := hs.open
  have HC := Lib.hid hc
  have HK := Lib.hid hok
  clear hs hc hok
  go_enter Tryz.func75, Tryz.ntmps75
  go_wp2_with fail
  go_loopw [12] (fun i wr => ∃ k : Nat, k ≤ m ∧ i = .int .i64 k ∧ Hid (∀ j, j < k → ¬ isW xs a b j) ∧ Ge w wr) (fun i _ => m - (intOf i).toNat)
  case atStart => exact ⟨0, Nat.zero_le _, rfl, fun j hj => by omega, kge⟩
  case round =>
    obtain ⟨k, hk, rfl, HN, hg⟩ := hrel
    by_cases hlt : k < m
    · obtain ⟨bb, o, rfl, x0, x1, x2⟩ := three_cells HC.out hlt
      have y0 := hg.keep x0
      have y1 := hg.keep x1
      have y2 := hg.keep x2
      clear x0 x1 x2
      change wr.cell? _ = some (.int .i64 (wa xs k)) at y0
      change wr.cell? _ = some (.int .i64 (wb xs k)) at y1
      change wr.cell? _ = some (.int .i64 (ww xs k)) at y2
      obtain ⟨q0, q1, q2, q3, q4⟩ := (HK.out k hlt).1
      by_cases hab : a = b
      · have f0 : (a != b) = false := by simp [hab]
        have HN2 := no_wire HN (show ¬ isW xs a b k by unfold isW; omega)
        clear hab
        go_wp2_with fail
        go_roundw
        case rel => exact ⟨k + 1, by omega, by go_num, HN2.out, kge⟩
        case measure => simp [intOf]; omega
      · have f0 : (a != b) = true := by simp [hab]
        by_cases e1 : wa xs k = a
        · have f1 : (wa xs k == a) = true := by simp [e1]
          by_cases e2 : wb xs k = b
          · have f2 : (wb xs k == b) = true := by simp [e2]
            have HF : Hid (wbet xs m a b = ww xs k) := wbet_some (wfind_some HN.out (by unfold isW; omega) hlt)
            clear e1 e2 hab
            go_wp2_with fail
            go_ret
            exact ⟨ret_int HF.out.symm, kge⟩
          · have f2 : (wb xs k == b) = false := by simp [e2]
            have f3 : (wa xs k == b) = false := by simp; omega
            have HN2 := no_wire HN (show ¬ isW xs a b k by unfold isW; omega)
            clear e1 e2 hab
            go_wp2_with fail
            go_roundw
            case rel => exact ⟨k + 1, by omega, by go_num, HN2.out, kge⟩
            case measure => simp [intOf]; omega
        · have f1 : (wa xs k == a) = false := by simp [e1]
          by_cases e3 : wa xs k = b
          · have f3 : (wa xs k == b) = true := by simp [e3]
            by_cases e4 : wb xs k = a
            · have f4 : (wb xs k == a) = true := by simp [e4]
              have HF : Hid (wbet xs m a b = ww xs k) := wbet_some (wfind_some HN.out (by unfold isW; omega) hlt)
              clear e1 e3 e4 hab
              go_wp2_with fail
              go_ret
              exact ⟨ret_int HF.out.symm, kge⟩
            · have f4 : (wb xs k == a) = false := by simp [e4]
              have HN2 := no_wire HN (show ¬ isW xs a b k by unfold isW; omega)
              clear e1 e3 e4 hab
              go_wp2_with fail
              go_roundw
              case rel => exact ⟨k + 1, by omega, by go_num, HN2.out, kge⟩
              case measure => simp [intOf]; omega
          · have f3 : (wa xs k == b) = false := by simp [e3]
            have HN2 := no_wire HN (show ¬ isW xs a b k by unfold isW; omega)
            clear e1 e3 hab
            go_wp2_with fail
            go_roundw
            case rel => exact ⟨k + 1, by omega, by go_num, HN2.out, kge⟩
            case measure => simp [intOf]; omega
    · have hkm : k = m := by omega
      subst hkm
      have HF : Hid (wbet xs k a b = 0) := wbet_none (wfind_none HN.out)
      go_wp2_with fail
      go_ret
      exact ⟨ret_int HF.out.symm, kge⟩

set_option maxHeartbeats 1600000 in
theorem iWeightAt (n : Nat) (E S : Int) (s : Value) (m : Nat) (xs : List Int) (v : Int) (w : World) (hs : SlF w s m 3 xs) (hm : m ≤ 10) (hok : ∀ k, k < m → goodW n xs k) :
    Calls Tryz.prog 74 #[.agg #[.int .i64 (n : Int), .int .i64 E, .int .i64 S, s], .int .i64 v] w fun e w' => e = .returned (.int .i64 (wat xs v m)) ∧ Ge w w' := by
  obtain ⟨p, cap, rfl, hc⟩ := hs.open
  have HC := Lib.hid hc
  have HK := Lib.hid hok
  clear hs hc hok
  go_enter Tryz.func74, Tryz.ntmps74
  go_wp2_with fail
  go_loopw [5, 11] (fun t i wr => ∃ k : Nat, k ≤ m ∧ i = .int .i64 k ∧ t = .int .i64 (wat xs v k) ∧ Ge w wr) (fun _ i _ => m - (intOf i).toNat)
  case atStart => exact ⟨0, Nat.zero_le _, rfl, rfl, kge⟩
  case round =>
    obtain ⟨k, hk, rfl, rfl, hg⟩ := hrel
    by_cases hlt : k < m
    · obtain ⟨bb, o, rfl, x0, x1, x2⟩ := three_cells HC.out hlt
      have y0 := hg.keep x0
      have y1 := hg.keep x1
      have y2 := hg.keep x2
      clear x0 x1 x2
      change wr.cell? _ = some (.int .i64 (wa xs k)) at y0
      change wr.cell? _ = some (.int .i64 (wb xs k)) at y1
      change wr.cell? _ = some (.int .i64 (ww xs k)) at y2
      obtain ⟨q0, q1, q2, q3, q4⟩ := (HK.out k hlt).1
      obtain ⟨b0, b1⟩ := wat_bd v (m := k) (fun j hj => HK.out j (by omega))
      by_cases e1 : wa xs k = v
      · have f1 : (wa xs k == v) = true := by simp [e1]
        have HF : Hid (wat xs v k + ww xs k = wat xs v (k + 1)) := by
          show _ = _
          rw [wat, if_pos (Or.inl e1)]
        clear e1
        go_wp2_with fail
        go_roundw
        case rel => exact ⟨k + 1, by omega, by go_num, congrArg _ HF.out, kge⟩
        case measure => simp [intOf]; omega
      · have f1 : (wa xs k == v) = false := by simp [e1]
        by_cases e2 : wb xs k = v
        · have f2 : (wb xs k == v) = true := by simp [e2]
          have HF : Hid (wat xs v k + ww xs k = wat xs v (k + 1)) := by
            show _ = _
            rw [wat, if_pos (Or.inr e2)]
          clear e1 e2
          go_wp2_with fail
          go_roundw
          case rel => exact ⟨k + 1, by omega, by go_num, congrArg _ HF.out, kge⟩
          case measure => simp [intOf]; omega
        · have f2 : (wb xs k == v) = false := by simp [e2]
          have HF : Hid (wat xs v k = wat xs v (k + 1)) := by
            show _ = _
            rw [wat, if_neg (fun h => h.elim e1 e2)]; omega
          clear e1 e2
          go_wp2_with fail
          go_roundw
          case rel => exact ⟨k + 1, by omega, by go_num, congrArg _ HF.out, kge⟩
          case measure => simp [intOf]; omega
    · have hkm : k = m := by omega
      subst hkm
      go_wp2_with fail
      go_ret
      exact ⟨rfl, kge⟩

end Go.Proofs.YtagiecajffhnpaaGreat
