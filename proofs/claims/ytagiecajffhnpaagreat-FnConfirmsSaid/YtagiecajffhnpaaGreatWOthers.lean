/- slices.Contains of integers; others of impl, l04Without of the reference. No condition. -/
import Derived.Test.YtagiecajffhnpaaGreatWMatO
namespace Go.Proofs.YtagiecajffhnpaaGreat
set_option maxRecDepth 100000
open Go.ChangeShapes Go.WideShapes Go.ChangeAt Go.RowKit Go.Joins

theorem indexInt (v : Value) (l : List Int) (x : Int) (w : World) (h : SlI w v l) (hm : l.length ≤ 1000000) :
    Calls Tryz.prog 152 #[v, .int .i64 x] w fun e w' => (∃ i : Int, e = .returned (.int .i64 i) ∧ (0 ≤ i ↔ x ∈ l)) ∧ w = w' := by
  obtain ⟨n, hn⟩ : ∃ n, l.length = n := ⟨_, rfl⟩
  obtain ⟨p, cap, rfl, hc⟩ := h.openN hn
  have HC := Lib.hid hc
  have HN := Lib.hid hn
  rw [hn] at hm
  clear h hc hn
  go_enter Tryz.func152, Tryz.ntmps152
  go_wp2_with fail
  go_loop [8] (fun i => ∃ k : Nat, k ≤ n ∧ i = .int .i64 k ∧ Hid (∀ j, j < k → ¬ nth l j = x)) (fun i => n - (intOf i).toNat)
  case atStart => exact ⟨0, Nat.zero_le _, rfl, fun j hj => by omega⟩
  case round =>
    obtain ⟨k, hk, rfl, HA⟩ := hrel
    by_cases hlt : k < n
    · obtain ⟨b, o, rfl, x0⟩ := HC.out k hlt
      by_cases c : nth l k = x
      · have HF : Hid (x ∈ l) := by
          show _
          have hk' : k < l.length := by rw [HN.out]; exact hlt
          rw [nth_eq l k hk'] at c
          exact (c ▸ List.getElem_mem hk')
        have t : (x == nth l k) = true := by simp [c]
        have t2 : (nth l k == x) = true := by simp [c]
        clear c
        go_wp2_with fail
        go_ret
        exact ⟨⟨_, rfl, ⟨fun _ => HF.out, fun _ => by omega⟩⟩, rfl⟩
      · have HA2 : Hid (∀ j, j < k + 1 → ¬ nth l j = x) := fun j hj => by
          by_cases e : j = k
          · subst e; exact c
          · exact HA.out j (by omega)
        have t : (x == nth l k) = false := by simp; exact fun e => c e.symm
        have t2 : (nth l k == x) = false := by simp [c]
        clear c
        go_wp2_with fail
        go_round
        case rel => exact ⟨k + 1, by omega, by go_num, HA2.out⟩
        case measure => simp [intOf]; omega
    · have hkn : k = n := by omega
      subst hkn
      have HF : Hid (¬ x ∈ l) := by
        show ¬ _
        intro h
        obtain ⟨j, hj, e⟩ := List.getElem_of_mem h
        exact HA.out j (by rw [← HN.out]; exact hj) (by rw [nth_eq l j hj]; exact e)
      go_wp2_with fail
      go_ret
      exact ⟨⟨_, rfl, ⟨fun h => by omega, fun h => absurd h HF.out⟩⟩, rfl⟩

theorem containsInt (v : Value) (l : List Int) (x : Int) (w : World) (h : SlI w v l) (hm : l.length ≤ 1000000) :
    Calls Tryz.prog 145 #[v, .int .i64 x] w fun e w' => e = .returned (.bool (decide (x ∈ l))) ∧ w = w' := by
  have hI := indexInt v l x w h hm
  by_cases c : x ∈ l
  · have e : decide (x ∈ l) = true := decide_eq_true c
    have hI2 := Lib.hid hI
    rw [e]
    go_enter Tryz.func145, Tryz.ntmps145
    go_wp2_with (go_at_call 152; ((with_reducible refine hI2.out.mono ?_); rintro e w' ⟨⟨i, rfl, hi⟩, rfl⟩); have hi2 : 0 ≤ i := hi.2 c)
    go_ret
    exact ⟨rfl, rfl⟩
  · have e : decide (x ∈ l) = false := decide_eq_false c
    have hI2 := Lib.hid hI
    rw [e]
    go_enter Tryz.func145, Tryz.ntmps145
    go_wp2_with (go_at_call 152; ((with_reducible refine hI2.out.mono ?_); rintro e w' ⟨⟨i, rfl, hi⟩, rfl⟩); have hi2 : ¬ (0 ≤ i) := fun h => c (hi.1 h))
    go_ret
    exact ⟨rfl, rfl⟩

theorem owns_lit1 (w : World) (e : TypeId) (size b : Nat) (hb : b = w.heap.size) : (w.alloc (.cells #[] e)).ownsRow b e size (.slice (some ⟨b, 0, none⟩) 0 0) 0 [] := by
  subst hb; exact owns_lit0 _ _ _
theorem iOthers (n : Nat) (E S : Int) (s : Value) (v : Value) (l : List Int) (w : World) (_ : s.oneCell' = true) (hn : n ≤ 5) (hv : SlI w v l) (hl : l.length ≤ 1000) :
    Calls Tryz.prog 129 #[.agg #[.int .i64 (n : Int), .int .i64 E, .int .i64 S, s], v] w fun e w' => ∃ v', e = .returned v' ∧ SlI w' v' (without n l) ∧ (∀ p k c, v' = .slice p k c → k ≤ c) ∧ Ge w w' := by
  have HV := Lib.hid hv
  clear hv
  go_enter Tryz.func129, Tryz.ntmps129
  go_wp2_with fail
  go_loopw [5, 10] (fun o i wr => ∃ (k : Nat) (u : Value), k ≤ n ∧ i = .int .i64 k ∧ o = u ∧ wr.ownsRow w.heap.size 3 1 u (without k l).length (icells (without k l)) ∧ Ge w wr) (fun _ i _ => n - (intOf i).toNat)
  case atStart => exact ⟨0, _, Nat.zero_le _, rfl, rfl, by first | exact owns_lit0 _ _ _ | exact owns_mono (owns_lit1 _ _ _ _ (by simp)) (by simp), kge⟩
  case round =>
    obtain ⟨k, u, hk, rfl, rfl, hown, hg⟩ := hrel
    by_cases hlt : k < n
    · have HC := Lib.hid (containsInt _ l (k : Int) wr (SlI.ge HV.out hg) (by omega))
      by_cases c : (k : Int) ∈ l
      · have t : decide ((k : Int) ∈ l) = true := decide_eq_true c
        rw [t] at HC
        have HW : Hid (without (k + 1) l = without k l) := without_in c
        have HO := Lib.hid hown
        clear t c hown
        go_wp2_with (go_at_call 145; ((with_reducible refine HC.out.mono ?_); rintro e w' ⟨rfl, rfl⟩))
        go_roundw
        case rel => exact ⟨k + 1, _, by omega, by go_num, rfl, by rw [HW.out]; exact HO.out, hg⟩
        case measure => simp [intOf]; omega
      · have t : decide ((k : Int) ∈ l) = false := decide_eq_false c
        rw [t] at HC
        have HW : Hid (without (k + 1) l = without k l ++ [(k : Int)]) := without_out c
        have hL : (without k l).length ≤ k := without_len k l
        have zg := hg.size
        clear t c
        generalize without k l = L at *
        replace hL := Lib.hid hL
        go_wp2_with (first
          | (go_at_call 145; ((with_reducible refine HC.out.mono ?_); rintro e w' ⟨rfl, rfl⟩))
          | (at_builtin; refine ap_int rfl _ _ rfl w.heap.size _ L rfl hown _ rfl (by have := hL.out; omega) zg ?_; intro v' w6 own6 hm6))
        go_roundw
        case rel => exact ⟨k + 1, _, by omega, by go_num, rfl, by rw [HW.out]; exact own6, hg.mine hown (Nat.le_refl _) hm6⟩
        case measure => simp [intOf]; omega
    · have hkn : k = n := by omega
      subst hkn
      have HO := Lib.hid hown
      clear hown
      go_wp2_with fail
      go_ret
      exact ⟨_, rfl, SlI.of_owns HO.out, owns_cap HO.out, hg⟩

end Go.Proofs.YtagiecajffhnpaaGreat
