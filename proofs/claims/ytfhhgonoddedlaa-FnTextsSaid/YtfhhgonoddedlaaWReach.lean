/- l03Has, l03Reach of spec. No condition. -/
import Derived.Test.YtfhhgonoddedlaaPlNetOk
import Derived.Test.YtfhhgonoddedlaaWTyInt
import Derived.Test.YtfhhgonoddedlaaWEqInt
import Derived.Test.YtfhhgonoddedlaaWLaw
import Derived.Deep.DeepCutAuto
import Derived.Deep.QuietTactic
namespace Go.Proofs.Ytfhhgonoddedlaa
set_option maxRecDepth 100000
open Go.ChangeShapes Go.WideShapes Go.ChangeAt Go.RowKit Go.Joins

theorem sL03Has (v : Value) (l : List Int) (x : Int) (w : World) (h : SlI w v l) (hm : l.length ≤ 1000000) :
    Calls Try.prog 124 #[v, .int .i64 x] w fun e w' => e = .returned (.bool (decide (x ∈ l))) ∧ w = w' := by
  obtain ⟨n, hn⟩ : ∃ n, l.length = n := ⟨_, rfl⟩
  obtain ⟨p, cap, rfl, hc⟩ := h.openN hn
  have HC := Lib.hid hc
  have HN := Lib.hid hn
  rw [hn] at hm
  clear h hc hn
  go_enter Try.func124, Try.ntmps124
  go_wp2_with fail
  go_loop [9] (fun i => ∃ k : Nat, k ≤ n ∧ i = .int .i64 k ∧ Hid (∀ j, j < k → ¬ nth l j = x)) (fun i => n - (intOf i).toNat)
  case atStart => exact ⟨0, Nat.zero_le _, rfl, fun j hj => by omega⟩
  case round =>
    obtain ⟨k, hk, rfl, HA⟩ := hrel
    by_cases hlt : k < n
    · obtain ⟨b, o, rfl, x0⟩ := HC.out k hlt
      by_cases c : nth l k = x
      · have HF : Hid (decide (x ∈ l) = true) := by
          show _ = _
          have hk' : k < l.length := by rw [HN.out]; exact hlt
          rw [nth_eq l k hk'] at c
          exact decide_eq_true (c ▸ List.getElem_mem hk')
        have t : (nth l k == x) = true := by simp [c]
        clear c
        go_wp2_with fail
        go_ret
        exact ⟨ret_bool HF.out.symm, rfl⟩
      · have HA2 : Hid (∀ j, j < k + 1 → ¬ nth l j = x) := fun j hj => by
          by_cases e : j = k
          · subst e; exact c
          · exact HA.out j (by omega)
        have t : (nth l k == x) = false := by simp [c]
        clear c
        go_wp2_with fail
        go_round
        case rel => exact ⟨k + 1, by omega, by go_num, HA2.out⟩
        case measure => simp [intOf]; omega
    · have hkn : k = n := by omega
      subst hkn
      have HF : Hid (decide (x ∈ l) = false) := by
        show _ = _
        refine decide_eq_false fun h => ?_
        obtain ⟨j, hj, e⟩ := List.getElem_of_mem h
        exact HA.out j (by rw [← HN.out]; exact hj) (by rw [nth_eq l j hj]; exact e)
      go_wp2_with fail
      go_ret
      exact ⟨ret_bool HF.out.symm, rfl⟩

theorem own_nth {w : World} {base g n cap : Nat} {e : TypeId} {l : List Int} (h : w.ownsRow base e 1 (.slice (some ⟨g, 0, none⟩) n cap) n (icells l)) {j : Nat} (hj : j < n) : w.cell? ⟨g, j, none⟩ = some (.int .i64 (nth l j)) := by
  have hl : l.length = n := by have := h.1; rw [icells_length] at this; omega
  rw [h.cellAt j (by omega)]
  simp [icells, hl, hj, nth_eq]
theorem iprs_len (l : List (Nat × Nat)) : (iprs l).length = l.length := by simp [iprs]
theorem iprs_snoc (l : List (Nat × Nat)) (a b : Nat) : iprs (l ++ [(a, b)]) = iprs l ++ [((a : Int), (b : Int))] := by simp [iprs]
theorem prs_length (xs : List Int) (m : Nat) : (prs xs m).length = m := by simp [prs]
theorem qs_stop {l : List (Int × Int)} {p : Nat} (h : ¬ p < (qs l p).length) : ∀ d, qs l (p + d) = qs l p ∧ ¬ (p + d) < (qs l (p + d)).length := by
  intro d
  induction d with
  | zero => exact ⟨rfl, h⟩
  | succ d ih =>
    have e : qs l (p + (d + 1)) = qs l (p + d) := by
      show qs l (p + d + 1) = _
      rw [qs, if_neg ih.2]
    rw [e]
    exact ⟨ih.1, by have := ih.2; omega⟩

end Go.Proofs.Ytfhhgonoddedlaa
