/- Join of spec. No condition. -/
import Derived.Test.YtfhhgonoddedlaaWStr
import Derived.Test.YtfhhgonoddedlaaWLaw
namespace Go.Proofs.Ytfhhgonoddedlaa
set_option maxRecDepth 100000
open Go.ChangeShapes Go.WideShapes Go.ChangeAt Go.RowKit Go.Joins

theorem join_step (l : List (List UInt8)) (sep : List UInt8) (k : Nat) (h : k < l.length) : Lib.join (l.take (k + 1)) sep = Lib.join (l.take k) sep ++ (if k = 0 then [] else sep) ++ tnth l k := by
  cases l with
  | nil => simp at h
  | cons x r =>
    cases k with
    | zero => simp [Lib.join_one, Lib.join_nil, tnth]
    | succ k =>
      have hk : k < r.length := by simpa using h
      have e : r[k]? = some r[k] := List.getElem?_eq_getElem hk
      simp only [List.take_succ_cons, Lib.join_cons]
      rw [Lib.joinTail_take_succ sep r k _ e]
      simp [tnth, hk]
theorem join_take_le (l : List (List UInt8)) (sep : List UInt8) (k : Nat) : (Lib.join (l.take k) sep).length ≤ (Lib.join l sep).length := by
  cases l with
  | nil => simp
  | cons x r =>
    cases k with
    | zero => simp [Lib.join_nil]
    | succ k =>
      simp only [List.take_succ_cons, Lib.join_cons, List.length_append]
      have := Lib.joinTail_take_le sep r k
      omega

set_option maxHeartbeats 800000 in
theorem sJoin (v : Value) (l : List (List UInt8)) (sep : List UInt8) (w : World) (h : SlS w v l) (hn : l.length ≤ 140737488355328) (hlen : (Lib.join l sep).length ≤ 140737488355328) :
    Calls Try.prog 77 #[v, .string (bstr sep)] w fun en w' => en = .returned (.string (bstr (Lib.join l sep))) ∧ w = w' := by
  obtain ⟨n, hl⟩ : ∃ n, l.length = n := ⟨_, rfl⟩
  obtain ⟨p, cap, rfl, hc⟩ := h.openN hl
  have HC := Lib.hid hc
  have HS := Lib.hid (fun k (hk : k < n) => join_step l sep k (by omega))
  have HT := Lib.hid (fun k => Nat.le_trans (join_take_le l sep k) hlen)
  have HA : Hid (l.take n = l) := by rw [← hl]; exact List.take_length
  rw [hl] at hn
  clear h hc hl hlen
  go_enter Try.func77, Try.ntmps77
  go_wp2_with fail
  go_loop [5, 10] (fun s i => ∃ k : Nat, k ≤ n ∧ i = .int .i64 k ∧ s = .string (bstr (Lib.join (l.take k) sep))) (fun _ i => n - (intOf i).toNat)
  case atStart => exact ⟨0, Nat.zero_le _, rfl, by simp [Lib.join_nil, bstr]⟩
  case round =>
    obtain ⟨k, hk, rfl, rfl⟩ := hrel
    by_cases hlt : k < n
    · obtain ⟨b, o, rfl, x0⟩ := HC.out k hlt
      have e1 := HS.out k hlt
      have b1 := HT.out (k + 1)
      by_cases hz : k = 0
      · subst hz
        have E : Hid (bstr (Lib.join (l.take 0) sep) ++ bstr (tnth l 0) = bstr (Lib.join (l.take (0 + 1)) sep)) := by
          show _ = _
          rw [bstr_append, e1]; simp
        have z1 : ¬ (9223372036854775807 < (bstr (Lib.join (l.take 0) sep)).size + (bstr (tnth l 0)).size) := by
          rw [e1] at b1
          simp only [List.length_append] at b1
          rw [bstr_size, bstr_size]; omega
        clear e1 b1
        simp only [Nat.add_zero] at x0
        generalize Lib.join (l.take 0) sep = J at *
        generalize tnth l 0 = T at *
        go_wp2_with fail
        go_round
        case rel => exact ⟨0 + 1, by omega, by go_num, congrArg _ E.out⟩
        case measure => simp [intOf]; omega
      · have hk0 : (0 : Int) < (k : Int) := by omega
        have E : Hid (bstr (Lib.join (l.take k) sep) ++ bstr sep ++ bstr (tnth l k) = bstr (Lib.join (l.take (k + 1)) sep)) := by
          show _ = _
          rw [bstr_append, bstr_append, e1, if_neg hz]
        have z1 : ¬ (9223372036854775807 < (bstr (Lib.join (l.take k) sep)).size + (bstr sep).size) := by
          rw [e1, if_neg hz] at b1
          simp only [List.length_append] at b1
          rw [bstr_size, bstr_size]; omega
        have z2 : ¬ (9223372036854775807 < (bstr (Lib.join (l.take k) sep)).size + (bstr sep).size + (bstr (tnth l k)).size) := by
          rw [e1, if_neg hz] at b1
          simp only [List.length_append] at b1
          rw [bstr_size, bstr_size, bstr_size]; omega
        clear e1 b1
        generalize Lib.join (l.take k) sep = J at *
        generalize tnth l k = T at *
        go_wp2_with fail
        go_round
        case rel => exact ⟨k + 1, by omega, by go_num, congrArg _ E.out⟩
        case measure => simp [intOf]; omega
    · have hkn : k = n := by omega
      subst hkn
      go_wp2_with fail
      go_ret
      exact ⟨ret_str (by rw [HA.out]), rfl⟩
end Go.Proofs.Ytfhhgonoddedlaa
