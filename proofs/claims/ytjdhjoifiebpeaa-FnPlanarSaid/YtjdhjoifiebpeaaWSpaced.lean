/- spaced of impl, l16Ints of the reference. No condition. -/
import Derived.Test.YtjdhjoifiebpeaaWJoinS
import Derived.Test.YtjdhjoifiebpeaaWFmt
import Derived.Test.YtjdhjoifiebpeaaWFormatRow
namespace Go.Proofs.Ytjdhjoifiebpeaa
set_option maxRecDepth 100000
open Go.ChangeShapes Go.WideShapes Go.ChangeAt Go.RowKit Go.Joins

def iTx (l : List Int) (k : Nat) : List (List UInt8) := (l.take k).map fmtInt
theorem iTx_succ {l : List Int} {k : Nat} (h : k < l.length) : iTx l (k + 1) = iTx l k ++ [fmtInt (nth l k)] := by
  unfold iTx
  rw [List.take_succ_eq_append_getElem h, nth_eq l k h, List.map_append]
  rfl
theorem iTx_len {l : List Int} {k : Nat} (h : k ≤ l.length) : (iTx l k).length = k := by simp [iTx]; omega
theorem iTx_all (l : List Int) : iTx l l.length = l.map fmtInt := by simp [iTx]
/-- Integers with spaces between them. -/
def spTxt (l : List Int) : List UInt8 := Lib.join (l.map fmtInt) [32]

set_option maxHeartbeats 1600000 in
theorem iSpaced (v : Value) (l : List Int) (n : Nat) (w : World) (hv : SlI w v l) (hn : l.length = n) (hm : n ≤ 1000) (hb : ∀ x ∈ l, -9223372036854775808 ≤ x ∧ x ≤ 9223372036854775807) :
    Calls Try.prog 14 #[v] w fun e w' => e = .returned (.string (bstr (spTxt l))) ∧ Ge w w' := by
  obtain ⟨p, cap, rfl, hc⟩ := hv.openN hn
  have HC := Lib.hid hc
  have HB : Hid (∀ k, k < n → -9223372036854775808 ≤ nth l k ∧ nth l k ≤ 9223372036854775807) := by
    show ∀ k, _
    intro k hk
    rw [nth_eq l k (by omega)]
    exact hb _ (List.getElem_mem _)
  have HSs := Lib.hid (fun k (h : k < n) => iTx_succ (l := l) (k := k) (by omega))
  have HLl := Lib.hid (fun k (h : k ≤ n) => iTx_len (l := l) (k := k) (by omega))
  have HA : Hid (iTx l n = l.map fmtInt) := by show _ = _; rw [← hn]; exact iTx_all l
  have HT : Hid (spTxt l = Lib.join (iTx l n) [32]) := by show _ = _; rw [HA.out]; rfl
  have HTl : Hid ((Lib.join (iTx l n) [32]).length ≤ 140737488355328) := by
    show _ ≤ _
    have := join_le [32] (iTx l n) 22 (fun x hx => by
      rw [HA.out] at hx
      obtain ⟨y, _, rfl⟩ := List.mem_map.1 hx
      exact fmtInt_length y)
    rw [HLl.out n (Nat.le_refl _), show ([32] : List UInt8).length = 1 from rfl] at this
    omega
  clear hv hc hn hb
  go_enter Try.func14, Try.ntmps14
  go_wp2_with fail
  go_loopw [3, 9] (fun s i wr => ∃ k : Nat, k ≤ n ∧ i = .int .i64 k ∧ wr.ownsRow w.heap.size 9 1 s (iTx l k).length (scells (iTx l k)) ∧ Ge w wr) (fun _ i _ => n - (intOf i).toNat)
  case atStart => exact ⟨0, Nat.zero_le _, rfl, owns_lit0 _ _ _, by (repeat (first | with_reducible exact Ge.refl _ | assumption | with_reducible refine Ge.drew ?_ | with_reducible refine Ge.drewN ?_ _ | with_reducible refine Ge.alloc ?_ _ | (with_reducible refine Ge.setCell ?_ (by first | (simp; done) | omega | (simp; omega)) _) | with_reducible refine Ge.trans ?_ (by assumption)))⟩
  case round =>
    obtain ⟨k, hk, rfl, hown, hg⟩ := hrel
    by_cases hlt : k < n
    · obtain ⟨b, o, rfl, x0⟩ := HC.out k hlt
      have y0 := hg.keep x0
      clear x0
      obtain ⟨b1, b2⟩ := HB.out k hlt
      have HS := Lib.hid (HSs.out k hlt)
      have hl := HLl.out k hk
      have HL : Hid ((iTx l k).length < 1099511627776) := by
        show _ < _
        omega
      have zg := hg.size
      clear hl
      generalize iTx l k = L at *
      generalize nth l k = X at *
      have HO := Lib.hid hown
      clear hown
      go_wp2_with (first
        | (go_at_call 20; ((with_reducible refine (iFormatInt _ _ b1 b2).mono ?_); rintro e w5 ⟨rfl, rfl⟩; have own2 := HO.out; have G5 : Ge w wr := hg; have Z5 := G5.size))
        | (at_builtin; refine ap_str rfl _ _ rfl w.heap.size u3 L rfl own2 _ rfl HL.out Z5 ?_; intro v' w6 own6 hm6))
      go_roundw
      case rel => exact ⟨k + 1, by omega, by go_num, by have := own6; rwa [← HS.out] at this, G5.mine own2 (Nat.le_refl _) hm6⟩
      case measure => simp [intOf]; omega
    · have hkn : k = n := by omega
      subst hkn
      have HO := Lib.hid hown
      clear hown
      have hlen := HLl.out k (Nat.le_refl _)
      have h3 := HO.out
      rw [hlen] at h3
      obtain ⟨p3, c3, rfl⟩ := owns_form h3
      have hJ : Calls Try.prog 21 #[.slice p3 k c3, .string ⟨#[32]⟩] wr fun en w' => en = .returned (.string (bstr (Lib.join (iTx l k) [32]))) ∧ Ge wr w' := iJoin w.heap.size 9 _ (iTx l k) [32] _ HO.out (by omega) HTl.out
      replace hJ := Lib.hid hJ
      clear HO HTl h3 hlen
      go_wp2_with (go_at_call 21; ((with_reducible refine (hJ.out).mono ?_); rintro e w' ⟨rfl, g⟩))
      go_ret
      exact ⟨ret_str (by rw [HT.out]), Ge.trans hg g⟩

end Go.Proofs.Ytjdhjoifiebpeaa
