/- FormatRow of impl and of spec. No condition. -/
import Derived.Test.YtfhhgonoddedlaaWFormatRatio
import Derived.Test.YtfhhgonoddedlaaWJoinS
import Derived.Test.YtfhhgonoddedlaaWFlat
namespace Go.Proofs.Ytfhhgonoddedlaa
set_option maxRecDepth 100000
open Go.ChangeShapes Go.WideShapes Go.ChangeAt Go.RowKit Go.Joins

def rTxts (xs : List Int) (k : Nat) : List (List UInt8) := (List.range k).map fun j => ratioTxt (nth xs (j * 2)) (nth xs (j * 2 + 1))
theorem rTxts_succ (xs : List Int) (k : Nat) : rTxts xs (k + 1) = rTxts xs k ++ [ratioTxt (nth xs (k * 2)) (nth xs (k * 2 + 1))] := by simp [rTxts, List.range_succ]
theorem rTxts_length (xs : List Int) (k : Nat) : (rTxts xs k).length = k := by simp [rTxts]
theorem rTxts_join (xs : List Int) (k : Nat) : (Lib.join (rTxts xs k) [32]).length ≤ 46 * k := by
  have h := join_le [32] (rTxts xs k) 45 (fun x hx => by
    simp only [rTxts, List.mem_map] at hx
    obtain ⟨j, _, rfl⟩ := hx
    exact ratioTxt_le _ _)
  rwa [rTxts_length] at h
def rowGood (xs : List Int) (j : Nat) : Prop := ratioOk (nth xs (j * 2)) (nth xs (j * 2 + 1)) = true
def rowOk (n : Nat) (xs : List Int) : Bool := (List.range n).all fun j => ratioOk (nth xs (j * 2)) (nth xs (j * 2 + 1))
theorem rowOk_t {n : Nat} {xs : List Int} (h : ∀ j, j < n → rowGood xs j) : rowOk n xs = true := by
  simp only [rowOk, List.all_eq_true, List.mem_range]; exact h
theorem rowOk_f {n : Nat} {xs : List Int} {j : Nat} (hj : j < n) (h : ratioOk (nth xs (j * 2)) (nth xs (j * 2 + 1)) = false) : rowOk n xs = false := by
  cases c : rowOk n xs with
  | false => rfl
  | true =>
    simp only [rowOk, List.all_eq_true, List.mem_range] at c
    rw [c j hj] at h; cases h
def rowLine (n : Nat) (xs : List Int) : List UInt8 := if rowOk n xs = true then (if n = 0 then [110, 111, 110, 101] else Lib.join (rTxts xs n) [32]) else []
theorem rowLine_f {n : Nat} {xs : List Int} (h : rowOk n xs = false) : (⟨#[]⟩ : ByteArray) = bstr (rowLine n xs) := by simp [rowLine, h, bstr]
theorem rowLine_0 {n : Nat} {xs : List Int} (h : n = 0) : bstr (rowLine n xs) = ⟨#[110, 111, 110, 101]⟩ := by
  subst h; simp [rowLine, rowOk, bstr]
theorem rowLine_s {n : Nat} {xs : List Int} (hok : rowOk n xs = true) (h : ¬ n = 0) : bstr (rowLine n xs) = bstr (Lib.join (rTxts xs n) [32]) := by simp [rowLine, h, hok]
theorem rowLine_le (n : Nat) (xs : List Int) : (rowLine n xs).length ≤ 46 * n + 4 := by
  have := rTxts_join xs n
  unfold rowLine
  repeat' split
  all_goals simp
  all_goals omega
theorem good_row {xs : List Int} {k : Nat} (h : Hid (∀ i, i < k → rowGood xs i)) (hk : ratioOk (nth xs (k * 2)) (nth xs (k * 2 + 1)) = true) : Hid (∀ i, i < k + 1 → rowGood xs i) := fun i hi => by
  by_cases e : i = k
  · subst e; exact hk
  · exact h.out i (by omega)

set_option maxHeartbeats 1600000 in
theorem iFormatRow (v : Value) (n : Nat) (xs : List Int) (w : World) (hv : SlF w v n 2 xs) (hm : n ≤ 1048576) (hb : ∀ j, -9223372036854775808 ≤ nth xs j ∧ nth xs j ≤ 9223372036854775807) :
    Calls Try.prog 22 #[v] w fun e w' => e = .returned (.string (bstr (rowLine n xs))) ∧ Ge w w' := by
  obtain ⟨p, cap, rfl, hc⟩ := hv.open
  have HC := Lib.hid hc
  clear hv hc hb
  go_enter Try.func22, Try.ntmps22
  go_wp2_with fail
  go_loopw [3, 9] (fun s i wr => ∃ k : Nat, k ≤ n ∧ i = .int .i64 k ∧ wr.ownsRow w.heap.size 9 1 s (rTxts xs k).length (scells (rTxts xs k)) ∧ Hid (∀ j, j < k → rowGood xs j) ∧ Ge w wr) (fun _ i _ => n - (intOf i).toNat)
  case atStart => exact ⟨0, Nat.zero_le _, rfl, owns_lit0 _ _ _, fun j hj => by omega, by (repeat (first | with_reducible exact Ge.refl _ | assumption | with_reducible refine Ge.drew ?_ | with_reducible refine Ge.drewN ?_ _ | with_reducible refine Ge.alloc ?_ _ | (with_reducible refine Ge.setCell ?_ (by first | (simp; done) | omega | (simp; omega)) _) | with_reducible refine Ge.trans ?_ (by assumption)))⟩
  case round =>
    obtain ⟨k, hk, rfl, hown, HG, hg⟩ := hrel
    by_cases hlt : k < n
    · obtain ⟨b, o, rfl, x0, x1⟩ := two_cells HC.out hlt
      have y0 := hg.keep x0
      have y1 := hg.keep x1
      clear x0 x1
      cases c : ratioOk (nth xs (k * 2)) (nth xs (k * 2 + 1)) with
      | false =>
        have HF := Lib.hid (rowLine_f (rowOk_f hlt c))
        generalize nth xs (k * 2) = X at *
        generalize nth xs (k * 2 + 1) = Y at *
        go_wp2_with ((go_at_call 57; ((with_reducible refine (iRatioOk _ _ _).mono ?_); rintro e w4 ⟨rfl, g4⟩)))
        go_ret
        exact ⟨ret_str HF.out, by (repeat (first | with_reducible exact Ge.refl _ | assumption | with_reducible refine Ge.drew ?_ | with_reducible refine Ge.drewN ?_ _ | with_reducible refine Ge.alloc ?_ _ | (with_reducible refine Ge.setCell ?_ (by first | (simp; done) | omega | (simp; omega)) _) | with_reducible refine Ge.trans ?_ (by assumption)))⟩
      | true =>
        have HG2 := Lib.hid (good_row HG c)
        have HL : Hid ((rTxts xs k).length < 1099511627776) := by
          show _ < _
          rw [rTxts_length]; omega
        have HS : Hid (rTxts xs k ++ [ratioTxt (nth xs (k * 2)) (nth xs (k * 2 + 1))] = rTxts xs (k + 1)) := (rTxts_succ _ _).symm
        generalize rTxts xs k = L at *
        generalize nth xs (k * 2) = X at *
        generalize nth xs (k * 2 + 1) = Y at *
        go_wp2_with (first
          | (go_at_call 57; ((with_reducible refine (iRatioOk _ _ _).mono ?_); rintro e w4 ⟨rfl, g4⟩; have q0 := Ge.keep g4 (cell_new (i := 0) rfl rfl); have q1 := Ge.keep g4 (cell_new (i := 1) rfl rfl)))
          | (go_at_call 24; ((with_reducible refine (iFormatRatio _ _ _).mono ?_); rintro e w5 ⟨rfl, g5⟩; have own2 := Ge.owns (g4.trans g5) (hown.alloc _); have G5 : Ge w w5 := Ge.trans (Ge.alloc hg _) (g4.trans g5); have Z5 := G5.size))
          | (at_builtin; refine ap_str rfl _ _ rfl w.heap.size u3 L rfl own2 _ rfl HL.out Z5 ?_; intro v' w6 own6 hm6))
        go_roundw
        case rel => exact ⟨k + 1, by omega, by go_num, by have := own6; rwa [HS.out] at this, HG2.out, G5.mine own2 (Nat.le_refl _) hm6⟩
        case measure => simp [intOf]; omega
    · have hkn : k = n := by omega
      subst hkn
      have hown' := hown
      rw [rTxts_length] at hown
      have hok := rowOk_t HG.out
      have H1 : Hid ((rTxts xs k).length ≤ 140737488355328) := by
        show _ ≤ _
        rw [rTxts_length]; omega
      have H2 : Hid ((Lib.join (rTxts xs k) [32]).length ≤ 140737488355328) := by
        show _ ≤ _
        have := rTxts_join xs k; omega
      obtain ⟨p3, c3, rfl⟩ := owns_form hown
      by_cases hz : k = 0
      · have HF := Lib.hid (rowLine_0 (xs := xs) hz)
        have tz : ((k : Int) == 0) = true := by simp [hz]
        clear hz hown' hok
        go_wp2_with fail
        go_ret
        exact ⟨ret_str (by rw [HF.out]), by (repeat (first | with_reducible exact Ge.refl _ | assumption | with_reducible refine Ge.drew ?_ | with_reducible refine Ge.drewN ?_ _ | with_reducible refine Ge.alloc ?_ _ | (with_reducible refine Ge.setCell ?_ (by first | (simp; done) | omega | (simp; omega)) _) | with_reducible refine Ge.trans ?_ (by assumption)))⟩
      · have HF := Lib.hid (rowLine_s hok hz)
        have tz : ((k : Int) == 0) = false := by simp [hz]
        have hJ : Calls Try.prog 58 #[.slice p3 k c3, .string ⟨#[32]⟩] wr fun en w' => en = .returned (.string (bstr (Lib.join (rTxts xs k) [32]))) ∧ Ge wr w' := iJoin w.heap.size 9 (.slice p3 k c3) (rTxts xs k) [32] _ hown' H1.out H2.out
        clear hz hown' hok
        go_wp2_with ((go_at_call 58; ((with_reducible refine (hJ).mono ?_); rintro e w5 ⟨rfl, g5⟩)))
        go_ret
        exact ⟨ret_str (by rw [HF.out]), by (repeat (first | with_reducible exact Ge.refl _ | assumption | with_reducible refine Ge.drew ?_ | with_reducible refine Ge.drewN ?_ _ | with_reducible refine Ge.alloc ?_ _ | (with_reducible refine Ge.setCell ?_ (by first | (simp; done) | omega | (simp; omega)) _) | with_reducible refine Ge.trans ?_ (by assumption)))⟩

end Go.Proofs.Ytfhhgonoddedlaa
