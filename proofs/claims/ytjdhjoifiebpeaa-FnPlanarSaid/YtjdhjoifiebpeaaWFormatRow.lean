/- FormatRow of impl and of spec. No condition. -/
import Derived.Test.YtjdhjoifiebpeaaWFormatRatio
import Derived.Test.YtjdhjoifiebpeaaWJoinS
import Derived.Test.YtjdhjoifiebpeaaWFlat
namespace Go.Proofs.Ytjdhjoifiebpeaa
set_option maxRecDepth 100000
open Go.ChangeShapes Go.WideShapes Go.ChangeAt Go.RowKit Go.Joins

def rTxts (xs : List Int) (k : Nat) : List (List UInt8) := (List.range k).map fun j => ratioTxt (nth xs (j * 2)) (nth xs (j * 2 + 1))
theorem rTxts_succ (xs : List Int) (k : Nat) : rTxts xs (k + 1) = rTxts xs k ++ [ratioTxt (nth xs (k * 2)) (nth xs (k * 2 + 1))] := by simp [rTxts, List.range_succ]
theorem rTxts_length (xs : List Int) (k : Nat) : (rTxts xs k).length = k := by simp [rTxts]
theorem rTxts_join (xs : List Int) (k : Nat) : (Lib.join (rTxts xs k) [32]).length ≤ 46 * k := by
  have h := join_le [32] (rTxts xs k) 45 (fun x hx => by
    simp only [rTxts, List.mem_map] at hx
    obtain ⟨j, _, rfl⟩ := hx
    exact ratioTxt_le _ _)
  rwa [rTxts_length] at h
def rowGood (xs : List Int) (j : Nat) : Prop := ratioOk (nth xs (j * 2)) (nth xs (j * 2 + 1)) = true
def rowOk (n : Nat) (xs : List Int) : Bool := (List.range n).all fun j => ratioOk (nth xs (j * 2)) (nth xs (j * 2 + 1))
theorem rowOk_t {n : Nat} {xs : List Int} (h : ∀ j, j < n → rowGood xs j) : rowOk n xs = true := by
  simp only [rowOk, List.all_eq_true, List.mem_range]; exact h
theorem rowOk_f {n : Nat} {xs : List Int} {j : Nat} (hj : j < n) (h : ratioOk (nth xs (j * 2)) (nth xs (j * 2 + 1)) = false) : rowOk n xs = false := by
  cases c : rowOk n xs with
  | false => rfl
  | true =>
    simp only [rowOk, List.all_eq_true, List.mem_range] at c
    rw [c j hj] at h; cases h
def rowLine (n : Nat) (xs : List Int) : List UInt8 := if rowOk n xs = true then (if n = 0 then [110, 111, 110, 101] else Lib.join (rTxts xs n) [32]) else []
theorem rowLine_f {n : Nat} {xs : List Int} (h : rowOk n xs = false) : (⟨#[]⟩ : ByteArray) = bstr (rowLine n xs) := by simp [rowLine, h, bstr]
theorem rowLine_0 {n : Nat} {xs : List Int} (h : n = 0) : bstr (rowLine n xs) = ⟨#[110, 111, 110, 101]⟩ := by
  subst h; simp [rowLine, rowOk, bstr]
theorem rowLine_s {n : Nat} {xs : List Int} (hok : rowOk n xs = true) (h : ¬ n = 0) : bstr (rowLine n xs) = bstr (Lib.join (rTxts xs n) [32]) := by simp [rowLine, h, hok]
theorem rowLine_le (n : Nat) (xs : List Int) : (rowLine n xs).length ≤ 46 * n + 4 := by
  have := rTxts_join xs n
  unfold rowLine
  repeat' split
  all_goals simp
  all_goals omega
theorem good_row {xs : List Int} {k : Nat} (h : Hid (∀ i, i < k → rowGood xs i)) (hk : ratioOk (nth xs (k * 2)) (nth xs (k * 2 + 1)) = true) : Hid (∀ i, i < k + 1 → rowGood xs i) := fun i hi => by
  by_cases e : i = k
  · subst e; exact hk
  · exact h.out i (by omega)

end Go.Proofs.Ytjdhjoifiebpeaa
