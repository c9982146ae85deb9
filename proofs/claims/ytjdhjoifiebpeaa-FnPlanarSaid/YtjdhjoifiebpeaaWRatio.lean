/- GcdOf, RatioOk, RatioOf, in the program and in the reference. -/
import Derived.Test.YtjdhjoifiebpeaaWIn
import Derived.Test.YtjdhjoifiebpeaaPlRatio
namespace Go.Proofs.Ytjdhjoifiebpeaa

open Go.RowKit

/-- An int that is not the least one. -/
def Mid (n : Int) : Prop := -9223372036854775807 ≤ n ∧ n ≤ 9223372036854775807
theorem mid {n : Int} (h0 : -9223372036854775807 ≤ n) (h1 : n ≤ 9223372036854775807) : Mid n := ⟨h0, h1⟩

/-- A fraction as a value. -/
def rv (r : Rt) : Value := .agg #[.int .i64 r.n, .int .i64 r.d]
theorem rv_def (r : Rt) : rv r = .agg #[.int .i64 r.n, .int .i64 r.d] := rfl

theorem ratioOf_alt (n d : Int) (a b : Nat) (h0 : d ≠ 0) (ea : n.natAbs / gcdN n d = a) (eb : d.natAbs / gcdN n d = b) :
    ratioOf n d = if ratioOk (if (n < 0) ↔ (d < 0) then (a : Int) else -(a : Int)) (b : Int) = true then ⟨if (n < 0) ↔ (d < 0) then (a : Int) else -(a : Int), (b : Int)⟩ else ⟨0, 0⟩ := by
  have h := ratioOf_ok n d
  have hr : ratioOf n d = if 1000000000000000000 < a ∨ 1000000000000000 < b then zeroR else ⟨if (n < 0) ↔ (d < 0) then (a : Int) else -(a : Int), (b : Int)⟩ := by
    unfold ratioOf; rw [if_neg h0]; simp only [ea, eb]
  rw [hr] at h ⊢
  by_cases c : 1000000000000000000 < a ∨ 1000000000000000 < b
  · rw [if_pos c, if_neg]
    · rfl
    · rw [ratioOk_iff]
      rintro ⟨_, h2, h3, h4, _⟩
      split at h3 <;> split at h4 <;> omega
  · rw [if_neg c] at h ⊢
    have hb0 : b ≠ 0 := by
      intro e
      have hg := gcdN_pos (n := n) h0
      have hl := gcdN_le n d h0
      rw [e] at eb
      have := (Nat.div_eq_zero_iff.1 eb)
      omega
    rcases h with h | h
    · exfalso
      have := congrArg Rt.d h
      simp [zeroR] at this
      omega
    · rw [if_pos h]

end Go.Proofs.Ytjdhjoifiebpeaa
