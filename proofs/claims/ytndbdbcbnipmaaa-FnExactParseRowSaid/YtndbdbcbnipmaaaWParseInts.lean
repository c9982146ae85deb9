/- ParseInts of impl and of spec, and its law. No condition. -/
import Derived.Test.YtndbdbcbnipmaaaWSplit
import Derived.Test.YtndbdbcbnipmaaaWTyInt
import Derived.Test.YtndbdbcbnipmaaaWEqInt
namespace Go.Proofs.Ytndbdbcbnipmaaa
set_option maxRecDepth 100000
open Go.ChangeShapes Go.WideShapes Go.ChangeAt Go.RowKit Go.Joins

theorem mem_pieces {b s x : List UInt8} : ∀ k, x ∈ (spl b s k).1 → x.length ≤ s.length
  | 0, h => by simp [spl] at h
  | k + 1, h => by
    simp only [spl] at h
    split at h
    · rcases List.mem_append.1 h with h | h
      · exact mem_pieces k h
      · simp only [List.mem_singleton] at h
        subst h
        simp; omega
    · exact mem_pieces k h
theorem pieces_le {b s : List UInt8} : ∀ x ∈ pieces b s, x.length ≤ s.length := fun x hx => by
  unfold pieces at hx
  rcases List.mem_append.1 hx with h | h
  · exact mem_pieces _ h
  · simp only [List.mem_singleton] at h
    subst h
    simp
theorem pieces_len (b s : List UInt8) : (pieces b s).length ≤ s.length + 1 := by
  have := (spl_le b s s.length).2
  simp [pieces]; omega

noncomputable def nums (l : List (List UInt8)) (k : Nat) : List Int := (List.range k).map fun i => pv (tnth l i)
theorem nums_succ (l : List (List UInt8)) (k : Nat) : nums l (k + 1) = nums l k ++ [pv (tnth l k)] := by simp [nums, List.range_succ]
theorem nums_length (l : List (List UInt8)) (k : Nat) : (nums l k).length = k := by simp [nums]
noncomputable def allB (l : List (List UInt8)) : Bool := (List.range l.length).all fun i => pb (tnth l i)
noncomputable def numsR (l : List (List UInt8)) : List Int := if allB l = true then nums l l.length else []
theorem all_t {l : List (List UInt8)} (h : ∀ i, i < l.length → pb (tnth l i) = true) : allB l = true ∧ numsR l = nums l l.length := by
  have : allB l = true := by simp only [allB, List.all_eq_true, List.mem_range]; exact h
  exact ⟨this, by simp [numsR, this]⟩
theorem all_f {l : List (List UInt8)} {i : Nat} (hi : i < l.length) (h : pb (tnth l i) = false) : allB l = false ∧ numsR l = [] := by
  have : allB l = false := by
    cases c : allB l with
    | false => rfl
    | true =>
      simp only [allB, List.all_eq_true, List.mem_range] at c
      rw [c i hi] at h; cases h
  exact ⟨this, by simp [numsR, this]⟩
def GivesN (w : World) (l : List (List UInt8)) (e : Ending) (w' : World) : Prop :=
  ∃ v, e = .returned (.tuple #[v, .bool (allB l)]) ∧ w'.ownsRow w.heap.size 3 1 v (numsR l).length (icells (numsR l)) ∧ Ge w w'
theorem good_num {l : List (List UInt8)} {k : Nat} (h : Hid (∀ i, i < k → pb (tnth l i) = true)) (hk : pb (tnth l k) = true) : Hid (∀ i, i < k + 1 → pb (tnth l i) = true) := fun i hi => by
  by_cases e : i = k
  · subst e; exact hk
  · exact h.out i (by omega)
theorem owns_nil (w : World) (base : Nat) (e : TypeId) : w.ownsRow base e 1 (.slice none 0 0) 0 [] := ⟨rfl, .inl ⟨rfl, rfl⟩⟩

end Go.Proofs.Ytndbdbcbnipmaaa
