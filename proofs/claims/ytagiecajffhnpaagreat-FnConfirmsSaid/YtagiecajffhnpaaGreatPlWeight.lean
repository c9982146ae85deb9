/- Plain law: weights of a network. No program in sight. -/
import Derived.Test.YtagiecajffhnpaaGreatPlNetOk
namespace Go.Proofs.YtagiecajffhnpaaGreat

open Go.RowKit

def isW (xs : List Int) (a b : Int) (k : Nat) : Prop := wa xs k = min a b ∧ wb xs k = max a b
instance (xs : List Int) (a b : Int) (k : Nat) : Decidable (isW xs a b k) := by unfold isW; infer_instance
def wfind (xs : List Int) (a b : Int) : Nat → Option Nat
  | 0 => none
  | m + 1 => match wfind xs a b m with
    | some k => some k
    | none => if isW xs a b m then some m else none
theorem wfind_none {xs : List Int} {a b : Int} : ∀ {m : Nat}, (∀ j, j < m → ¬ isW xs a b j) → wfind xs a b m = none
  | 0, _ => rfl
  | m + 1, h => by
    simp only [wfind, wfind_none (m := m) (fun j hj => h j (by omega)), if_neg (h m (by omega))]
theorem wfind_some {xs : List Int} {a b : Int} {k : Nat} (h : ∀ j, j < k → ¬ isW xs a b j) (hk : isW xs a b k) : ∀ {m : Nat}, k < m → wfind xs a b m = some k
  | 0, hm => by omega
  | m + 1, hm => by
    by_cases e : k = m
    · subst e; simp only [wfind, wfind_none h, if_pos hk]
    · simp only [wfind, wfind_some h hk (m := m) (by omega)]
def wbet (xs : List Int) (m : Nat) (a b : Int) : Int := match wfind xs a b m with
  | some k => ww xs k
  | none => 0
theorem wbet_some {xs : List Int} {m k : Nat} {a b : Int} (h : wfind xs a b m = some k) : wbet xs m a b = ww xs k := by simp [wbet, h]
theorem wbet_none {xs : List Int} {m : Nat} {a b : Int} (h : wfind xs a b m = none) : wbet xs m a b = 0 := by simp [wbet, h]
theorem wfind_lt {xs : List Int} {a b : Int} : ∀ {m k : Nat}, wfind xs a b m = some k → k < m ∧ isW xs a b k
  | 0, k, h => by simp [wfind] at h
  | m + 1, k, h => by
    simp only [wfind] at h
    split at h
    · rename_i j hj
      have := wfind_lt hj
      simp at h; subst h
      exact ⟨by omega, this.2⟩
    · split at h
      · rename_i hw
        simp at h; subst h
        exact ⟨by omega, hw⟩
      · cases h
theorem wbet_bd {N : Int} {xs : List Int} {m : Nat} (h : ∀ k, k < m → goodW N xs k) (a b : Int) : 0 ≤ wbet xs m a b ∧ wbet xs m a b ≤ 200 := by
  cases e : wfind xs a b m with
  | none => rw [wbet_none e]; omega
  | some k =>
    rw [wbet_some e]
    obtain ⟨_, _, _, q1, q2⟩ := (h k (wfind_lt e).1).1
    omega
/-- Equal ends have no wire. -/
theorem wfind_self {N : Int} {xs : List Int} {m : Nat} (h : ∀ k, k < m → goodW N xs k) (a : Int) : wfind xs a a m = none :=
  wfind_none (fun j hj hw => by
    obtain ⟨_, q, _⟩ := (h j hj).1
    unfold isW at hw; omega)
/-- The sum of the weights at v. -/
def wat (xs : List Int) (v : Int) : Nat → Int
  | 0 => 0
  | k + 1 => wat xs v k + (if wa xs k = v ∨ wb xs k = v then ww xs k else 0)
theorem wat_bd {N : Int} {xs : List Int} (v : Int) : ∀ {m : Nat}, (∀ k, k < m → goodW N xs k) → 0 ≤ wat xs v m ∧ wat xs v m ≤ 200 * m
  | 0, _ => by simp [wat]
  | m + 1, h => by
    have h1 := wat_bd v (m := m) (fun k hk => h k (by omega))
    obtain ⟨_, _, _, q1, q2⟩ := (h m (by omega)).1
    simp only [wat]
    split <;> omega
/-- v is a node. -/
def nodeB (n : Nat) (v : Int) : Bool := decide (0 ≤ v ∧ v < n)
theorem nodeB_t {n : Nat} {v : Int} (h : 0 ≤ v ∧ v < n) : nodeB n v = true := by simpa [nodeB] using h
theorem nodeB_f {n : Nat} {v : Int} (h : ¬ (0 ≤ v ∧ v < n)) : nodeB n v = false := by simpa [nodeB] using h
end Go.Proofs.YtagiecajffhnpaaGreat
