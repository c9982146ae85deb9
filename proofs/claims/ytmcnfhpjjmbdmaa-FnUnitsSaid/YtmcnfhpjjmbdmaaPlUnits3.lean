/- The values of equal resistors by insertion: plain law. No program in sight. -/
import Derived.Test.YtmcnfhpjjmbdmaaPlUnits2
import Derived.Test.YtmcnfhpjjmbdmaaPlInsR
namespace Go.Proofs.Ytmcnfhpjjmbdmaa
set_option maxRecDepth 100000

def foldR (N : List Rt) : List Rt := N.foldl insR []
theorem foldR_nil : foldR [] = [] := rfl
theorem foldR_snoc (N : List Rt) (x : Rt) : foldR (N ++ [x]) = insR (foldR N) x := by simp [foldR, List.foldl_append]
theorem insR_mem (l : List Rt) (r : Rt) : ∀ x, x ∈ insR l r → x ∈ l ∨ x = r := by
  induction l with
  | nil => intro x hx; simp [insR] at hx; exact .inr hx
  | cons y l ih =>
    intro x hx
    unfold insR at hx
    split at hx
    · exact .inl hx
    · split at hx
      · simp at hx
        rcases hx with h | h | h
        · exact .inr h
        · subst h; simp
        · simp [h]
      · simp at hx
        rcases hx with h | h
        · subst h; simp
        · rcases ih x h with h | h
          · simp [h]
          · exact .inr h
theorem foldl_ins_mem : ∀ (N l : List Rt) (x : Rt), x ∈ N.foldl insR l → x ∈ l ∨ x ∈ N
  | [], l, x, h => .inl h
  | y :: N, l, x, h => by
    rcases foldl_ins_mem N (insR l y) x h with h | h
    · rcases insR_mem l y x h with h | h
      · exact .inl h
      · subst h; simp
    · simp [h]
theorem foldR_mem {N : List Rt} {x : Rt} (h : x ∈ foldR N) : x ∈ N := by
  rcases foldl_ins_mem N [] x h with h | h
  · cases h
  · exact h
theorem foldl_ins_len : ∀ (N l : List Rt), (N.foldl insR l).length ≤ l.length + N.length
  | [], l => by simp
  | y :: N, l => by
    have h1 := foldl_ins_len N (insR l y)
    have h2 := insR_len l y
    simp only [List.foldl_cons, List.length_cons]
    omega
theorem foldR_len (N : List Rt) : (foldR N).length ≤ N.length := by
  have := foldl_ins_len N []
  simpa [foldR] using this
theorem rowC_sub (a : Rt) (B : List Rt) {i : Nat} : ∀ {j : Nat}, i ≤ j → ∀ x, x ∈ rowC a B i → x ∈ rowC a B j
  | 0, h, x, hx => by rwa [show i = 0 by omega] at hx
  | j + 1, h, x, hx => by
    by_cases e : i = j + 1
    · rwa [e] at hx
    · rw [rowC]; exact List.mem_append_left _ (rowC_sub a B (j := j) (by omega) x hx)
theorem matC_sub (A B : List Rt) {i : Nat} : ∀ {j : Nat}, i ≤ j → ∀ x, x ∈ matC A B i → x ∈ matC A B j
  | 0, h, x, hx => by rwa [show i = 0 by omega] at hx
  | j + 1, h, x, hx => by
    by_cases e : i = j + 1
    · rwa [e] at hx
    · rw [matC]; exact List.mem_append_left _ (matC_sub A B (j := j) (by omega) x hx)
theorem allK_sub (n : Nat) {i : Nat} : ∀ {j : Nat}, i ≤ j → ∀ x, x ∈ allK n i → x ∈ allK n j
  | 0, h, x, hx => by rwa [show i = 0 by omega] at hx
  | j + 1, h, x, hx => by
    by_cases e : i = j + 1
    · rwa [e] at hx
    · rw [allK]; exact List.mem_append_left _ (allK_sub n (j := j) (by omega) x hx)
theorem good_all {n : Nat} (h1 : 2 ≤ n) (h6 : n ≤ 6) {k : Nat} (hk : k ≤ n / 2) : ∀ x, x ∈ allK n k → goodF x := fun x hx =>
  (unit_facts h1 h6).1 x (allK_sub n hk x hx)
theorem good_mat {N A B : List Rt} {la i : Nat} (hi : i < la) (h : ∀ x, x ∈ N ++ matC A B la → goodF x) : ∀ x, x ∈ (N ++ matC A B i) ++ rowC A[i]! B B.length → goodF x := fun x hx => by
  refine h x ?_
  rw [List.append_assoc] at hx
  rcases List.mem_append.1 hx with hx | hx
  · exact List.mem_append_left _ hx
  · refine List.mem_append_right _ (matC_sub A B (i := i + 1) (by omega) x ?_)
    rw [matC]; exact hx
theorem good_row {N B : List Rt} {a : Rt} {lb j : Nat} (hj : j < lb) (h : ∀ x, x ∈ N ++ rowC a B lb → goodF x) : ∀ x, x ∈ (N ++ rowC a B j) ++ [seriesR a B[j]!, parallelR a B[j]!] → goodF x := fun x hx => by
  refine h x ?_
  rw [List.append_assoc] at hx
  rcases List.mem_append.1 hx with hx | hx
  · exact List.mem_append_left _ hx
  · refine List.mem_append_right _ (rowC_sub a B (i := j + 1) (by omega) x ?_)
    rw [rowC]; exact hx
theorem ins_two (N : List Rt) (s p : Rt) : foldR (N ++ [s, p]) = insR (insR (foldR N) s) p := by
  rw [show N ++ [s, p] = (N ++ [s]) ++ [p] by simp, foldR_snoc, foldR_snoc]
/-- The values of m equal resistors. -/
def unitL (m : Int) : List Rt := if 1 ≤ m ∧ m ≤ 6 then valV m.toNat else []
theorem unitL_f {m : Int} (h : ¬ (1 ≤ m ∧ m ≤ 6)) : unitL m = [] := by unfold unitL; rw [if_neg h]
theorem unitL_t {m : Nat} (h : 1 ≤ m ∧ m ≤ 6) : unitL m = valV m := by unfold unitL; rw [if_pos (by omega)]; simp
end Go.Proofs.Ytmcnfhpjjmbdmaa
