/- The levels of a tiling, row by row: plain law. No program in sight. -/
import Derived.Test.YtckjkfcphcnpdaaGreatPlLevels
import Derived.Test.YtckjkfcphcnpdaaGreatPlTile
namespace Go.Proofs.YtckjkfcphcnpdaaGreat

/-- The spans of the first k squares that lie on height y. -/
def onY (xs : List Int) (y : Int) (k : Nat) : Bool := decide (sy xs k = y) || decide (sy xs k + ss xs k = y)
def spK (xs : List Int) (y : Int) : Nat → List Sp
  | 0 => []
  | k + 1 => if onY xs y k = true then spK xs y k ++ [(sx xs k, sx xs k + ss xs k)] else spK xs y k
def covN (xs : List Int) (y x : Int) : Nat → Bool
  | 0 => false
  | k + 1 => covN xs y x k || (onY xs y k && decide (sx xs k ≤ x) && decide (x < sx xs k + ss xs k))
theorem covN_iff (xs : List Int) (y x : Int) : ∀ k, covN xs y x k = true ↔ Cov (spK xs y k) x
  | 0 => by simp [covN, spK, cov_nil]
  | k + 1 => by
    unfold covN spK
    by_cases h : onY xs y k = true
    · rw [if_pos h, cov_snoc, ← covN_iff xs y x k]
      simp [h]
    · rw [if_neg h, ← covN_iff xs y x k]
      simp [h]
theorem spK_len (xs : List Int) (y : Int) : ∀ k, (spK xs y k).length ≤ k
  | 0 => Nat.le_refl _
  | k + 1 => by
    have := spK_len xs y k
    unfold spK
    split
    · simp; omega
    · omega
theorem right_ge {xs : List Int} : ∀ {k j : Nat}, j < k → sx xs j + ss xs j ≤ rightSq xs k
  | 0, j, h => by omega
  | k + 1, j, h => by
    simp only [rightSq]
    by_cases e : j = k
    · subst e; omega
    · have := right_ge (xs := xs) (k := k) (j := j) (by omega); omega
theorem spK_in {xs : List Int} {y : Int} {n : Nat} (hok : ∀ k, k < n → okSq xs k) : ∀ {k : Nat}, k ≤ n → ∀ s ∈ spK xs y k, 0 ≤ s.1 ∧ s.1 < s.2 ∧ s.2 ≤ rightSq xs n
  | 0, _, s, hs => by cases hs
  | k + 1, hk, s, hs => by
    unfold spK at hs
    split at hs
    · rcases List.mem_append.1 hs with h | h
      · exact spK_in hok (k := k) (by omega) s h
      · simp only [List.mem_cons, List.not_mem_nil, or_false] at h
        subst h
        obtain ⟨a, b, c, d, e, f⟩ := hok k (by omega)
        have := right_ge (xs := xs) (k := n) (j := k) (by omega)
        exact ⟨a, by simp only; omega, this⟩
    · exact spK_in hok (k := k) (by omega) s hs
/-- Whether the unit from x on is covered, left of W. -/
def covU (xs : List Int) (n W : Nat) (y : Int) (x : Nat) : Bool := decide (x < W) && covN xs y x n
def rowY (y : Int) (p : Sp) : List Int := [y, p.1, p.2]
/-- The levels up to height y. -/
def levU (xs : List Int) (n W : Nat) : Nat → List (List Int)
  | 0 => []
  | y + 1 => levU xs n W y ++ (scanS (covU xs n W y) (W + 1)).1.map (rowY y)
/-- The rows of a height, joined out of the sorted spans. -/
theorem lev_same {xs : List Int} {n W : Nat} {y : Int} (hok : ∀ k, k < n → okSq xs k) (hW : rightSq xs n = (W : Int)) {T : List Sp} (hp : T.Perm (spK xs y n)) (hs : ∀ i j (hi : i < T.length) (hj : j < T.length), i ≤ j → T[i].1 ≤ T[j].1) :
    joinAll T = (scanS (covU xs n W y) (W + 1)).1 := by
  have h0 : ∀ s ∈ spK xs y n, 0 ≤ s.1 ∧ s.1 < s.2 ∧ s.2 ≤ (W : Int) := fun s h => by rw [← hW]; exact spK_in hok (Nat.le_refl _) s h
  refine levels_same hp hs h0 (fun x => ?_)
  unfold covU
  rw [Bool.and_eq_true, decide_eq_true_eq, covN_iff]
  constructor
  · exact fun h => h.2
  · intro h
    obtain ⟨p, hp, h1, h2⟩ := h
    have := h0 p hp
    exact ⟨by omega, p, hp, h1, h2⟩
theorem joinS_len (o : List Sp) (x : Sp) : (joinS o x).length ≤ o.length + 1 := by
  rcases List.eq_nil_or_concat o with rfl | ⟨a, l, rfl⟩
  · simp [joinS_nil]
  · rw [List.concat_eq_append]
    by_cases h : x.1 ≤ l.2
    · rw [joinS_in a l x h]; simp
    · rw [joinS_out a l x h]; simp
theorem foldl_join_len : ∀ (S o : List Sp), (S.foldl joinS o).length ≤ o.length + S.length
  | [], o => by simp
  | x :: S, o => by
    have h1 := foldl_join_len S (joinS o x)
    have h2 := joinS_len o x
    simp only [List.foldl_cons, List.length_cons]
    omega
theorem joinAll_len (S : List Sp) : (joinAll S).length ≤ S.length := by
  have := foldl_join_len S []
  simpa [joinAll] using this
theorem scan_len (c : Nat → Bool) : ∀ x, (scanS c x).1.length ≤ x
  | 0 => Nat.le_refl _
  | x + 1 => by
    have := scan_len c x
    unfold scanS
    repeat' split
    all_goals (try simp only [List.length_append, List.length_singleton])
    all_goals omega
theorem levU_len (xs : List Int) (n W : Nat) : ∀ y, (levU xs n W y).length ≤ y * (W + 1)
  | 0 => by simp [levU]
  | y + 1 => by
    have h1 := levU_len xs n W y
    have h2 := scan_len (covU xs n W y) (W + 1)
    rw [levU, List.length_append, List.length_map, Nat.add_mul, Nat.one_mul]
    omega
end Go.Proofs.YtckjkfcphcnpdaaGreat
