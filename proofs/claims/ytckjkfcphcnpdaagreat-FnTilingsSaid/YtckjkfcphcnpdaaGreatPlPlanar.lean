/- Lists of different numbers, circular pairs, weight matrices, the reason why a matrix is not planar. No condition. -/
import Derived.Test.YtckjkfcphcnpdaaGreatWSl
import Derived.Test.YtckjkfcphcnpdaaGreatPlLap
namespace Go.Proofs.YtckjkfcphcnpdaaGreat

/-- The lists l ++ [x] for the numbers x below j that l does not hold. -/
def extL (l : List Int) : Nat → List (List Int)
  | 0 => []
  | j + 1 => extL l j ++ (if decide ((j : Int) ∈ l) then [] else [l ++ [(j : Int)]])
theorem extL_in {l : List Int} {j : Nat} (h : decide ((j : Int) ∈ l) = true) : extL l (j + 1) = extL l j := by simp [extL, h]
theorem extL_out {l : List Int} {j : Nat} (h : decide ((j : Int) ∈ l) = false) : extL l (j + 1) = extL l j ++ [l ++ [(j : Int)]] := by
  simp only [extL, h, Bool.false_eq_true, if_false]
theorem extL_len (l : List Int) : ∀ j, (extL l j).length ≤ j
  | 0 => by simp [extL]
  | j + 1 => by
    have := extL_len l j
    unfold extL
    split <;> simp <;> omega
theorem extL_mem {l x : List Int} : ∀ {j : Nat}, x ∈ extL l j → ∃ y : Nat, y < j ∧ x = l ++ [(y : Int)]
  | 0, h => by simp [extL] at h
  | j + 1, h => by
    unfold extL at h
    rcases List.mem_append.1 h with h | h
    · obtain ⟨y, h1, h2⟩ := extL_mem h
      exact ⟨y, by omega, h2⟩
    · split at h
      · simp at h
      · simp at h
        exact ⟨j, by omega, h⟩
/-- The extensions of the first i lists. -/
def nextL (k : Nat) (L : List (List Int)) (i : Nat) : List (List Int) := (L.take i).flatMap (fun l => extL l k)
theorem nextL_zero (k : Nat) (L : List (List Int)) : nextL k L 0 = [] := by simp [nextL]
theorem nextL_succ {k : Nat} {L : List (List Int)} {i : Nat} (h : i < L.length) : nextL k L (i + 1) = nextL k L i ++ extL L[i] k := by
  unfold nextL
  rw [List.take_succ_eq_append_getElem h, List.flatMap_append]
  simp
theorem nextL_len (k : Nat) (L : List (List Int)) : ∀ i, i ≤ L.length → (nextL k L i).length ≤ i * k
  | 0, _ => by simp [nextL]
  | i + 1, h => by
    have h1 := nextL_len k L i (by omega)
    have h2 := extL_len L[i] k
    rw [nextL_succ (by omega), List.length_append, Nat.add_mul]
    omega
def listsL (k : Nat) : Nat → List (List Int)
  | 0 => [[]]
  | m + 1 => nextL k (listsL k m) (listsL k m).length
/-- What the lists are: m numbers below k. -/
def ListsOk (k m : Nat) (L : List (List Int)) : Prop := ∀ l ∈ L, l.length = m ∧ ∀ x ∈ l, below k x
theorem extL_ok {k m j : Nat} {l : List Int} (h : l.length = m ∧ ∀ x ∈ l, below k x) (hj : j ≤ k) : ListsOk k (m + 1) (extL l j) := fun x hx => by
  obtain ⟨y, h1, rfl⟩ := extL_mem hx
  refine ⟨by simp [h.1], fun z hz => ?_⟩
  rcases List.mem_append.1 hz with hz | hz
  · exact h.2 z hz
  · simp at hz
    subst hz
    exact ⟨by omega, by omega⟩
theorem nextL_ok {k m : Nat} {L : List (List Int)} (h : ListsOk k m L) : ∀ i, i ≤ L.length → ListsOk k (m + 1) (nextL k L i)
  | 0, _ => fun x hx => by simp [nextL] at hx
  | i + 1, hi => fun x hx => by
    rw [nextL_succ (by omega)] at hx
    rcases List.mem_append.1 hx with hx | hx
    · exact nextL_ok h i (by omega) x hx
    · exact extL_ok (h _ (List.getElem_mem _)) (Nat.le_refl _) x hx
theorem listsL_ok (k : Nat) : ∀ m, ListsOk k m (listsL k m)
  | 0 => fun l hl => by simp [listsL] at hl; subst hl; simp
  | m + 1 => nextL_ok (listsL_ok k m) _ (Nat.le_refl _)
theorem listsL_len (k : Nat) : ∀ m, (listsL k m).length ≤ k ^ m
  | 0 => by simp [listsL]
  | m + 1 => by
    have h1 := listsL_len k m
    have h2 := nextL_len k (listsL k m) _ (Nat.le_refl _)
    have h3 : (listsL k m).length * k ≤ k ^ m * k := Nat.mul_le_mul_right _ h1
    rw [Nat.pow_succ]
    exact Nat.le_trans h2 h3

/-- Different numbers below k. -/
def idxAt (k : Nat) (l : List Int) (i : Nat) : Prop := 0 ≤ nth l i ∧ nth l i < k ∧ ¬ nth l i ∈ l.take i
instance (k : Nat) (l : List Int) (i : Nat) : Decidable (idxAt k l i) := by unfold idxAt; exact inferInstance
def idxP (k : Nat) (l : List Int) (n : Nat) : Prop := ∀ i, i < n → idxAt k l i
instance (k : Nat) (l : List Int) (n : Nat) : Decidable (idxP k l n) := by unfold idxP; exact inferInstance
/-- How many of the first i numbers are followed, around l, by a smaller one. -/
def fallsN (l : List Int) : Nat → Nat
  | 0 => 0
  | i + 1 => fallsN l i + (if nth l ((i + 1) % l.length) < nth l i then 1 else 0)
theorem fallsN_le (l : List Int) : ∀ i, fallsN l i ≤ i
  | 0 => Nat.le_refl _
  | i + 1 => by have := fallsN_le l i; unfold fallsN; split <;> omega
/-- IsCircular for lists of one length from 1 up. -/
def circB (k : Nat) (p q : List Int) : Bool := decide (idxP k (p ++ q.reverse) (p ++ q.reverse).length) && decide (fallsN (p ++ q.reverse) (p ++ q.reverse).length = 1)

/-- The pairs with the first list p and one of the first j of L. -/
def pairsQ (k : Nat) (p : List Int) (L : List (List Int)) : Nat → List (List Int × List Int)
  | 0 => []
  | j + 1 => pairsQ k p L j ++ (if circB k p (L.getD j []) then [(p, L.getD j [])] else [])
def pairsP (k : Nat) (L : List (List Int)) : Nat → List (List Int × List Int)
  | 0 => []
  | i + 1 => pairsP k L i ++ pairsQ k (L.getD i []) L L.length
def pairsM (k : Nat) : Nat → List (List Int × List Int)
  | 0 => []
  | m + 1 => pairsM k m ++ pairsP k (listsL k (m + 1)) (listsL k (m + 1)).length
def PairsOk (k M : Nat) (S : List (List Int × List Int)) : Prop := ∀ x ∈ S, x.1.length = x.2.length ∧ 1 ≤ x.1.length ∧ x.1.length ≤ M ∧ (∀ y ∈ x.1, below k y) ∧ (∀ y ∈ x.2, below k y) ∧ circB k x.1 x.2 = true
theorem pairsQ_len (k : Nat) (p : List Int) (L : List (List Int)) : ∀ j, (pairsQ k p L j).length ≤ j
  | 0 => by simp [pairsQ]
  | j + 1 => by
    have := pairsQ_len k p L j
    unfold pairsQ
    split <;> simp <;> omega
theorem pairsP_len (k : Nat) (L : List (List Int)) : ∀ i, (pairsP k L i).length ≤ i * L.length
  | 0 => by simp [pairsP]
  | i + 1 => by
    have h1 := pairsP_len k L i
    have h2 := pairsQ_len k (L.getD i []) L L.length
    unfold pairsP
    rw [List.length_append, Nat.add_mul]
    omega
theorem pairsQ_ok {k m : Nat} {p : List Int} {L : List (List Int)} (hm : 1 ≤ m) (hp : p.length = m ∧ ∀ x ∈ p, below k x) (h : ListsOk k m L) : ∀ j, j ≤ L.length → PairsOk k m (pairsQ k p L j)
  | 0, _ => fun x hx => by simp [pairsQ] at hx
  | j + 1, hj => fun x hx => by
    unfold pairsQ at hx
    rcases List.mem_append.1 hx with hx | hx
    · exact pairsQ_ok hm hp h j (by omega) x hx
    · split at hx
      · simp at hx
        subst hx
        have hm' : L.getD j [] ∈ L := by
          rw [List.getD_eq_getElem?_getD, List.getElem?_eq_getElem (by omega)]
          exact List.getElem_mem _
        have h1 := h _ hm'
        exact ⟨hp.1.trans h1.1.symm, by have := hp.1; simp only; omega, by have := hp.1; simp only; omega, hp.2, h1.2, by assumption⟩
      · simp at hx
theorem pairsP_ok {k m : Nat} {L : List (List Int)} (hm : 1 ≤ m) (h : ListsOk k m L) : ∀ i, i ≤ L.length → PairsOk k m (pairsP k L i)
  | 0, _ => fun x hx => by simp [pairsP] at hx
  | i + 1, hi => fun x hx => by
    unfold pairsP at hx
    rcases List.mem_append.1 hx with hx | hx
    · exact pairsP_ok hm h i (by omega) x hx
    · have hm' : L.getD i [] ∈ L := by
        rw [List.getD_eq_getElem?_getD, List.getElem?_eq_getElem (by omega)]
        exact List.getElem_mem _
      exact pairsQ_ok hm (h _ hm') h _ (Nat.le_refl _) x hx
theorem pairsM_ok (k : Nat) : ∀ M, PairsOk k M (pairsM k M)
  | 0 => fun x hx => by simp [pairsM] at hx
  | m + 1 => fun x hx => by
    unfold pairsM at hx
    rcases List.mem_append.1 hx with hx | hx
    · obtain ⟨h1, h2, h3, h4⟩ := pairsM_ok k m x hx
      exact ⟨h1, h2, by omega, h4⟩
    · exact pairsP_ok (by omega) (listsL_ok k (m + 1)) _ (Nat.le_refl _) x hx
theorem pairsM_len {k : Nat} (hk : k ≤ 5) : ∀ M, M ≤ 2 → (pairsM k M).length ≤ 1000
  | 0, _ => by simp [pairsM]
  | 1, _ => by
    have h1 := pairsP_len k (listsL k 1) (listsL k 1).length
    have h2 := listsL_len k 1
    simp only [Nat.pow_one] at h2
    have h3 : (listsL k 1).length * (listsL k 1).length ≤ 5 * 5 := Nat.mul_le_mul (by omega) (by omega)
    simp only [pairsM, List.nil_append, Nat.zero_add]
    omega
  | 2, _ => by
    have h0 := pairsM_len hk 1 (by omega)
    have h1 := pairsP_len k (listsL k 1) (listsL k 1).length
    have h2 := listsL_len k 1
    have h3 : (listsL k 1).length * (listsL k 1).length ≤ 5 * 5 := Nat.mul_le_mul (by simp at h2; omega) (by simp at h2; omega)
    have g1 := pairsP_len k (listsL k 2) (listsL k 2).length
    have g2 := listsL_len k 2
    have g4 : k ^ 2 ≤ 25 := by
      have : k * k ≤ 5 * 5 := Nat.mul_le_mul hk hk
      rw [Nat.pow_two]; omega
    have g3 : (listsL k 2).length * (listsL k 2).length ≤ 25 * 25 := Nat.mul_le_mul (by omega) (by omega)
    have e : (pairsM k 2).length = (pairsM k 1).length + (pairsP k (listsL k 2) (listsL k 2).length).length := by
      show (pairsM k 1 ++ pairsP k (listsL k 2) (listsL k 2).length).length = _
      rw [List.length_append]
    have e1 : pairsM k 1 = pairsP k (listsL k 1) (listsL k 1).length := by
      show [] ++ _ = _
      rw [List.nil_append]
    rw [e1] at e
    omega
  | M + 3, h => by omega

/-- The determinant of the numbers of M in rows p and columns q with the other sign. -/
def circD (M : Int → Int → Int) (p q : List Int) : Int := if p.length % 2 = 1 then -detF M p q else detF M p q
/-- The first pair with a negative minor. -/
def reasonL (M : Int → Int → Int) : List (List Int × List Int) → Option (List Int × List Int)
  | [] => none
  | x :: r => if circD M x.1 x.2 < 0 then some x else reasonL M r
theorem reasonL_take {M : Int → Int → Int} {S : List (List Int × List Int)} (h : ∀ j, (hj : j < S.length) → ¬ circD M S[j].1 S[j].2 < 0) : reasonL M S = none := by
  induction S with
  | nil => rfl
  | cons x r ih =>
    unfold reasonL
    have h0 : ¬ circD M x.1 x.2 < 0 := h 0 (by simp)
    rw [if_neg h0]
    exact ih (fun j hj => h (j + 1) (by simp; omega))
theorem reasonL_at {M : Int → Int → Int} {S : List (List Int × List Int)} {i : Nat} (hi : i < S.length) (h : ∀ j, (hj : j < i) → ¬ circD M (S[j]'(by omega)).1 (S[j]'(by omega)).2 < 0) (hx : circD M S[i].1 S[i].2 < 0) : reasonL M S = some S[i] := by
  induction S generalizing i with
  | nil => simp at hi
  | cons x r ih =>
    cases i with
    | zero => unfold reasonL; rw [if_pos (by simpa using hx)]; rfl
    | succ i =>
      unfold reasonL
      rw [if_neg (by simpa using h 0 (by omega))]
      have := ih (i := i) (by simpa using hi) (fun j hj => by simpa using h (j + 1) (by omega)) (by simpa using hx)
      simpa using this

/-- The entries of a matrix of rows. -/
def entM (R : List (List Int)) (i j : Int) : Int := nth (R.getD i.toNat []) j.toNat
/-- Rows of as many numbers from -1000 to 1000 as there are rows. -/
def rowSq (R : List (List Int)) (i : Nat) : Prop := (R.getD i []).length = R.length ∧ ∀ j, j < (R.getD i []).length → -1000 ≤ nth (R.getD i []) j ∧ nth (R.getD i []) j ≤ 1000
def sqP (R : List (List Int)) : Prop := R.length ≤ 5 ∧ ∀ i, i < R.length → rowSq R i
def entOk (R : List (List Int)) (i j : Nat) : Prop := entM R i j = entM R j i ∧ (i ≠ j → entM R i j ≤ 0)
def sumRow (R : List (List Int)) (i : Nat) : Nat → Int
  | 0 => 0
  | j + 1 => sumRow R i j + entM R i j
def rowWm (R : List (List Int)) (i : Nat) : Prop := (∀ j, j < R.length → entOk R i j) ∧ sumRow R i R.length = 0
def wmP (R : List (List Int)) : Prop := 1 ≤ R.length ∧ sqP R ∧ ∀ i, i < R.length → rowWm R i
theorem sumRow_bd {R : List (List Int)} (h : sqP R) {i : Nat} (hi : i < R.length) : ∀ j, j ≤ R.length → -(1000 * (j : Int)) ≤ sumRow R i j ∧ sumRow R i j ≤ 1000 * (j : Int)
  | 0, _ => by simp [sumRow]
  | j + 1, hj => by
    have h1 := sumRow_bd h hi j (by omega)
    have h2 := (h.2 i hi).2 j (by rw [(h.2 i hi).1]; omega)
    simp only [sumRow, entM, Int.toNat_natCast]
    omega
theorem ent_bd {R : List (List Int)} (h : sqP R) (i j : Int) : absB (entM R i j) 1000 := by
  unfold absB entM
  by_cases hi : i.toNat < R.length
  · obtain ⟨h1, h2⟩ := h.2 _ hi
    by_cases hj : j.toNat < (R.getD i.toNat []).length
    · exact h2 _ hj
    · have : nth (R.getD i.toNat []) j.toNat = 0 := by
        unfold nth
        rw [List.getD_eq_getElem?_getD, List.getElem?_eq_none (by omega)]; rfl
      omega
  · have : R.getD i.toNat [] = [] := by
      rw [List.getD_eq_getElem?_getD, List.getElem?_eq_none (by omega)]; rfl
    have : nth (R.getD i.toNat []) j.toNat = 0 := by rw [this]; simp [nth]
    omega
end Go.Proofs.YtckjkfcphcnpdaaGreat
