/- Plain law: the sizes of a tiling's squares, sorted and compact. No program in sight. -/
import Derived.Test.YtckjkfcphcnpdaaGreatPlTile
import Derived.Lib.SlicesCompact
import Derived.Lib.RowBridge
namespace Go.Proofs.YtckjkfcphcnpdaaGreat

open Go.RowKit Go.Lib

theorem comp_facts (d : Array Int) (hmono : ∀ i j, i ≤ j → j < d.size → d[i]! ≤ d[j]!) : ∀ m, m ≤ d.size → (compactUpTo d m).Pairwise (· < ·) ∧ (∀ x, x ∈ compactUpTo d m ↔ ∃ i, i < m ∧ d[i]! = x)
  | 0, _ => by simp [compactUpTo]
  | m + 1, hm => by
    obtain ⟨h1, h2⟩ := comp_facts d hmono m (by omega)
    rw [compactUpTo_succ]
    by_cases hk : keeps d m = true
    · rw [if_pos hk]
      simp only [keeps, decide_eq_true_eq] at hk
      refine ⟨List.pairwise_append.2 ⟨h1, by simp, fun x hx y hy => ?_⟩, fun x => ?_⟩
      · simp only [List.mem_cons, List.not_mem_nil, or_false] at hy
        subst hy
        obtain ⟨i, hi, rfl⟩ := (h2 x).1 hx
        have a1 := hmono i (m - 1) (by omega) (by omega)
        have a2 := hmono (m - 1) m (by omega) (by omega)
        rcases hk with h0 | h0
        · omega
        · omega
      · simp only [List.mem_append, List.mem_cons, List.not_mem_nil, or_false, h2]
        constructor
        · rintro (⟨i, hi, rfl⟩ | rfl)
          · exact ⟨i, by omega, rfl⟩
          · exact ⟨m, by omega, rfl⟩
        · rintro ⟨i, hi, rfl⟩
          by_cases e : i = m
          · right; rw [e]
          · left; exact ⟨i, by omega, rfl⟩
    · rw [if_neg hk, List.append_nil]
      refine ⟨h1, fun x => ?_⟩
      rw [h2]
      simp only [keeps, decide_eq_true_eq, not_or, Classical.not_not] at hk
      constructor
      · rintro ⟨i, hi, rfl⟩
        exact ⟨i, by omega, rfl⟩
      · rintro ⟨i, hi, rfl⟩
        by_cases e : i = m
        · exact ⟨m - 1, by omega, by rw [e]; exact hk.2.symm⟩
        · exact ⟨i, by omega, rfl⟩
theorem strict_ext : ∀ (l1 l2 : List Int), l1.Pairwise (· < ·) → l2.Pairwise (· < ·) → (∀ x, x ∈ l1 ↔ x ∈ l2) → l1 = l2
  | [], [], _, _, _ => rfl
  | [], b :: l2, _, _, h => by have := (h b).2 (by simp); simp at this
  | a :: l1, [], _, _, h => by have := (h a).1 (by simp); simp at this
  | a :: l1, b :: l2, h1, h2, h => by
    rw [List.pairwise_cons] at h1 h2
    have e : a = b := by
      rcases List.mem_cons.1 ((h a).1 (by simp)) with e | e
      · exact e
      · rcases List.mem_cons.1 ((h b).2 (by simp)) with e2 | e2
        · exact e2.symm
        · have := h1.1 b e2
          have := h2.1 a e
          omega
    subst e
    congr 1
    refine strict_ext l1 l2 h1.2 h2.2 fun x => ⟨fun hx => ?_, fun hx => ?_⟩
    · rcases List.mem_cons.1 ((h x).1 (List.mem_cons_of_mem _ hx)) with e | e
      · have := h1.1 x hx; omega
      · exact e
    · rcases List.mem_cons.1 ((h x).2 (List.mem_cons_of_mem _ hx)) with e | e
      · have := h2.1 x hx; omega
      · exact e
/-- The numbers from 1 to K that are in l. -/
def inUpto (l : List Int) (K : Nat) : List Int := ((List.range K).map (fun (i : Nat) => (i : Int) + 1)).filter (fun k => decide (k ∈ l))
theorem inUpto_strict (l : List Int) (K : Nat) : (inUpto l K).Pairwise (· < ·) := by
  unfold inUpto
  refine List.Pairwise.filter _ ?_
  rw [List.pairwise_map]
  exact List.pairwise_lt_range.imp (fun h => by omega)
theorem compact_sort (l : List Int) (K : Nat) (h : ∀ x ∈ l, 1 ≤ x ∧ x ≤ K) : compact (l.mergeSort fun x y => decide (x ≤ y)) = inUpto l K := by
  have hp : (l.mergeSort fun x y => decide (x ≤ y)).Pairwise (fun a b => decide (a ≤ b) = true) := List.pairwise_mergeSort (fun a b c h1 h2 => by simp at *; omega) (fun a b => by simp; omega) l
  generalize hL : (l.mergeSort fun x y => decide (x ≤ y)) = L at hp
  have hmem : ∀ x, x ∈ L ↔ x ∈ l := fun x => by rw [← hL]; exact List.mem_mergeSort
  have hmono : ∀ i j, i ≤ j → j < L.toArray.size → L.toArray[i]! ≤ L.toArray[j]! := fun i j hij hj => by
    have hj' : j < L.length := by simpa using hj
    rw [getElem!_pos L.toArray i (by omega), getElem!_pos L.toArray j hj]
    simp only [List.getElem_toArray]
    by_cases e : i = j
    · subst e; omega
    · have := List.pairwise_iff_getElem.1 hp i j (by omega) hj' (by omega)
      simpa using this
  obtain ⟨h1, h2⟩ := comp_facts L.toArray hmono L.length (by simp)
  refine strict_ext _ _ h1 (inUpto_strict l K) fun x => ?_
  unfold compact
  rw [h2]
  simp only [inUpto, List.mem_filter, List.mem_map, List.mem_range, decide_eq_true_eq]
  constructor
  · rintro ⟨i, hi, rfl⟩
    have hm : L.toArray[i]! ∈ l := by
      rw [← hmem, getElem!_pos L.toArray i (by simpa using hi)]
      simp
    have := h _ hm
    exact ⟨⟨(L.toArray[i]!).toNat - 1, by omega, by omega⟩, hm⟩
  · rintro ⟨_, hx⟩
    obtain ⟨i, hi, e⟩ := List.getElem_of_mem ((hmem x).2 hx)
    exact ⟨i, hi, by rw [getElem!_pos L.toArray i (by simpa using hi)]; simpa using e⟩
theorem compact_len (l : List Int) (K : Nat) (h : ∀ x ∈ l, 1 ≤ x ∧ x ≤ K) : (inUpto l K).length ≤ l.length := by
  rw [← compact_sort l K h]
  have := compact_length_le (l.mergeSort fun x y => decide (x ≤ y))
  simpa using this
/-- The sizes of the first k squares. -/
def sqSizes (xs : List Int) (k : Nat) : List Int := (List.range k).map (fun j => ss xs j)
theorem sqSizes_succ (xs : List Int) (k : Nat) : sqSizes xs (k + 1) = sqSizes xs k ++ [ss xs k] := by simp [sqSizes, List.range_succ]
theorem sqSizes_length (xs : List Int) (k : Nat) : (sqSizes xs k).length = k := by simp [sqSizes]
theorem sqSizes_in {xs : List Int} {n : Nat} (h : ∀ k, k < n → okSq xs k) : ∀ x ∈ sqSizes xs n, 1 ≤ x ∧ x ≤ 200 := fun x hx => by
  simp only [sqSizes, List.mem_map, List.mem_range] at hx
  obtain ⟨j, hj, rfl⟩ := hx
  have := h j hj
  unfold okSq at this
  omega
theorem inUpto_succ_t {l : List Int} {K : Nat} (h : ((K : Int) + 1) ∈ l) : inUpto l (K + 1) = inUpto l K ++ [(K : Int) + 1] := by simp [inUpto, List.range_succ, h]
theorem inUpto_succ_f {l : List Int} {K : Nat} (h : ¬ ((K : Int) + 1) ∈ l) : inUpto l (K + 1) = inUpto l K := by simp [inUpto, List.range_succ, h]
theorem inUpto_mem {l : List Int} {K : Nat} {x : Int} (h : x ∈ inUpto l K) : x ≤ K := by
  simp only [inUpto, List.mem_filter, List.mem_map, List.mem_range] at h
  obtain ⟨⟨i, hi, rfl⟩, _⟩ := h
  omega
noncomputable def sizesV (n : Nat) (xs : List Int) : List Int := if tileB n xs = true then inUpto (sqSizes xs n) 200 else []
theorem sizesV_t {n : Nat} {xs : List Int} (h : tileB n xs = true) : sizesV n xs = inUpto (sqSizes xs n) 200 := if_pos h
theorem sizesV_f {n : Nat} {xs : List Int} (h : tileB n xs = false) : sizesV n xs = [] := by unfold sizesV; rw [h]; rfl
noncomputable def equalB (n : Nat) (xs : List Int) : Bool := tileB n xs && decide ((sizesV n xs).length < n)
end Go.Proofs.YtckjkfcphcnpdaaGreat
