/- Plain law: a sorted list of wires is told by its weights. No program in sight. -/
import Derived.Test.YtenfkpdbfmeebaaPlPut
namespace Go.Proofs.Ytenfkpdbfmeebaa

theorem sorted_ext : ∀ {l k : List Wr}, l.Pairwise ltW → k.Pairwise ltW → (∀ e, e ∈ l ↔ e ∈ k) → l = k
  | [], [], _, _, _ => rfl
  | [], y :: k, _, _, h => by have := (h y).2 (by simp); cases this
  | x :: l, [], _, _, h => by have := (h x).1 (by simp); cases this
  | x :: l, y :: k, hl, hk, h => by
    rw [List.pairwise_cons] at hl hk
    have e : x = y := by
      have h1 := (h x).1 (by simp)
      have h2 := (h y).2 (by simp)
      rcases List.mem_cons.1 h1 with h1 | h1
      · exact h1
      · rcases List.mem_cons.1 h2 with h2 | h2
        · exact h2.symm
        · have a1 := hk.1 x h1
          have a2 := hl.1 y h2
          unfold ltW at a1 a2
          omega
    subst e
    rw [sorted_ext hl.2 hk.2 (fun e => ?_)]
    constructor
    · intro he
      rcases List.mem_cons.1 ((h e).1 (List.mem_cons_of_mem _ he)) with h1 | h1
      · have := hl.1 e he
        rw [h1] at this; unfold ltW at this; omega
      · exact h1
    · intro he
      rcases List.mem_cons.1 ((h e).2 (List.mem_cons_of_mem _ he)) with h1 | h1
      · have := hk.1 e he
        rw [h1] at this; unfold ltW at this; omega
      · exact h1
/-- The wires of row i from column a on, c columns. -/
def rowC (f : Nat → Nat → Int) (i a : Nat) : Nat → List Wr
  | 0 => []
  | c + 1 => rowC f i a c ++ (if f i (a + c) = 0 then [] else [⟨(i : Int), ((a + c : Nat) : Int), f i (a + c)⟩])
/-- The wires of the first rows of a table. -/
def tabC (f : Nat → Nat → Int) (k : Nat) : Nat → List Wr
  | 0 => []
  | i + 1 => tabC f k i ++ rowC f i (i + 1) (k - (i + 1))
theorem mem_rowC {f : Nat → Nat → Int} {i a : Nat} {e : Wr} : ∀ {c : Nat}, e ∈ rowC f i a c ↔ ∃ j, a ≤ j ∧ j < a + c ∧ ¬ f i j = 0 ∧ e = ⟨(i : Int), (j : Int), f i j⟩
  | 0 => by
    simp only [rowC, List.not_mem_nil, false_iff]
    rintro ⟨j, h1, h2, _⟩
    omega
  | c + 1 => by
    simp only [rowC, List.mem_append, mem_rowC (c := c)]
    constructor
    · rintro (⟨j, h1, h2, h3, h4⟩ | h)
      · exact ⟨j, h1, by omega, h3, h4⟩
      · split at h
        · cases h
        · rename_i h0
          exact ⟨a + c, by omega, by omega, h0, by simpa using h⟩
    · rintro ⟨j, h1, h2, h3, h4⟩
      by_cases e' : j = a + c
      · subst e'
        right
        rw [if_neg h3]; simpa using h4
      · exact .inl ⟨j, h1, by omega, h3, h4⟩
theorem mem_tabC {f : Nat → Nat → Int} {k : Nat} {e : Wr} : ∀ {t : Nat}, e ∈ tabC f k t ↔ ∃ i j, i < t ∧ i < j ∧ j < k ∧ ¬ f i j = 0 ∧ e = ⟨(i : Int), (j : Int), f i j⟩
  | 0 => by
    simp only [tabC, List.not_mem_nil, false_iff]
    rintro ⟨i, j, h1, _⟩
    omega
  | t + 1 => by
    simp only [tabC, List.mem_append, mem_tabC (t := t), mem_rowC]
    constructor
    · rintro (⟨i, j, h1, h2, h3, h4, h5⟩ | ⟨j, h1, h2, h3, h4⟩)
      · exact ⟨i, j, by omega, h2, h3, h4, h5⟩
      · exact ⟨t, j, by omega, by omega, by omega, h3, h4⟩
    · rintro ⟨i, j, h1, h2, h3, h4, h5⟩
      by_cases e' : i = t
      · subst e'
        exact .inr ⟨j, by omega, by omega, h4, h5⟩
      · exact .inl ⟨i, j, by omega, h2, h3, h4, h5⟩
theorem rowC_sorted (f : Nat → Nat → Int) (i a : Nat) : ∀ c, (rowC f i a c).Pairwise ltW
  | 0 => List.Pairwise.nil
  | c + 1 => by
    simp only [rowC]
    refine List.pairwise_append.2 ⟨rowC_sorted f i a c, by split <;> simp, fun x hx y hy => ?_⟩
    obtain ⟨j, h1, h2, h3, rfl⟩ := mem_rowC.1 hx
    split at hy
    · cases hy
    · have : y = ⟨(i : Int), ((a + c : Nat) : Int), f i (a + c)⟩ := by simpa using hy
      subst this
      right
      exact ⟨rfl, by show (j : Int) < ((a + c : Nat) : Int); omega⟩
theorem tabC_sorted (f : Nat → Nat → Int) (k : Nat) : ∀ t, (tabC f k t).Pairwise ltW
  | 0 => List.Pairwise.nil
  | t + 1 => by
    simp only [tabC]
    refine List.pairwise_append.2 ⟨tabC_sorted f k t, rowC_sorted f t _ _, fun x hx y hy => ?_⟩
    obtain ⟨i, j, h1, h2, h3, h4, rfl⟩ := mem_tabC.1 hx
    obtain ⟨j', g1, g2, g3, rfl⟩ := mem_rowC.1 hy
    left
    show (i : Int) < (t : Int)
    omega
theorem sameS_none {a b : Int} : ∀ {l : List Wr}, (∀ e ∈ l, ¬ (e.a = a ∧ e.b = b)) → sameS a b l = 0
  | [], _ => rfl
  | e :: l, h => by
    simp only [sameS]
    rw [isE_f (h e (by simp)), sameS_none (fun x hx => h x (List.mem_cons_of_mem _ hx))]; rfl
theorem sameS_mem : ∀ {l : List Wr}, l.Pairwise ltW → ∀ {e : Wr}, e ∈ l → sameS e.a e.b l = e.w
  | [], _, e, he => by cases he
  | x :: l, h, e, he => by
    rw [List.pairwise_cons] at h
    simp only [sameS]
    rcases List.mem_cons.1 he with rfl | he
    · rw [isE_t ⟨rfl, rfl⟩, sameS_none (fun y hy hh => by have := h.1 y hy; unfold ltW at this; omega)]; simp
    · have hx := h.1 e he
      rw [isE_f (fun hh => by unfold ltW at hx; omega), sameS_mem h.2 he]; simp
/-- A sorted list of wires is the table of its weights. -/
theorem list_tab {L : List Wr} {k : Nat} (hs : L.Pairwise ltW) (hk : ∀ e ∈ L, 0 ≤ e.a ∧ e.a < e.b ∧ e.b < k ∧ ¬ e.w = 0) : L = tabC (fun i j => sameS i j L) k k := by
  refine sorted_ext hs (tabC_sorted _ _ _) (fun e => ?_)
  rw [mem_tabC]
  constructor
  · intro he
    obtain ⟨h1, h2, h3, h4⟩ := hk e he
    have hw := sameS_mem hs he
    have ea : ((e.a.toNat : Nat) : Int) = e.a := by omega
    have eb : ((e.b.toNat : Nat) : Int) = e.b := by omega
    refine ⟨e.a.toNat, e.b.toNat, by omega, by omega, by omega, ?_, ?_⟩
    · show ¬ sameS _ _ L = 0
      rw [ea, eb, hw]; exact h4
    · simp only [ea, eb, hw]
  · rintro ⟨i, j, h1, h2, h3, h4, rfl⟩
    have : ∃ e ∈ L, e.a = (i : Int) ∧ e.b = (j : Int) := Classical.byContradiction fun hn => h4 (sameS_none (fun e he hh => hn ⟨e, he, hh⟩))
    obtain ⟨e, he, ha, hb⟩ := this
    have hw := sameS_mem hs he
    rw [ha, hb] at hw
    simp only [hw]
    rw [← ha, ← hb]
    exact he
theorem sameS_insW (a b : Int) (x : Wr) : ∀ l : List Wr, sameS a b (insW x l) = sameS a b l + (if isE a b x = true then x.w else 0)
  | [] => by simp [insW, insP, sameS]
  | e :: l => by
    rw [insW_cons]
    split
    · simp only [sameS]; omega
    · simp only [sameS, sameS_insW a b x l]; omega
theorem sameS_dropE (a b c d : Int) : ∀ l : List Wr, sameS a b (dropE c d l) = if a = c ∧ b = d then 0 else sameS a b l
  | [] => by simp [dropE, sameS]
  | e :: l => by
    have ih := sameS_dropE a b c d l
    unfold dropE at *
    rw [List.filter_cons]
    by_cases h : isE c d e = true
    · have h' := isE_of h
      rw [if_neg (by simp [h]), ih]
      by_cases k : a = c ∧ b = d
      · rw [if_pos k, if_pos k]
      · rw [if_neg k, if_neg k]
        simp only [sameS]
        rw [isE_f (fun hh => k ⟨by omega, by omega⟩)]; simp
    · rw [if_pos (by simpa using h)]
      simp only [sameS, ih]
      by_cases k : a = c ∧ b = d
      · rw [if_pos k, if_pos k]
        have : isE a b e = false := by rw [k.1, k.2]; simpa using h
        rw [this]; rfl
      · rw [if_neg k, if_neg k]
/-- The weights when a wire has been added. -/
theorem sameS_putW (l : List Wr) (i j a b w : Int) : sameS i j (putW l a b w true) = sameS i j l + (if i = min a b ∧ j = max a b then w else 0) := by
  unfold putW
  rw [sameS_insW, sameS_dropE]
  by_cases k : i = min a b ∧ j = max a b
  · rw [if_pos k, if_pos k, isE_t (e := ⟨min a b, max a b, _⟩) ⟨k.1.symm, k.2.symm⟩, ← k.1, ← k.2]
    simp; omega
  · rw [if_neg k, if_neg k, isE_f (e := ⟨min a b, max a b, _⟩) (fun h => k ⟨h.1.symm, h.2.symm⟩)]; simp
end Go.Proofs.Ytenfkpdbfmeebaa
