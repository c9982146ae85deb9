/- Plain law: a sorted list of wires is told by its weights. No program in sight. The network of a tiling, square by square: plain law. No program in sight. Results read behind two stores. l03Put of the reference: a wire put into a list of wires. No condition. A network in a variable of the call's own. No condition. A region that draws its order: the first n operations under a condition S on the world, then a tail in one forced order. No program in sight. Worlds that differ in one cell; slices of rows that are filled one after another. No condition. -/
import Derived.Test.YtckjkfcphcnpdaaGreatPlPut
import Derived.Test.YtckjkfcphcnpdaaGreatPlNode
import Derived.Test.YtckjkfcphcnpdaaGreatWBase
import Derived.Test.YtckjkfcphcnpdaaGreatWFlat
import Derived.Test.YtckjkfcphcnpdaaGreatWEqInt
import Derived.Test.YtckjkfcphcnpdaaGreatWDet0
import Derived.Test.YtckjkfcphcnpdaaGreatWLaw
import Derived.Maps.AppendAt
namespace Go.Proofs.YtckjkfcphcnpdaaGreat

theorem sorted_ext : ∀ {l k : List Wr}, l.Pairwise ltW → k.Pairwise ltW → (∀ e, e ∈ l ↔ e ∈ k) → l = k
  | [], [], _, _, _ => rfl
  | [], y :: k, _, _, h => by have := (h y).2 (by simp); cases this
  | x :: l, [], _, _, h => by have := (h x).1 (by simp); cases this
  | x :: l, y :: k, hl, hk, h => by
    rw [List.pairwise_cons] at hl hk
    have e : x = y := by
      have h1 := (h x).1 (by simp)
      have h2 := (h y).2 (by simp)
      rcases List.mem_cons.1 h1 with h1 | h1
      · exact h1
      · rcases List.mem_cons.1 h2 with h2 | h2
        · exact h2.symm
        · have a1 := hk.1 x h1
          have a2 := hl.1 y h2
          unfold ltW at a1 a2
          omega
    subst e
    rw [sorted_ext hl.2 hk.2 (fun e => ?_)]
    constructor
    · intro he
      rcases List.mem_cons.1 ((h e).1 (List.mem_cons_of_mem _ he)) with h1 | h1
      · have := hl.1 e he
        rw [h1] at this; unfold ltW at this; omega
      · exact h1
    · intro he
      rcases List.mem_cons.1 ((h e).2 (List.mem_cons_of_mem _ he)) with h1 | h1
      · have := hk.1 e he
        rw [h1] at this; unfold ltW at this; omega
      · exact h1
/-- The wires of row i from column a on, c columns. -/
def rowC (f : Nat → Nat → Int) (i a : Nat) : Nat → List Wr
  | 0 => []
  | c + 1 => rowC f i a c ++ (if f i (a + c) = 0 then [] else [⟨(i : Int), ((a + c : Nat) : Int), f i (a + c)⟩])
/-- The wires of the first rows of a table. -/
def tabC (f : Nat → Nat → Int) (k : Nat) : Nat → List Wr
  | 0 => []
  | i + 1 => tabC f k i ++ rowC f i (i + 1) (k - (i + 1))
theorem mem_rowC {f : Nat → Nat → Int} {i a : Nat} {e : Wr} : ∀ {c : Nat}, e ∈ rowC f i a c ↔ ∃ j, a ≤ j ∧ j < a + c ∧ ¬ f i j = 0 ∧ e = ⟨(i : Int), (j : Int), f i j⟩
  | 0 => by
    simp only [rowC, List.not_mem_nil, false_iff]
    rintro ⟨j, h1, h2, _⟩
    omega
  | c + 1 => by
    simp only [rowC, List.mem_append, mem_rowC (c := c)]
    constructor
    · rintro (⟨j, h1, h2, h3, h4⟩ | h)
      · exact ⟨j, h1, by omega, h3, h4⟩
      · split at h
        · cases h
        · rename_i h0
          exact ⟨a + c, by omega, by omega, h0, by simpa using h⟩
    · rintro ⟨j, h1, h2, h3, h4⟩
      by_cases e' : j = a + c
      · subst e'
        right
        rw [if_neg h3]; simpa using h4
      · exact .inl ⟨j, h1, by omega, h3, h4⟩
theorem mem_tabC {f : Nat → Nat → Int} {k : Nat} {e : Wr} : ∀ {t : Nat}, e ∈ tabC f k t ↔ ∃ i j, i < t ∧ i < j ∧ j < k ∧ ¬ f i j = 0 ∧ e = ⟨(i : Int), (j : Int), f i j⟩
  | 0 => by
    simp only [tabC, List.not_mem_nil, false_iff]
    rintro ⟨i, j, h1, _⟩
    omega
  | t + 1 => by
    simp only [tabC, List.mem_append, mem_tabC (t := t), mem_rowC]
    constructor
    · rintro (⟨i, j, h1, h2, h3, h4, h5⟩ | ⟨j, h1, h2, h3, h4⟩)
      · exact ⟨i, j, by omega, h2, h3, h4, h5⟩
      · exact ⟨t, j, by omega, by omega, by omega, h3, h4⟩
    · rintro ⟨i, j, h1, h2, h3, h4, h5⟩
      by_cases e' : i = t
      · subst e'
        exact .inr ⟨j, by omega, by omega, h4, h5⟩
      · exact .inl ⟨i, j, by omega, h2, h3, h4, h5⟩
theorem rowC_sorted (f : Nat → Nat → Int) (i a : Nat) : ∀ c, (rowC f i a c).Pairwise ltW
  | 0 => List.Pairwise.nil
  | c + 1 => by
    simp only [rowC]
    refine List.pairwise_append.2 ⟨rowC_sorted f i a c, by split <;> simp, fun x hx y hy => ?_⟩
    obtain ⟨j, h1, h2, h3, rfl⟩ := mem_rowC.1 hx
    split at hy
    · cases hy
    · have : y = ⟨(i : Int), ((a + c : Nat) : Int), f i (a + c)⟩ := by simpa using hy
      subst this
      right
      exact ⟨rfl, by show (j : Int) < ((a + c : Nat) : Int); omega⟩
theorem tabC_sorted (f : Nat → Nat → Int) (k : Nat) : ∀ t, (tabC f k t).Pairwise ltW
  | 0 => List.Pairwise.nil
  | t + 1 => by
    simp only [tabC]
    refine List.pairwise_append.2 ⟨tabC_sorted f k t, rowC_sorted f t _ _, fun x hx y hy => ?_⟩
    obtain ⟨i, j, h1, h2, h3, h4, rfl⟩ := mem_tabC.1 hx
    obtain ⟨j', g1, g2, g3, rfl⟩ := mem_rowC.1 hy
    left
    show (i : Int) < (t : Int)
    omega
theorem sameS_none {a b : Int} : ∀ {l : List Wr}, (∀ e ∈ l, ¬ (e.a = a ∧ e.b = b)) → sameS a b l = 0
  | [], _ => rfl
  | e :: l, h => by
    simp only [sameS]
    rw [isE_f (h e (by simp)), sameS_none (fun x hx => h x (List.mem_cons_of_mem _ hx))]; rfl
theorem sameS_mem : ∀ {l : List Wr}, l.Pairwise ltW → ∀ {e : Wr}, e ∈ l → sameS e.a e.b l = e.w
  | [], _, e, he => by cases he
  | x :: l, h, e, he => by
    rw [List.pairwise_cons] at h
    simp only [sameS]
    rcases List.mem_cons.1 he with rfl | he
    · rw [isE_t ⟨rfl, rfl⟩, sameS_none (fun y hy hh => by have := h.1 y hy; unfold ltW at this; omega)]; simp
    · have hx := h.1 e he
      rw [isE_f (fun hh => by unfold ltW at hx; omega), sameS_mem h.2 he]; simp
/-- A sorted list of wires is the table of its weights. -/
theorem list_tab {L : List Wr} {k : Nat} (hs : L.Pairwise ltW) (hk : ∀ e ∈ L, 0 ≤ e.a ∧ e.a < e.b ∧ e.b < k ∧ ¬ e.w = 0) : L = tabC (fun i j => sameS i j L) k k := by
  refine sorted_ext hs (tabC_sorted _ _ _) (fun e => ?_)
  rw [mem_tabC]
  constructor
  · intro he
    obtain ⟨h1, h2, h3, h4⟩ := hk e he
    have hw := sameS_mem hs he
    have ea : ((e.a.toNat : Nat) : Int) = e.a := by omega
    have eb : ((e.b.toNat : Nat) : Int) = e.b := by omega
    refine ⟨e.a.toNat, e.b.toNat, by omega, by omega, by omega, ?_, ?_⟩
    · show ¬ sameS _ _ L = 0
      rw [ea, eb, hw]; exact h4
    · simp only [ea, eb, hw]
  · rintro ⟨i, j, h1, h2, h3, h4, rfl⟩
    have : ∃ e ∈ L, e.a = (i : Int) ∧ e.b = (j : Int) := Classical.byContradiction fun hn => h4 (sameS_none (fun e he hh => hn ⟨e, he, hh⟩))
    obtain ⟨e, he, ha, hb⟩ := this
    have hw := sameS_mem hs he
    rw [ha, hb] at hw
    simp only [hw]
    rw [← ha, ← hb]
    exact he
theorem sameS_insW (a b : Int) (x : Wr) : ∀ l : List Wr, sameS a b (insW x l) = sameS a b l + (if isE a b x = true then x.w else 0)
  | [] => by simp [insW, insP, sameS]
  | e :: l => by
    rw [insW_cons]
    split
    · simp only [sameS]; omega
    · simp only [sameS, sameS_insW a b x l]; omega
theorem sameS_dropE (a b c d : Int) : ∀ l : List Wr, sameS a b (dropE c d l) = if a = c ∧ b = d then 0 else sameS a b l
  | [] => by simp [dropE, sameS]
  | e :: l => by
    have ih := sameS_dropE a b c d l
    unfold dropE at *
    rw [List.filter_cons]
    by_cases h : isE c d e = true
    · have h' := isE_of h
      rw [if_neg (by simp [h]), ih]
      by_cases k : a = c ∧ b = d
      · rw [if_pos k, if_pos k]
      · rw [if_neg k, if_neg k]
        simp only [sameS]
        rw [isE_f (fun hh => k ⟨by omega, by omega⟩)]; simp
    · rw [if_pos (by simpa using h)]
      simp only [sameS, ih]
      by_cases k : a = c ∧ b = d
      · rw [if_pos k, if_pos k]
        have : isE a b e = false := by rw [k.1, k.2]; simpa using h
        rw [this]; rfl
      · rw [if_neg k, if_neg k]
/-- The weights when a wire has been added. -/
theorem sameS_putW (l : List Wr) (i j a b w : Int) : sameS i j (putW l a b w true) = sameS i j l + (if i = min a b ∧ j = max a b then w else 0) := by
  unfold putW
  rw [sameS_insW, sameS_dropE]
  by_cases k : i = min a b ∧ j = max a b
  · rw [if_pos k, if_pos k, isE_t (e := ⟨min a b, max a b, _⟩) ⟨k.1.symm, k.2.symm⟩, ← k.1, ← k.2]
    simp; omega
  · rw [if_neg k, if_neg k, isE_f (e := ⟨min a b, max a b, _⟩) (fun h => k ⟨h.1.symm, h.2.symm⟩)]; simp
end Go.Proofs.YtckjkfcphcnpdaaGreat

namespace Go.Proofs.YtckjkfcphcnpdaaGreat

/-- The nodes of the upper and the lower edge of square k. -/
def nodA (xs : List Int) (L : List (List Int)) (N : Nat) (k : Nat) : Int := nodeF N (idxF (hitImp L (sy xs k) (sx xs k) (ss xs k)) N)
def nodB (xs : List Int) (L : List (List Int)) (N : Nat) (k : Nat) : Int := nodeF N (idxF (hitImp L (sy xs k + ss xs k) (sx xs k) (ss xs k)) N)
def wirT (xs : List Int) (L : List (List Int)) (N : Nat) : Nat → List Wr
  | 0 => []
  | k + 1 => putW (wirT xs L N k) (nodA xs L N k) (nodB xs L N k) 1 true
def tabT (xs : List Int) (L : List (List Int)) (N : Nat) : Nat → Int → Int → Int
  | 0, _, _ => 0
  | k + 1, i, j => tabT xs L N k i j + (if i = min (nodA xs L N k) (nodB xs L N k) ∧ j = max (nodA xs L N k) (nodB xs L N k) then 1 else 0)
theorem tab_same (xs : List Int) (L : List (List Int)) (N : Nat) (i j : Int) : ∀ k, tabT xs L N k i j = sameS i j (wirT xs L N k)
  | 0 => rfl
  | k + 1 => by rw [tabT, wirT, sameS_putW, tab_same xs L N i j k]
theorem tab_bd (xs : List Int) (L : List (List Int)) (N : Nat) (i j : Int) : ∀ k : Nat, 0 ≤ tabT xs L N k i j ∧ tabT xs L N k i j ≤ k
  | 0 => by simp [tabT]
  | k + 1 => by
    have := tab_bd xs L N i j k
    unfold tabT
    split <;> omega
theorem wirT_len (xs : List Int) (L : List (List Int)) (N : Nat) : ∀ k, (wirT xs L N k).length ≤ k
  | 0 => Nat.le_refl _
  | k + 1 => by
    have h1 := wirT_len xs L N k
    have h2 := (putW_len (wirT xs L N k) (nodA xs L N k) (nodB xs L N k) 1 true).1
    rw [wirT]
    omega
theorem sameS_bd {a b : Int} {M : Nat} : ∀ {l : List Wr}, (∀ e ∈ l, 0 ≤ e.w ∧ e.w ≤ M) → 0 ≤ sameS a b l ∧ sameS a b l ≤ ((M * l.length : Nat) : Int)
  | [], _ => by simp [sameS]
  | e :: l, h => by
    have h1 := h e (by simp)
    have h2 := sameS_bd (a := a) (b := b) (l := l) (fun x hx => h x (List.mem_cons_of_mem _ hx))
    have e1 : M * (e :: l).length = M * l.length + M := by rw [List.length_cons, Nat.mul_add, Nat.mul_one]
    rw [e1]
    unfold sameS
    split <;> omega
theorem wirT_w (xs : List Int) (L : List (List Int)) (N : Nat) : ∀ k, ∀ e ∈ wirT xs L N k, 0 ≤ e.w ∧ e.w ≤ k
  | 0, e, he => by cases he
  | k + 1, e, he => by
    rw [wirT] at he
    unfold putW at he
    rcases mem_insW.1 he with rfl | he
    · have := tab_bd xs L N (min (nodA xs L N k) (nodB xs L N k)) (max (nodA xs L N k) (nodB xs L N k)) k
      rw [tab_same] at this
      simp only [if_true]
      omega
    · unfold dropE at he
      rw [List.mem_filter] at he
      have := wirT_w xs L N k e he.1
      omega
theorem wirT_add (xs : List Int) (L : List (List Int)) (N : Nat) (a b : Int) {k n : Nat} (hk : k ≤ n) (hn : n ≤ 12) (j : Nat) : 0 ≤ sameS a b ((wirT xs L N k).take j) ∧ sameS a b ((wirT xs L N k).take j) ≤ 144 := by
  have h := sameS_bd (a := a) (b := b) (M := k) (l := (wirT xs L N k).take j) (fun e he => wirT_w xs L N k e (List.mem_of_mem_take he))
  have h1 := wirT_len xs L N k
  have h2 : ((wirT xs L N k).take j).length ≤ 12 := by rw [List.length_take]; omega
  have h3 : k * ((wirT xs L N k).take j).length ≤ 12 * 12 := Nat.mul_le_mul (by omega) h2
  omega
section
variable {xs : List Int} {n W H N : Nat} {L : List (List Int)}
theorem low_ge2 {xs : List Int} : ∀ {k j : Nat}, j < k → sy xs j + ss xs j ≤ lowSq xs k
  | 0, j, h => by omega
  | k + 1, j, h => by
    simp only [lowSq]
    by_cases e : j = k
    · subst e; omega
    · have := low_ge2 (xs := xs) (k := k) (j := j) (by omega); omega
theorem nod_facts (hok : ∀ k, k < n → okSq xs k) (hW : rightSq xs n = (W : Int)) (hH : lowSq xs n = (H : Int)) (hL : L = levU xs n W (H + 1)) (hN : L.length = N) {k : Nat} (hk : k < n) :
    2 ≤ N ∧ (0 ≤ nodA xs L N k ∧ nodA xs L N k < N) ∧ (0 ≤ nodB xs L N k ∧ nodB xs L N k < N) ∧ nodA xs L N k ≠ nodB xs L N k ∧
    (∃ i : Nat, idxF (hitSeg L (sy xs k) (sx xs k)) N = (i : Int) ∧ nodeF N i = nodA xs L N k) ∧ (∃ i : Nat, idxF (hitSeg L (sy xs k + ss xs k) (sx xs k)) N = (i : Int) ∧ nodeF N i = nodB xs L N k) := by
  subst hN
  obtain ⟨c1, c2, c3, c4, c5, c6⟩ := hok k hk
  have hlo := low_ge2 (xs := xs) (k := n) (j := k) hk
  have side : ∀ y : Int, (sy xs k = y ∨ sy xs k + ss xs k = y) → ∃ i : Nat, idxF (hitImp L y (sx xs k) (ss xs k)) L.length = (i : Int) ∧ idxF (hitSeg L y (sx xs k)) L.length = (i : Int) ∧ i < L.length ∧ r0 L i = y := by
    intro y hy
    obtain ⟨y', rfl⟩ := Int.eq_ofNat_of_zero_le (show 0 ≤ y by omega)
    obtain ⟨i, hi, hh⟩ := hit_some (k := k) hok hW hL hk (y := y') (by omega) hy
    obtain ⟨j, e, _, h2, h3⟩ := first_some (p := hitSeg L (y' : Int) (sx xs k)) L.length 0 ⟨i, by omega, by omega, hh⟩
    refine ⟨j, ?_, e, by omega, ?_⟩
    · unfold idxF
      rw [first_congr (q := hitSeg L (y' : Int) (sx xs k)) L.length 0 (fun i _ hi => hit_same hok hW hL hk hy (by omega))]
      exact e
    · unfold hitSeg at h3
      simp only [Bool.and_eq_true, decide_eq_true_eq] at h3
      exact h3.1.1
  obtain ⟨i, a1, a2, a3, a4⟩ := side (sy xs k) (.inl rfl)
  obtain ⟨j, b1, b2, b3, b4⟩ := side (sy xs k + ss xs k) (.inr rfl)
  have hij : i ≠ j := fun e => by subst e; omega
  have h2 : 2 ≤ L.length := by omega
  have eA : nodA xs L L.length k = nodeF L.length i := by unfold nodA; rw [a1]
  have eB : nodB xs L L.length k = nodeF L.length j := by unfold nodB; rw [b1]
  refine ⟨h2, ?_, ?_, ?_, ⟨i, a2, eA.symm⟩, ⟨j, b2, eB.symm⟩⟩
  · rw [eA]; exact nodeF_bd (by omega) (by omega) (by omega)
  · rw [eB]; exact nodeF_bd (by omega) (by omega) (by omega)
  · rw [eA, eB]
    intro h
    have := nodeF_inj (by omega) (by omega) (by omega) (by omega) (by omega) h
    omega
/-- The wires are in order, and all of them valid. -/
theorem wirT_good (hok : ∀ k, k < n → okSq xs k) (hW : rightSq xs n = (W : Int)) (hH : lowSq xs n = (H : Int)) (hL : L = levU xs n W (H + 1)) (hN : L.length = N) : ∀ k, k ≤ n →
    (wirT xs L N k).Pairwise ltW ∧ ∀ e ∈ wirT xs L N k, 0 ≤ e.a ∧ e.a < e.b ∧ e.b < N ∧ 1 ≤ e.w
  | 0, _ => ⟨List.Pairwise.nil, fun e he => by cases he⟩
  | k + 1, hk => by
    obtain ⟨h1, h2⟩ := wirT_good hok hW hH hL hN k (by omega)
    obtain ⟨_, ⟨a1, a2⟩, ⟨b1, b2⟩, hne, _, _⟩ := nod_facts hok hW hH hL hN (k := k) (by omega)
    have hS : 0 ≤ sameS (min (nodA xs L N k) (nodB xs L N k)) (max (nodA xs L N k) (nodB xs L N k)) (wirT xs L N k) := by
      rw [← tab_same]; exact (tab_bd xs L N _ _ k).1
    rw [wirT]
    unfold putW
    have hd : ∀ e ∈ dropE (min (nodA xs L N k) (nodB xs L N k)) (max (nodA xs L N k) (nodB xs L N k)) (wirT xs L N k), e ∈ wirT xs L N k ∧ ¬ (e.a = min (nodA xs L N k) (nodB xs L N k) ∧ e.b = max (nodA xs L N k) (nodB xs L N k)) := fun e he => by
      unfold dropE at he
      rw [List.mem_filter] at he
      refine ⟨he.1, fun h => ?_⟩
      rw [isE_t h] at he
      simp at he
    refine ⟨insW_sorted ?_ (fun e he => (hd e he).2), fun e he => ?_⟩
    · unfold dropE
      exact h1.filter _
    · rcases mem_insW.1 he with rfl | he
      · simp only [if_true]
        refine ⟨by omega, by omega, by omega, by omega⟩
      · exact h2 e (hd e he).1
/-- The wires are those of the table. -/
theorem wirT_tab (hok : ∀ k, k < n → okSq xs k) (hW : rightSq xs n = (W : Int)) (hH : lowSq xs n = (H : Int)) (hL : L = levU xs n W (H + 1)) (hN : L.length = N) :
    wirT xs L N n = tabC (fun i j => tabT xs L N n i j) N N := by
  obtain ⟨h1, h2⟩ := wirT_good hok hW hH hL hN n (Nat.le_refl _)
  have h := list_tab (k := N) h1 (fun e he => by obtain ⟨a, b, c, d⟩ := h2 e he; exact ⟨a, b, c, by omega⟩)
  have e : (fun (i j : Nat) => tabT xs L N n i j) = fun (i j : Nat) => sameS i j (wirT xs L N n) := by
    funext i j
    exact tab_same xs L N i j n
  rw [e]
  exact h
end
end Go.Proofs.YtckjkfcphcnpdaaGreat

namespace Go.Proofs.YtckjkfcphcnpdaaGreat

open Go.RowKit

theorem froz_allocW {w : World} {o : Obj} {a : Addr} {v : Value} (hc : w.cell? a = some v) (h : w.frozen? a = false) : (w.alloc o).frozen? a = false := Ge.keepF ((Ge.refl w).alloc o) hc h
theorem set_readW {w : World} {a : Addr} {x u : Value} (h : (w.setCell a x).cell? a = some u) : (w.setCell a x).cell? a = some x := by
  cases e : w.cell? a with
  | some z => exact World.cell?_setCell_same w a x e
  | none =>
    exfalso
    simp only [World.setCell, World.cell?, Array.getElem?_modify, if_pos] at h e
    cases hb : w.heap[a.block]? with
    | none => rw [hb] at h; simp at h
    | some o =>
      rw [hb] at h e
      cases o with
      | cells c t f =>
        simp only [Option.map_some] at h
        cases hs : a.spot with
        | some sp => rw [hs] at h; simp at h
        | none =>
          rw [hs] at h e
          simp only [Option.isSome_none, Bool.false_eq_true, if_false] at h e
          have h1 : a.off < c.size := by have := (Array.getElem?_eq_some_iff.1 h).1; simpa using this
          have h2 := Array.getElem?_eq_none_iff.1 e
          omega
      | _ => simp at h
theorem res2W {w : World} {a b : Addr} {x y u v : Value} (h : ((w.setCell a x).setCell b y).cell? a = some u) (k : ((w.setCell a x).setCell b y).cell? b = some v) (hne : b ≠ a) :
    ((w.setCell a x).setCell b y).cell? a = some x ∧ ((w.setCell a x).setCell b y).cell? b = some y := by
  refine ⟨?_, set_readW k⟩
  rw [World.cell?_setCell_other _ _ _ _ hne] at h ⊢
  exact set_readW h

end Go.Proofs.YtckjkfcphcnpdaaGreat

namespace Go.Proofs.YtckjkfcphcnpdaaGreat
set_option maxRecDepth 100000
open Go.ChangeShapes Go.WideShapes Go.ChangeAt Go.RowKit Go.Joins

theorem inf_Wire3 : (Tryz.prog.info? 79).map (fun i => (i.zero, i.size, i.bytes)) = some (some (Value.agg #[.int .i64 0, .int .i64 0, .int .i64 0]), 3, 24) := by kernel_rfl
theorem ap_wire {w : World} {ops : Array Oper} {rest : List Oper} {o : Oper} {a : Act} {Q : Exit → Act → World → Prop} (hgd : o.guard = none) (s x : Operand)
    (ho : o.op = .call { callee := .builtin .append, args := #[s, x], argTypes := #[28, 28] })
    (base : Nat) (v : Value) (n : Nat) (l : List Int) (hs : a.eval s = v) (hown : w.ownsRow base 79 3 v n (icells l))
    (y1 y2 y3 : Int) {b0 : Nat} (hx : a.eval x = .slice (some ⟨b0, 0, none⟩) 1 1) (hb0 : b0 = w.heap.size) (hn : n < 1099511627776) (hbase : base ≤ w.heap.size)
    (h : ∀ v' w', w'.ownsRow base 79 3 v' (n + 1) (icells (l ++ [y1, y2, y3])) → Mine w w' v → (v'.ownBlock = v.ownBlock ∨ ∃ b, v'.ownBlock = some b ∧ w.heap.size ≤ b) → wpList Tryz.prog ops Q rest (a.put o.dst v') w') :
    wpList Tryz.prog ops Q (o :: rest) a (w.alloc (.cells #[.int .i64 y1, .int .i64 y2, .int .i64 y3] 79)) := by
  subst hb0
  obtain ⟨i, hi1, hi2, hi3, hi4⟩ := info_parts inf_Wire3
  refine Go.wpList_append_own_at _ hgd s x 28 ho base 79 i _ 3 24 Tryz.underlying28 hi1 hi2 hi3 hi4 rfl (by decide) v n (icells l) hs (hown.alloc _) ⟨w.heap.size, 0, none⟩ 1 1 [.int .i64 y1, .int .i64 y2, .int .i64 y3] hx rfl ?_ (by simp [Value.oneCell']) (by unfold maxLen; omega) ?_ (by simp; omega) ?_
  · intro j u hu
    have hadd : (⟨w.heap.size, 0, none⟩ : Addr).add j = ⟨w.heap.size, j, none⟩ := by unfold Addr.add; split <;> simp_all
    rw [hadd, cell_of_row (w.alloc (.cells #[.int .i64 y1, .int .i64 y2, .int .i64 y3] 79)) w.heap.size j _ _ (0, 0) (heap_alloc_new w _)]
    simpa using hu
  · have : (n + 1) * 24 ≤ (n + 1) * 100 := Nat.mul_le_mul_left _ (by decide)
    omega
  · intro v' w' h2 h3 _ h5
    refine h v' w' (by simpa [icells] using h2) (Mine.alloc _ h3) ?_
    rcases h5 with h5 | h5
    · exact .inl h5
    · exact .inr ⟨_, h5, by simp⟩
theorem grown_setN (w : World) (b o : Nat) (x : Value) : w.grownBy (w.setCell ⟨b, o, none⟩ x) (some b) := by
  refine ⟨rfl, rfl, rfl, by simp, fun k _ hne => ?_⟩
  have : b ≠ k := fun e => hne (by rw [e])
  simp [World.setCell, Array.getElem?_modify, this]
theorem mine_frozN {w w' : World} {v : Value} (hm : Mine w w' v) {a : Addr} {u : Value} (h : w.cell? a = some u) (hf : w.frozen? a = false) (hne : ∀ k, v.ownBlock = some k → a.block ≠ k) : w'.frozen? a = false := by
  rw [World.frozen?_of_block (World.grownBy.block hm a.block (World.block_lt_of_cell? _ _ h) (fun e => hne _ e.symm rfl))]
  exact hf
/-- The row's block is the first, or a late one. -/
def Blk (v : Value) (z a : Nat) : Prop := v.ownBlock = some z ∨ ∃ b, v.ownBlock = some b ∧ a ≤ b
theorem Blk.next {v v' : Value} {z a b : Nat} (h : Blk v z a) (hz : a ≤ b) (h2 : v'.ownBlock = v.ownBlock ∨ ∃ c, v'.ownBlock = some c ∧ b ≤ c) : Blk v' z a := by
  rcases h2 with h2 | ⟨c, h2, h3⟩
  · unfold Blk; rw [h2]; exact h
  · exact Or.inr ⟨c, h2, by omega⟩
theorem Blk.ne {v : Value} {z a g : Nat} (h : Blk v z a) (h1 : z < g) (h2 : g < a) : ∀ k, v.ownBlock = some k → g ≠ k := fun k hk e => by
  rcases h with h | ⟨b, h, h3⟩
  · rw [h] at hk; cases hk; omega
  · rw [h] at hk; cases hk; omega
theorem flatW_snoc (l : List Wr) (e : Wr) : flatW (l ++ [e]) = flatW l ++ [e.a, e.b, e.w] := by rw [flatW_append]; rfl
theorem take_snocW (l : List Wr) (k : Nat) (h : k < l.length) : l.take (k + 1) = l.take k ++ [nthW l k] := by
  rw [List.take_succ_eq_append_getElem h, nthW_eq l k h]
theorem wire_cells {w : World} {p : Option Addr} {l : List Wr} {n : Nat} (h : ∀ i, i < n * 3 → ∃ b o, p = some ⟨b, o, none⟩ ∧ w.cell? ⟨b, o + i, none⟩ = some (.int .i64 (nth (flatW l) i))) (hn : l.length = n) {k : Nat} (hk : k < n) :
    ∃ b o, p = some ⟨b, o, none⟩ ∧ w.cell? ⟨b, o + k * 3, none⟩ = some (.int .i64 (nthW l k).a) ∧ w.cell? ⟨b, o + k * 3 + 1, none⟩ = some (.int .i64 (nthW l k).b) ∧ w.cell? ⟨b, o + k * 3 + 2, none⟩ = some (.int .i64 (nthW l k).w) := by
  obtain ⟨b, o, hp, c0, c1, c2⟩ := three_cells h hk
  obtain ⟨e0, e1, e2⟩ := flatW_get l k (by omega)
  unfold nth at c0 c1 c2
  rw [e0] at c0
  rw [e1] at c1
  rw [e2] at c2
  exact ⟨b, o, hp, c0, c1, c2⟩
/-- The weight so far. -/
def addS (add : Bool) (A B x : Int) (l : List Wr) : Int := x + (if add = true then sameS A B l else 0)
/-- The first loop of l03Put: what stands behind k rounds. -/
def Put1 (w wr : World) (v : Value) (A B x : Int) (add : Bool) (l : List Wr) (k : Nat) : Prop :=
  wr.ownsRow w.heap.size 79 3 v (dropE A B (l.take k)).length (icells (flatW (dropE A B (l.take k)))) ∧ Blk v w.heap.size (w.heap.size + 2) ∧
  wr.cell? ⟨w.heap.size + 1, 0, none⟩ = some (.int .i64 A) ∧ wr.cell? ⟨w.heap.size + 1, 1, none⟩ = some (.int .i64 B) ∧ wr.cell? ⟨w.heap.size + 1, 2, none⟩ = some (.int .i64 (addS add A B x (l.take k))) ∧
  wr.frozen? ⟨w.heap.size + 1, 2, none⟩ = false ∧ w.heap.size + 2 ≤ wr.heap.size ∧ Ge w wr
theorem Put1.start (w : World) (A B x : Int) (add : Bool) (l : List Wr) : Put1 w ((w.alloc (.cells #[] 79)).alloc (.cells #[.int .i64 A, .int .i64 B, .int .i64 x] 79)) (.slice (some ⟨w.heap.size, 0, none⟩) 0 0) A B x add l 0 := by
  have e : w.heap.size + 1 = (w.alloc (.cells #[] 79)).heap.size := by simp
  refine ⟨Ge.owns (Ge.alloc (Ge.refl _) _) (owns_lit0 _ _ _), Or.inl rfl, cell_new e rfl, cell_new e rfl, ?_, froz_new (v := .int .i64 x) e rfl, by simp, Ge.alloc (Ge.alloc (Ge.refl _) _) _⟩
  have : addS add A B x (l.take 0) = x := by unfold addS; simp [sameS]
  rw [this]
  exact cell_new e rfl
theorem drop_in {A B : Int} {l : List Wr} {k : Nat} (hk : k < l.length) (h : isE A B (nthW l k) = true) : dropE A B (l.take (k + 1)) = dropE A B (l.take k) := by
  rw [take_snocW l k hk, dropE_snoc, if_pos h]
theorem drop_out {A B : Int} {l : List Wr} {k : Nat} (hk : k < l.length) (h : isE A B (nthW l k) = false) : dropE A B (l.take (k + 1)) = dropE A B (l.take k) ++ [nthW l k] := by
  rw [take_snocW l k hk, dropE_snoc, if_neg (by simp [h])]
theorem addS_in {A B x : Int} {l : List Wr} {k : Nat} (hk : k < l.length) (h : isE A B (nthW l k) = true) : addS true A B x (l.take (k + 1)) = addS true A B x (l.take k) + (nthW l k).w := by
  unfold addS
  rw [if_pos rfl, if_pos rfl, take_snocW l k hk, sameS_snoc, if_pos h]; omega
theorem addS_out {A B x : Int} {add : Bool} {l : List Wr} {k : Nat} (hk : k < l.length) (h : isE A B (nthW l k) = false) : addS add A B x (l.take (k + 1)) = addS add A B x (l.take k) := by
  unfold addS
  rw [take_snocW l k hk, sameS_snoc, h]; simp
/-- A round that leaves the list as it is, no weight is added. -/
theorem Put1.skip {w wr : World} {v : Value} {A B x : Int} {l : List Wr} {k : Nat} (h : Put1 w wr v A B x false l k) (hk : k < l.length) (he : isE A B (nthW l k) = true) {wr' : World} (hg : Ge wr wr') : Put1 w wr' v A B x false l (k + 1) := by
  obtain ⟨h1, h2, h3, h4, h5, h6, h7, h8⟩ := h
  refine ⟨by rw [drop_in hk he]; exact hg.owns h1, h2, hg.keep h3, hg.keep h4, ?_, hg.keepF h5 h6, Nat.le_trans h7 hg.size, h8.trans hg⟩
  have e : addS false A B x (l.take (k + 1)) = addS false A B x (l.take k) := by unfold addS; simp
  rw [e]; exact hg.keep h5
/-- A round that adds a weight. -/
theorem Put1.plus {w wr : World} {v : Value} {A B x : Int} {l : List Wr} {k : Nat} (h : Put1 w wr v A B x true l k) (hk : k < l.length) (he : isE A B (nthW l k) = true) {wr' : World} (hg : Ge wr wr') {y : Int} (hy : y = addS true A B x (l.take k) + (nthW l k).w) :
    Put1 w (wr'.setCell ⟨w.heap.size + 1, 2, none⟩ (.int .i64 y)) v A B x true l (k + 1) := by
  obtain ⟨h1, h2, h3, h4, h5, h6, h7, h8⟩ := h
  refine ⟨?_, h2, cell_set2 (by simp) (hg.keep h3), cell_set2 (by simp) (hg.keep h4), ?_, froz_set (hg.keepF h5 h6), by simpa using Nat.le_trans h7 hg.size, Ge.setCell (h8.trans hg) (by simp) _⟩
  · rw [drop_in hk he]
    have h1' := hg.owns h1
    refine h1'.kept (grown_setN wr' (w.heap.size + 1) 2 (.int .i64 y)) ?_
    cases hv : v.ownBlock with
    | none => exact .inl rfl
    | some c => exact .inr (fun e => h2.ne (g := w.heap.size + 1) (by omega) (by omega) c hv (by simpa using e.symm))
  · rw [addS_in hk he, ← hy]
    exact World.cell?_setCell_same _ _ _ (hg.keep h5)
theorem Put1.ge {w wr wr' : World} {v : Value} {A B x : Int} {add : Bool} {l : List Wr} {k : Nat} (h : Put1 w wr v A B x add l k) (hg : Ge wr wr') : Put1 w wr' v A B x add l k := by
  obtain ⟨h1, h2, h3, h4, h5, h6, h7, h8⟩ := h
  exact ⟨hg.owns h1, h2, hg.keep h3, hg.keep h4, hg.keep h5, hg.keepF h5 h6, Nat.le_trans h7 hg.size, h8.trans hg⟩
/-- A round that appends the wire. -/
theorem Put1.app {w wr : World} {v : Value} {A B x : Int} {add : Bool} {l : List Wr} {k : Nat} (h : Put1 w wr v A B x add l k) (hk : k < l.length) (he : isE A B (nthW l k) = false) {wr' w' : World} {v' : Value} (hg : Ge wr wr') (hm : Mine wr' w' v)
    (ho : w'.ownsRow w.heap.size 79 3 v' ((dropE A B (l.take k)).length + 1) (icells (flatW (dropE A B (l.take k)) ++ [(nthW l k).a, (nthW l k).b, (nthW l k).w])))
    (hb : v'.ownBlock = v.ownBlock ∨ ∃ b, v'.ownBlock = some b ∧ wr'.heap.size ≤ b) : Put1 w w' v' A B x add l (k + 1) := by
  obtain ⟨h1, h2, h3, h4, h5, h6, h7, h8⟩ := h
  have ne := h2.ne (g := w.heap.size + 1) (by omega) (by omega)
  have z := hg.size
  refine ⟨?_, h2.next (by omega) hb, mine_cell hm (hg.keep h3) ne, mine_cell hm (hg.keep h4) ne, ?_, ?_, Nat.le_trans h7 (Nat.le_trans z (World.grownBy.size hm)), Ge.mine (h8.trans hg) (hg.owns h1) (Nat.le_refl _) hm⟩
  · rw [drop_out hk he, flatW_snoc]
    simpa using ho
  · rw [addS_out hk he]; exact mine_cell hm (hg.keep h5) ne
  · exact mine_frozN hm (hg.keep h5) (hg.keepF h5 h6) ne
/-- The second loop: what stands behind k rounds. -/
def Put2 (w2 wr : World) (v : Value) (B2 : Nat) (X : Wr) (D : List Wr) (k : Nat) : Prop :=
  wr.ownsRow B2 79 3 v (insP X (D.take k)).1.length (icells (flatW (insP X (D.take k)).1)) ∧ Ge w2 wr
theorem Put2.one {w2 wr wr' w' : World} {v v' : Value} {B2 : Nat} {X : Wr} {D : List Wr} {k : Nat} (h : Put2 w2 wr v B2 X D k) (hk : k < D.length) (hb : w2.heap.size ≤ B2) (hg : Ge wr wr') (hm : Mine wr' w' v)
    (hc : (insP X (D.take k)).2 = true ∨ gtE X.a X.b (nthW D k) = false)
    (ho : w'.ownsRow B2 79 3 v' ((insP X (D.take k)).1.length + 1) (icells (flatW (insP X (D.take k)).1 ++ [(nthW D k).a, (nthW D k).b, (nthW D k).w]))) :
    Put2 w2 w' v' B2 X D (k + 1) ∧ (insP X (D.take (k + 1))).2 = (insP X (D.take k)).2 := by
  have e : insP X (D.take (k + 1)) = ((insP X (D.take k)).1 ++ [nthW D k], (insP X (D.take k)).2) := by
    rw [take_snocW D k hk, insP_snoc]
    rcases hc with hc | hc
    · rw [if_pos hc, hc]
    · by_cases d : (insP X (D.take k)).2 = true
      · rw [if_pos d, d]
      · rw [if_neg d, if_neg (by simp [hc])]
        have : (insP X (D.take k)).2 = false := by simpa using d
        rw [this]
  refine ⟨⟨?_, Ge.mine (h.2.trans hg) (hg.owns h.1) hb hm⟩, by rw [e]⟩
  rw [e]
  simp only [flatW_snoc, List.length_append, List.length_singleton]
  exact ho
theorem Put2.two {w2 wr wr' wa w' : World} {v va v' : Value} {B2 : Nat} {X : Wr} {D : List Wr} {k : Nat} (h : Put2 w2 wr v B2 X D k) (hk : k < D.length) (hb : w2.heap.size ≤ B2) (hg : Ge wr wr') (hm : Mine wr' wa v) (hma : Mine wa w' va)
    (hc : (insP X (D.take k)).2 = false) (hc2 : gtE X.a X.b (nthW D k) = true)
    (hoa : wa.ownsRow B2 79 3 va ((insP X (D.take k)).1.length + 1) (icells (flatW (insP X (D.take k)).1 ++ [X.a, X.b, X.w])))
    (ho : w'.ownsRow B2 79 3 v' ((insP X (D.take k)).1.length + 1 + 1) (icells (flatW (insP X (D.take k)).1 ++ [X.a, X.b, X.w] ++ [(nthW D k).a, (nthW D k).b, (nthW D k).w]))) :
    Put2 w2 w' v' B2 X D (k + 1) ∧ (insP X (D.take (k + 1))).2 = true := by
  have e : insP X (D.take (k + 1)) = ((insP X (D.take k)).1 ++ [X, nthW D k], true) := by
    rw [take_snocW D k hk, insP_snoc, if_neg (by simp [hc]), if_pos hc2]
  refine ⟨⟨?_, Ge.mine (Ge.mine (h.2.trans hg) (hg.owns h.1) hb hm) hoa hb hma⟩, by rw [e]⟩
  rw [e]
  have e2 : (insP X (D.take k)).1 ++ [X, nthW D k] = ((insP X (D.take k)).1 ++ [X]) ++ [nthW D k] := by simp
  simp only
  rw [e2, flatW_snoc, flatW_snoc]
  simpa using ho
theorem Put2.done {w w2 wr : World} {v : Value} {X : Wr} {D : List Wr} {k : Nat} (h : Put2 w2 wr v w2.heap.size X D k) (hk : D.length = k) (hd : (insP X (D.take k)).2 = true) (hw : Ge w w2) : wr.ownsRow w.heap.size 79 3 v (insW X D).length (icells (flatW (insW X D))) ∧ Ge w wr := by
  rw [List.take_of_length_le (by omega)] at hd
  have e : insW X D = (insP X D).1 := by unfold insW; rw [if_pos hd]
  have h1 := h.1
  rw [List.take_of_length_le (by omega)] at h1
  rw [e]
  exact ⟨owns_mono h1 hw.size, hw.trans h.2⟩
theorem Put2.last {w w2 wr w' : World} {v v' : Value} {X : Wr} {D : List Wr} {k : Nat} (h : Put2 w2 wr v w2.heap.size X D k) (hk : D.length = k) (hd : (insP X (D.take k)).2 = false) (hw : Ge w w2) (hm : Mine wr w' v)
    (ho : w'.ownsRow w2.heap.size 79 3 v' ((insP X (D.take k)).1.length + 1) (icells (flatW (insP X (D.take k)).1 ++ [X.a, X.b, X.w]))) : w'.ownsRow w.heap.size 79 3 v' (insW X D).length (icells (flatW (insW X D))) ∧ Ge w w' := by
  rw [List.take_of_length_le (by omega)] at hd ho
  have e : insW X D = (insP X D).1 ++ [X] := by unfold insW; rw [if_neg (by simp [hd])]
  rw [e, flatW_snoc]
  refine ⟨owns_mono (by simpa using ho) hw.size, hw.trans (Ge.mine h.2 h.1 (Nat.le_refl _) hm)⟩
theorem drop_le (A B : Int) (l : List Wr) (k : Nat) (h : l.length ≤ 1000000) : (dropE A B (l.take k)).length ≤ 1000000 := by
  have h1 := dropE_len A B (l.take k)
  have h2 : (l.take k).length ≤ l.length := List.length_take_le' _ _
  omega
theorem ins_le (X : Wr) (D : List Wr) (k : Nat) (h : D.length ≤ 1000000) : (insP X (D.take k)).1.length ≤ 1000001 := by
  have h1 := insP_len X (D.take k)
  have h2 : (D.take k).length ≤ D.length := List.length_take_le' _ _
  split at h1 <;> omega

set_option maxHeartbeats 3200000 in
theorem sL03Put (v : Value) (l : List Wr) (a b x : Int) (add : Bool) (w : World) (hs : SlF w v l.length 3 (flatW l)) (hl : l.length ≤ 1000000)
    (hB : ∀ k, k ≤ l.length → -9000000000000000000 ≤ addS add (min a b) (max a b) x (l.take k) ∧ addS add (min a b) (max a b) x (l.take k) ≤ 9000000000000000000) :
    Calls Tryz.prog 20 #[v, .int .i64 a, .int .i64 b, .int .i64 x, .bool add] w fun e w' => ∃ u, e = .returned u ∧ (w'.ownsRow w.heap.size 79 3 u (putW l a b x add).length (icells (flatW (putW l a b x add))) ∧ Ge w w') := by
  have HPut : Hid (putW l a b x add = insW ⟨min a b, max a b, addS add (min a b) (max a b) x l⟩ (dropE (min a b) (max a b) l)) := rfl
  have HBd := Lib.hid hB
  obtain ⟨n, hn⟩ : ∃ n, l.length = n := ⟨_, rfl⟩
  have HN := Lib.hid hn
  rw [hn] at hl hs
  obtain ⟨p, cap, rfl, hc⟩ := hs.open
  have HC : Hid (∀ wr, Ge w wr → ∀ k, k < n → ∃ b o, p = some ⟨b, o, none⟩ ∧ wr.cell? ⟨b, o + k * 3, none⟩ = some (.int .i64 (nthW l k).a) ∧ wr.cell? ⟨b, o + k * 3 + 1, none⟩ = some (.int .i64 (nthW l k).b) ∧ wr.cell? ⟨b, o + k * 3 + 2, none⟩ = some (.int .i64 (nthW l k).w)) := fun wr g k hk => by
    obtain ⟨b, o, hp, c0, c1, c2⟩ := wire_cells hc hn hk
    exact ⟨b, o, hp, g.keep c0, g.keep c1, g.keep c2⟩
  have HSt := Lib.hid (Put1.start w (min a b) (max a b) x add l)
  clear hs hc hn hB
  go_enter Tryz.func20, Tryz.ntmps20
  go_wp2_with fail
  generalize min a b = A at *
  generalize max a b = B at *
  go_loopw [11, 29] (fun u i wr => ∃ k : Nat, k ≤ n ∧ i = .int .i64 k ∧ Hid (Put1 w wr u A B x add l k)) (fun _ i _ => n - (intOf i).toNat)
  case atStart => exact ⟨0, Nat.zero_le _, rfl, HSt.out⟩
  case round =>
    obtain ⟨k, hk, rfl, HP⟩ := hrel
    obtain ⟨h1, h2, h3, h4, h5, h6, h7, h8⟩ := HP.out
    have z1 : w.heap.size + 1 < wr.heap.size := by omega
    by_cases hlt : k < n
    · obtain ⟨b0, o0, rfl, c0, c1, c2⟩ := HC.out wr h8 k hlt
      have hkl : k < l.length := by rw [HN.out]; exact hlt
      cases he : isE A B (nthW l k) with
      | false =>
        have HApp := Lib.hid (fun wr' w' v' hg hm ho hb => Put1.app HP.out hkl he (wr' := wr') (w' := w') (v' := v') hg hm ho hb)
        have HD := Lib.hid (drop_le A B l k (by rw [HN.out]; exact hl))
        have hne : ¬ ((nthW l k).a = A ∧ (nthW l k).b = B) := fun h => by rw [isE_t h] at he; cases he
        generalize dropE A B (l.take k) = D at *
        generalize nthW l k = E at *
        generalize addS add A B x (l.take k) = Y at *
        obtain ⟨ea, eb, ew⟩ := E
        dsimp only at *
        generalize flatW D = FD at *
        generalize D.length = dn at *
        have ho := h1.alloc (.cells #[.int .i64 ea, .int .i64 eb, .int .i64 ew] 79)
        clear he hkl h1
        by_cases t1 : ea = A
        · have t2 : ¬ eb = B := fun h => hne ⟨t1, h⟩
          have q1 : (ea == A) = true := by simp [t1]
          have q2 : (eb == B) = false := by simp [t2]
          clear t1 t2 hne
          go_wp2_with (at_builtin; refine ap_wire rfl _ _ rfl w.heap.size _ _ _ rfl ho ea eb ew rfl (by simp) (by have := HD.out; omega) (by simp; omega) ?_; intro v' w6 own6 hm6 hb6)
          go_roundw
          case rel => exact ⟨k + 1, by omega, by go_num, HApp.out _ _ _ (Ge.alloc (Ge.refl _) _) hm6 own6 hb6⟩
          case measure => simp [intOf]; omega
        · have q1 : (ea == A) = false := by simp [t1]
          clear t1 hne
          go_wp2_with (at_builtin; refine ap_wire rfl _ _ rfl w.heap.size _ _ _ rfl ho ea eb ew rfl (by simp) (by have := HD.out; omega) (by simp; omega) ?_; intro v' w6 own6 hm6 hb6)
          go_roundw
          case rel => exact ⟨k + 1, by omega, by go_num, HApp.out _ _ _ (Ge.alloc (Ge.refl _) _) hm6 own6 hb6⟩
          case measure => simp [intOf]; omega
      | true =>
        obtain ⟨t1, t2⟩ := isE_of he
        have q1 : ((nthW l k).a == A) = true := by simp [t1]
        have q2 : ((nthW l k).b == B) = true := by simp [t2]
        cases add with
        | false =>
          have HSk := Lib.hid (fun wr' hg => Put1.skip HP.out hkl he (wr' := wr') hg)
          generalize nthW l k = E at *
          obtain ⟨ea, eb, ew⟩ := E
          dsimp only at *
          clear he hkl h1 t1 t2
          go_wp2_with fail
          go_roundw
          case rel => exact ⟨k + 1, by omega, by go_num, HSk.out _ (Ge.alloc (Ge.refl _) _)⟩
          case measure => simp [intOf]; omega
        | true =>
          have HPl := Lib.hid (fun wr' hg y hy => Put1.plus HP.out hkl he (wr' := wr') hg (y := y) hy)
          have b1 := HBd.out (k + 1) (by omega)
          rw [addS_in hkl he] at b1
          generalize addS true A B x (l.take k) = Y at *
          generalize nthW l k = E at *
          obtain ⟨ea, eb, ew⟩ := E
          dsimp only at *
          clear he hkl h1 t1 t2
          go_wp2_with fail
          go_roundw
          case rel => exact ⟨k + 1, by omega, by go_num, Put1.ge (HPl.out _ (Ge.refl _) _ rfl) (Ge.alloc (Ge.refl _) _)⟩
          case measure => simp [intOf]; omega
    · have hkn : k = n := by omega
      subst hkn
      rw [List.take_of_length_le (by rw [HN.out]; exact Nat.le_refl _)] at h1 h5
      have hdl := drop_le A B l l.length (by rw [HN.out]; exact hl)
      rw [List.take_of_length_le (Nat.le_refl _)] at hdl
      have HD := Lib.hid (fun kk => ins_le ⟨A, B, addS add A B x l⟩ (dropE A B l) kk hdl)
      generalize addS add A B x l = Y at *
      generalize dropE A B l = D at *
      have Hs1 := SlF.of_owns h1
      obtain ⟨d, hd⟩ : ∃ d, D.length = d := ⟨_, rfl⟩
      have HDn := Lib.hid hd
      rw [hd] at h1 Hs1 hdl
      obtain ⟨p2, cap2, rfl, hc2⟩ := Hs1.open
      have HC2 : Hid (∀ wq, Ge wr wq → ∀ k, k < d → ∃ b o, p2 = some ⟨b, o, none⟩ ∧ wq.cell? ⟨b, o + k * 3, none⟩ = some (.int .i64 (nthW D k).a) ∧ wq.cell? ⟨b, o + k * 3 + 1, none⟩ = some (.int .i64 (nthW D k).b) ∧ wq.cell? ⟨b, o + k * 3 + 2, none⟩ = some (.int .i64 (nthW D k).w)) := fun wq g k hk => by
        obtain ⟨b, o, hp, c0, c1, c2⟩ := wire_cells hc2 hd hk
        exact ⟨b, o, hp, g.keep c0, g.keep c1, g.keep c2⟩
      have HSt2 : Hid (Put2 wr (wr.alloc (.cells #[] 79)) (.slice (some ⟨wr.heap.size, 0, none⟩) 0 0) wr.heap.size ⟨A, B, Y⟩ D 0) := ⟨owns_lit0 _ _ _, Ge.alloc (Ge.refl _) _⟩
      clear h1 Hs1 hc2 hd h2 h6 HP HBd HC
      go_wp2_with fail
      obtain ⟨wo, hwo⟩ : ∃ wo : World, wo = wr := ⟨_, rfl⟩
      subst hwo
      go_loopw [11, 13, 61] (fun u dn i wr => ∃ k : Nat, k ≤ d ∧ i = .int .i64 k ∧ dn = .bool (insP ⟨A, B, Y⟩ (D.take k)).2 ∧ Hid (Put2 wo wr u wo.heap.size ⟨A, B, Y⟩ D k)) (fun _ _ i _ => d - (intOf i).toNat)
      case atStart => exact ⟨0, Nat.zero_le _, rfl, rfl, HSt2.out⟩
      case round =>
        obtain ⟨k, hk2, rfl, rfl, HP2⟩ := hrel
        obtain ⟨g1, g2⟩ := HP2.out
        have x0 := g2.keep h3
        have x1 := g2.keep h4
        have x2 := g2.keep h5
        have z2 : w.heap.size + 1 < wr.heap.size := Nat.lt_of_lt_of_le z1 g2.size
        have z3 := g2.size
        have HI := Lib.hid (HD.out k)
        by_cases hlt2 : k < d
        · obtain ⟨b1, o1, rfl, c0, c1, c2⟩ := HC2.out wr g2 k hlt2
          have hkd : k < D.length := by rw [HDn.out]; exact hlt2
          cases hdn : (insP ⟨A, B, Y⟩ (D.take k)).2 with
          | true =>
            have HOne := Lib.hid (fun wr' w' v' hg hm ho => Put2.one HP2.out hkd (Nat.le_refl _) (wr' := wr') (w' := w') (v' := v') hg hm (Or.inl hdn) ho)
            rw [hdn] at HOne
            generalize nthW D k = E at *
            obtain ⟨ea, eb, ew⟩ := E
            dsimp only at *
            generalize (insP ⟨A, B, Y⟩ (D.take k)).1.length = il at *
            generalize flatW (insP ⟨A, B, Y⟩ (D.take k)).1 = FI at *
            have ho1 := g1.alloc (.cells #[.int .i64 ea, .int .i64 eb, .int .i64 ew] 79)
            clear hkd hdn g1
            go_wp2_with (at_builtin; refine ap_wire rfl _ _ rfl wo.heap.size _ _ _ rfl ho1 ea eb ew rfl (by simp) (by have := HI.out; omega) (by simp; omega) ?_; intro v' w6 own6 hm6 hb6)
            go_roundw
            case rel => exact ⟨k + 1, by omega, by go_num, by rw [(HOne.out _ _ _ (Ge.alloc (Ge.refl _) _) hm6 own6).2], (HOne.out _ _ _ (Ge.alloc (Ge.refl _) _) hm6 own6).1⟩
            case measure => simp [intOf]; omega
          | false =>
            cases hg : gtE A B (nthW D k) with
            | false =>
              have HOne := Lib.hid (fun wr' w' v' hg1 hm ho => Put2.one HP2.out hkd (Nat.le_refl _) (wr' := wr') (w' := w') (v' := v') hg1 hm (Or.inr hg) ho)
              rw [hdn] at HOne
              have hng : ¬ (A < (nthW D k).a ∨ (nthW D k).a = A ∧ B < (nthW D k).b) := fun h => by rw [gtE_t h] at hg; cases hg
              generalize nthW D k = E at *
              obtain ⟨ea, eb, ew⟩ := E
              dsimp only at *
              generalize (insP ⟨A, B, Y⟩ (D.take k)).1.length = il at *
              generalize flatW (insP ⟨A, B, Y⟩ (D.take k)).1 = FI at *
              have ho1 := g1.alloc (.cells #[.int .i64 ea, .int .i64 eb, .int .i64 ew] 79)
              have q1 : decide (A < ea) = false := by simp; omega
              have q1' : ¬ A < ea := by omega
              clear hkd hdn g1 hg
              by_cases t1 : ea = A
              · have q2 : (ea == A) = true := by simp [t1]
                have q3 : decide (B < eb) = false := by simp; omega
                have q3' : ¬ B < eb := by omega
                clear t1 hng
                go_wp2_with (at_builtin; refine ap_wire rfl _ _ rfl wo.heap.size _ _ _ rfl ho1 ea eb ew rfl (by simp) (by have := HI.out; omega) (by simp; omega) ?_; intro v' w6 own6 hm6 hb6)
                go_roundw
                case rel => exact ⟨k + 1, by omega, by go_num, by rw [(HOne.out _ _ _ (Ge.alloc (Ge.refl _) _) hm6 own6).2], (HOne.out _ _ _ (Ge.alloc (Ge.refl _) _) hm6 own6).1⟩
                case measure => simp [intOf]; omega
              · have q2 : (ea == A) = false := by simp [t1]
                clear t1 hng
                go_wp2_with (at_builtin; refine ap_wire rfl _ _ rfl wo.heap.size _ _ _ rfl ho1 ea eb ew rfl (by simp) (by have := HI.out; omega) (by simp; omega) ?_; intro v' w6 own6 hm6 hb6)
                go_roundw
                case rel => exact ⟨k + 1, by omega, by go_num, by rw [(HOne.out _ _ _ (Ge.alloc (Ge.refl _) _) hm6 own6).2], (HOne.out _ _ _ (Ge.alloc (Ge.refl _) _) hm6 own6).1⟩
                case measure => simp [intOf]; omega
            | true =>
              have HTwo := Lib.hid (fun wr' wa w' va v' hg1 hm hma hoa ho => Put2.two HP2.out hkd (Nat.le_refl _) (wr' := wr') (wa := wa) (w' := w') (va := va) (v' := v') hg1 hm hma hdn hg hoa ho)
              have hyg := gtE_of hg
              generalize nthW D k = E at *
              obtain ⟨ea, eb, ew⟩ := E
              dsimp only at *
              generalize (insP ⟨A, B, Y⟩ (D.take k)).1.length = il at *
              generalize flatW (insP ⟨A, B, Y⟩ (D.take k)).1 = FI at *
              have ho1 := g1.alloc (.cells #[.int .i64 ea, .int .i64 eb, .int .i64 ew] 79)
              have NB := Lib.hid (behind_row g1 (Nat.le_refl _))
              have E0 : Hid ((wr.alloc (.cells #[.int .i64 ea, .int .i64 eb, .int .i64 ew] 79)).cell? ⟨wr.heap.size, 0, none⟩ = some (.int .i64 ea)) := cell_new rfl rfl
              have E1 : Hid ((wr.alloc (.cells #[.int .i64 ea, .int .i64 eb, .int .i64 ew] 79)).cell? ⟨wr.heap.size, 1, none⟩ = some (.int .i64 eb)) := cell_new rfl rfl
              have E2 : Hid ((wr.alloc (.cells #[.int .i64 ea, .int .i64 eb, .int .i64 ew] 79)).cell? ⟨wr.heap.size, 2, none⟩ = some (.int .i64 ew)) := cell_new rfl rfl
              clear hkd hdn g1 hg
              by_cases t0 : A < ea
              · have q1 : decide (A < ea) = true := by simp [t0]
                clear hyg
                go_wp2_with (first
                  | (at_builtin; refine ap_wire rfl _ _ rfl wo.heap.size _ _ _ rfl ho1 A B Y rfl (by simp) (by have := HI.out; omega) (by simp; omega) ?_; intro va wa owna hma hba; clear ho1; have e0 := mine_cell hma E0.out NB.out; have e1 := mine_cell hma E1.out NB.out; have e2 := mine_cell hma E2.out NB.out; have za : wo.heap.size ≤ wa.heap.size := by (have := World.grownBy.size hma; simp at this; omega))
                  | (at_builtin; refine ap_wire rfl _ _ rfl wo.heap.size _ _ _ rfl owna ea eb ew rfl rfl (by have := HI.out; omega) za ?_; intro v' w6 own6 hm6 hb6))
                go_roundw
                case rel => exact ⟨k + 1, by omega, by go_num, by rw [(HTwo.out _ _ _ _ _ (Ge.alloc (Ge.refl _) _) hma hm6 owna own6).2], (HTwo.out _ _ _ _ _ (Ge.alloc (Ge.refl _) _) hma hm6 owna own6).1⟩
                case measure => simp [intOf]; omega
              · have q1 : decide (A < ea) = false := by simp; omega
                obtain ⟨t1, t2⟩ : ea = A ∧ B < eb := by omega
                have q2 : (ea == A) = true := by simp [t1]
                have q3 : decide (B < eb) = true := by simp [t2]
                clear hyg t1
                go_wp2_with (first
                  | (at_builtin; refine ap_wire rfl _ _ rfl wo.heap.size _ _ _ rfl ho1 A B Y rfl (by simp) (by have := HI.out; omega) (by simp; omega) ?_; intro va wa owna hma hba; clear ho1; have e0 := mine_cell hma E0.out NB.out; have e1 := mine_cell hma E1.out NB.out; have e2 := mine_cell hma E2.out NB.out; have za : wo.heap.size ≤ wa.heap.size := by (have := World.grownBy.size hma; simp at this; omega))
                  | (at_builtin; refine ap_wire rfl _ _ rfl wo.heap.size _ _ _ rfl owna ea eb ew rfl rfl (by have := HI.out; omega) za ?_; intro v' w6 own6 hm6 hb6))
                go_roundw
                case rel => exact ⟨k + 1, by omega, by go_num, by rw [(HTwo.out _ _ _ _ _ (Ge.alloc (Ge.refl _) _) hma hm6 owna own6).2], (HTwo.out _ _ _ _ _ (Ge.alloc (Ge.refl _) _) hma hm6 owna own6).1⟩
                case measure => simp [intOf]; omega
        · have hkn : k = d := by omega
          subst hkn
          cases hdn : (insP ⟨A, B, Y⟩ (D.take k)).2 with
          | true =>
            have HF := Lib.hid (Put2.done HP2.out HDn.out hdn h8)
            clear hdn g1
            go_wp2_with fail
            go_ret
            exact ⟨_, rfl, by rw [HPut.out]; exact HF.out⟩
          | false =>
            have HLast := Lib.hid (fun w' v' hm ho => Put2.last HP2.out HDn.out hdn h8 (w' := w') (v' := v') hm ho)
            generalize (insP ⟨A, B, Y⟩ (D.take k)).1.length = il at *
            generalize flatW (insP ⟨A, B, Y⟩ (D.take k)).1 = FI at *
            clear hdn
            go_wp2_with (at_builtin; refine ap_wire rfl _ _ rfl wo.heap.size _ _ _ rfl g1 A B Y rfl rfl (by have := HI.out; omega) z3 ?_; intro v' w6 own6 hm6 hb6)
            go_ret
            exact ⟨_, rfl, by rw [HPut.out]; exact HLast.out _ _ hm6 own6⟩
end Go.Proofs.YtckjkfcphcnpdaaGreat

namespace Go.Proofs.YtckjkfcphcnpdaaGreat
set_option maxRecDepth 100000
open Go.ChangeShapes Go.WideShapes Go.ChangeAt Go.RowKit Go.Joins

/-- A network in a variable of the call's own, and the result's block. -/
structure NetAt (w : World) (R G : Nat) (n : Nat) (E S : Int) (v : Value) (l : List Wr) : Prop where
  c0 : w.cell? ⟨G, 0, none⟩ = some (.int .i64 (n : Int))
  c1 : w.cell? ⟨G, 1, none⟩ = some (.int .i64 E)
  c2 : w.cell? ⟨G, 2, none⟩ = some (.int .i64 S)
  c3 : w.cell? ⟨G, 3, none⟩ = some v
  f3 : w.frozen? ⟨G, 3, none⟩ = false
  own : w.ownsRow (G + 1) 79 3 v l.length (icells (flatW l))
  res : ∀ i, i < 4 → ∃ u, w.cell? ⟨R, i, none⟩ = some u ∧ w.frozen? ⟨R, i, none⟩ = false
theorem NetAt.ge {w w' : World} {R G n : Nat} {E S : Int} {v : Value} {l : List Wr} (h : NetAt w R G n E S v l) (hg : Ge w w') : NetAt w' R G n E S v l :=
  ⟨hg.keep h.c0, hg.keep h.c1, hg.keep h.c2, hg.keep h.c3, hg.keepF h.c3 h.f3, hg.owns h.own, fun i hi => by obtain ⟨u, h1, h2⟩ := h.res i hi; exact ⟨u, hg.keep h1, hg.keepF h1 h2⟩⟩
theorem NetAt.put {w : World} {R G n : Nat} {E S : Int} {v v' : Value} {l l' : List Wr} (h : NetAt w R G n E S v l) (hR : R < G) (ho : w.ownsRow (G + 1) 79 3 v' l'.length (icells (flatW l'))) : NetAt (w.setCell ⟨G, 3, none⟩ v') R G n E S v' l' :=
  ⟨cell_set2 (by simp) h.c0, cell_set2 (by simp) h.c1, cell_set2 (by simp) h.c2, World.cell?_setCell_same _ _ _ h.c3, froz_set h.f3, by
    refine ho.kept (grown_setN w G 3 v') ?_
    cases hv : v'.ownBlock with
    | none => exact .inl rfl
    | some k =>
      right
      intro e'
      have := (ho.lt k hv).1
      simp at e'
      omega, fun i hi => by
    obtain ⟨u, h1, h2⟩ := h.res i hi
    exact ⟨u, cell_set2 (fun e => by have := congrArg Addr.block e; simp at this; omega) h1, froz_set h2⟩⟩
/-- A block of four cells that may be written. -/
def ResD (w : World) (R : Nat) : Prop := ∀ i, i < 4 → ∃ u, w.cell? ⟨R, i, none⟩ = some u ∧ w.frozen? ⟨R, i, none⟩ = false
theorem ResD.new (w : World) (v0 v1 v2 v3 : Value) (t : TypeId) : ResD (w.alloc (.cells #[v0, v1, v2, v3] t)) w.heap.size := fun i hi => by
  have k : ∃ u, (#[v0, v1, v2, v3] : Array Value)[i]? = some u := ⟨_, Array.getElem?_eq_getElem (by simpa using hi)⟩
  obtain ⟨u, hu⟩ := k
  exact ⟨u, cell_new rfl hu, froz_new rfl hu⟩
theorem ResD.ge {w w' : World} {R : Nat} (h : ResD w R) (hg : Ge w w') : ResD w' R := fun i hi => by
  obtain ⟨u, h1, h2⟩ := h i hi
  exact ⟨u, hg.keep h1, hg.keepF h1 h2⟩
theorem NetAt.start {w : World} {R n : Nat} {E S : Int} (hr : ResD w R) : NetAt (w.alloc (.cells #[.int .i64 (n : Int), .int .i64 E, .int .i64 S, .slice none 0 0] 30)) R w.heap.size n E S (.slice none 0 0) [] :=
  ⟨cell_new rfl rfl, cell_new rfl rfl, cell_new rfl rfl, cell_new rfl rfl, froz_new rfl (v := .slice none 0 0) rfl, ⟨rfl, .inl ⟨rfl, rfl⟩⟩, hr.ge (Ge.alloc (Ge.refl _) _)⟩
theorem NetAt.setE {w : World} {R G n : Nat} {E S E' : Int} {v : Value} {l : List Wr} (h : NetAt w R G n E S v l) (hR : R < G) : NetAt (w.setCell ⟨G, 1, none⟩ (.int .i64 E')) R G n E' S v l :=
  ⟨cell_set2 (by simp) h.c0, World.cell?_setCell_same _ _ _ h.c1, cell_set2 (by simp) h.c2, cell_set2 (by simp) h.c3, froz_set h.f3, by
    refine h.own.kept (grown_setN w G 1 _) ?_
    cases hv : v.ownBlock with
    | none => exact .inl rfl
    | some k =>
      right
      intro e'
      have := (h.own.lt k hv).1
      simp at e'
      omega, fun i hi => by
    obtain ⟨u, h1, h2⟩ := h.res i hi
    exact ⟨u, cell_set2 (fun e => by have := congrArg Addr.block e; simp at this; omega) h1, froz_set h2⟩⟩
theorem own_setD {w : World} {base e sz n R i : Nat} {v x : Value} {xs : List Value} (h : w.ownsRow base e sz v n xs) (hR : R < base) : (w.setCell ⟨R, i, none⟩ x).ownsRow base e sz v n xs := by
  refine h.kept (grown_setN w R i x) ?_
  cases hv : v.ownBlock with
  | none => exact .inl rfl
  | some k =>
    right
    intro e'
    have := (h.lt k hv).1
    simp at e'
    omega
theorem NetAt.app {w w1 w8 : World} {R G n : Nat} {E S : Int} {v v8 : Value} {l : List Wr} {x : Wr} (h : NetAt w R G n E S v l) (hR : R < G) (hg : Ge w w1) (hm : Mine w1 w8 v)
    (ho : w8.ownsRow (G + 1) 79 3 v8 (l.length + 1) (icells (flatW l ++ [x.a, x.b, x.w]))) :
    NetAt (w8.setCell ⟨G, 3, none⟩ v8) R G n E S v8 (l ++ [x]) ∧ w8.cell? ⟨G, 3, none⟩ = some v ∧ w8.frozen? ⟨G, 3, none⟩ = false := by
  have h1 := h.ge hg
  have nG := before_row h1.own (b := G) (by omega)
  have nR := before_row h1.own (b := R) (by omega)
  have k3 := mine_cell hm h1.c3 nG
  have kf := mine_frozN hm h1.c3 h1.f3 nG
  refine ⟨⟨cell_set2 (by simp) (mine_cell hm h1.c0 nG), cell_set2 (by simp) (mine_cell hm h1.c1 nG), cell_set2 (by simp) (mine_cell hm h1.c2 nG), World.cell?_setCell_same _ _ _ k3, froz_set kf, ?_, fun i hi => ?_⟩, k3, kf⟩
  · have : (l ++ [x]).length = l.length + 1 := by simp
    rw [this, flatW_snoc]
    exact own_setD ho (by omega)
  · obtain ⟨u, r1, r2⟩ := h1.res i hi
    exact ⟨u, cell_set2 (fun e => by have := congrArg Addr.block e; simp at this; omega) (mine_cell hm r1 nR), froz_set (mine_frozN hm r1 r2 nR)⟩
theorem NetAt.setS {w : World} {R G n : Nat} {E S S' : Int} {v : Value} {l : List Wr} (h : NetAt w R G n E S v l) (hR : R < G) : NetAt (w.setCell ⟨G, 2, none⟩ (.int .i64 S')) R G n E S' v l :=
  ⟨cell_set2 (by simp) h.c0, cell_set2 (by simp) h.c1, World.cell?_setCell_same _ _ _ h.c2, cell_set2 (by simp) h.c3, froz_set h.f3, own_setD h.own (by omega), fun i hi => by
    obtain ⟨u, h1, h2⟩ := h.res i hi
    exact ⟨u, cell_set2 (fun e => by have := congrArg Addr.block e; simp at this; omega) h1, froz_set h2⟩⟩
theorem NetAt.setW {w : World} {R G n q m cap j : Nat} {E S : Int} {l l' : List Wr} {x : Int} (h : NetAt w R G n E S (.slice (some ⟨q, 0, none⟩) m cap) l) (hR : R < G) (hm : l.length = m) (hl : l'.length = m) (hf : flatW l' = (flatW l).set j x) :
    NetAt (w.setCell ⟨q, j, none⟩ (.int .i64 x)) R G n E S (.slice (some ⟨q, 0, none⟩) m cap) l' ∧ G < q := by
  subst hm
  have hs := h.own.stored j (.int .i64 x)
  have hq := (h.own.lt q rfl).1
  have k : ∀ i : Nat, (⟨q, j, none⟩ : Addr) ≠ ⟨G, i, none⟩ := fun i e => by have := congrArg Addr.block e; simp at this; omega
  refine ⟨⟨cell_set2 (k 0) h.c0, cell_set2 (k 1) h.c1, cell_set2 (k 2) h.c2, cell_set2 (k 3) h.c3, froz_set h.f3, ?_, fun i hi => ?_⟩, by omega⟩
  · rw [hl, hf, ← icells_set]
    exact hs.1
  · obtain ⟨u, h1, h2⟩ := h.res i hi
    exact ⟨u, cell_set2 (fun e => by have := congrArg Addr.block e; simp at this; omega) h1, froz_set h2⟩
end Go.Proofs.YtckjkfcphcnpdaaGreat

namespace Go.Proofs.YtckjkfcphcnpdaaGreat

open Go

section
variable {P : Program} {ops : Array Oper} {Q : Exit → Act → World → Prop} {md : Region.Mode} {S : World → Prop}

/-- Whatever order the first n operations take: S holds behind each, and at their end L. -/
def wpAnyT (P : Program) (md : Region.Mode) (ops : Array Oper) (Q : Exit → Act → World → Prop) (S : World → Prop) (n : Nat) (L : Array Bool → Act → World → Prop) : Nat → Array Bool → Act → World → Prop
  | 0, listed, a, w => L listed a w
  | f + 1, listed, a, w => Region.ready md ops listed ≠ [] ∧ ∀ i ∈ Region.ready md ops listed, i < n ∧ wpOp P ops Q i (fun a' w' => S w' ∧ wpAnyT P md ops Q S n L f (listed.setIfInBounds i true) a' w') a w

theorem wpAny_of_T {n g : Nat} {L : Array Bool → Act → World → Prop} (hL : ∀ listed a w, L listed a w → wpAny P md ops Q g listed a w) :
    ∀ (f : Nat) (listed : Array Bool) (a : Act) (w : World), wpAnyT P md ops Q S n L f listed a w → wpAny P md ops Q (f + g) listed a w
  | 0, listed, a, w, h => by rw [Nat.zero_add]; exact hL _ _ _ h
  | f + 1, listed, a, w, h => by
    rw [show f + 1 + g = (f + g) + 1 by omega]
    exact ⟨fun h0 => absurd h0 h.1, fun i hi => wpOp_mono (fun a' w' h' => wpAny_of_T hL f _ a' w' h'.2) (h.2 i hi).2⟩

theorem wpAnyT_first {n i : Nat} {oi : Oper} {v : Value} {L : Array Bool → Act → World → Prop} (hi : ops[i]? = some oi) (hsel : ∀ (j : Nat) (o : Oper) cs b, ops[j]? = some o → o.op ≠ .select cs b)
    (hQ : ∀ c a w, Q (.panic c) (a.put oi.dst v) w → Q (.panic c) a w)
    (hs : Region.sinkB md ops n = true) (hc : Region.chainB md ops n = true) (hn : n < ops.size) (hin : i < n)
    (hdone : ∀ listed a w, L listed a w → ∀ j ∈ Region.ready md ops listed, n ≤ j) :
    ∀ (f : Nat) (listed : Array Bool) (a : Act) (w : World), HeadInv md ops n listed →
      (∀ j oj, ops[j]? = some oj → j ≠ i → listed.getD j true = false → (∀ e ∈ oj.after, Region.binds md e = true → e.on ≠ i) → oi.apart ops oj = true) →
      i ∈ Region.ready md ops listed → YieldsIf P ops S oi v a → S w →
      wpAnyT P md ops Q S n L f (listed.setIfInBounds i true) (a.put oi.dst v) w → wpAnyT P md ops Q S n L (f + 1) listed a w := by
  intro f
  induction f with
  | zero =>
    intro listed a w inv _ hr hy hS H
    have hun := (mem_ready.1 hr).1
    refine ⟨fun h => (by rw [h] at hr; cases hr), fun j hj => ?_⟩
    have hjn : j < n := by
      rcases Nat.lt_or_ge j n with h | h
      · exact h
      · exact absurd hj (tail_waits hs hc hn inv _ i rfl hin hun j h)
    refine ⟨hjn, ?_⟩
    by_cases hji : j = i
    · subst hji; exact hy.wpOp hi hS ⟨hS, H⟩
    · have := hdone _ _ _ H j (ready_mono hj hji)
      omega
  | succ f ih =>
    intro listed a w inv hfree hr hy hS H
    have hun := (mem_ready.1 hr).1
    refine ⟨fun h => (by rw [h] at hr; cases hr), fun j hj => ?_⟩
    have hjn : j < n := by
      rcases Nat.lt_or_ge j n with h | h
      · exact h
      · exact absurd hj (tail_waits hs hc hn inv _ i rfl hin hun j h)
    refine ⟨hjn, ?_⟩
    by_cases hji : j = i
    · subst hji; exact hy.wpOp hi hS ⟨hS, H⟩
    · have h1 := (H.2 j (ready_mono hj hji)).2
      obtain ⟨hjun, oj, hoj, hall⟩ := mem_ready.1 hj
      have hnot : ∀ e ∈ oj.after, Region.binds md e = true → e.on ≠ i := fun e he hb heq => by
        have h1 := hall e he hb
        rw [heq, getD_both hun] at h1
        cases h1
      have h2 := wpOp_putIf hoj (hfree j oj hoj hji hjun hnot) (fun cs b => hsel i oi cs b hi) (fun cs b => hsel j oj cs b hoj) hQ hy h1
      have hfree' : ∀ k ok, ops[k]? = some ok → k ≠ i → (listed.setIfInBounds j true).getD k true = false →
          (∀ e ∈ ok.after, Region.binds md e = true → e.on ≠ i) → oi.apart ops ok = true := fun k ok hk hki hun hno => by
        refine hfree k ok hk hki ?_ hno
        by_cases hjk : j = k
        · subst hjk; exact hjun
        · rw [getD_set_ne true hjk] at hun; exact hun
      refine wpOp_mono (fun a' w' h3 => ⟨h3.2.1, ih (listed.setIfInBounds j true) a' w' (inv.set hj hjn) hfree' (ready_mono hr (Ne.symm hji)) h3.1 h3.2.1 ?_⟩) h2
      rw [Array.setIfInBounds_comm _ _ hji]
      exact h3.2.2
end

section
variable {P : Program} {l : List Oper} {Q : Exit → Act → World → Prop} {S : World → Prop}

/-- The head's end. -/
def TailAt (P : Program) (l : List Oper) (Q : Exit → Act → World → Prop) (n : Nat) (listed : Array Bool) (a : Act) (w : World) : Prop :=
  Region.seqB .any l.toArray (l.length - n) n listed = true ∧ wpList P l.toArray Q (l.drop n) a w
/-- What the tactics carry: the head's invariant is at hand. -/
def Head (P : Program) (l : List Oper) (Q : Exit → Act → World → Prop) (S : World → Prop) (n f : Nat) (listed : Array Bool) (a : Act) (w : World) : Prop :=
  HeadInv .any l.toArray n listed → wpAnyT P .any l.toArray Q S n (TailAt P l Q n) f listed a w
/-- All that is asked of the region's form. -/
def okTail (l : List Oper) (n : Nat) : Bool := Region.noSelect l.toArray && (decide (n < l.length) && (Region.sinkB .any l.toArray n && Region.chainB .any l.toArray n))
theorem okTail_of {n : Nat} (h : okTail l n = true) : Region.noSelect l.toArray = true ∧ n < l.length ∧ Region.sinkB .any l.toArray n = true ∧ Region.chainB .any l.toArray n = true := by
  simpa [okTail] using h

/-- The beginning. -/
theorem wp_region_head {id : Nat} {a : Act} {w : World} (n : Nat) (hm : P.follows .mixedOrders = true) (hk : okTail l n = true) (hS : S w.drew)
    (h : S w.drew → Head P l Q S n n (Array.replicate l.length false) a w.drew) : (Code.region id l.toArray true).wp P Q a w := by
  obtain ⟨_, hn, _, _⟩ := okTail_of hk
  have inv0 : HeadInv .any l.toArray n (Array.replicate l.length false) :=
    ⟨by simp, fun j oj _ hl => (by rw [getD_replicate_false] at hl; cases hl), fun t _ ht => getD_in (by simpa using ht) (getD_replicate_false _ _)⟩
  refine wp_region_any hm ?_
  have H := h hS inv0
  have := wpAny_of_T (Q := Q) (g := l.length - n) (fun listed a' w' (hL : TailAt P l Q n listed a' w') => by
    have := wpAny_of_seq (md := .any) (Q' := Q) (l.drop n) n listed a' w' (fun j => by simp [List.getElem?_drop]) (by simpa using hL.1) hL.2
    simpa using this) _ _ _ _ H
  rw [show n + (l.length - n) = l.length by omega] at this
  simpa using this
/-- Take number i first. -/
theorem head_take {n f : Nat} {listed : Array Bool} {a : Act} {w : World} (i : Nat) {oi : Oper} {v : Value} (hi : l[i]? = some oi) (hk : okTail l n = true)
    (hf : (Region.free .any l.toArray listed i && ((Region.ready .any l.toArray listed).contains i && decide (i < n))) = true)
    (hQ : ∀ c a w, Q (.panic c) (a.put oi.dst v) w → Q (.panic c) a w) (hS : S w) (hy : YieldsIf P l.toArray S oi v a)
    (h : Head P l Q S n f (listed.setIfInBounds i true) (a.put oi.dst v) w) : Head P l Q S n (f + 1) listed a w := fun inv => by
  obtain ⟨h1, hn, h2, h3⟩ := okTail_of hk
  simp only [Bool.and_eq_true, decide_eq_true_eq] at hf
  obtain ⟨f1, f2, f3⟩ := hf
  have hr : i ∈ Region.ready .any l.toArray listed := by simpa using f2
  have hi' : l.toArray[i]? = some oi := by simpa using hi
  exact wpAnyT_first hi' (Region.noSelect_spec h1) hQ h2 h3 (by simpa using hn) f3 (fun listed a w hL => seqB_ready hL.1) f listed a w inv (Region.free_spec hi' f1) hr hy hS (h (inv.set hr f3))
/-- Number i is the only one that may come up. -/
theorem head_one {n f : Nat} {listed : Array Bool} {a : Act} {w : World} (i : Nat) {o : Oper} (hi : l[i]? = some o)
    (hr : (decide (Region.ready .any l.toArray listed = [i]) && decide (i < n)) = true)
    (h : ∀ K : Act → World → Prop, Shut (∀ a w, S w → (S w → Head P l Q S n f (listed.setIfInBounds i true) a w) → K a w) → if Region.wanted o (yielded l.toArray a.tmps) = true then Oper.wp P o a w K Q else K (a.put o.dst undef) w) :
    Head P l Q S n (f + 1) listed a w := fun inv => by
  simp only [Bool.and_eq_true, decide_eq_true_eq] at hr
  obtain ⟨h1, h2⟩ := hr
  refine ⟨fun h0 => (by rw [h1] at h0; cases h0), fun j hj => ?_⟩
  have hji : j = i := by rw [h1] at hj; simpa using hj
  have inv' := inv.set hj (by omega)
  rw [hji] at inv' ⊢
  refine ⟨h2, wpOp_step (by simpa using hi) (fun K hK => h K (fun a' w' hS hW => hK a' w' ⟨hS, hW hS inv'⟩))⟩
/-- Two may come up. -/
theorem head_two {n f : Nat} {listed : Array Bool} {a : Act} {w : World} (i j : Nat) {o p : Oper} (hi : l[i]? = some o) (hj : l[j]? = some p)
    (hr : (decide (Region.ready .any l.toArray listed = [i, j]) && (decide (i < n) && decide (j < n))) = true)
    (h : ∀ K : Act → World → Prop, Shut (∀ a w, S w → (S w → Head P l Q S n f (listed.setIfInBounds i true) a w) → K a w) → if Region.wanted o (yielded l.toArray a.tmps) = true then Oper.wp P o a w K Q else K (a.put o.dst undef) w)
    (h' : ∀ K : Act → World → Prop, Shut (∀ a w, S w → (S w → Head P l Q S n f (listed.setIfInBounds j true) a w) → K a w) → if Region.wanted p (yielded l.toArray a.tmps) = true then Oper.wp P p a w K Q else K (a.put p.dst undef) w) :
    Head P l Q S n (f + 1) listed a w := fun inv => by
  simp only [Bool.and_eq_true, decide_eq_true_eq] at hr
  obtain ⟨h1, h2, h3⟩ := hr
  refine ⟨fun h0 => (by rw [h1] at h0; cases h0), fun k hk => ?_⟩
  have hkk : k = i ∨ k = j := by rw [h1] at hk; simpa using hk
  rcases hkk with hkk | hkk
  · have inv' := inv.set hk (by omega)
    rw [hkk] at inv' ⊢
    exact ⟨h2, wpOp_step (by simpa using hi) (fun K hK => h K (fun a' w' hS hW => hK a' w' ⟨hS, hW hS inv'⟩))⟩
  · have inv' := inv.set hk (by omega)
    rw [hkk] at inv' ⊢
    exact ⟨h3, wpOp_step (by simpa using hj) (fun K hK => h' K (fun a' w' hS hW => hK a' w' ⟨hS, hW hS inv'⟩))⟩
/-- The head is done. -/
theorem head_done {n : Nat} {listed : Array Bool} {a : Act} {w : World} (hq : Region.seqB .any l.toArray (l.length - n) n listed = true) (h : wpList P l.toArray Q (l.drop n) a w) : Head P l Q S n 0 listed a w :=
  fun _ => ⟨hq, h⟩
/-- An operation that reads, where the world meets S. -/
theorem yields_if {P : Program} {l : List Oper} {S : World → Prop} {o : Oper} {v : Value} {a : Act} (hw : Region.wanted o (yielded l.toArray a.tmps) = true) (h : ∀ w, S w → (execOp a.eval o).run P w = .ok (.value v) w) : YieldsIf P l.toArray S o v a :=
  .inl ⟨hw, h⟩
end

end Go.Proofs.YtckjkfcphcnpdaaGreat

namespace Go.Proofs.YtckjkfcphcnpdaaGreat
set_option maxRecDepth 100000
open Go.ChangeShapes Go.WideShapes Go.ChangeAt Go.RowKit Go.Joins

/-- All but one cell is as it was. -/
def GeY (b : Addr) (w w' : World) : Prop := (∀ a v, a ≠ b → w.cell? a = some v → w'.cell? a = some v) ∧ (∀ a v, w.cell? a = some v → w.frozen? a = false → w'.frozen? a = false) ∧ w.heap.size ≤ w'.heap.size
theorem GeY.refl (b : Addr) (w : World) : GeY b w w := ⟨fun _ _ _ h => h, fun _ _ _ h => h, Nat.le_refl _⟩
theorem GeY.ge {b : Addr} {w w' w'' : World} (h : GeY b w w') (hb : ∃ u, w'.cell? b = some u) (hg : Ge w' w'') : GeY b w w'' := by
  refine ⟨fun a v hne hc => hg.keep (h.1 a v hne hc), fun a v hc hf => ?_, Nat.le_trans h.2.2 hg.size⟩
  by_cases e : a = b
  · subst e
    obtain ⟨u, hu⟩ := hb
    exact hg.keepF hu (h.2.1 a v hc hf)
  · exact hg.keepF (h.1 a v e hc) (h.2.1 a v hc hf)
theorem GeY.set {b : Addr} {w w' : World} (h : GeY b w w') (x : Value) : GeY b w (w'.setCell b x) := by
  refine ⟨fun a v hne hc => ?_, fun a v hc hf => ?_, by simpa using h.2.2⟩
  · rw [World.cell?_setCell_other _ _ _ _ (fun e => hne e.symm)]; exact h.1 a v hne hc
  · have := h.2.1 a v hc hf
    simpa using this
theorem GeY.mine {b : Addr} {w w' w'' : World} {base e sz n : Nat} {v : Value} {xs : List Value} (h : GeY b w w') (ho : w'.ownsRow base e sz v n xs) (hb : w.heap.size ≤ base) (hm : Mine w' w'' v) : GeY b w w'' := by
  refine ⟨fun a u hne hc => mine_cell hm (h.1 a u hne hc) (before_row ho (Nat.lt_of_lt_of_le (World.block_lt_of_cell? _ _ hc) hb)), fun a u hc hf => ?_, Nat.le_trans h.2.2 (World.grownBy.size hm)⟩
  have hlt := World.block_lt_of_cell? _ _ hc
  have hne := before_row ho (b := a.block) (Nat.lt_of_lt_of_le hlt hb)
  rw [World.frozen?_of_block (World.grownBy.block hm a.block (Nat.lt_of_lt_of_le hlt h.2.2) (fun e => hne _ e.symm rfl))]
  exact h.2.1 a u hc hf
theorem Sl.gey {b : Addr} {w w' : World} {v u : Value} {n sz : Nat} {l : List Int} (h : Sl w v n sz (icells l)) (hy : GeY b w w') (hb : w.cell? b = some u) (hu : ∀ x, u ≠ .int .i64 x) : Sl w' v n sz (icells l) := by
  obtain ⟨h1, p, cap, hv, hc⟩ := h
  refine ⟨h1, p, cap, hv, fun i y hy' => ?_⟩
  obtain ⟨b', o, hp, hcell⟩ := hc i y hy'
  refine ⟨b', o, hp, hy.1 _ _ (fun e => ?_) hcell⟩
  rw [← e, hcell] at hb
  have hmem := List.mem_of_getElem? hy'
  simp only [icells, List.mem_map] at hmem
  obtain ⟨x, _, rfl⟩ := hmem
  exact hu x (by simpa using hb.symm)
theorem grown_setY (w : World) (b i : Nat) (x : Value) : w.grownBy (w.setCell ⟨b, i, none⟩ x) (some b) := by
  refine ⟨rfl, rfl, rfl, by simp, fun k _ hne => ?_⟩
  have : b ≠ k := fun e => hne (by rw [e])
  simp [World.setCell, Array.getElem?_modify, this]
theorem owns_setY {w : World} {base e sz n b o : Nat} {v : Value} {xs : List Value} (h : w.ownsRow base e sz v n xs) (hb : b < base) (x : Value) : (w.setCell ⟨b, o, none⟩ x).ownsRow base e sz v n xs := by
  refine h.kept (grown_setY w b o x) ?_
  cases hv : v.ownBlock with
  | none => exact .inl rfl
  | some k =>
    right
    intro e
    have := (h.lt k hv).1
    simp at e
    omega
theorem mine_frozY {w w' : World} {v : Value} (hm : Mine w w' v) {a : Addr} {u : Value} (h : w.cell? a = some u) (hf : w.frozen? a = false) (hne : ∀ k, v.ownBlock = some k → a.block ≠ k) : w'.frozen? a = false := by
  rw [World.frozen?_of_block (World.grownBy.block hm a.block (World.block_lt_of_cell? _ _ h) (fun e => hne _ e.symm rfl))]
  exact hf
/-- The first i of E rows (in block G) are filled: row a with the integers D a, sz an element. -/
def RowsY (w : World) (G E i sz : Nat) (D : Nat → List Int) : Prop :=
  ∀ a, a < E → w.frozen? ⟨G, a, none⟩ = false ∧ (∃ u, w.cell? ⟨G, a, none⟩ = some u ∧ (∀ x, u ≠ .int .i64 x) ∧ (a < i → Sl w u E sz (icells (D a))) ∧ (i ≤ a → u = .slice none 0 0))
theorem RowsY.init {w : World} {B G E sz : Nat} {e : TypeId} {D : Nat → List Int} (h : w.ownsRow B e 1 (.slice (some ⟨G, 0, none⟩) E E) E (List.replicate E (.slice none 0 0))) : RowsY w G E 0 sz D := fun a ha =>
  ⟨h.frozenAt a, .slice none 0 0, by rw [h.cellAt a (by omega)]; simp [ha], fun x hx => (by cases hx), fun h => absurd h (Nat.not_lt_zero _), fun _ => rfl⟩
theorem RowsY.at {w : World} {G E i sz : Nat} {D : Nat → List Int} (h : RowsY w G E i sz D) (hi : i < E) : w.cell? ⟨G, i, none⟩ = some (.slice none 0 0) ∧ w.frozen? ⟨G, i, none⟩ = false := by
  obtain ⟨h1, u, h2, _, _, h5⟩ := h i hi
  rw [h5 (Nat.le_refl _)] at h2
  exact ⟨h2, h1⟩
theorem RowsY.next {w w' : World} {G E i sz : Nat} {D : Nat → List Int} {u : Value} (h : RowsY w G E i sz D) (hi : i < E) (hy : GeY ⟨G, i, none⟩ w w') (hc : w'.cell? ⟨G, i, none⟩ = some u) (hu : ∀ x, u ≠ .int .i64 x)
    (hs : Sl w' u E sz (icells (D i))) : RowsY w' G E (i + 1) sz D := fun a ha => by
  have h0 := h.at hi
  obtain ⟨h1, v, h2, h3, h4, h5⟩ := h a ha
  refine ⟨hy.2.1 _ _ h2 h1, ?_⟩
  by_cases e : a = i
  · subst e
    exact ⟨u, hc, hu, fun _ => hs, fun h => by omega⟩
  · exact ⟨v, hy.1 _ _ (fun h => by simp at h) h2, h3, fun h => Sl.gey (h4 (by omega)) hy h0.1 (fun x hx => by cases hx), fun h => h5 (by omega)⟩
theorem RowsY.ge {w w' : World} {G E i sz : Nat} {D : Nat → List Int} (h : RowsY w G E i sz D) (hg : Ge w w') : RowsY w' G E i sz D := fun a ha => by
  obtain ⟨h1, v, h2, h3, h4, h5⟩ := h a ha
  exact ⟨hg.keepF h2 h1, v, hg.keep h2, h3, fun h => Sl.ge (h4 h) hg, h5⟩
/-- E rows, row a with the integers D a. -/
def SlRows (w : World) (v : Value) (E sz : Nat) (D : Nat → List Int) : Prop :=
  ∃ b o c, v = .slice (some ⟨b, o, none⟩) E c ∧ ∀ a, a < E → ∃ p k, w.cell? ⟨b, o + a, none⟩ = some (.slice p E k) ∧ Sl w (.slice p E k) E sz (icells (D a))
theorem SlRows.ge {w w' : World} {v : Value} {E sz : Nat} {D : Nat → List Int} (h : SlRows w v E sz D) (hg : Ge w w') : SlRows w' v E sz D := by
  obtain ⟨b, o, c, hv, hc⟩ := h
  refine ⟨b, o, c, hv, fun a ha => ?_⟩
  obtain ⟨p, k, h1, h2⟩ := hc a ha
  exact ⟨p, k, hg.keep h1, Sl.ge h2 hg⟩
theorem RowsY.rows {w : World} {G E sz : Nat} {D : Nat → List Int} (h : RowsY w G E E sz D) : SlRows w (.slice (some ⟨G, 0, none⟩) E E) E sz D := by
  refine ⟨G, 0, E, rfl, fun a ha => ?_⟩
  obtain ⟨_, v, h2, _, h4, _⟩ := h a ha
  have h5 := h4 ha
  obtain ⟨_, p, k, hv, _⟩ := h5
  refine ⟨p, k, by rw [Nat.zero_add, h2, hv], by rw [← hv]; exact h4 ha⟩
end Go.Proofs.YtckjkfcphcnpdaaGreat
