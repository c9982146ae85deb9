/- Plain law: wires put into a list in order. No program in sight. Plain law: a sorted list of wires is told by its weights. No program in sight. Plain law: a node replaced by wires between its neighbors: the list of wires that is made by putting is the table's. No program in sight. Plain law: wires between the neighbors of a node. No program in sight. Plain law: both sides of the mesh give the same wires. No program in sight. Plain law: weights of a list of wires, in both ways. No program in sight. -/
import Derived.Test.YtahicfpnmjofhaaPlNet
import Derived.Test.YtahicfpnmjofhaaPlDet
import Derived.Test.YtahicfpnmjofhaaPlWeight
namespace Go.Proofs.Ytahicfpnmjofhaa

/-- The wire has the ends a and b. -/
def isE (a b : Int) (e : Wr) : Bool := decide (e.a = a) && decide (e.b = b)
/-- The wire lies behind the ends a and b. -/
def gtE (a b : Int) (e : Wr) : Bool := decide (a < e.a) || (decide (e.a = a) && decide (b < e.b))
theorem isE_t {a b : Int} {e : Wr} (h : e.a = a ∧ e.b = b) : isE a b e = true := by simp [isE, h]
theorem isE_f {a b : Int} {e : Wr} (h : ¬ (e.a = a ∧ e.b = b)) : isE a b e = false := by simpa [isE] using h
theorem isE_of {a b : Int} {e : Wr} (h : isE a b e = true) : e.a = a ∧ e.b = b := by simpa [isE] using h
theorem gtE_t {a b : Int} {e : Wr} (h : a < e.a ∨ e.a = a ∧ b < e.b) : gtE a b e = true := by simpa [gtE] using h
theorem gtE_f {a b : Int} {e : Wr} (h : ¬ (a < e.a ∨ e.a = a ∧ b < e.b)) : gtE a b e = false := by
  cases c : gtE a b e with
  | false => rfl
  | true => exact absurd (by simpa [gtE] using c) h
theorem gtE_of {a b : Int} {e : Wr} (h : gtE a b e = true) : a < e.a ∨ e.a = a ∧ b < e.b := by simpa [gtE] using h
/-- The wires with other ends. -/
def dropE (a b : Int) (l : List Wr) : List Wr := l.filter fun e => !isE a b e
/-- The weights of those with these ends. -/
def sameS (a b : Int) : List Wr → Int
  | [] => 0
  | e :: l => (if isE a b e = true then e.w else 0) + sameS a b l
/-- The first k wires, x put ahead of the first that lies behind it; whether it has been put. -/
def insP (x : Wr) : List Wr → List Wr × Bool
  | [] => ([], false)
  | e :: l => if gtE x.a x.b e = true then (x :: e :: l, true) else (e :: (insP x l).1, (insP x l).2)
def insW (x : Wr) (l : List Wr) : List Wr := if (insP x l).2 = true then (insP x l).1 else (insP x l).1 ++ [x]
/-- What l03Put gives. -/
def putW (l : List Wr) (a b w : Int) (add : Bool) : List Wr := insW ⟨min a b, max a b, w + (if add = true then sameS (min a b) (max a b) l else 0)⟩ (dropE (min a b) (max a b) l)
theorem dropE_snoc (a b : Int) (l : List Wr) (e : Wr) : dropE a b (l ++ [e]) = if isE a b e = true then dropE a b l else dropE a b l ++ [e] := by
  unfold dropE
  rw [List.filter_append]
  cases c : isE a b e <;> simp [c]
theorem sameS_snoc (a b : Int) (l : List Wr) (e : Wr) : sameS a b (l ++ [e]) = sameS a b l + (if isE a b e = true then e.w else 0) := by
  induction l with
  | nil => simp [sameS]
  | cons x l ih => simp only [List.cons_append, sameS, ih]; omega
theorem insP_snoc (x : Wr) (l : List Wr) (e : Wr) : insP x (l ++ [e]) = if (insP x l).2 = true then ((insP x l).1 ++ [e], true) else if gtE x.a x.b e = true then ((insP x l).1 ++ [x, e], true) else ((insP x l).1 ++ [e], false) := by
  induction l with
  | nil => simp [insP]
  | cons y l ih =>
    simp only [List.cons_append, insP, ih]
    by_cases c : gtE x.a x.b y = true
    · simp [c]
    · by_cases d : (insP x l).2 = true
      · simp [c, d]
      · by_cases c2 : gtE x.a x.b e = true
        · simp [c, d, c2]
        · simp [c, d, c2]
theorem insP_len (x : Wr) (l : List Wr) : (insP x l).1.length = l.length + (if (insP x l).2 = true then 1 else 0) := by
  induction l with
  | nil => simp [insP]
  | cons y l ih =>
    simp only [insP]
    by_cases c : gtE x.a x.b y = true
    · simp [c]
    · simp [c, ih]; omega
theorem dropE_len (a b : Int) (l : List Wr) : (dropE a b l).length ≤ l.length := List.length_filter_le _ _
theorem insW_cons (x e : Wr) (l : List Wr) : insW x (e :: l) = if gtE x.a x.b e = true then x :: e :: l else e :: insW x l := by
  unfold insW
  simp only [insP]
  by_cases c : gtE x.a x.b e = true
  · simp [c]
  · by_cases d : (insP x l).2 = true
    · simp [c, d]
    · simp [c, d]
theorem mem_insW {x : Wr} : ∀ {l : List Wr} {y : Wr}, y ∈ insW x l ↔ y = x ∨ y ∈ l
  | [], y => by simp [insW, insP]
  | e :: l, y => by
    rw [insW_cons]
    split
    · simp
    · simp only [List.mem_cons, mem_insW (x := x) (l := l) (y := y)]
      constructor
      · rintro (h | h | h) <;> simp [h]
      · rintro (h | h | h) <;> simp [h]
theorem insW_len (x : Wr) : ∀ l : List Wr, (insW x l).length = l.length + 1
  | [] => rfl
  | e :: l => by
    rw [insW_cons]
    split
    · rfl
    · simp [insW_len x l]
theorem putW_len (l : List Wr) (a b w : Int) (add : Bool) : (putW l a b w add).length ≤ l.length + 1 ∧ 1 ≤ (putW l a b w add).length := by
  unfold putW
  rw [insW_len]
  have h1 := dropE_len (min a b) (max a b) l
  omega
def ltW (x y : Wr) : Prop := x.a < y.a ∨ x.a = y.a ∧ x.b < y.b
theorem ltW_trans {x y z : Wr} (h : ltW x y) (k : ltW y z) : ltW x z := by unfold ltW at *; omega
theorem insW_sorted {x : Wr} : ∀ {l : List Wr}, l.Pairwise ltW → (∀ e ∈ l, ¬ (e.a = x.a ∧ e.b = x.b)) → (insW x l).Pairwise ltW
  | [], _, _ => by simp [insW, insP]
  | e :: l, h, hne => by
    rw [insW_cons]
    rw [List.pairwise_cons] at h
    by_cases c : gtE x.a x.b e = true
    · rw [if_pos c]
      have c' := gtE_of c
      have hxe : ltW x e := by unfold ltW; omega
      refine List.pairwise_cons.2 ⟨fun y hy => ?_, List.pairwise_cons.2 h⟩
      rcases List.mem_cons.1 hy with rfl | hy
      · exact hxe
      · exact ltW_trans hxe (h.1 y hy)
    · rw [if_neg c]
      refine List.pairwise_cons.2 ⟨fun y hy => ?_, insW_sorted h.2 (fun e he => hne e (List.mem_cons_of_mem _ he))⟩
      rcases mem_insW.1 hy with rfl | hy
      · have h1 := hne e (by simp)
        have h2 : ¬ (y.a < e.a ∨ e.a = y.a ∧ y.b < e.b) := fun k => c (gtE_t k)
        unfold ltW; omega
      · exact h.1 y hy
end Go.Proofs.Ytahicfpnmjofhaa

namespace Go.Proofs.Ytahicfpnmjofhaa

theorem sorted_ext : ∀ {l k : List Wr}, l.Pairwise ltW → k.Pairwise ltW → (∀ e, e ∈ l ↔ e ∈ k) → l = k
  | [], [], _, _, _ => rfl
  | [], y :: k, _, _, h => by have := (h y).2 (by simp); cases this
  | x :: l, [], _, _, h => by have := (h x).1 (by simp); cases this
  | x :: l, y :: k, hl, hk, h => by
    rw [List.pairwise_cons] at hl hk
    have e : x = y := by
      have h1 := (h x).1 (by simp)
      have h2 := (h y).2 (by simp)
      rcases List.mem_cons.1 h1 with h1 | h1
      · exact h1
      · rcases List.mem_cons.1 h2 with h2 | h2
        · exact h2.symm
        · have a1 := hk.1 x h1
          have a2 := hl.1 y h2
          unfold ltW at a1 a2
          omega
    subst e
    rw [sorted_ext hl.2 hk.2 (fun e => ?_)]
    constructor
    · intro he
      rcases List.mem_cons.1 ((h e).1 (List.mem_cons_of_mem _ he)) with h1 | h1
      · have := hl.1 e he
        rw [h1] at this; unfold ltW at this; omega
      · exact h1
    · intro he
      rcases List.mem_cons.1 ((h e).2 (List.mem_cons_of_mem _ he)) with h1 | h1
      · have := hk.1 e he
        rw [h1] at this; unfold ltW at this; omega
      · exact h1
/-- The wires of row i from column a on, c columns. -/
def rowC (f : Nat → Nat → Int) (i a : Nat) : Nat → List Wr
  | 0 => []
  | c + 1 => rowC f i a c ++ (if f i (a + c) = 0 then [] else [⟨(i : Int), ((a + c : Nat) : Int), f i (a + c)⟩])
/-- The wires of the first rows of a table. -/
def tabC (f : Nat → Nat → Int) (k : Nat) : Nat → List Wr
  | 0 => []
  | i + 1 => tabC f k i ++ rowC f i (i + 1) (k - (i + 1))
theorem mem_rowC {f : Nat → Nat → Int} {i a : Nat} {e : Wr} : ∀ {c : Nat}, e ∈ rowC f i a c ↔ ∃ j, a ≤ j ∧ j < a + c ∧ ¬ f i j = 0 ∧ e = ⟨(i : Int), (j : Int), f i j⟩
  | 0 => by
    simp only [rowC, List.not_mem_nil, false_iff]
    rintro ⟨j, h1, h2, _⟩
    omega
  | c + 1 => by
    simp only [rowC, List.mem_append, mem_rowC (c := c)]
    constructor
    · rintro (⟨j, h1, h2, h3, h4⟩ | h)
      · exact ⟨j, h1, by omega, h3, h4⟩
      · split at h
        · cases h
        · rename_i h0
          exact ⟨a + c, by omega, by omega, h0, by simpa using h⟩
    · rintro ⟨j, h1, h2, h3, h4⟩
      by_cases e' : j = a + c
      · subst e'
        right
        rw [if_neg h3]; simpa using h4
      · exact .inl ⟨j, h1, by omega, h3, h4⟩
theorem mem_tabC {f : Nat → Nat → Int} {k : Nat} {e : Wr} : ∀ {t : Nat}, e ∈ tabC f k t ↔ ∃ i j, i < t ∧ i < j ∧ j < k ∧ ¬ f i j = 0 ∧ e = ⟨(i : Int), (j : Int), f i j⟩
  | 0 => by
    simp only [tabC, List.not_mem_nil, false_iff]
    rintro ⟨i, j, h1, _⟩
    omega
  | t + 1 => by
    simp only [tabC, List.mem_append, mem_tabC (t := t), mem_rowC]
    constructor
    · rintro (⟨i, j, h1, h2, h3, h4, h5⟩ | ⟨j, h1, h2, h3, h4⟩)
      · exact ⟨i, j, by omega, h2, h3, h4, h5⟩
      · exact ⟨t, j, by omega, by omega, by omega, h3, h4⟩
    · rintro ⟨i, j, h1, h2, h3, h4, h5⟩
      by_cases e' : i = t
      · subst e'
        exact .inr ⟨j, by omega, by omega, h4, h5⟩
      · exact .inl ⟨i, j, by omega, h2, h3, h4, h5⟩
theorem rowC_sorted (f : Nat → Nat → Int) (i a : Nat) : ∀ c, (rowC f i a c).Pairwise ltW
  | 0 => List.Pairwise.nil
  | c + 1 => by
    simp only [rowC]
    refine List.pairwise_append.2 ⟨rowC_sorted f i a c, by split <;> simp, fun x hx y hy => ?_⟩
    obtain ⟨j, h1, h2, h3, rfl⟩ := mem_rowC.1 hx
    split at hy
    · cases hy
    · have : y = ⟨(i : Int), ((a + c : Nat) : Int), f i (a + c)⟩ := by simpa using hy
      subst this
      right
      exact ⟨rfl, by show (j : Int) < ((a + c : Nat) : Int); omega⟩
theorem tabC_sorted (f : Nat → Nat → Int) (k : Nat) : ∀ t, (tabC f k t).Pairwise ltW
  | 0 => List.Pairwise.nil
  | t + 1 => by
    simp only [tabC]
    refine List.pairwise_append.2 ⟨tabC_sorted f k t, rowC_sorted f t _ _, fun x hx y hy => ?_⟩
    obtain ⟨i, j, h1, h2, h3, h4, rfl⟩ := mem_tabC.1 hx
    obtain ⟨j', g1, g2, g3, rfl⟩ := mem_rowC.1 hy
    left
    show (i : Int) < (t : Int)
    omega
theorem sameS_none {a b : Int} : ∀ {l : List Wr}, (∀ e ∈ l, ¬ (e.a = a ∧ e.b = b)) → sameS a b l = 0
  | [], _ => rfl
  | e :: l, h => by
    simp only [sameS]
    rw [isE_f (h e (by simp)), sameS_none (fun x hx => h x (List.mem_cons_of_mem _ hx))]; rfl
theorem sameS_mem : ∀ {l : List Wr}, l.Pairwise ltW → ∀ {e : Wr}, e ∈ l → sameS e.a e.b l = e.w
  | [], _, e, he => by cases he
  | x :: l, h, e, he => by
    rw [List.pairwise_cons] at h
    simp only [sameS]
    rcases List.mem_cons.1 he with rfl | he
    · rw [isE_t ⟨rfl, rfl⟩, sameS_none (fun y hy hh => by have := h.1 y hy; unfold ltW at this; omega)]; simp
    · have hx := h.1 e he
      rw [isE_f (fun hh => by unfold ltW at hx; omega), sameS_mem h.2 he]; simp
/-- A sorted list of wires is the table of its weights. -/
theorem list_tab {L : List Wr} {k : Nat} (hs : L.Pairwise ltW) (hk : ∀ e ∈ L, 0 ≤ e.a ∧ e.a < e.b ∧ e.b < k ∧ ¬ e.w = 0) : L = tabC (fun i j => sameS i j L) k k := by
  refine sorted_ext hs (tabC_sorted _ _ _) (fun e => ?_)
  rw [mem_tabC]
  constructor
  · intro he
    obtain ⟨h1, h2, h3, h4⟩ := hk e he
    have hw := sameS_mem hs he
    have ea : ((e.a.toNat : Nat) : Int) = e.a := by omega
    have eb : ((e.b.toNat : Nat) : Int) = e.b := by omega
    refine ⟨e.a.toNat, e.b.toNat, by omega, by omega, by omega, ?_, ?_⟩
    · show ¬ sameS _ _ L = 0
      rw [ea, eb, hw]; exact h4
    · simp only [ea, eb, hw]
  · rintro ⟨i, j, h1, h2, h3, h4, rfl⟩
    have : ∃ e ∈ L, e.a = (i : Int) ∧ e.b = (j : Int) := Classical.byContradiction fun hn => h4 (sameS_none (fun e he hh => hn ⟨e, he, hh⟩))
    obtain ⟨e, he, ha, hb⟩ := this
    have hw := sameS_mem hs he
    rw [ha, hb] at hw
    simp only [hw]
    rw [← ha, ← hb]
    exact he
theorem sameS_insW (a b : Int) (x : Wr) : ∀ l : List Wr, sameS a b (insW x l) = sameS a b l + (if isE a b x = true then x.w else 0)
  | [] => by simp [insW, insP, sameS]
  | e :: l => by
    rw [insW_cons]
    split
    · simp only [sameS]; omega
    · simp only [sameS, sameS_insW a b x l]; omega
theorem sameS_dropE (a b c d : Int) : ∀ l : List Wr, sameS a b (dropE c d l) = if a = c ∧ b = d then 0 else sameS a b l
  | [] => by simp [dropE, sameS]
  | e :: l => by
    have ih := sameS_dropE a b c d l
    unfold dropE at *
    rw [List.filter_cons]
    by_cases h : isE c d e = true
    · have h' := isE_of h
      rw [if_neg (by simp [h]), ih]
      by_cases k : a = c ∧ b = d
      · rw [if_pos k, if_pos k]
      · rw [if_neg k, if_neg k]
        simp only [sameS]
        rw [isE_f (fun hh => k ⟨by omega, by omega⟩)]; simp
    · rw [if_pos (by simpa using h)]
      simp only [sameS, ih]
      by_cases k : a = c ∧ b = d
      · rw [if_pos k, if_pos k]
        have : isE a b e = false := by rw [k.1, k.2]; simpa using h
        rw [this]; rfl
      · rw [if_neg k, if_neg k]
/-- The weights when a wire has been added. -/
theorem sameS_putW (l : List Wr) (i j a b w : Int) : sameS i j (putW l a b w true) = sameS i j l + (if i = min a b ∧ j = max a b then w else 0) := by
  unfold putW
  rw [sameS_insW, sameS_dropE]
  by_cases k : i = min a b ∧ j = max a b
  · rw [if_pos k, if_pos k, isE_t (e := ⟨min a b, max a b, _⟩) ⟨k.1.symm, k.2.symm⟩, ← k.1, ← k.2]
    simp; omega
  · rw [if_neg k, if_neg k, isE_f (e := ⟨min a b, max a b, _⟩) (fun h => k ⟨h.1.symm, h.2.symm⟩)]; simp
end Go.Proofs.Ytahicfpnmjofhaa

namespace Go.Proofs.Ytahicfpnmjofhaa

/-- A node's number when v has been left out; the other way round. -/
def outI (v x : Int) : Int := if x > v then x - 1 else x
def upI (v : Nat) (i : Nat) : Nat := if i < v then i else i + 1
theorem outI_up (v i : Nat) : outI v (upI v i : Nat) = i := by unfold outI upI; split <;> split <;> omega
theorem up_ne (v i : Nat) : upI v i ≠ v := by unfold upI; split <;> omega
theorem outI_eq {v i : Nat} {x : Int} (_hx : 0 ≤ x) (hv : ¬ x = v) : outI v x = i ↔ x = (upI v i : Nat) := by
  unfold outI upI
  constructor
  · intro h; split at h <;> split <;> omega
  · intro h; split at h <;> split <;> omega
theorem outI_lt {v x y : Int} (hx : ¬ x = v) (hy : ¬ y = v) (h : x < y) : outI v x < outI v y := by unfold outI; split <;> split <;> omega
/-- A list of wires in order, on k nodes. -/
def Ord (k : Nat) (l : List Wr) : Prop := l.Pairwise ltW ∧ ∀ e ∈ l, 0 ≤ e.a ∧ e.a < e.b ∧ e.b < k ∧ 0 < e.w
theorem Ord.nil (k : Nat) : Ord k [] := ⟨List.Pairwise.nil, fun e he => by cases he⟩
theorem sameS_nn {k : Nat} {l : List Wr} (h : ∀ e ∈ l, 0 ≤ e.a ∧ e.a < e.b ∧ e.b < k ∧ 0 < e.w) (a b : Int) : 0 ≤ sameS a b l := by
  induction l with
  | nil => simp [sameS]
  | cons e l ih =>
    have h1 := ih (fun x hx => h x (List.mem_cons_of_mem _ hx))
    have h2 := (h e (by simp)).2.2.2
    simp only [sameS]
    split <;> omega
theorem mem_dropE {a b : Int} {l : List Wr} {e : Wr} : e ∈ dropE a b l ↔ e ∈ l ∧ ¬ (e.a = a ∧ e.b = b) := by
  unfold dropE
  rw [List.mem_filter]
  constructor
  · rintro ⟨h1, h2⟩
    refine ⟨h1, fun h => ?_⟩
    rw [isE_t h] at h2; cases h2
  · rintro ⟨h1, h2⟩
    exact ⟨h1, by rw [isE_f h2]; rfl⟩
theorem Ord.put {k : Nat} {l : List Wr} (h : Ord k l) {a b w : Int} (ha : 0 ≤ a ∧ a < k) (hb : 0 ≤ b ∧ b < k) (hab : ¬ a = b) (hw : 0 < w) : Ord k (putW l a b w true) := by
  unfold putW
  refine ⟨insW_sorted (List.Pairwise.filter _ h.1) (fun e he => (mem_dropE.1 he).2), fun e he => ?_⟩
  rcases mem_insW.1 he with rfl | he
  · have := sameS_nn h.2 (min a b) (max a b)
    refine ⟨by show 0 ≤ min a b; omega, by show min a b < max a b; omega, by show max a b < (k : Int); omega, ?_⟩
    show 0 < w + _
    simp; omega
  · exact h.2 e (mem_dropE.1 he).1
/-- The wires that do not end at v, put one after another, times s. -/
def firstP (v : Nat) (s : Int) (L : List Wr) : Nat → List Wr
  | 0 => []
  | k + 1 => if (nthW L k).a = v ∨ (nthW L k).b = v then firstP v s L k else putW (firstP v s L k) (outI v (nthW L k).a) (outI v (nthW L k).b) ((nthW L k).w * s) true
theorem sameS_take {a b : Int} {L : List Wr} {k : Nat} (h : k < L.length) : sameS a b (L.take (k + 1)) = sameS a b (L.take k) + (if isE a b (nthW L k) = true then (nthW L k).w else 0) := by
  rw [List.take_succ_eq_append_getElem h, sameS_snoc, nthW_eq L k h]
theorem first_ok {n v : Nat} {s : Int} {L : List Wr} (hL : ∀ e ∈ L, 0 ≤ e.a ∧ e.a < e.b ∧ e.b < n ∧ 0 < e.w) (hv : v < n) (hs : 0 < s) : ∀ k, k ≤ L.length → Ord (n - 1) (firstP v s L k) ∧ ∀ i j : Nat, i < j → sameS i j (firstP v s L k) = sameS (upI v i : Nat) (upI v j : Nat) (L.take k) * s
  | 0, _ => ⟨Ord.nil _, fun i j _ => by simp [firstP, sameS]⟩
  | k + 1, hk => by
    obtain ⟨h1, h2⟩ := first_ok hL hv hs k (by omega)
    have hm : nthW L k ∈ L := by rw [nthW_eq L k (by omega)]; exact List.getElem_mem _
    obtain ⟨q1, q2, q3, q4⟩ := hL _ hm
    simp only [firstP]
    by_cases c : (nthW L k).a = v ∨ (nthW L k).b = v
    · rw [if_pos c]
      refine ⟨h1, fun i j hij => ?_⟩
      rw [h2 i j hij, sameS_take (by omega), isE_f (fun h => ?_)]
      · simp
      · have u1 := up_ne v i
        have u2 := up_ne v j
        rcases c with c | c <;> omega
    · rw [if_neg c]
      have a1 := outI_lt (v := v) (x := (nthW L k).a) (y := (nthW L k).b) (fun h => c (.inl h)) (fun h => c (.inr h)) q2
      have a2 : 0 ≤ outI v (nthW L k).a := by unfold outI; split <;> omega
      have a3 : outI v (nthW L k).b < ((n - 1 : Nat) : Int) := by unfold outI; split <;> omega
      refine ⟨h1.put ⟨a2, by omega⟩ ⟨by omega, a3⟩ (by omega) (Int.mul_pos q4 hs), fun i j hij => ?_⟩
      rw [sameS_putW, h2 i j hij, sameS_take (by omega), Int.add_mul]
      congr 1
      have e1 := outI_eq (v := v) (i := i) q1 (fun h => c (.inl h))
      have e2 := outI_eq (v := v) (i := j) (x := (nthW L k).b) (by omega) (fun h => c (.inr h))
      have m1 : min (outI v (nthW L k).a) (outI v (nthW L k).b) = outI v (nthW L k).a := by omega
      have m2 : max (outI v (nthW L k).a) (outI v (nthW L k).b) = outI v (nthW L k).b := by omega
      rw [m1, m2]
      by_cases d : (i : Int) = outI v (nthW L k).a ∧ (j : Int) = outI v (nthW L k).b
      · rw [if_pos d, isE_t ⟨e1.1 d.1.symm, e2.1 d.2.symm⟩, if_pos rfl]
      · rw [if_neg d, isE_f (fun h => d ⟨(e1.2 h.1).symm, (e2.2 h.2).symm⟩)]; simp
end Go.Proofs.Ytahicfpnmjofhaa

namespace Go.Proofs.Ytahicfpnmjofhaa

def nAt (l : List Nat) (k : Nat) : Nat := l.getD k 0
theorem nAt_eq (l : List Nat) (k : Nat) (h : k < l.length) : nAt l k = l[k] := by simp [nAt, List.getD, h]
/-- Wires from a to the first k of r. -/
def innP (v : Nat) (f : Nat → Int) (acc : List Wr) (a : Nat) (r : List Nat) : Nat → List Wr
  | 0 => acc
  | k + 1 => putW (innP v f acc a r k) (outI v (a : Int)) (outI v (nAt r k : Int)) (f a * f (nAt r k)) true
/-- Wires from the first t of near to those behind each. -/
def outP (v : Nat) (f : Nat → Int) (base : List Wr) (near : List Nat) : Nat → List Wr
  | 0 => base
  | t + 1 => innP v f (outP v f base near t) (nAt near t) (near.drop (t + 1)) (near.drop (t + 1)).length
theorem take_mem {l : List Nat} {k : Nat} (h : k < l.length) (x : Nat) : x ∈ l.take (k + 1) ↔ x ∈ l.take k ∨ x = nAt l k := by
  rw [List.take_succ_eq_append_getElem h, List.mem_append, nAt_eq l k h]; simp
theorem inn_ok {n v : Nat} {f : Nat → Int} {acc : List Wr} {a : Nat} {r : List Nat} (hacc : Ord (n - 1) acc) (ha : a < n ∧ a ≠ v) (hfa : 0 < f a) (hv : v < n) (hr : ∀ x ∈ r, a < x ∧ x < n ∧ x ≠ v ∧ 0 < f x) (hs : r.Pairwise (· < ·)) :
    ∀ k, k ≤ r.length → Ord (n - 1) (innP v f acc a r k) ∧ ∀ i j : Nat, i < j → sameS i j (innP v f acc a r k) = sameS i j acc + (if upI v i = a ∧ upI v j ∈ r.take k then f a * f (upI v j) else 0)
  | 0, _ => ⟨hacc, fun i j _ => by simp [innP]⟩
  | k + 1, hk => by
    obtain ⟨h1, h2⟩ := inn_ok hacc ha hfa hv hr hs k (by omega)
    have hm : nAt r k ∈ r := by rw [nAt_eq r k (by omega)]; exact List.getElem_mem _
    obtain ⟨q1, q2, q3, q4⟩ := hr _ hm
    have a1 := outI_lt (v := v) (x := (a : Int)) (y := (nAt r k : Int)) (by omega) (by omega) (by omega)
    have a2 : 0 ≤ outI v (a : Int) := by unfold outI; split <;> omega
    have a3 : outI v (nAt r k : Int) < ((n - 1 : Nat) : Int) := by unfold outI; split <;> omega
    have m1 : min (outI v (a : Int)) (outI v (nAt r k : Int)) = outI v (a : Int) := by omega
    have m2 : max (outI v (a : Int)) (outI v (nAt r k : Int)) = outI v (nAt r k : Int) := by omega
    simp only [innP]
    refine ⟨h1.put ⟨a2, by omega⟩ ⟨by omega, a3⟩ (by omega) (Int.mul_pos hfa q4), fun i j hij => ?_⟩
    rw [sameS_putW, h2 i j hij, m1, m2]
    have e1 := outI_eq (v := v) (i := i) (x := (a : Int)) (by omega) (by omega)
    have e2 := outI_eq (v := v) (i := j) (x := (nAt r k : Int)) (by omega) (by omega)
    have hnot : nAt r k ∉ r.take k := fun hh => by
      obtain ⟨t, ht, he⟩ := List.getElem_of_mem hh
      rw [List.length_take] at ht
      rw [List.getElem_take, nAt_eq r k (by omega)] at he
      have := (List.pairwise_iff_getElem.1 hs) t k (by omega) (by omega) (by omega)
      omega
    by_cases d1 : upI v i = a
    · by_cases d2 : upI v j = nAt r k
      · rw [if_neg (fun h => hnot (d2 ▸ h.2)), if_pos ⟨by have := e1.2 (by omega); omega, by have := e2.2 (by omega); omega⟩, if_pos ⟨d1, (take_mem (by omega) _).2 (.inr d2)⟩, d2]; omega
      · rw [if_neg (fun h : (i : Int) = _ ∧ (j : Int) = _ => d2 (by have := e2.1 h.2.symm; omega))]
        by_cases d3 : upI v j ∈ r.take k
        · rw [if_pos ⟨d1, d3⟩, if_pos ⟨d1, (take_mem (by omega) _).2 (.inl d3)⟩]; omega
        · rw [if_neg (fun h => d3 h.2), if_neg (fun h => by rcases (take_mem (by omega) _).1 h.2 with h | h; exact d3 h; exact d2 h)]; omega
    · rw [if_neg (fun h : upI v i = a ∧ _ => d1 h.1), if_neg (fun h : (i : Int) = _ ∧ (j : Int) = _ => d1 (by have := e1.1 h.1.symm; omega)), if_neg (fun h : upI v i = a ∧ _ => d1 h.1)]; omega
theorem out_ok {n v : Nat} {f : Nat → Int} {base : List Wr} {near : List Nat} (hb : Ord (n - 1) base) (hv : v < n) (hr : ∀ x ∈ near, x < n ∧ x ≠ v ∧ 0 < f x) (hs : near.Pairwise (· < ·)) :
    ∀ t, t ≤ near.length → Ord (n - 1) (outP v f base near t) ∧ ∀ i j : Nat, i < j → sameS i j (outP v f base near t) = sameS i j base + (if upI v i ∈ near.take t ∧ upI v j ∈ near then f (upI v i) * f (upI v j) else 0)
  | 0, _ => ⟨hb, fun i j _ => by simp [outP]⟩
  | t + 1, ht => by
    obtain ⟨h1, h2⟩ := out_ok hb hv hr hs t (by omega)
    have hm : nAt near t ∈ near := by rw [nAt_eq near t (by omega)]; exact List.getElem_mem _
    obtain ⟨q1, q2, q3⟩ := hr _ hm
    have hdrop : ∀ x ∈ near.drop (t + 1), nAt near t < x := fun x hx => by
      obtain ⟨u, hu, he⟩ := List.getElem_of_mem hx
      rw [List.length_drop] at hu
      rw [List.getElem_drop] at he
      have := (List.pairwise_iff_getElem.1 hs) t (t + 1 + u) (by omega) (by omega) (by omega)
      rw [nAt_eq near t (by omega)]
      omega
    have hmem : ∀ x, nAt near t < x → (x ∈ near ↔ x ∈ near.drop (t + 1)) := fun x hx => by
      constructor
      · intro h
        obtain ⟨u, hu, he⟩ := List.getElem_of_mem h
        have hut : t < u := by
          rcases Nat.lt_trichotomy t u with h | h | h
          · exact h
          · subst h; rw [nAt_eq near t (by omega)] at hx; omega
          · have := (List.pairwise_iff_getElem.1 hs) u t (by omega) (by omega) h
            rw [nAt_eq near t (by omega)] at hx; omega
        rw [← he]
        rw [List.mem_iff_getElem]
        exact ⟨u - (t + 1), by rw [List.length_drop]; omega, by rw [List.getElem_drop]; congr 1; omega⟩
      · exact fun h => List.mem_of_mem_drop h
    obtain ⟨k1, k2⟩ := inn_ok (acc := outP v f base near t) (a := nAt near t) (r := near.drop (t + 1)) h1 ⟨q1, q2⟩ q3 hv (fun x hx => ⟨hdrop x hx, (hr x (List.mem_of_mem_drop hx)).1, (hr x (List.mem_of_mem_drop hx)).2⟩) (hs.sublist (List.drop_sublist _ _)) (near.drop (t + 1)).length (Nat.le_refl _)
    simp only [outP]
    refine ⟨k1, fun i j hij => ?_⟩
    have hup : upI v i < upI v j := by unfold upI; split <;> split <;> omega
    rw [k2 i j hij, h2 i j hij, List.take_length]
    have hnot : nAt near t ∉ near.take t := fun hh => by
      obtain ⟨u, hu, he⟩ := List.getElem_of_mem hh
      rw [List.length_take] at hu
      rw [List.getElem_take, nAt_eq near t (by omega)] at he
      have := (List.pairwise_iff_getElem.1 hs) u t (by omega) (by omega) (by omega)
      omega
    by_cases d1 : upI v i = nAt near t
    · rw [if_neg (fun h : upI v i ∈ _ ∧ _ => hnot (d1 ▸ h.1))]
      by_cases d2 : upI v j ∈ near
      · rw [if_pos ⟨d1, (hmem _ (by omega)).1 d2⟩, if_pos ⟨(take_mem (by omega) _).2 (.inr d1), d2⟩, d1]; omega
      · rw [if_neg (fun h => d2 (List.mem_of_mem_drop h.2)), if_neg (fun h => d2 h.2)]; omega
    · rw [if_neg (fun h : upI v i = _ ∧ _ => d1 h.1)]
      by_cases d3 : upI v i ∈ near.take t ∧ upI v j ∈ near
      · rw [if_pos d3, if_pos ⟨(take_mem (by omega) _).2 (.inl d3.1), d3.2⟩]; omega
      · rw [if_neg d3, if_neg (fun h => by rcases (take_mem (by omega) _).1 h.1 with h' | h'; exact d3 ⟨h', h.2⟩; exact d1 h')]; omega
end Go.Proofs.Ytahicfpnmjofhaa

namespace Go.Proofs.Ytahicfpnmjofhaa

theorem tabC_congr {f g : Nat → Nat → Int} {k t : Nat} (h : ∀ i j, i < j → j < k → f i j = g i j) : tabC f k t = tabC g k t := by
  refine sorted_ext (tabC_sorted _ _ _) (tabC_sorted _ _ _) (fun e => ?_)
  rw [mem_tabC, mem_tabC]
  constructor
  · rintro ⟨i, j, h1, h2, h3, h4, h5⟩
    rw [h i j h2 h3] at h4 h5
    exact ⟨i, j, h1, h2, h3, h4, h5⟩
  · rintro ⟨i, j, h1, h2, h3, h4, h5⟩
    rw [← h i j h2 h3] at h4 h5
    exact ⟨i, j, h1, h2, h3, h4, h5⟩
/-- The weight between v and x. -/
def wbL (L : List Wr) (v x : Nat) : Int := if v = x then 0 else sameS (min v x : Nat) (max v x : Nat) L
/-- The neighbors of v. -/
def nearL (n : Nat) (L : List Wr) (v : Nat) : List Nat := (List.range n).filter fun x => decide (0 < wbL L v x)
def meshF (L : List Wr) (v : Nat) (s : Int) (i j : Nat) : Int := wbL L (upI v i) (upI v j) * s + wbL L (upI v i) v * wbL L v (upI v j)
theorem wbL_symm (L : List Wr) (a b : Nat) : wbL L a b = wbL L b a := by
  unfold wbL
  by_cases h : a = b
  · rw [h]
  · rw [if_neg h, if_neg (fun k => h k.symm), Nat.min_comm, Nat.max_comm]
theorem wbL_nn {n : Nat} {L : List Wr} (h : Ord n L) (a b : Nat) : 0 ≤ wbL L a b := by
  unfold wbL
  split
  · omega
  · exact sameS_nn h.2 _ _
theorem mem_nearL {n : Nat} {L : List Wr} {v x : Nat} : x ∈ nearL n L v ↔ x < n ∧ 0 < wbL L v x := by simp [nearL]
theorem nearL_sorted (n : Nat) (L : List Wr) (v : Nat) : (nearL n L v).Pairwise (· < ·) := List.Pairwise.filter _ List.pairwise_lt_range
/-- What putting makes is the table. -/
theorem mesh_tab {n v : Nat} {L : List Wr} {s : Int} (hL : Ord n L) (hv : v < n) (hs : 0 < s) :
    outP v (wbL L v) (firstP v s L L.length) (nearL n L v) (nearL n L v).length = tabC (meshF L v s) (n - 1) (n - 1) := by
  obtain ⟨h1, h2⟩ := first_ok hL.2 hv hs L.length (Nat.le_refl _)
  have hr : ∀ x ∈ nearL n L v, x < n ∧ x ≠ v ∧ 0 < wbL L v x := fun x hx => by
    obtain ⟨k1, k2⟩ := mem_nearL.1 hx
    refine ⟨k1, fun e => ?_, k2⟩
    subst e
    simp [wbL] at k2
  obtain ⟨h3, h4⟩ := out_ok h1 hv hr (nearL_sorted n L v) _ (Nat.le_refl _)
  rw [list_tab h3.1 (fun e he => by obtain ⟨q1, q2, q3, q4⟩ := h3.2 e he; exact ⟨q1, q2, q3, by omega⟩)]
  refine tabC_congr (fun i j hij hj => ?_)
  have hup : upI v i < upI v j := by unfold upI; split <;> split <;> omega
  have hjn : upI v j < n := by unfold upI; split <;> omega
  rw [h4 i j hij, h2 i j hij, List.take_length, List.take_length]
  unfold meshF
  have e1 : wbL L (upI v i) (upI v j) = sameS (upI v i : Nat) (upI v j : Nat) L := by
    unfold wbL
    rw [if_neg (by omega), Nat.min_eq_left (by omega), Nat.max_eq_right (by omega)]
  rw [e1, wbL_symm L (upI v i) v]
  congr 1
  by_cases c : upI v i ∈ nearL n L v ∧ upI v j ∈ nearL n L v
  · rw [if_pos c]
  · rw [if_neg c]
    have n1 := wbL_nn hL v (upI v i)
    have n2 := wbL_nn hL v (upI v j)
    by_cases d : 0 < wbL L v (upI v i)
    · have : wbL L v (upI v j) = 0 := by
        have : ¬ 0 < wbL L v (upI v j) := fun h => c ⟨mem_nearL.2 ⟨by omega, d⟩, mem_nearL.2 ⟨hjn, h⟩⟩
        omega
      rw [this]; simp
    · have : wbL L v (upI v i) = 0 := by omega
      rw [this]; simp
end Go.Proofs.Ytahicfpnmjofhaa

namespace Go.Proofs.Ytahicfpnmjofhaa

theorem flat_wire {L : List Wr} {k : Nat} (h : k < L.length) : wa (flatW L) k = (nthW L k).a ∧ wb (flatW L) k = (nthW L k).b ∧ ww (flatW L) k = (nthW L k).w := flatW_get L k h
theorem wfind_not {xs : List Int} {a b : Int} : ∀ {m : Nat}, wfind xs a b m = none → ∀ k, k < m → ¬ isW xs a b k
  | 0, _, k, hk => by omega
  | m + 1, h, k, hk => by
    simp only [wfind] at h
    split at h
    · cases h
    · rename_i h0
      split at h
      · cases h
      · rename_i h1
        by_cases e : k = m
        · subst e; exact h1
        · exact wfind_not h0 k (by omega)
theorem wbet_wbL {n : Nat} {L : List Wr} (h : Ord n L) (a b : Nat) : wbet (flatW L) L.length (a : Int) (b : Int) = wbL L a b := by
  have hmin : min (a : Int) (b : Int) = ((min a b : Nat) : Int) := by omega
  have hmax : max (a : Int) (b : Int) = ((max a b : Nat) : Int) := by omega
  cases e : wfind (flatW L) (a : Int) (b : Int) L.length with
  | some k =>
    obtain ⟨hk, hw⟩ := wfind_lt e
    obtain ⟨f1, f2, f3⟩ := flat_wire hk
    have hm : nthW L k ∈ L := by rw [nthW_eq L k hk]; exact List.getElem_mem _
    obtain ⟨w1, w2⟩ := hw
    rw [f1, hmin] at w1
    rw [f2, hmax] at w2
    have hs := sameS_mem h.1 hm
    have hlt := (h.2 _ hm).2.1
    rw [wbet_some e, f3, ← hs, w1, w2]
    unfold wbL
    rw [if_neg (by omega)]
  | none =>
    rw [wbet_none e]
    unfold wbL
    split
    · rfl
    · refine (sameS_none (fun x hx hh => ?_)).symm
      obtain ⟨k, hk, he⟩ := List.getElem_of_mem hx
      refine wfind_not e k hk ?_
      obtain ⟨f1, f2, f3⟩ := flat_wire hk
      have hn := nthW_eq L k hk
      unfold isW
      rw [f1, f2, hn, he, hmin, hmax]
      exact hh
end Go.Proofs.Ytahicfpnmjofhaa
