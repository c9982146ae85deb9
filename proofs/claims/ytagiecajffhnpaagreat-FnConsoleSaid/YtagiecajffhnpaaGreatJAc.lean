/- LaplacianOf of the reference. No condition. Plain law: a sorted list of wires is told by its weights. No program in sight. Plain law: a node replaced by wires between its neighbors: the list of wires that is made by putting is the table's. No program in sight. without of impl: a table without a row and a column. No condition. A region that draws its order: the first n operations under a condition S on the world, then a tail in one forced order. No program in sight. Worlds that differ in one cell; slices of rows that are filled one after another. No condition. Plain Lean: fractions. GcdOf, RatioOk, RatioOf, in the program and in the reference. -/
import Derived.Test.YtagiecajffhnpaaGreatJAb
import Derived.Test.YtagiecajffhnpaaGreatJAa
import Derived.Test.YtagiecajffhnpaaGreatPlPut
import Derived.Test.YtagiecajffhnpaaGreatPlDet
import Derived.Test.YtagiecajffhnpaaGreatWDet0
import Derived.Test.YtagiecajffhnpaaGreatWBase
import Derived.Test.YtagiecajffhnpaaGreatWFlat
import Derived.Test.YtagiecajffhnpaaGreatWLaw
import Derived.Maps.AppendAt
namespace Go.Proofs.YtagiecajffhnpaaGreat
set_option maxRecDepth 100000
open Go.ChangeShapes Go.WideShapes Go.ChangeAt Go.RowKit Go.Joins

theorem apRow {w : World} {ops : Array Oper} {rest : List Oper} {o : Oper} {a : Act} {Q : Exit → Act → World → Prop} (hgd : o.guard = none) (s x : Operand)
    (ho : o.op = .call { callee := .builtin .append, args := #[s, x], argTypes := #[114, 114] })
    (base : Nat) (v : Value) (n : Nat) (l : List Value) (hs : a.eval s = v) (hown : w.ownsRow base 51 1 v n l)
    (y : Value) (hy : y.oneCell' = true) (hx : a.eval x = .slice (some ⟨w.heap.size, 0, none⟩) 1 1) (hn : n < 1000000) (hbase : base ≤ w.heap.size)
    (h : ∀ v' w', w'.ownsRow base 51 1 v' (n + 1) (l ++ [y]) → Mine w w' v → (v'.ownBlock = v.ownBlock ∨ ∃ k, v'.ownBlock = some k ∧ w.heap.size ≤ k) → wpList Tryz.prog ops Q rest (a.put o.dst v') w') :
    wpList Tryz.prog ops Q (o :: rest) a (w.alloc (.cells #[y] 51)) := by
  obtain ⟨i, hi1, hi2, hi3, hi4⟩ := info_parts inf_rowI
  refine wpList_append_own_at _ hgd s x 114 ho base 51 i _ 1 24 Tryz.underlying114 hi1 hi2 hi3 hi4 (by decide) (by decide) v n l hs (hown.alloc _) ⟨w.heap.size, 0, none⟩ 1 1 [y] hx (by simp) ?_ (by simpa using hy) (by unfold maxLen; omega) (by omega) (by simp; omega) ?_
  · exact cell_one_new w y _
  · intro v' w' h2 h3 _ h5
    refine h v' w' h2 (Mine.alloc _ h3) ?_
    rcases h5 with h5 | h5
    · exact .inl h5
    · exact .inr ⟨_, h5, by simp⟩
/-- The rows of out. -/
def RowsS (w : World) (B n : Nat) (u : Value) (cs : List Value) (k : Nat) (M : Nat → Nat → Int) : Prop :=
  w.ownsRow B 51 1 u k cs ∧ ∀ i, i < k → ∃ pr cr, cs[i]? = some (.slice pr n cr) ∧ w.ownsRow B 3 1 (.slice pr n cr) n (icells (mapR n (M i))) ∧ (∀ q, u.ownBlock = some q → (Value.slice pr n cr).ownBlock ≠ some q)
theorem RowsS.ge {w w' : World} {B n : Nat} {u : Value} {cs : List Value} {k : Nat} {M : Nat → Nat → Int} (h : RowsS w B n u cs k M) (hg : Ge w w') : RowsS w' B n u cs k M :=
  ⟨hg.owns h.1, fun i hi => by obtain ⟨pr, cr, h1, h2, h3⟩ := h.2 i hi; exact ⟨pr, cr, h1, hg.owns h2, h3⟩⟩
theorem RowsS.snoc {w0 w w' : World} {B n : Nat} {u v' row : Value} {cs : List Value} {k : Nat} {M : Nat → Nat → Int} (h : RowsS w0 B n u cs k M) (hg : Ge w0 w)
    (hrow : w.ownsRow w0.heap.size 3 1 row n (icells (mapR n (M k)))) (hn : 0 < n) (hB : B ≤ w0.heap.size) (h2 : w'.ownsRow B 51 1 v' (k + 1) (cs ++ [row])) (hm : Mine w w' u)
    (hat : v'.ownBlock = u.ownBlock ∨ ∃ q, v'.ownBlock = some q ∧ w.heap.size ≤ q) : RowsS w' B n v' (cs ++ [row]) (k + 1) M := by
  have hcl : cs.length = k := by have := h.1.1; omega
  obtain ⟨g, cap, rfl⟩ := Go.Joins.ownsRow_form hrow hn
  have hlr := hrow.lt g rfl
  refine ⟨h2, fun i hi => ?_⟩
  by_cases e : i = k
  · subst e
    refine ⟨some ⟨g, 0, none⟩, cap, by rw [List.getElem?_append_right (by omega)]; simp [hcl], ?_, fun q hq e => ?_⟩
    · refine owns_mono (hrow.kept hm ?_) hB
      right
      intro e
      have := (h.1.lt g e.symm).2
      omega
    · have e' : q = g := by simp [Value.ownBlock] at e; exact e.symm
      subst e'
      rcases hat with hat | ⟨k', hk', hle⟩
      · rw [hat] at hq
        have := (h.1.lt q hq).2
        omega
      · rw [hk'] at hq
        have : k' = q := by simpa using hq
        omega
  · obtain ⟨pr, cr, h1, h3, h4⟩ := (h.ge hg).2 i (by omega)
    have hold := (h.2 i (by omega))
    refine ⟨pr, cr, by rw [List.getElem?_append_left (by omega)]; exact h1, ?_, fun q hq e => ?_⟩
    · refine h3.kept hm ?_
      right
      intro e
      cases hu : u.ownBlock with
      | none =>
        rw [hu] at e
        obtain ⟨g', cap', e'⟩ := Go.Joins.ownsRow_form h3 hn
        rw [e'] at e; simp [Value.ownBlock] at e
      | some q => exact h4 q hu (by rw [e, hu])
    · rcases hat with hat | ⟨k', hk', hle⟩
      · rw [hat] at hq
        exact h4 q hq e
      · rw [hk'] at hq
        have e' : k' = q := by simpa using hq
        have := (h3.lt q e).2
        omega
theorem RowsS.slMM {w : World} {B n : Nat} {u : Value} {cs : List Value} {M : Nat → Nat → Int} {Z : Int → Int → Int} (h : RowsS w B n u cs n M) (hn : 0 < n) (hZ : ∀ a b : Nat, M a b = Z a b) : SlMM w u n Z := by
  obtain ⟨g, cap, rfl⟩ := Go.Joins.ownsRow_form h.1 hn
  refine ⟨_, _, rfl, fun i hi => ?_⟩
  obtain ⟨pr, cr, h1, h2, _⟩ := h.2 i hi
  obtain ⟨gr, cr', e⟩ := Go.Joins.ownsRow_form h2 hn
  simp only [Value.slice.injEq, true_and] at e
  obtain ⟨rfl, rfl⟩ := e
  refine ⟨g, 0, _, _, rfl, by rw [Nat.zero_add, h.1.cellAt i (by omega), h1], fun j hj => ⟨gr, 0, rfl, ?_⟩⟩
  rw [Nat.zero_add, own_nth h2 hj, mapR_nth hj, hZ]

end Go.Proofs.YtagiecajffhnpaaGreat

namespace Go.Proofs.YtagiecajffhnpaaGreat

theorem sorted_ext : ∀ {l k : List Wr}, l.Pairwise ltW → k.Pairwise ltW → (∀ e, e ∈ l ↔ e ∈ k) → l = k
  | [], [], _, _, _ => rfl
  | [], y :: k, _, _, h => by have := (h y).2 (by simp); cases this
  | x :: l, [], _, _, h => by have := (h x).1 (by simp); cases this
  | x :: l, y :: k, hl, hk, h => by
    rw [List.pairwise_cons] at hl hk
    have e : x = y := by
      have h1 := (h x).1 (by simp)
      have h2 := (h y).2 (by simp)
      rcases List.mem_cons.1 h1 with h1 | h1
      · exact h1
      · rcases List.mem_cons.1 h2 with h2 | h2
        · exact h2.symm
        · have a1 := hk.1 x h1
          have a2 := hl.1 y h2
          unfold ltW at a1 a2
          omega
    subst e
    rw [sorted_ext hl.2 hk.2 (fun e => ?_)]
    constructor
    · intro he
      rcases List.mem_cons.1 ((h e).1 (List.mem_cons_of_mem _ he)) with h1 | h1
      · have := hl.1 e he
        rw [h1] at this; unfold ltW at this; omega
      · exact h1
    · intro he
      rcases List.mem_cons.1 ((h e).2 (List.mem_cons_of_mem _ he)) with h1 | h1
      · have := hk.1 e he
        rw [h1] at this; unfold ltW at this; omega
      · exact h1
/-- The wires of row i from column a on, c columns. -/
def rowC (f : Nat → Nat → Int) (i a : Nat) : Nat → List Wr
  | 0 => []
  | c + 1 => rowC f i a c ++ (if f i (a + c) = 0 then [] else [⟨(i : Int), ((a + c : Nat) : Int), f i (a + c)⟩])
/-- The wires of the first rows of a table. -/
def tabC (f : Nat → Nat → Int) (k : Nat) : Nat → List Wr
  | 0 => []
  | i + 1 => tabC f k i ++ rowC f i (i + 1) (k - (i + 1))
theorem mem_rowC {f : Nat → Nat → Int} {i a : Nat} {e : Wr} : ∀ {c : Nat}, e ∈ rowC f i a c ↔ ∃ j, a ≤ j ∧ j < a + c ∧ ¬ f i j = 0 ∧ e = ⟨(i : Int), (j : Int), f i j⟩
  | 0 => by
    simp only [rowC, List.not_mem_nil, false_iff]
    rintro ⟨j, h1, h2, _⟩
    omega
  | c + 1 => by
    simp only [rowC, List.mem_append, mem_rowC (c := c)]
    constructor
    · rintro (⟨j, h1, h2, h3, h4⟩ | h)
      · exact ⟨j, h1, by omega, h3, h4⟩
      · split at h
        · cases h
        · rename_i h0
          exact ⟨a + c, by omega, by omega, h0, by simpa using h⟩
    · rintro ⟨j, h1, h2, h3, h4⟩
      by_cases e' : j = a + c
      · subst e'
        right
        rw [if_neg h3]; simpa using h4
      · exact .inl ⟨j, h1, by omega, h3, h4⟩
theorem mem_tabC {f : Nat → Nat → Int} {k : Nat} {e : Wr} : ∀ {t : Nat}, e ∈ tabC f k t ↔ ∃ i j, i < t ∧ i < j ∧ j < k ∧ ¬ f i j = 0 ∧ e = ⟨(i : Int), (j : Int), f i j⟩
  | 0 => by
    simp only [tabC, List.not_mem_nil, false_iff]
    rintro ⟨i, j, h1, _⟩
    omega
  | t + 1 => by
    simp only [tabC, List.mem_append, mem_tabC (t := t), mem_rowC]
    constructor
    · rintro (⟨i, j, h1, h2, h3, h4, h5⟩ | ⟨j, h1, h2, h3, h4⟩)
      · exact ⟨i, j, by omega, h2, h3, h4, h5⟩
      · exact ⟨t, j, by omega, by omega, by omega, h3, h4⟩
    · rintro ⟨i, j, h1, h2, h3, h4, h5⟩
      by_cases e' : i = t
      · subst e'
        exact .inr ⟨j, by omega, by omega, h4, h5⟩
      · exact .inl ⟨i, j, by omega, h2, h3, h4, h5⟩
theorem rowC_sorted (f : Nat → Nat → Int) (i a : Nat) : ∀ c, (rowC f i a c).Pairwise ltW
  | 0 => List.Pairwise.nil
  | c + 1 => by
    simp only [rowC]
    refine List.pairwise_append.2 ⟨rowC_sorted f i a c, by split <;> simp, fun x hx y hy => ?_⟩
    obtain ⟨j, h1, h2, h3, rfl⟩ := mem_rowC.1 hx
    split at hy
    · cases hy
    · have : y = ⟨(i : Int), ((a + c : Nat) : Int), f i (a + c)⟩ := by simpa using hy
      subst this
      right
      exact ⟨rfl, by show (j : Int) < ((a + c : Nat) : Int); omega⟩
theorem tabC_sorted (f : Nat → Nat → Int) (k : Nat) : ∀ t, (tabC f k t).Pairwise ltW
  | 0 => List.Pairwise.nil
  | t + 1 => by
    simp only [tabC]
    refine List.pairwise_append.2 ⟨tabC_sorted f k t, rowC_sorted f t _ _, fun x hx y hy => ?_⟩
    obtain ⟨i, j, h1, h2, h3, h4, rfl⟩ := mem_tabC.1 hx
    obtain ⟨j', g1, g2, g3, rfl⟩ := mem_rowC.1 hy
    left
    show (i : Int) < (t : Int)
    omega
theorem sameS_none {a b : Int} : ∀ {l : List Wr}, (∀ e ∈ l, ¬ (e.a = a ∧ e.b = b)) → sameS a b l = 0
  | [], _ => rfl
  | e :: l, h => by
    simp only [sameS]
    rw [isE_f (h e (by simp)), sameS_none (fun x hx => h x (List.mem_cons_of_mem _ hx))]; rfl
theorem sameS_mem : ∀ {l : List Wr}, l.Pairwise ltW → ∀ {e : Wr}, e ∈ l → sameS e.a e.b l = e.w
  | [], _, e, he => by cases he
  | x :: l, h, e, he => by
    rw [List.pairwise_cons] at h
    simp only [sameS]
    rcases List.mem_cons.1 he with rfl | he
    · rw [isE_t ⟨rfl, rfl⟩, sameS_none (fun y hy hh => by have := h.1 y hy; unfold ltW at this; omega)]; simp
    · have hx := h.1 e he
      rw [isE_f (fun hh => by unfold ltW at hx; omega), sameS_mem h.2 he]; simp
end Go.Proofs.YtagiecajffhnpaaGreat

namespace Go.Proofs.YtagiecajffhnpaaGreat

def upI (v : Nat) (i : Nat) : Nat := if i < v then i else i + 1
theorem up_ne (v i : Nat) : upI v i ≠ v := by unfold upI; split <;> omega
/-- A list of wires in order, on k nodes. -/
def Ord (k : Nat) (l : List Wr) : Prop := l.Pairwise ltW ∧ ∀ e ∈ l, 0 ≤ e.a ∧ e.a < e.b ∧ e.b < k ∧ 0 < e.w
theorem Ord.nil (k : Nat) : Ord k [] := ⟨List.Pairwise.nil, fun e he => by cases he⟩
theorem sameS_nn {k : Nat} {l : List Wr} (h : ∀ e ∈ l, 0 ≤ e.a ∧ e.a < e.b ∧ e.b < k ∧ 0 < e.w) (a b : Int) : 0 ≤ sameS a b l := by
  induction l with
  | nil => simp [sameS]
  | cons e l ih =>
    have h1 := ih (fun x hx => h x (List.mem_cons_of_mem _ hx))
    have h2 := (h e (by simp)).2.2.2
    simp only [sameS]
    split <;> omega
theorem mem_dropE {a b : Int} {l : List Wr} {e : Wr} : e ∈ dropE a b l ↔ e ∈ l ∧ ¬ (e.a = a ∧ e.b = b) := by
  unfold dropE
  rw [List.mem_filter]
  constructor
  · rintro ⟨h1, h2⟩
    refine ⟨h1, fun h => ?_⟩
    rw [isE_t h] at h2; cases h2
  · rintro ⟨h1, h2⟩
    exact ⟨h1, by rw [isE_f h2]; rfl⟩
theorem Ord.put {k : Nat} {l : List Wr} (h : Ord k l) {a b w : Int} (ha : 0 ≤ a ∧ a < k) (hb : 0 ≤ b ∧ b < k) (hab : ¬ a = b) (hw : 0 < w) : Ord k (putW l a b w true) := by
  unfold putW
  refine ⟨insW_sorted (List.Pairwise.filter _ h.1) (fun e he => (mem_dropE.1 he).2), fun e he => ?_⟩
  rcases mem_insW.1 he with rfl | he
  · have := sameS_nn h.2 (min a b) (max a b)
    refine ⟨by show 0 ≤ min a b; omega, by show min a b < max a b; omega, by show max a b < (k : Int); omega, ?_⟩
    show 0 < w + _
    simp; omega
  · exact h.2 e (mem_dropE.1 he).1
end Go.Proofs.YtagiecajffhnpaaGreat

namespace Go.Proofs.YtagiecajffhnpaaGreat
set_option maxRecDepth 100000
open Go.ChangeShapes Go.WideShapes Go.ChangeAt Go.RowKit Go.Joins

theorem owns_less {w : World} {b e g n c k : Nat} {xs : List Value} (h : w.ownsRow b e 1 (.slice (some ⟨g, 0, none⟩) n c) n xs) (hk : k ≤ n) : w.ownsRow b e 1 (.slice (some ⟨g, 0, none⟩) k c) k (xs.take k) := by
  rcases h.2 with ⟨h', _⟩ | ⟨g', cap', cur, h', hb, hg, hnc, hcm, hcs, htake⟩
  · simp at h'
  · simp only [Value.slice.injEq, Option.some.injEq, Addr.mk.injEq, and_true, true_and] at h'
    obtain ⟨rfl, rfl⟩ := h'
    refine ⟨?_, .inr ⟨g, c, cur, rfl, hb, hg, by omega, hcm, hcs, ?_⟩⟩
    · have := h.1
      rw [List.length_take]; omega
    · rw [← htake, List.take_take, Nat.mul_one, Nat.mul_one, Nat.min_eq_left hk]
theorem deleteO (base g n c j : Nat) (l : List Int) (w : World) (h : w.ownsRow base 3 1 (.slice (some ⟨g, 0, none⟩) n c) n (icells l)) (hj : j < n) (hm : n ≤ 1000) :
    Calls Tryz.prog 106 #[.slice (some ⟨g, 0, none⟩) n c, .int .i64 (j : Int), .int .i64 ((j : Int) + 1)] w fun e w' =>
      e = .returned (.slice (some ⟨g, 0, none⟩) (n - 1) c) ∧ w'.ownsRow base 3 1 (.slice (some ⟨g, 0, none⟩) (n - 1) c) (n - 1) (icells (l.eraseIdx j)) ∧ ∀ w0, Ge w0 w → w0.heap.size ≤ g → Ge w0 w' := by
  have hl : l.length = n := by have := h.1; rw [icells_length] at this; omega
  have hcap : n ≤ c ∧ c ≤ 9223372036854775807 := by
    rcases h.2 with ⟨h', _⟩ | ⟨g', cap', cur, h', _, _, hnc, hmx, _⟩
    · simp at h'
    · simp at h'
      unfold maxLen at hmx
      omega
  have hcell : ∀ k, k < l.length → w.cell? ⟨g, 0 + k, none⟩ = some (.int .i64 (l.getD k 0)) := fun k hk => by
    rw [Nat.zero_add, h.cellAt k (by omega)]
    simp [icells, List.getD, hk]
  have hfr : ∀ k, k < n → w.frozen? ⟨g, 0 + k, none⟩ = false := fun k _ => by rw [Nat.zero_add]; exact h.frozenAt k
  have key := Tryz.slices_Delete_int_cells g 0 n c j (j + 1) l w (by omega) hcap.1 hcap.2 (by omega) (by omega) hcell hfr
  have e1 : ((j + 1 : Nat) : Int) = (j : Int) + 1 := by omega
  rw [e1] at key
  refine key.mono ?_
  rintro e w' ⟨he, q, hw⟩
  have e2 : j + 1 - j = 1 := by omega
  have e3 : l.take n = l := by rw [← hl]; exact List.take_length
  rw [e2] at he hw
  rw [e3] at hw
  have hown : (w.drewN q).ownsRow base 3 1 (.slice (some ⟨g, 0, none⟩) n c) n (icells l) := Ge.owns ((Ge.refl w).drewN q) h
  have e4 : l.take j ++ l.drop (j + 1) = l.eraseIdx j := by rw [List.eraseIdx_eq_take_drop_succ]
  rw [e4] at hw
  have hlen : (l.eraseIdx j).length = n - 1 := by rw [List.length_eraseIdx]; simp [hl, hj]
  have h2 := own_setCells (l.eraseIdx j ++ List.replicate 1 0) 0 (w.drewN q) l hown hl (by simp [hlen]; omega)
  rw [← hw] at h2
  have h3 := owns_less (k := n - 1) h2.1 (by omega)
  have e5 : (icells (l.take 0 ++ (l.eraseIdx j ++ List.replicate 1 0))).take (n - 1) = icells (l.eraseIdx j) := by
    simp only [List.take_zero, List.nil_append, icells, List.map_append]
    rw [List.take_append_of_le_length (by simp [hlen]), List.take_of_length_le (by simp [hlen])]
  refine ⟨he, ?_, fun w0 hg0 hgs => (hg0.drewN q).grown h2.2 (fun k hk => by simp at hk; omega)⟩
  rw [← e5]
  exact h3
theorem mapR_erase (n v : Nat) (F : Nat → Int) (hv : v < n) : (mapR n F).eraseIdx v = mapR (n - 1) (fun b => F (upI v b)) := by
  have hl : ((mapR n F).eraseIdx v).length = n - 1 := by rw [List.length_eraseIdx, mapR_length, if_pos hv]
  refine nth_ext (by rw [hl, mapR_length]) (fun j hj => ?_)
  rw [hl] at hj
  rw [mapR_nth hj, nth_eq _ j (by omega), List.getElem_eraseIdx]
  unfold upI
  split
  · rw [← nth_eq _ j (by rw [mapR_length]; omega), mapR_nth (by omega)]
  · rw [← nth_eq _ (j + 1) (by rw [mapR_length]; omega), mapR_nth (by omega)]
/-- The rows that are there behind i. -/
def rowN (v i : Nat) : Nat := if i ≤ v then i else i - 1
theorem rowN_v (v : Nat) : rowN v (v + 1) = rowN v v := by simp [rowN]
theorem rowN_n {v i : Nat} (h : ¬ i = v) : rowN v (i + 1) = rowN v i + 1 ∧ upI v (rowN v i) = i := by
  unfold rowN upI
  split <;> split <;> split <;> omega
theorem rowN_all {v n : Nat} (h : v < n) : rowN v n = n - 1 := by unfold rowN; split <;> omega
theorem rowN_le (v i : Nat) : rowN v i ≤ i := by unfold rowN; split <;> omega

set_option maxHeartbeats 3200000 in
theorem iWithout (n v : Nat) (T : Int → Int → Int) (vm : Value) (w : World) (hm : SlMM w vm n T) (hn : 2 ≤ n) (h5 : n ≤ 5) (hv : v < n) :
    Calls Tryz.prog 72 #[vm, .int .i64 (v : Int)] w fun r w' => ∃ u, r = .returned u ∧ SlMM w' u (n - 1) (fun a b => T (upI v a.toNat) (upI v b.toNat)) ∧ Ge w w' := by
  obtain ⟨pm, cm, rfl, hmc⟩ := hm
  have HMC := Lib.hid hmc
  obtain ⟨M, hM⟩ : ∃ M : Nat → Nat → Int, M = fun (a b : Nat) => T (upI v a) (upI v b) := ⟨_, rfl⟩
  have HM : Hid (∀ i, ¬ i = v → mapR (n - 1) (M (rowN v i)) = (mapR n (fun j => T i j)).eraseIdx v) := fun i hi => by
    show _ = _
    rw [mapR_erase n v _ hv, hM]
    refine mapR_congr (fun b _ => ?_)
    show T (upI v (rowN v i)) (upI v b) = T i (upI v b)
    rw [(rowN_n hi).2]
  have HMz : Hid (∀ a b : Nat, M a b = (fun (a b : Int) => T (upI v a.toNat) (upI v b.toNat)) a b) := fun a b => by simp [hM]
  clear hM hmc
  go_enter Tryz.func72, Tryz.ntmps72
  go_wp2_with fail
  go_loopw [5, 11] (fun o i' wr => ∃ (a : Nat) (cs : List Value), a ≤ n ∧ i' = .int .i64 a ∧ RowsS wr w.heap.size (n - 1) o cs (rowN v a) M ∧ Ge w wr) (fun _ i _ => n - (intOf i).toNat)
  case atStart => exact ⟨0, [], Nat.zero_le _, rfl, ⟨owns_lit0 _ _ _, fun i hi => by simp [rowN] at hi⟩, kge⟩
  case round =>
    obtain ⟨a, cs, ha, rfl, HR, hg⟩ := hrel
    have HRa := Lib.hid HR
    clear HR
    by_cases hlt : a < n
    · obtain ⟨b, o, pr, cr, rfl, x0, hrow⟩ := HMC.out a hlt
      have x1 := hg.keep x0
      by_cases hav : a = v
      · subst hav
        have HRn := Lib.hid (rowN_v a)
        go_wp2_with fail
        go_roundw
        case rel => exact ⟨a + 1, cs, by omega, by go_num, by rw [HRn.out]; exact HRa.out, hg⟩
        case measure => simp [intOf]; omega
      · have t : ((a : Int) != (v : Int)) = true := by simp; omega
        have HRn := Lib.hid (rowN_n hav)
        have HMa := Lib.hid (HM.out a hav)
        have hrl := rowN_le v a
        have HCl := Lib.hid (fun w' (g : Ge w w') => cloneC (.slice pr n cr) (mapR n (fun j => T a j)) w' (⟨by rw [icells_length, mapR_length, Nat.mul_one], pr, cr, by rw [mapR_length], fun j u hu => by
          have hj : j < n := by have := (List.getElem?_eq_some_iff.1 hu).1; rwa [icells_length, mapR_length] at this
          obtain ⟨br, or', hp, hc⟩ := hrow j hj
          refine ⟨br, or', hp, ?_⟩
          rw [g.keep hc, ← hu, icells, List.getElem?_map, List.getElem?_eq_getElem (by rw [mapR_length]; exact hj), ← nth_eq _ j (by rw [mapR_length]; exact hj), mapR_nth hj]
          rfl⟩) (by rw [mapR_length]; omega) (by rw [mapR_length]; omega))
        rw [mapR_length] at HCl
        have HDl := Lib.hid (fun base g c w' h => deleteO base g n c v (mapR n (fun j => T a j)) w' h hv (by omega))
        rw [← HMa.out] at HDl
        clear hrow
        generalize mapR n (fun j => T (a : Int) j) = R at *
        go_wp2_with (first
          | (go_at_call 107; ((with_reducible refine (HCl.out _ hg).mono ?_); rintro e wC ⟨gC, cC, rfl, oC, hb⟩))
          | (go_at_call 106; ((with_reducible refine (HDl.out _ _ _ _ oC).mono ?_); rintro e wE ⟨rfl, sE, gE⟩); have gr := gE wr hb (oC.lt gC rfl).1; have OA := Lib.hid (gr.owns HRa.out.1); have zr := gr.size; have zg := hg.size)
          | (at_builtin; refine apRow rfl _ _ rfl w.heap.size _ (rowN v a) cs rfl OA.out _ (by rfl) rfl (by omega) (by omega) ?_; intro v6 w6 own6 hm6 hat6))
        go_roundw
        case rel => exact ⟨a + 1, _, by omega, by go_num, by rw [HRn.out.1]; exact RowsS.snoc HRa.out gr sE (by omega) hg.size own6 hm6 hat6, (Ge.trans hg gr).mine OA.out (Nat.le_refl _) hm6⟩
        case measure => simp [intOf]; omega
    · have han : a = n := by omega
      subst han
      have HRn := Lib.hid (rowN_all hv)
      have hR := HRa.out
      rw [HRn.out] at hR
      have HS := Lib.hid (RowsS.slMM (Z := fun (a b : Int) => T (upI v a.toNat) (upI v b.toNat)) hR (by omega) HMz.out)
      clear hR
      go_wp2_with fail
      go_ret
      exact ⟨_, rfl, HS.out, hg⟩
end Go.Proofs.YtagiecajffhnpaaGreat

namespace Go.Proofs.YtagiecajffhnpaaGreat

open Go

section
variable {P : Program} {ops : Array Oper} {Q : Exit → Act → World → Prop} {md : Region.Mode} {S : World → Prop}

/-- Whatever order the first n operations take: S holds behind each, and at their end L. -/
def wpAnyT (P : Program) (md : Region.Mode) (ops : Array Oper) (Q : Exit → Act → World → Prop) (S : World → Prop) (n : Nat) (L : Array Bool → Act → World → Prop) : Nat → Array Bool → Act → World → Prop
  | 0, listed, a, w => L listed a w
  | f + 1, listed, a, w => Region.ready md ops listed ≠ [] ∧ ∀ i ∈ Region.ready md ops listed, i < n ∧ wpOp P ops Q i (fun a' w' => S w' ∧ wpAnyT P md ops Q S n L f (listed.setIfInBounds i true) a' w') a w

theorem wpAny_of_T {n g : Nat} {L : Array Bool → Act → World → Prop} (hL : ∀ listed a w, L listed a w → wpAny P md ops Q g listed a w) :
    ∀ (f : Nat) (listed : Array Bool) (a : Act) (w : World), wpAnyT P md ops Q S n L f listed a w → wpAny P md ops Q (f + g) listed a w
  | 0, listed, a, w, h => by rw [Nat.zero_add]; exact hL _ _ _ h
  | f + 1, listed, a, w, h => by
    rw [show f + 1 + g = (f + g) + 1 by omega]
    exact ⟨fun h0 => absurd h0 h.1, fun i hi => wpOp_mono (fun a' w' h' => wpAny_of_T hL f _ a' w' h'.2) (h.2 i hi).2⟩

theorem wpAnyT_first {n i : Nat} {oi : Oper} {v : Value} {L : Array Bool → Act → World → Prop} (hi : ops[i]? = some oi) (hsel : ∀ (j : Nat) (o : Oper) cs b, ops[j]? = some o → o.op ≠ .select cs b)
    (hQ : ∀ c a w, Q (.panic c) (a.put oi.dst v) w → Q (.panic c) a w)
    (hs : Region.sinkB md ops n = true) (hc : Region.chainB md ops n = true) (hn : n < ops.size) (hin : i < n)
    (hdone : ∀ listed a w, L listed a w → ∀ j ∈ Region.ready md ops listed, n ≤ j) :
    ∀ (f : Nat) (listed : Array Bool) (a : Act) (w : World), HeadInv md ops n listed →
      (∀ j oj, ops[j]? = some oj → j ≠ i → listed.getD j true = false → (∀ e ∈ oj.after, Region.binds md e = true → e.on ≠ i) → oi.apart ops oj = true) →
      i ∈ Region.ready md ops listed → YieldsIf P ops S oi v a → S w →
      wpAnyT P md ops Q S n L f (listed.setIfInBounds i true) (a.put oi.dst v) w → wpAnyT P md ops Q S n L (f + 1) listed a w := by
  intro f
  induction f with
  | zero =>
    intro listed a w inv _ hr hy hS H
    have hun := (mem_ready.1 hr).1
    refine ⟨fun h => (by rw [h] at hr; cases hr), fun j hj => ?_⟩
    have hjn : j < n := by
      rcases Nat.lt_or_ge j n with h | h
      · exact h
      · exact absurd hj (tail_waits hs hc hn inv _ i rfl hin hun j h)
    refine ⟨hjn, ?_⟩
    by_cases hji : j = i
    · subst hji; exact hy.wpOp hi hS ⟨hS, H⟩
    · have := hdone _ _ _ H j (ready_mono hj hji)
      omega
  | succ f ih =>
    intro listed a w inv hfree hr hy hS H
    have hun := (mem_ready.1 hr).1
    refine ⟨fun h => (by rw [h] at hr; cases hr), fun j hj => ?_⟩
    have hjn : j < n := by
      rcases Nat.lt_or_ge j n with h | h
      · exact h
      · exact absurd hj (tail_waits hs hc hn inv _ i rfl hin hun j h)
    refine ⟨hjn, ?_⟩
    by_cases hji : j = i
    · subst hji; exact hy.wpOp hi hS ⟨hS, H⟩
    · have h1 := (H.2 j (ready_mono hj hji)).2
      obtain ⟨hjun, oj, hoj, hall⟩ := mem_ready.1 hj
      have hnot : ∀ e ∈ oj.after, Region.binds md e = true → e.on ≠ i := fun e he hb heq => by
        have h1 := hall e he hb
        rw [heq, getD_both hun] at h1
        cases h1
      have h2 := wpOp_putIf hoj (hfree j oj hoj hji hjun hnot) (fun cs b => hsel i oi cs b hi) (fun cs b => hsel j oj cs b hoj) hQ hy h1
      have hfree' : ∀ k ok, ops[k]? = some ok → k ≠ i → (listed.setIfInBounds j true).getD k true = false →
          (∀ e ∈ ok.after, Region.binds md e = true → e.on ≠ i) → oi.apart ops ok = true := fun k ok hk hki hun hno => by
        refine hfree k ok hk hki ?_ hno
        by_cases hjk : j = k
        · subst hjk; exact hjun
        · rw [getD_set_ne true hjk] at hun; exact hun
      refine wpOp_mono (fun a' w' h3 => ⟨h3.2.1, ih (listed.setIfInBounds j true) a' w' (inv.set hj hjn) hfree' (ready_mono hr (Ne.symm hji)) h3.1 h3.2.1 ?_⟩) h2
      rw [Array.setIfInBounds_comm _ _ hji]
      exact h3.2.2
end

section
variable {P : Program} {l : List Oper} {Q : Exit → Act → World → Prop} {S : World → Prop}

/-- The head's end. -/
def TailAt (P : Program) (l : List Oper) (Q : Exit → Act → World → Prop) (n : Nat) (listed : Array Bool) (a : Act) (w : World) : Prop :=
  Region.seqB .any l.toArray (l.length - n) n listed = true ∧ wpList P l.toArray Q (l.drop n) a w
/-- What the tactics carry: the head's invariant is at hand. -/
def Head (P : Program) (l : List Oper) (Q : Exit → Act → World → Prop) (S : World → Prop) (n f : Nat) (listed : Array Bool) (a : Act) (w : World) : Prop :=
  HeadInv .any l.toArray n listed → wpAnyT P .any l.toArray Q S n (TailAt P l Q n) f listed a w
/-- All that is asked of the region's form. -/
def okTail (l : List Oper) (n : Nat) : Bool := Region.noSelect l.toArray && (decide (n < l.length) && (Region.sinkB .any l.toArray n && Region.chainB .any l.toArray n))
theorem okTail_of {n : Nat} (h : okTail l n = true) : Region.noSelect l.toArray = true ∧ n < l.length ∧ Region.sinkB .any l.toArray n = true ∧ Region.chainB .any l.toArray n = true := by
  simpa [okTail] using h

/-- The beginning. -/
theorem wp_region_head {id : Nat} {a : Act} {w : World} (n : Nat) (hm : P.follows .mixedOrders = true) (hk : okTail l n = true) (hS : S w.drew)
    (h : S w.drew → Head P l Q S n n (Array.replicate l.length false) a w.drew) : (Code.region id l.toArray true).wp P Q a w := by
  obtain ⟨_, hn, _, _⟩ := okTail_of hk
  have inv0 : HeadInv .any l.toArray n (Array.replicate l.length false) :=
    ⟨by simp, fun j oj _ hl => (by rw [getD_replicate_false] at hl; cases hl), fun t _ ht => getD_in (by simpa using ht) (getD_replicate_false _ _)⟩
  refine wp_region_any hm ?_
  have H := h hS inv0
  have := wpAny_of_T (Q := Q) (g := l.length - n) (fun listed a' w' (hL : TailAt P l Q n listed a' w') => by
    have := wpAny_of_seq (md := .any) (Q' := Q) (l.drop n) n listed a' w' (fun j => by simp [List.getElem?_drop]) (by simpa using hL.1) hL.2
    simpa using this) _ _ _ _ H
  rw [show n + (l.length - n) = l.length by omega] at this
  simpa using this
/-- Take number i first. -/
theorem head_take {n f : Nat} {listed : Array Bool} {a : Act} {w : World} (i : Nat) {oi : Oper} {v : Value} (hi : l[i]? = some oi) (hk : okTail l n = true)
    (hf : (Region.free .any l.toArray listed i && ((Region.ready .any l.toArray listed).contains i && decide (i < n))) = true)
    (hQ : ∀ c a w, Q (.panic c) (a.put oi.dst v) w → Q (.panic c) a w) (hS : S w) (hy : YieldsIf P l.toArray S oi v a)
    (h : Head P l Q S n f (listed.setIfInBounds i true) (a.put oi.dst v) w) : Head P l Q S n (f + 1) listed a w := fun inv => by
  obtain ⟨h1, hn, h2, h3⟩ := okTail_of hk
  simp only [Bool.and_eq_true, decide_eq_true_eq] at hf
  obtain ⟨f1, f2, f3⟩ := hf
  have hr : i ∈ Region.ready .any l.toArray listed := by simpa using f2
  have hi' : l.toArray[i]? = some oi := by simpa using hi
  exact wpAnyT_first hi' (Region.noSelect_spec h1) hQ h2 h3 (by simpa using hn) f3 (fun listed a w hL => seqB_ready hL.1) f listed a w inv (Region.free_spec hi' f1) hr hy hS (h (inv.set hr f3))
/-- Number i is the only one that may come up. -/
theorem head_one {n f : Nat} {listed : Array Bool} {a : Act} {w : World} (i : Nat) {o : Oper} (hi : l[i]? = some o)
    (hr : (decide (Region.ready .any l.toArray listed = [i]) && decide (i < n)) = true)
    (h : ∀ K : Act → World → Prop, Shut (∀ a w, S w → (S w → Head P l Q S n f (listed.setIfInBounds i true) a w) → K a w) → if Region.wanted o (yielded l.toArray a.tmps) = true then Oper.wp P o a w K Q else K (a.put o.dst undef) w) :
    Head P l Q S n (f + 1) listed a w := fun inv => by
  simp only [Bool.and_eq_true, decide_eq_true_eq] at hr
  obtain ⟨h1, h2⟩ := hr
  refine ⟨fun h0 => (by rw [h1] at h0; cases h0), fun j hj => ?_⟩
  have hji : j = i := by rw [h1] at hj; simpa using hj
  have inv' := inv.set hj (by omega)
  rw [hji] at inv' ⊢
  refine ⟨h2, wpOp_step (by simpa using hi) (fun K hK => h K (fun a' w' hS hW => hK a' w' ⟨hS, hW hS inv'⟩))⟩
/-- Two may come up. -/
theorem head_two {n f : Nat} {listed : Array Bool} {a : Act} {w : World} (i j : Nat) {o p : Oper} (hi : l[i]? = some o) (hj : l[j]? = some p)
    (hr : (decide (Region.ready .any l.toArray listed = [i, j]) && (decide (i < n) && decide (j < n))) = true)
    (h : ∀ K : Act → World → Prop, Shut (∀ a w, S w → (S w → Head P l Q S n f (listed.setIfInBounds i true) a w) → K a w) → if Region.wanted o (yielded l.toArray a.tmps) = true then Oper.wp P o a w K Q else K (a.put o.dst undef) w)
    (h' : ∀ K : Act → World → Prop, Shut (∀ a w, S w → (S w → Head P l Q S n f (listed.setIfInBounds j true) a w) → K a w) → if Region.wanted p (yielded l.toArray a.tmps) = true then Oper.wp P p a w K Q else K (a.put p.dst undef) w) :
    Head P l Q S n (f + 1) listed a w := fun inv => by
  simp only [Bool.and_eq_true, decide_eq_true_eq] at hr
  obtain ⟨h1, h2, h3⟩ := hr
  refine ⟨fun h0 => (by rw [h1] at h0; cases h0), fun k hk => ?_⟩
  have hkk : k = i ∨ k = j := by rw [h1] at hk; simpa using hk
  rcases hkk with hkk | hkk
  · have inv' := inv.set hk (by omega)
    rw [hkk] at inv' ⊢
    exact ⟨h2, wpOp_step (by simpa using hi) (fun K hK => h K (fun a' w' hS hW => hK a' w' ⟨hS, hW hS inv'⟩))⟩
  · have inv' := inv.set hk (by omega)
    rw [hkk] at inv' ⊢
    exact ⟨h3, wpOp_step (by simpa using hj) (fun K hK => h' K (fun a' w' hS hW => hK a' w' ⟨hS, hW hS inv'⟩))⟩
/-- The head is done. -/
theorem head_done {n : Nat} {listed : Array Bool} {a : Act} {w : World} (hq : Region.seqB .any l.toArray (l.length - n) n listed = true) (h : wpList P l.toArray Q (l.drop n) a w) : Head P l Q S n 0 listed a w :=
  fun _ => ⟨hq, h⟩
/-- An operation that reads, where the world meets S. -/
theorem yields_if {P : Program} {l : List Oper} {S : World → Prop} {o : Oper} {v : Value} {a : Act} (hw : Region.wanted o (yielded l.toArray a.tmps) = true) (h : ∀ w, S w → (execOp a.eval o).run P w = .ok (.value v) w) : YieldsIf P l.toArray S o v a :=
  .inl ⟨hw, h⟩
/-- head_take, its small premises by auto-parameters. -/
theorem head_takeR {n f : Nat} {listed : Array Bool} {a : Act} {w : World} (i : Nat) {oi : Oper} {v : Value} (hi : l[i]? = some oi) (h0 : ∀ w, S w → (execOp a.eval oi).run P w = .ok (.value v) w)
    (h : Head P l Q S n f (listed.setIfInBounds i true) (a.put oi.dst v) w) (hk : okTail l n = true := by kernel_rfl)
    (hf : (Region.free .any l.toArray listed i && ((Region.ready .any l.toArray listed).contains i && decide (i < n))) = true := by kernel_rfl)
    (hQ : ∀ c a w, Q (.panic c) (a.put oi.dst v) w → Q (.panic c) a w := by exact fun _ _ _ h => h) (hS : S w := by assumption) (hw : Region.wanted oi (yielded l.toArray a.tmps) = true := by rfl) : Head P l Q S n (f + 1) listed a w :=
  head_take i hi hk hf hQ hS (yields_if hw h0) h
end

end Go.Proofs.YtagiecajffhnpaaGreat

namespace Go.Proofs.YtagiecajffhnpaaGreat
set_option maxRecDepth 100000
open Go.ChangeShapes Go.WideShapes Go.ChangeAt Go.RowKit Go.Joins

/-- All but one cell is as it was. -/
def GeY (b : Addr) (w w' : World) : Prop := (∀ a v, a ≠ b → w.cell? a = some v → w'.cell? a = some v) ∧ (∀ a v, w.cell? a = some v → w.frozen? a = false → w'.frozen? a = false) ∧ w.heap.size ≤ w'.heap.size
theorem GeY.refl (b : Addr) (w : World) : GeY b w w := ⟨fun _ _ _ h => h, fun _ _ _ h => h, Nat.le_refl _⟩
theorem GeY.ge {b : Addr} {w w' w'' : World} (h : GeY b w w') (hb : ∃ u, w'.cell? b = some u) (hg : Ge w' w'') : GeY b w w'' := by
  refine ⟨fun a v hne hc => hg.keep (h.1 a v hne hc), fun a v hc hf => ?_, Nat.le_trans h.2.2 hg.size⟩
  by_cases e : a = b
  · subst e
    obtain ⟨u, hu⟩ := hb
    exact hg.keepF hu (h.2.1 a v hc hf)
  · exact hg.keepF (h.1 a v e hc) (h.2.1 a v hc hf)
theorem GeY.set {b : Addr} {w w' : World} (h : GeY b w w') (x : Value) : GeY b w (w'.setCell b x) := by
  refine ⟨fun a v hne hc => ?_, fun a v hc hf => ?_, by simpa using h.2.2⟩
  · rw [World.cell?_setCell_other _ _ _ _ (fun e => hne e.symm)]; exact h.1 a v hne hc
  · have := h.2.1 a v hc hf
    simpa using this
theorem GeY.mine {b : Addr} {w w' w'' : World} {base e sz n : Nat} {v : Value} {xs : List Value} (h : GeY b w w') (ho : w'.ownsRow base e sz v n xs) (hb : w.heap.size ≤ base) (hm : Mine w' w'' v) : GeY b w w'' := by
  refine ⟨fun a u hne hc => mine_cell hm (h.1 a u hne hc) (before_row ho (Nat.lt_of_lt_of_le (World.block_lt_of_cell? _ _ hc) hb)), fun a u hc hf => ?_, Nat.le_trans h.2.2 (World.grownBy.size hm)⟩
  have hlt := World.block_lt_of_cell? _ _ hc
  have hne := before_row ho (b := a.block) (Nat.lt_of_lt_of_le hlt hb)
  rw [World.frozen?_of_block (World.grownBy.block hm a.block (Nat.lt_of_lt_of_le hlt h.2.2) (fun e => hne _ e.symm rfl))]
  exact h.2.1 a u hc hf
theorem Sl.gey {b : Addr} {w w' : World} {v u : Value} {n sz : Nat} {l : List Int} (h : Sl w v n sz (icells l)) (hy : GeY b w w') (hb : w.cell? b = some u) (hu : ∀ x, u ≠ .int .i64 x) : Sl w' v n sz (icells l) := by
  obtain ⟨h1, p, cap, hv, hc⟩ := h
  refine ⟨h1, p, cap, hv, fun i y hy' => ?_⟩
  obtain ⟨b', o, hp, hcell⟩ := hc i y hy'
  refine ⟨b', o, hp, hy.1 _ _ (fun e => ?_) hcell⟩
  rw [← e, hcell] at hb
  have hmem := List.mem_of_getElem? hy'
  simp only [icells, List.mem_map] at hmem
  obtain ⟨x, _, rfl⟩ := hmem
  exact hu x (by simpa using hb.symm)
theorem grown_setY (w : World) (b i : Nat) (x : Value) : w.grownBy (w.setCell ⟨b, i, none⟩ x) (some b) := by
  refine ⟨rfl, rfl, rfl, by simp, fun k _ hne => ?_⟩
  have : b ≠ k := fun e => hne (by rw [e])
  simp [World.setCell, Array.getElem?_modify, this]
theorem owns_setY {w : World} {base e sz n b o : Nat} {v : Value} {xs : List Value} (h : w.ownsRow base e sz v n xs) (hb : b < base) (x : Value) : (w.setCell ⟨b, o, none⟩ x).ownsRow base e sz v n xs := by
  refine h.kept (grown_setY w b o x) ?_
  cases hv : v.ownBlock with
  | none => exact .inl rfl
  | some k =>
    right
    intro e
    have := (h.lt k hv).1
    simp at e
    omega
theorem mine_frozY {w w' : World} {v : Value} (hm : Mine w w' v) {a : Addr} {u : Value} (h : w.cell? a = some u) (hf : w.frozen? a = false) (hne : ∀ k, v.ownBlock = some k → a.block ≠ k) : w'.frozen? a = false := by
  rw [World.frozen?_of_block (World.grownBy.block hm a.block (World.block_lt_of_cell? _ _ h) (fun e => hne _ e.symm rfl))]
  exact hf
/-- The first i of E rows (in block G) are filled: row a with the integers D a, sz an element. -/
def RowsY (w : World) (G E i sz : Nat) (D : Nat → List Int) : Prop :=
  ∀ a, a < E → w.frozen? ⟨G, a, none⟩ = false ∧ (∃ u, w.cell? ⟨G, a, none⟩ = some u ∧ (∀ x, u ≠ .int .i64 x) ∧ (a < i → Sl w u E sz (icells (D a))) ∧ (i ≤ a → u = .slice none 0 0))
theorem RowsY.init {w : World} {B G E sz : Nat} {e : TypeId} {D : Nat → List Int} (h : w.ownsRow B e 1 (.slice (some ⟨G, 0, none⟩) E E) E (List.replicate E (.slice none 0 0))) : RowsY w G E 0 sz D := fun a ha =>
  ⟨h.frozenAt a, .slice none 0 0, by rw [h.cellAt a (by omega)]; simp [ha], fun x hx => (by cases hx), fun h => absurd h (Nat.not_lt_zero _), fun _ => rfl⟩
theorem RowsY.at {w : World} {G E i sz : Nat} {D : Nat → List Int} (h : RowsY w G E i sz D) (hi : i < E) : w.cell? ⟨G, i, none⟩ = some (.slice none 0 0) ∧ w.frozen? ⟨G, i, none⟩ = false := by
  obtain ⟨h1, u, h2, _, _, h5⟩ := h i hi
  rw [h5 (Nat.le_refl _)] at h2
  exact ⟨h2, h1⟩
theorem RowsY.next {w w' : World} {G E i sz : Nat} {D : Nat → List Int} {u : Value} (h : RowsY w G E i sz D) (hi : i < E) (hy : GeY ⟨G, i, none⟩ w w') (hc : w'.cell? ⟨G, i, none⟩ = some u) (hu : ∀ x, u ≠ .int .i64 x)
    (hs : Sl w' u E sz (icells (D i))) : RowsY w' G E (i + 1) sz D := fun a ha => by
  have h0 := h.at hi
  obtain ⟨h1, v, h2, h3, h4, h5⟩ := h a ha
  refine ⟨hy.2.1 _ _ h2 h1, ?_⟩
  by_cases e : a = i
  · subst e
    exact ⟨u, hc, hu, fun _ => hs, fun h => by omega⟩
  · exact ⟨v, hy.1 _ _ (fun h => by simp at h) h2, h3, fun h => Sl.gey (h4 (by omega)) hy h0.1 (fun x hx => by cases hx), fun h => h5 (by omega)⟩
theorem RowsY.ge {w w' : World} {G E i sz : Nat} {D : Nat → List Int} (h : RowsY w G E i sz D) (hg : Ge w w') : RowsY w' G E i sz D := fun a ha => by
  obtain ⟨h1, v, h2, h3, h4, h5⟩ := h a ha
  exact ⟨hg.keepF h2 h1, v, hg.keep h2, h3, fun h => Sl.ge (h4 h) hg, h5⟩
/-- E rows, row a with the integers D a. -/
def SlRows (w : World) (v : Value) (E sz : Nat) (D : Nat → List Int) : Prop :=
  ∃ b o c, v = .slice (some ⟨b, o, none⟩) E c ∧ ∀ a, a < E → ∃ p k, w.cell? ⟨b, o + a, none⟩ = some (.slice p E k) ∧ Sl w (.slice p E k) E sz (icells (D a))
theorem SlRows.ge {w w' : World} {v : Value} {E sz : Nat} {D : Nat → List Int} (h : SlRows w v E sz D) (hg : Ge w w') : SlRows w' v E sz D := by
  obtain ⟨b, o, c, hv, hc⟩ := h
  refine ⟨b, o, c, hv, fun a ha => ?_⟩
  obtain ⟨p, k, h1, h2⟩ := hc a ha
  exact ⟨p, k, hg.keep h1, Sl.ge h2 hg⟩
theorem RowsY.rows {w : World} {G E sz : Nat} {D : Nat → List Int} (h : RowsY w G E E sz D) : SlRows w (.slice (some ⟨G, 0, none⟩) E E) E sz D := by
  refine ⟨G, 0, E, rfl, fun a ha => ?_⟩
  obtain ⟨_, v, h2, _, h4, _⟩ := h a ha
  have h5 := h4 ha
  obtain ⟨_, p, k, hv, _⟩ := h5
  refine ⟨p, k, by rw [Nat.zero_add, h2, hv], by rw [← hv]; exact h4 ha⟩
end Go.Proofs.YtagiecajffhnpaaGreat

namespace Go.Proofs.YtagiecajffhnpaaGreat

/-- A fraction as the program keeps it. -/
structure Rt where
  n : Int
  d : Int
deriving DecidableEq, Repr

def zeroR : Rt := ⟨0, 0⟩
/-- The greatest common divisor of the magnitudes. -/
def gcdN (a b : Int) : Nat := Nat.gcd a.natAbs b.natAbs

def ratioOk (n d : Int) : Bool :=
  decide (1 ≤ d) && decide (d ≤ 1000000000000000) && decide (-1000000000000000000 ≤ n) && decide (n ≤ 1000000000000000000) && decide (gcdN n d = 1)

theorem ratioOk_iff {n d : Int} : ratioOk n d = true ↔ 1 ≤ d ∧ d ≤ 1000000000000000 ∧ -1000000000000000000 ≤ n ∧ n ≤ 1000000000000000000 ∧ gcdN n d = 1 := by
  simp [ratioOk, and_assoc]

/-- RatioOf, for arguments that are not the least int. -/
def ratioOf (n d : Int) : Rt :=
  if d = 0 then zeroR
  else
    let g := gcdN n d
    let a := n.natAbs / g
    let b := d.natAbs / g
    if 1000000000000000000 < a ∨ 1000000000000000 < b then zeroR
    else ⟨if (n < 0) ↔ (d < 0) then (a : Int) else -(a : Int), (b : Int)⟩

theorem gcdN_pos {n d : Int} (h : d ≠ 0) : 0 < gcdN n d := by
  unfold gcdN
  exact Nat.gcd_pos_of_pos_right _ (by omega)

theorem gcdN_dvd_left (n d : Int) : gcdN n d ∣ n.natAbs := Nat.gcd_dvd_left _ _
theorem gcdN_dvd_right (n d : Int) : gcdN n d ∣ d.natAbs := Nat.gcd_dvd_right _ _
theorem gcdN_le (n d : Int) (h : d ≠ 0) : gcdN n d ≤ d.natAbs := Nat.le_of_dvd (by omega) (gcdN_dvd_right n d)

/-- What RatioOf gives is zero or valid. -/
theorem ratioOf_ok (n d : Int) : ratioOf n d = zeroR ∨ ratioOk (ratioOf n d).n (ratioOf n d).d = true := by
  unfold ratioOf
  by_cases h0 : d = 0
  · left; simp [h0]
  · rw [if_neg h0]
    simp only
    split
    · left; rfl
    · rename_i h
      right
      have hg := gcdN_pos (n := n) h0
      obtain ⟨a, ha⟩ := gcdN_dvd_left n d
      obtain ⟨b, hb⟩ := gcdN_dvd_right n d
      have ea : n.natAbs / gcdN n d = a := by rw [ha]; exact Nat.mul_div_cancel_left a hg
      have eb : d.natAbs / gcdN n d = b := by rw [hb]; exact Nat.mul_div_cancel_left b hg
      rw [ea, eb] at h ⊢
      have hb0 : b ≠ 0 := fun e => by rw [e] at hb; omega
      have hc : Nat.gcd a b = 1 := by
        have : Nat.gcd (gcdN n d * a) (gcdN n d * b) = gcdN n d * Nat.gcd a b := Nat.gcd_mul_left _ _ _
        rw [← ha, ← hb] at this
        have h1 : gcdN n d * Nat.gcd a b = gcdN n d * 1 := by rw [← this, Nat.mul_one]; rfl
        exact Nat.eq_of_mul_eq_mul_left hg h1
      rw [ratioOk_iff]
      dsimp only
      refine ⟨by omega, by omega, ?_, ?_, ?_⟩
      · split <;> omega
      · split <;> omega
      · unfold gcdN
        have : (if (n < 0) ↔ (d < 0) then (a : Int) else -(a : Int)).natAbs = a := by split <;> simp
        rw [this]
        simpa using hc


end Go.Proofs.YtagiecajffhnpaaGreat

namespace Go.Proofs.YtagiecajffhnpaaGreat

open Go.RowKit

theorem iSize (n : Int) (w : World) (h0 : -9223372036854775808 ≤ n) (h1 : n ≤ 9223372036854775807) :
    Calls Tryz.prog 116 #[.int .i64 n] w fun e w' => e = .returned (.int .u64 (n.natAbs : Int)) ∧ w = w' := by
  by_cases h : n < 0
  · have e1 : IntKind.u64.wrap n = n + 18446744073709551616 := by simp [IntKind.wrap, IntKind.signed, IntKind.bits]; omega
    have e2 : IntKind.u64.wrap (-(n + 18446744073709551616)) = -n := by simp [IntKind.wrap, IntKind.signed, IntKind.bits]; omega
    go_enter Tryz.func116, Tryz.ntmps116
    go_wp2_with fail
    go_ret
    exact ⟨ret_int (by omega), rfl⟩
  · go_enter Tryz.func116, Tryz.ntmps116
    go_wp2_with fail
    go_ret
    exact ⟨ret_int (by omega), rfl⟩

set_option maxHeartbeats 400000 in
theorem iCommon (a b : Nat) (w : World) (ha : a ≤ 9223372036854775808) (hb : b ≤ 9223372036854775808) :
    Calls Tryz.prog 115 #[.int .u64 a, .int .u64 b] w fun e w' => e = .returned (.int .u64 (Nat.gcd a b : Nat)) ∧ Ge w w' := by
  go_enter Tryz.func115, Tryz.ntmps115
  go_wp2_with fail
  go_loopw [0, 1] (fun x y wr => ∃ p q : Nat, x = .int .u64 p ∧ y = .int .u64 q ∧ p ≤ 9223372036854775808 ∧ q ≤ 9223372036854775808 ∧ Hid (Nat.gcd a b = Nat.gcd p q) ∧ Ge w wr) (fun _ y _ => (intOf y).toNat)
  case atStart => exact ⟨a, b, rfl, rfl, ha, hb, rfl, Ge.refl _⟩
  case round =>
    obtain ⟨p, q, rfl, rfl, hp, hq, H, hg⟩ := hrel
    by_cases h0 : q = 0
    · subst h0
      go_wp2_with fail
      go_ret
      exact ⟨ret_int (by rw [H.out, Nat.gcd_zero_right]), hg⟩
    · have t : ((q : Int) != 0) = true := by simp [h0]
      have t' : ((q : Int) == 0) = false := by simp [h0]
      have hq0 : 0 < q := by omega
      have hm := Nat.mod_lt p hq0
      have H2 : Hid (Nat.gcd a b = Nat.gcd q (p % q)) := by rw [H.out, Nat.gcd_comm p q, Nat.gcd_rec q p, Nat.gcd_comm]; exact rfl
      clear h0 H
      go_wp2_with fail
      go_quiet (fail)
      go_wp2_with fail
      go_roundw
      case rel => exact ⟨q, p % q, by go_num, by go_num, hq, by omega, H2, kge⟩
      case measure => simp [intOf]; omega

/-- An int that is not the least one. -/
def Mid (n : Int) : Prop := -9223372036854775807 ≤ n ∧ n ≤ 9223372036854775807
theorem mid {n : Int} (h0 : -9223372036854775807 ≤ n) (h1 : n ≤ 9223372036854775807) : Mid n := ⟨h0, h1⟩

set_option maxHeartbeats 400000 in
theorem iGcdOf (a b : Int) (w : World) (ha : Mid a) (hb : Mid b) :
    Calls Tryz.prog 105 #[.int .i64 a, .int .i64 b] w fun e w' => e = .returned (.int .i64 (gcdN a b : Nat)) ∧ Ge w w' := by
  obtain ⟨a0, a1⟩ := ha
  obtain ⟨b0, b1⟩ := hb
  have t1 : (a == -9223372036854775808) = false := by simp; omega
  have t2 : (b == -9223372036854775808) = false := by simp; omega
  have hg : Nat.gcd a.natAbs b.natAbs ≤ 9223372036854775807 := by
    by_cases h : a.natAbs = 0
    · rw [h, Nat.gcd_zero_left]; omega
    · have := Nat.gcd_le_left b.natAbs (show 0 < a.natAbs by omega); omega
  obtain ⟨g, hg'⟩ : ∃ g, Nat.gcd a.natAbs b.natAbs = g := ⟨_, rfl⟩
  rw [hg'] at hg
  have HG := Lib.hid hg'
  clear hg'
  have HC := Lib.hid (fun w => by have := iCommon a.natAbs b.natAbs w (by omega) (by omega); rwa [HG.out] at this : ∀ w, Calls Tryz.prog 115 #[.int .u64 (a.natAbs : Int), .int .u64 (b.natAbs : Int)] w fun e w' => e = .returned (.int .u64 (g : Int)) ∧ Ge w w')
  have e1 : IntKind.i64.wrap (g : Int) = g := IntWalk.i64_in _ (by omega)
  go_enter Tryz.func105, Tryz.ntmps105
  go_wp2_with (first | (go_at_call 116; ((with_reducible refine (iSize _ _ (by omega) (by omega)).mono ?_); rintro e w' ⟨rfl, rfl⟩)) | (go_at_call 115; ((with_reducible refine (HC.out _).mono ?_); rintro e w' ⟨rfl, hb⟩)))
  go_ret
  exact ⟨ret_int (by rw [← HG.out]; exact rfl), kge⟩

set_option maxHeartbeats 400000 in
theorem iRatioOk (n d : Int) (w : World) :
    Calls Tryz.prog 82 #[.agg #[.int .i64 n, .int .i64 d]] w fun e w' => e = .returned (.bool (ratioOk n d)) ∧ Ge w w' := by
  by_cases h1 : 1 ≤ d
  · by_cases h2 : d ≤ 1000000000000000
    · by_cases h3 : -1000000000000000000 ≤ n
      · by_cases h4 : n ≤ 1000000000000000000
        · by_cases h5 : gcdN n d = 1
          · have t : (((gcdN n d : Nat) : Int) == 1) = true := by simp [h5]
            have H5 := Lib.hid h5
            clear h5
            go_enter Tryz.func82, Tryz.ntmps82
            go_wp2_with (go_at_call 105; ((with_reducible refine (iGcdOf _ _ _ (mid (by omega) (by omega)) (mid (by omega) (by omega))).mono ?_); rintro e w' ⟨rfl, hb⟩))
            go_ret
            exact ⟨ret_bool (by simp [ratioOk, h1, h2, h3, h4, H5.out]), kge⟩
          · have t : (((gcdN n d : Nat) : Int) == 1) = false := by simp; omega
            have H5 := Lib.hid h5
            clear h5
            go_enter Tryz.func82, Tryz.ntmps82
            go_wp2_with (go_at_call 105; ((with_reducible refine (iGcdOf _ _ _ (mid (by omega) (by omega)) (mid (by omega) (by omega))).mono ?_); rintro e w' ⟨rfl, hb⟩))
            go_ret
            exact ⟨ret_bool (by simp [ratioOk, h1, h2, h3, h4, H5.out]), kge⟩
        · go_enter Tryz.func82, Tryz.ntmps82
          go_wp2_with fail
          go_ret
          exact ⟨ret_bool (by simp [ratioOk]; omega), kge⟩
      · go_enter Tryz.func82, Tryz.ntmps82
        go_wp2_with fail
        go_ret
        exact ⟨ret_bool (by simp [ratioOk]; omega), kge⟩
    · go_enter Tryz.func82, Tryz.ntmps82
      go_wp2_with fail
      go_ret
      exact ⟨ret_bool (by simp [ratioOk]; omega), kge⟩
  · go_enter Tryz.func82, Tryz.ntmps82
    go_wp2_with fail
    go_ret
    exact ⟨ret_bool (by simp [ratioOk]; omega), kge⟩

set_option maxHeartbeats 800000 in
theorem iRatioOf (n d : Int) (w : World) (hn : Mid n) (hd : Mid d) :
    Calls Tryz.prog 81 #[.int .i64 n, .int .i64 d] w fun e w' => e = .returned (.agg #[.int .i64 (ratioOf n d).n, .int .i64 (ratioOf n d).d]) ∧ Ge w w' := by
  obtain ⟨n0, n1⟩ := hn
  obtain ⟨d0, d1⟩ := hd
  by_cases h0 : d = 0
  · subst h0
    have HR : Hid (ratioOf n 0 = ⟨0, 0⟩) := by simp [ratioOf, zeroR]; exact trivial
    go_enter Tryz.func81, Tryz.ntmps81
    go_wp2_with fail
    refine bodyPost_ret (v := .agg #[.int .i64 0, .int .i64 0]) (by simp [results, Tryz.results81, go_sem]) rfl ⟨by rw [HR.out], kge⟩
  · have t0 : (d == 0) = false := by simp [h0]
    have hg := gcdN_pos (n := n) h0
    have hgl := gcdN_le n d h0
    obtain ⟨a, ha⟩ := gcdN_dvd_left n d
    obtain ⟨b, hb⟩ := gcdN_dvd_right n d
    have ea : n.natAbs / gcdN n d = a := by rw [ha]; exact Nat.mul_div_cancel_left a hg
    have eb : d.natAbs / gcdN n d = b := by rw [hb]; exact Nat.mul_div_cancel_left b hg
    have la : a ≤ n.natAbs := by rw [← ea]; exact Nat.div_le_self _ _
    have lb : b ≤ d.natAbs := by rw [← eb]; exact Nat.div_le_self _ _
    obtain ⟨x, hx⟩ : ∃ x, n.natAbs = x := ⟨_, rfl⟩
    obtain ⟨y, hy⟩ : ∃ y, d.natAbs = y := ⟨_, rfl⟩
    obtain ⟨g, hg'⟩ : ∃ g, gcdN n d = g := ⟨_, rfl⟩
    have HR : Hid (ratioOf n d = if 1000000000000000000 < a ∨ 1000000000000000 < b then zeroR else ⟨if (n < 0) ↔ (d < 0) then (a : Int) else -(a : Int), (b : Int)⟩) := by
      unfold ratioOf; rw [if_neg h0]; simp only [ea, eb]; exact trivial
    have HC := Lib.hid (fun w => by have := iCommon x y w (by omega) (by omega); rwa [show Nat.gcd x y = g by rw [← hg', ← hx, ← hy]; rfl] at this : ∀ w, Calls Tryz.prog 115 #[.int .u64 (x : Int), .int .u64 (y : Int)] w fun e w' => e = .returned (.int .u64 (g : Int)) ∧ Ge w w')
    have HSn := Lib.hid (fun w => by have := iSize n w (by omega) (by omega); rwa [hx] at this : ∀ w, Calls Tryz.prog 116 #[.int .i64 n] w fun e w' => e = .returned (.int .u64 (x : Int)) ∧ w = w')
    have HSd := Lib.hid (fun w => by have := iSize d w (by omega) (by omega); rwa [hy] at this : ∀ w, Calls Tryz.prog 116 #[.int .i64 d] w fun e w' => e = .returned (.int .u64 (y : Int)) ∧ w = w')
    rw [hx, hg'] at ea
    rw [hy, hg'] at eb
    rw [hg'] at hg hgl
    rw [hy] at hgl
    have ea' : (x : Int) / (g : Int) = (a : Int) := by rw [← ea]; exact rfl
    have eb' : (y : Int) / (g : Int) = (b : Int) := by rw [← eb]; exact rfl
    have tg : ((g : Int) == 0) = false := by simp; omega
    have xb : x ≤ 9223372036854775807 := by omega
    have yb : y ≤ 9223372036854775807 := by omega
    have gb : g ≤ 9223372036854775807 := by omega
    have ab : a ≤ 9223372036854775807 := by omega
    have bb : b ≤ 9223372036854775807 := by omega
    clear ha hb ea eb la lb hx hy hg' hgl h0
    by_cases c1 : 1000000000000000000 < a ∨ 1000000000000000 < b
    · have HZ : Hid (ratioOf n d = ⟨0, 0⟩) := by rw [HR.out, if_pos c1]; exact rfl
      clear HR
      go_enter Tryz.func81, Tryz.ntmps81
      go_wp2_with (first | (go_at_call 115; ((with_reducible refine (HC.out _).mono ?_); rintro e w' ⟨rfl, hGe⟩); obtain ⟨hCe, hFr, hSz⟩ := Ge.rules hGe; (try simp at hSz); have hL0 : w.heap.size < w'.heap.size := (by omega)) | (go_at_call 116; ((with_reducible refine (HSn.out _).mono ?_); rintro e w' ⟨rfl, rfl⟩)) | (go_at_call 116; ((with_reducible refine (HSd.out _).mono ?_); rintro e w' ⟨rfl, rfl⟩)))
      all_goals exact bodyPost_ret (v := .agg #[.int .i64 0, .int .i64 0]) (by simp [results, Tryz.results81, go_sem, *]) rfl ⟨by rw [HZ.out], kge⟩
    · obtain ⟨c2, c3⟩ : a ≤ 1000000000000000000 ∧ b ≤ 1000000000000000 := by omega
      have HZ : Hid (ratioOf n d = ⟨if (n < 0) ↔ (d < 0) then (a : Int) else -(a : Int), (b : Int)⟩) := by rw [HR.out, if_neg c1]; exact rfl
      clear HR c1
      have e3 : IntKind.i64.wrap (a : Int) = a := IntWalk.i64_in _ (by omega)
      have e4 : IntKind.i64.wrap (b : Int) = b := IntWalk.i64_in _ (by omega)
      by_cases s1 : n < 0
      · by_cases s2 : d < 0
        · have HZ2 : Hid (ratioOf n d = ⟨(a : Int), (b : Int)⟩) := by rw [HZ.out, if_pos (by simp [s1, s2])]; exact rfl
          clear HZ
          have q1 : decide (n < 0) = true := by simp; omega
          have q2 : decide (d < 0) = true := by simp; omega
          go_enter Tryz.func81, Tryz.ntmps81
          go_wp2_with (first | (go_at_call 115; ((with_reducible refine (HC.out _).mono ?_); rintro e w' ⟨rfl, hGe⟩); obtain ⟨hCe, hFr, hSz⟩ := Ge.rules hGe; (try simp at hSz); have hL0 : w.heap.size < w'.heap.size := (by omega)) | (go_at_call 116; ((with_reducible refine (HSn.out _).mono ?_); rintro e w' ⟨rfl, rfl⟩)) | (go_at_call 116; ((with_reducible refine (HSd.out _).mono ?_); rintro e w' ⟨rfl, rfl⟩)))
          exact bodyPost_ret (v := .agg #[.int .i64 ((a : Int)), .int .i64 (b : Int)]) (by simp [results, Tryz.results81, go_sem, *]) rfl ⟨by rw [HZ2.out], kge⟩
        · have HZ2 : Hid (ratioOf n d = ⟨-(a : Int), (b : Int)⟩) := by rw [HZ.out, if_neg (by simp [s1, s2])]; exact rfl
          clear HZ
          have q1 : decide (n < 0) = true := by simp; omega
          have q2 : decide (d < 0) = false := by simp; omega
          go_enter Tryz.func81, Tryz.ntmps81
          go_wp2_with (first | (go_at_call 115; ((with_reducible refine (HC.out _).mono ?_); rintro e w' ⟨rfl, hGe⟩); obtain ⟨hCe, hFr, hSz⟩ := Ge.rules hGe; (try simp at hSz); have hL0 : w.heap.size < w'.heap.size := (by omega)) | (go_at_call 116; ((with_reducible refine (HSn.out _).mono ?_); rintro e w' ⟨rfl, rfl⟩)) | (go_at_call 116; ((with_reducible refine (HSd.out _).mono ?_); rintro e w' ⟨rfl, rfl⟩)))
          exact bodyPost_ret (v := .agg #[.int .i64 (-(a : Int)), .int .i64 (b : Int)]) (by simp [results, Tryz.results81, go_sem, *]) rfl ⟨by rw [HZ2.out], kge⟩
      · by_cases s2 : d < 0
        · have HZ2 : Hid (ratioOf n d = ⟨-(a : Int), (b : Int)⟩) := by rw [HZ.out, if_neg (by simp [s1, s2])]; exact rfl
          clear HZ
          have q1 : decide (n < 0) = false := by simp; omega
          have q2 : decide (d < 0) = true := by simp; omega
          go_enter Tryz.func81, Tryz.ntmps81
          go_wp2_with (first | (go_at_call 115; ((with_reducible refine (HC.out _).mono ?_); rintro e w' ⟨rfl, hGe⟩); obtain ⟨hCe, hFr, hSz⟩ := Ge.rules hGe; (try simp at hSz); have hL0 : w.heap.size < w'.heap.size := (by omega)) | (go_at_call 116; ((with_reducible refine (HSn.out _).mono ?_); rintro e w' ⟨rfl, rfl⟩)) | (go_at_call 116; ((with_reducible refine (HSd.out _).mono ?_); rintro e w' ⟨rfl, rfl⟩)))
          exact bodyPost_ret (v := .agg #[.int .i64 (-(a : Int)), .int .i64 (b : Int)]) (by simp [results, Tryz.results81, go_sem, *]) rfl ⟨by rw [HZ2.out], kge⟩
        · have HZ2 : Hid (ratioOf n d = ⟨(a : Int), (b : Int)⟩) := by rw [HZ.out, if_pos (by simp [s1, s2])]; exact rfl
          clear HZ
          have q1 : decide (n < 0) = false := by simp; omega
          have q2 : decide (d < 0) = false := by simp; omega
          go_enter Tryz.func81, Tryz.ntmps81
          go_wp2_with (first | (go_at_call 115; ((with_reducible refine (HC.out _).mono ?_); rintro e w' ⟨rfl, hGe⟩); obtain ⟨hCe, hFr, hSz⟩ := Ge.rules hGe; (try simp at hSz); have hL0 : w.heap.size < w'.heap.size := (by omega)) | (go_at_call 116; ((with_reducible refine (HSn.out _).mono ?_); rintro e w' ⟨rfl, rfl⟩)) | (go_at_call 116; ((with_reducible refine (HSd.out _).mono ?_); rintro e w' ⟨rfl, rfl⟩)))
          exact bodyPost_ret (v := .agg #[.int .i64 ((a : Int)), .int .i64 (b : Int)]) (by simp [results, Tryz.results81, go_sem, *]) rfl ⟨by rw [HZ2.out], kge⟩


end Go.Proofs.YtagiecajffhnpaaGreat
