/- l03Find, WeightBetween of spec. No condition. NetOk of spec. No condition. LaplacianOf of the reference. No condition. Plain law: wires put into a list in order. No program in sight. Plain law: a sorted list of wires is told by its weights. No program in sight. Plain law: a node replaced by wires between its neighbors: the list of wires that is made by putting is the table's. No program in sight. without of impl: a table without a row and a column. No condition. Results read behind two stores. -/
import Derived.Test.YtagiecajffhnpaaGreatWWeight
import Derived.Test.YtagiecajffhnpaaGreatWReach
import Derived.Test.YtagiecajffhnpaaGreatWIn
import Derived.Test.YtagiecajffhnpaaGreatWOthers
import Derived.Test.YtagiecajffhnpaaGreatPlLap
import Derived.Test.YtagiecajffhnpaaGreatPlNet
import Derived.Test.YtagiecajffhnpaaGreatPlDet
import Derived.Test.YtagiecajffhnpaaGreatWMatO
import Derived.Test.YtagiecajffhnpaaGreatWDet0
import Derived.Test.YtagiecajffhnpaaGreatWBase
import Derived.Maps.AppendAt
namespace Go.Proofs.YtagiecajffhnpaaGreat
set_option maxRecDepth 100000
open Go.ChangeShapes Go.WideShapes Go.ChangeAt Go.RowKit Go.Joins

end Go.Proofs.YtagiecajffhnpaaGreat

namespace Go.Proofs.YtagiecajffhnpaaGreat
set_option maxRecDepth 100000
open Go.ChangeShapes Go.WideShapes Go.ChangeAt Go.RowKit Go.Joins

end Go.Proofs.YtagiecajffhnpaaGreat

namespace Go.Proofs.YtagiecajffhnpaaGreat
set_option maxRecDepth 100000
open Go.ChangeShapes Go.WideShapes Go.ChangeAt Go.RowKit Go.Joins

theorem apRow {w : World} {ops : Array Oper} {rest : List Oper} {o : Oper} {a : Act} {Q : Exit → Act → World → Prop} (hgd : o.guard = none) (s x : Operand)
    (ho : o.op = .call { callee := .builtin .append, args := #[s, x], argTypes := #[114, 114] })
    (base : Nat) (v : Value) (n : Nat) (l : List Value) (hs : a.eval s = v) (hown : w.ownsRow base 51 1 v n l)
    (y : Value) (hy : y.oneCell' = true) (hx : a.eval x = .slice (some ⟨w.heap.size, 0, none⟩) 1 1) (hn : n < 1000000) (hbase : base ≤ w.heap.size)
    (h : ∀ v' w', w'.ownsRow base 51 1 v' (n + 1) (l ++ [y]) → Mine w w' v → (v'.ownBlock = v.ownBlock ∨ ∃ k, v'.ownBlock = some k ∧ w.heap.size ≤ k) → wpList Tryz.prog ops Q rest (a.put o.dst v') w') :
    wpList Tryz.prog ops Q (o :: rest) a (w.alloc (.cells #[y] 51)) := by
  obtain ⟨i, hi1, hi2, hi3, hi4⟩ := info_parts inf_rowI
  refine wpList_append_own_at _ hgd s x 114 ho base 51 i _ 1 24 Tryz.underlying114 hi1 hi2 hi3 hi4 (by decide) (by decide) v n l hs (hown.alloc _) ⟨w.heap.size, 0, none⟩ 1 1 [y] hx (by simp) ?_ (by simpa using hy) (by unfold maxLen; omega) (by omega) (by simp; omega) ?_
  · exact cell_one_new w y _
  · intro v' w' h2 h3 _ h5
    refine h v' w' h2 (Mine.alloc _ h3) ?_
    rcases h5 with h5 | h5
    · exact .inl h5
    · exact .inr ⟨_, h5, by simp⟩
/-- The rows of out. -/
def RowsS (w : World) (B n : Nat) (u : Value) (cs : List Value) (k : Nat) (M : Nat → Nat → Int) : Prop :=
  w.ownsRow B 51 1 u k cs ∧ ∀ i, i < k → ∃ pr cr, cs[i]? = some (.slice pr n cr) ∧ w.ownsRow B 3 1 (.slice pr n cr) n (icells (mapR n (M i))) ∧ (∀ q, u.ownBlock = some q → (Value.slice pr n cr).ownBlock ≠ some q)
theorem RowsS.ge {w w' : World} {B n : Nat} {u : Value} {cs : List Value} {k : Nat} {M : Nat → Nat → Int} (h : RowsS w B n u cs k M) (hg : Ge w w') : RowsS w' B n u cs k M :=
  ⟨hg.owns h.1, fun i hi => by obtain ⟨pr, cr, h1, h2, h3⟩ := h.2 i hi; exact ⟨pr, cr, h1, hg.owns h2, h3⟩⟩
theorem RowsS.snoc {w0 w w' : World} {B n : Nat} {u v' row : Value} {cs : List Value} {k : Nat} {M : Nat → Nat → Int} (h : RowsS w0 B n u cs k M) (hg : Ge w0 w)
    (hrow : w.ownsRow w0.heap.size 3 1 row n (icells (mapR n (M k)))) (hn : 0 < n) (hB : B ≤ w0.heap.size) (h2 : w'.ownsRow B 51 1 v' (k + 1) (cs ++ [row])) (hm : Mine w w' u)
    (hat : v'.ownBlock = u.ownBlock ∨ ∃ q, v'.ownBlock = some q ∧ w.heap.size ≤ q) : RowsS w' B n v' (cs ++ [row]) (k + 1) M := by
  have hcl : cs.length = k := by have := h.1.1; omega
  obtain ⟨g, cap, rfl⟩ := Go.Joins.ownsRow_form hrow hn
  have hlr := hrow.lt g rfl
  refine ⟨h2, fun i hi => ?_⟩
  by_cases e : i = k
  · subst e
    refine ⟨some ⟨g, 0, none⟩, cap, by rw [List.getElem?_append_right (by omega)]; simp [hcl], ?_, fun q hq e => ?_⟩
    · refine owns_mono (hrow.kept hm ?_) hB
      right
      intro e
      have := (h.1.lt g e.symm).2
      omega
    · have e' : q = g := by simp [Value.ownBlock] at e; exact e.symm
      subst e'
      rcases hat with hat | ⟨k', hk', hle⟩
      · rw [hat] at hq
        have := (h.1.lt q hq).2
        omega
      · rw [hk'] at hq
        have : k' = q := by simpa using hq
        omega
  · obtain ⟨pr, cr, h1, h3, h4⟩ := (h.ge hg).2 i (by omega)
    have hold := (h.2 i (by omega))
    refine ⟨pr, cr, by rw [List.getElem?_append_left (by omega)]; exact h1, ?_, fun q hq e => ?_⟩
    · refine h3.kept hm ?_
      right
      intro e
      cases hu : u.ownBlock with
      | none =>
        rw [hu] at e
        obtain ⟨g', cap', e'⟩ := Go.Joins.ownsRow_form h3 hn
        rw [e'] at e; simp [Value.ownBlock] at e
      | some q => exact h4 q hu (by rw [e, hu])
    · rcases hat with hat | ⟨k', hk', hle⟩
      · rw [hat] at hq
        exact h4 q hq e
      · rw [hk'] at hq
        have e' : k' = q := by simpa using hq
        have := (h3.lt q e).2
        omega
theorem RowsS.slMM {w : World} {B n : Nat} {u : Value} {cs : List Value} {M : Nat → Nat → Int} {Z : Int → Int → Int} (h : RowsS w B n u cs n M) (hn : 0 < n) (hZ : ∀ a b : Nat, M a b = Z a b) : SlMM w u n Z := by
  obtain ⟨g, cap, rfl⟩ := Go.Joins.ownsRow_form h.1 hn
  refine ⟨_, _, rfl, fun i hi => ?_⟩
  obtain ⟨pr, cr, h1, h2, _⟩ := h.2 i hi
  obtain ⟨gr, cr', e⟩ := Go.Joins.ownsRow_form h2 hn
  simp only [Value.slice.injEq, true_and] at e
  obtain ⟨rfl, rfl⟩ := e
  refine ⟨g, 0, _, _, rfl, by rw [Nat.zero_add, h.1.cellAt i (by omega), h1], fun j hj => ⟨gr, 0, rfl, ?_⟩⟩
  rw [Nat.zero_add, own_nth h2 hj, mapR_nth hj, hZ]

end Go.Proofs.YtagiecajffhnpaaGreat

namespace Go.Proofs.YtagiecajffhnpaaGreat

/-- The wire has the ends a and b. -/
def isE (a b : Int) (e : Wr) : Bool := decide (e.a = a) && decide (e.b = b)
/-- The wire lies behind the ends a and b. -/
def gtE (a b : Int) (e : Wr) : Bool := decide (a < e.a) || (decide (e.a = a) && decide (b < e.b))
theorem isE_t {a b : Int} {e : Wr} (h : e.a = a ∧ e.b = b) : isE a b e = true := by simp [isE, h]
theorem isE_f {a b : Int} {e : Wr} (h : ¬ (e.a = a ∧ e.b = b)) : isE a b e = false := by simpa [isE] using h
theorem gtE_t {a b : Int} {e : Wr} (h : a < e.a ∨ e.a = a ∧ b < e.b) : gtE a b e = true := by simpa [gtE] using h
theorem gtE_of {a b : Int} {e : Wr} (h : gtE a b e = true) : a < e.a ∨ e.a = a ∧ b < e.b := by simpa [gtE] using h
/-- The wires with other ends. -/
def dropE (a b : Int) (l : List Wr) : List Wr := l.filter fun e => !isE a b e
/-- The weights of those with these ends. -/
def sameS (a b : Int) : List Wr → Int
  | [] => 0
  | e :: l => (if isE a b e = true then e.w else 0) + sameS a b l
/-- The first k wires, x put ahead of the first that lies behind it; whether it has been put. -/
def insP (x : Wr) : List Wr → List Wr × Bool
  | [] => ([], false)
  | e :: l => if gtE x.a x.b e = true then (x :: e :: l, true) else (e :: (insP x l).1, (insP x l).2)
def insW (x : Wr) (l : List Wr) : List Wr := if (insP x l).2 = true then (insP x l).1 else (insP x l).1 ++ [x]
/-- What l03Put gives. -/
def putW (l : List Wr) (a b w : Int) (add : Bool) : List Wr := insW ⟨min a b, max a b, w + (if add = true then sameS (min a b) (max a b) l else 0)⟩ (dropE (min a b) (max a b) l)
theorem dropE_snoc (a b : Int) (l : List Wr) (e : Wr) : dropE a b (l ++ [e]) = if isE a b e = true then dropE a b l else dropE a b l ++ [e] := by
  unfold dropE
  rw [List.filter_append]
  cases c : isE a b e <;> simp [c]
theorem sameS_snoc (a b : Int) (l : List Wr) (e : Wr) : sameS a b (l ++ [e]) = sameS a b l + (if isE a b e = true then e.w else 0) := by
  induction l with
  | nil => simp [sameS]
  | cons x l ih => simp only [List.cons_append, sameS, ih]; omega
theorem insP_snoc (x : Wr) (l : List Wr) (e : Wr) : insP x (l ++ [e]) = if (insP x l).2 = true then ((insP x l).1 ++ [e], true) else if gtE x.a x.b e = true then ((insP x l).1 ++ [x, e], true) else ((insP x l).1 ++ [e], false) := by
  induction l with
  | nil => simp [insP]
  | cons y l ih =>
    simp only [List.cons_append, insP, ih]
    by_cases c : gtE x.a x.b y = true
    · simp [c]
    · by_cases d : (insP x l).2 = true
      · simp [c, d]
      · by_cases c2 : gtE x.a x.b e = true
        · simp [c, d, c2]
        · simp [c, d, c2]
theorem insW_cons (x e : Wr) (l : List Wr) : insW x (e :: l) = if gtE x.a x.b e = true then x :: e :: l else e :: insW x l := by
  unfold insW
  simp only [insP]
  by_cases c : gtE x.a x.b e = true
  · simp [c]
  · by_cases d : (insP x l).2 = true
    · simp [c, d]
    · simp [c, d]
theorem mem_insW {x : Wr} : ∀ {l : List Wr} {y : Wr}, y ∈ insW x l ↔ y = x ∨ y ∈ l
  | [], y => by simp [insW, insP]
  | e :: l, y => by
    rw [insW_cons]
    split
    · simp
    · simp only [List.mem_cons, mem_insW (x := x) (l := l) (y := y)]
      constructor
      · rintro (h | h | h) <;> simp [h]
      · rintro (h | h | h) <;> simp [h]
def ltW (x y : Wr) : Prop := x.a < y.a ∨ x.a = y.a ∧ x.b < y.b
theorem ltW_trans {x y z : Wr} (h : ltW x y) (k : ltW y z) : ltW x z := by unfold ltW at *; omega
theorem insW_sorted {x : Wr} : ∀ {l : List Wr}, l.Pairwise ltW → (∀ e ∈ l, ¬ (e.a = x.a ∧ e.b = x.b)) → (insW x l).Pairwise ltW
  | [], _, _ => by simp [insW, insP]
  | e :: l, h, hne => by
    rw [insW_cons]
    rw [List.pairwise_cons] at h
    by_cases c : gtE x.a x.b e = true
    · rw [if_pos c]
      have c' := gtE_of c
      have hxe : ltW x e := by unfold ltW; omega
      refine List.pairwise_cons.2 ⟨fun y hy => ?_, List.pairwise_cons.2 h⟩
      rcases List.mem_cons.1 hy with rfl | hy
      · exact hxe
      · exact ltW_trans hxe (h.1 y hy)
    · rw [if_neg c]
      refine List.pairwise_cons.2 ⟨fun y hy => ?_, insW_sorted h.2 (fun e he => hne e (List.mem_cons_of_mem _ he))⟩
      rcases mem_insW.1 hy with rfl | hy
      · have h1 := hne e (by simp)
        have h2 : ¬ (y.a < e.a ∨ e.a = y.a ∧ y.b < e.b) := fun k => c (gtE_t k)
        unfold ltW; omega
      · exact h.1 y hy
end Go.Proofs.YtagiecajffhnpaaGreat

namespace Go.Proofs.YtagiecajffhnpaaGreat

theorem sorted_ext : ∀ {l k : List Wr}, l.Pairwise ltW → k.Pairwise ltW → (∀ e, e ∈ l ↔ e ∈ k) → l = k
  | [], [], _, _, _ => rfl
  | [], y :: k, _, _, h => by have := (h y).2 (by simp); cases this
  | x :: l, [], _, _, h => by have := (h x).1 (by simp); cases this
  | x :: l, y :: k, hl, hk, h => by
    rw [List.pairwise_cons] at hl hk
    have e : x = y := by
      have h1 := (h x).1 (by simp)
      have h2 := (h y).2 (by simp)
      rcases List.mem_cons.1 h1 with h1 | h1
      · exact h1
      · rcases List.mem_cons.1 h2 with h2 | h2
        · exact h2.symm
        · have a1 := hk.1 x h1
          have a2 := hl.1 y h2
          unfold ltW at a1 a2
          omega
    subst e
    rw [sorted_ext hl.2 hk.2 (fun e => ?_)]
    constructor
    · intro he
      rcases List.mem_cons.1 ((h e).1 (List.mem_cons_of_mem _ he)) with h1 | h1
      · have := hl.1 e he
        rw [h1] at this; unfold ltW at this; omega
      · exact h1
    · intro he
      rcases List.mem_cons.1 ((h e).2 (List.mem_cons_of_mem _ he)) with h1 | h1
      · have := hk.1 e he
        rw [h1] at this; unfold ltW at this; omega
      · exact h1
/-- The wires of row i from column a on, c columns. -/
def rowC (f : Nat → Nat → Int) (i a : Nat) : Nat → List Wr
  | 0 => []
  | c + 1 => rowC f i a c ++ (if f i (a + c) = 0 then [] else [⟨(i : Int), ((a + c : Nat) : Int), f i (a + c)⟩])
/-- The wires of the first rows of a table. -/
def tabC (f : Nat → Nat → Int) (k : Nat) : Nat → List Wr
  | 0 => []
  | i + 1 => tabC f k i ++ rowC f i (i + 1) (k - (i + 1))
theorem mem_rowC {f : Nat → Nat → Int} {i a : Nat} {e : Wr} : ∀ {c : Nat}, e ∈ rowC f i a c ↔ ∃ j, a ≤ j ∧ j < a + c ∧ ¬ f i j = 0 ∧ e = ⟨(i : Int), (j : Int), f i j⟩
  | 0 => by
    simp only [rowC, List.not_mem_nil, false_iff]
    rintro ⟨j, h1, h2, _⟩
    omega
  | c + 1 => by
    simp only [rowC, List.mem_append, mem_rowC (c := c)]
    constructor
    · rintro (⟨j, h1, h2, h3, h4⟩ | h)
      · exact ⟨j, h1, by omega, h3, h4⟩
      · split at h
        · cases h
        · rename_i h0
          exact ⟨a + c, by omega, by omega, h0, by simpa using h⟩
    · rintro ⟨j, h1, h2, h3, h4⟩
      by_cases e' : j = a + c
      · subst e'
        right
        rw [if_neg h3]; simpa using h4
      · exact .inl ⟨j, h1, by omega, h3, h4⟩
theorem mem_tabC {f : Nat → Nat → Int} {k : Nat} {e : Wr} : ∀ {t : Nat}, e ∈ tabC f k t ↔ ∃ i j, i < t ∧ i < j ∧ j < k ∧ ¬ f i j = 0 ∧ e = ⟨(i : Int), (j : Int), f i j⟩
  | 0 => by
    simp only [tabC, List.not_mem_nil, false_iff]
    rintro ⟨i, j, h1, _⟩
    omega
  | t + 1 => by
    simp only [tabC, List.mem_append, mem_tabC (t := t), mem_rowC]
    constructor
    · rintro (⟨i, j, h1, h2, h3, h4, h5⟩ | ⟨j, h1, h2, h3, h4⟩)
      · exact ⟨i, j, by omega, h2, h3, h4, h5⟩
      · exact ⟨t, j, by omega, by omega, by omega, h3, h4⟩
    · rintro ⟨i, j, h1, h2, h3, h4, h5⟩
      by_cases e' : i = t
      · subst e'
        exact .inr ⟨j, by omega, by omega, h4, h5⟩
      · exact .inl ⟨i, j, by omega, h2, h3, h4, h5⟩
theorem rowC_sorted (f : Nat → Nat → Int) (i a : Nat) : ∀ c, (rowC f i a c).Pairwise ltW
  | 0 => List.Pairwise.nil
  | c + 1 => by
    simp only [rowC]
    refine List.pairwise_append.2 ⟨rowC_sorted f i a c, by split <;> simp, fun x hx y hy => ?_⟩
    obtain ⟨j, h1, h2, h3, rfl⟩ := mem_rowC.1 hx
    split at hy
    · cases hy
    · have : y = ⟨(i : Int), ((a + c : Nat) : Int), f i (a + c)⟩ := by simpa using hy
      subst this
      right
      exact ⟨rfl, by show (j : Int) < ((a + c : Nat) : Int); omega⟩
theorem tabC_sorted (f : Nat → Nat → Int) (k : Nat) : ∀ t, (tabC f k t).Pairwise ltW
  | 0 => List.Pairwise.nil
  | t + 1 => by
    simp only [tabC]
    refine List.pairwise_append.2 ⟨tabC_sorted f k t, rowC_sorted f t _ _, fun x hx y hy => ?_⟩
    obtain ⟨i, j, h1, h2, h3, h4, rfl⟩ := mem_tabC.1 hx
    obtain ⟨j', g1, g2, g3, rfl⟩ := mem_rowC.1 hy
    left
    show (i : Int) < (t : Int)
    omega
theorem sameS_none {a b : Int} : ∀ {l : List Wr}, (∀ e ∈ l, ¬ (e.a = a ∧ e.b = b)) → sameS a b l = 0
  | [], _ => rfl
  | e :: l, h => by
    simp only [sameS]
    rw [isE_f (h e (by simp)), sameS_none (fun x hx => h x (List.mem_cons_of_mem _ hx))]; rfl
theorem sameS_mem : ∀ {l : List Wr}, l.Pairwise ltW → ∀ {e : Wr}, e ∈ l → sameS e.a e.b l = e.w
  | [], _, e, he => by cases he
  | x :: l, h, e, he => by
    rw [List.pairwise_cons] at h
    simp only [sameS]
    rcases List.mem_cons.1 he with rfl | he
    · rw [isE_t ⟨rfl, rfl⟩, sameS_none (fun y hy hh => by have := h.1 y hy; unfold ltW at this; omega)]; simp
    · have hx := h.1 e he
      rw [isE_f (fun hh => by unfold ltW at hx; omega), sameS_mem h.2 he]; simp
end Go.Proofs.YtagiecajffhnpaaGreat

namespace Go.Proofs.YtagiecajffhnpaaGreat

def upI (v : Nat) (i : Nat) : Nat := if i < v then i else i + 1
theorem up_ne (v i : Nat) : upI v i ≠ v := by unfold upI; split <;> omega
/-- A list of wires in order, on k nodes. -/
def Ord (k : Nat) (l : List Wr) : Prop := l.Pairwise ltW ∧ ∀ e ∈ l, 0 ≤ e.a ∧ e.a < e.b ∧ e.b < k ∧ 0 < e.w
theorem Ord.nil (k : Nat) : Ord k [] := ⟨List.Pairwise.nil, fun e he => by cases he⟩
theorem sameS_nn {k : Nat} {l : List Wr} (h : ∀ e ∈ l, 0 ≤ e.a ∧ e.a < e.b ∧ e.b < k ∧ 0 < e.w) (a b : Int) : 0 ≤ sameS a b l := by
  induction l with
  | nil => simp [sameS]
  | cons e l ih =>
    have h1 := ih (fun x hx => h x (List.mem_cons_of_mem _ hx))
    have h2 := (h e (by simp)).2.2.2
    simp only [sameS]
    split <;> omega
theorem mem_dropE {a b : Int} {l : List Wr} {e : Wr} : e ∈ dropE a b l ↔ e ∈ l ∧ ¬ (e.a = a ∧ e.b = b) := by
  unfold dropE
  rw [List.mem_filter]
  constructor
  · rintro ⟨h1, h2⟩
    refine ⟨h1, fun h => ?_⟩
    rw [isE_t h] at h2; cases h2
  · rintro ⟨h1, h2⟩
    exact ⟨h1, by rw [isE_f h2]; rfl⟩
theorem Ord.put {k : Nat} {l : List Wr} (h : Ord k l) {a b w : Int} (ha : 0 ≤ a ∧ a < k) (hb : 0 ≤ b ∧ b < k) (hab : ¬ a = b) (hw : 0 < w) : Ord k (putW l a b w true) := by
  unfold putW
  refine ⟨insW_sorted (List.Pairwise.filter _ h.1) (fun e he => (mem_dropE.1 he).2), fun e he => ?_⟩
  rcases mem_insW.1 he with rfl | he
  · have := sameS_nn h.2 (min a b) (max a b)
    refine ⟨by show 0 ≤ min a b; omega, by show min a b < max a b; omega, by show max a b < (k : Int); omega, ?_⟩
    show 0 < w + _
    simp; omega
  · exact h.2 e (mem_dropE.1 he).1
end Go.Proofs.YtagiecajffhnpaaGreat

namespace Go.Proofs.YtagiecajffhnpaaGreat
set_option maxRecDepth 100000
open Go.ChangeShapes Go.WideShapes Go.ChangeAt Go.RowKit Go.Joins

theorem owns_less {w : World} {b e g n c k : Nat} {xs : List Value} (h : w.ownsRow b e 1 (.slice (some ⟨g, 0, none⟩) n c) n xs) (hk : k ≤ n) : w.ownsRow b e 1 (.slice (some ⟨g, 0, none⟩) k c) k (xs.take k) := by
  rcases h.2 with ⟨h', _⟩ | ⟨g', cap', cur, h', hb, hg, hnc, hcm, hcs, htake⟩
  · simp at h'
  · simp only [Value.slice.injEq, Option.some.injEq, Addr.mk.injEq, and_true, true_and] at h'
    obtain ⟨rfl, rfl⟩ := h'
    refine ⟨?_, .inr ⟨g, c, cur, rfl, hb, hg, by omega, hcm, hcs, ?_⟩⟩
    · have := h.1
      rw [List.length_take]; omega
    · rw [← htake, List.take_take, Nat.mul_one, Nat.mul_one, Nat.min_eq_left hk]
theorem deleteO (base g n c j : Nat) (l : List Int) (w : World) (h : w.ownsRow base 3 1 (.slice (some ⟨g, 0, none⟩) n c) n (icells l)) (hj : j < n) (hm : n ≤ 1000) :
    Calls Tryz.prog 106 #[.slice (some ⟨g, 0, none⟩) n c, .int .i64 (j : Int), .int .i64 ((j : Int) + 1)] w fun e w' =>
      e = .returned (.slice (some ⟨g, 0, none⟩) (n - 1) c) ∧ w'.ownsRow base 3 1 (.slice (some ⟨g, 0, none⟩) (n - 1) c) (n - 1) (icells (l.eraseIdx j)) ∧ ∀ w0, Ge w0 w → w0.heap.size ≤ g → Ge w0 w' := by
  have hl : l.length = n := by have := h.1; rw [icells_length] at this; omega
  have hcap : n ≤ c ∧ c ≤ 9223372036854775807 := by
    rcases h.2 with ⟨h', _⟩ | ⟨g', cap', cur, h', _, _, hnc, hmx, _⟩
    · simp at h'
    · simp at h'
      unfold maxLen at hmx
      omega
  have hcell : ∀ k, k < l.length → w.cell? ⟨g, 0 + k, none⟩ = some (.int .i64 (l.getD k 0)) := fun k hk => by
    rw [Nat.zero_add, h.cellAt k (by omega)]
    simp [icells, List.getD, hk]
  have hfr : ∀ k, k < n → w.frozen? ⟨g, 0 + k, none⟩ = false := fun k _ => by rw [Nat.zero_add]; exact h.frozenAt k
  have key := Tryz.slices_Delete_int_cells g 0 n c j (j + 1) l w (by omega) hcap.1 hcap.2 (by omega) (by omega) hcell hfr
  have e1 : ((j + 1 : Nat) : Int) = (j : Int) + 1 := by omega
  rw [e1] at key
  refine key.mono ?_
  rintro e w' ⟨he, q, hw⟩
  have e2 : j + 1 - j = 1 := by omega
  have e3 : l.take n = l := by rw [← hl]; exact List.take_length
  rw [e2] at he hw
  rw [e3] at hw
  have hown : (w.drewN q).ownsRow base 3 1 (.slice (some ⟨g, 0, none⟩) n c) n (icells l) := Ge.owns ((Ge.refl w).drewN q) h
  have e4 : l.take j ++ l.drop (j + 1) = l.eraseIdx j := by rw [List.eraseIdx_eq_take_drop_succ]
  rw [e4] at hw
  have hlen : (l.eraseIdx j).length = n - 1 := by rw [List.length_eraseIdx]; simp [hl, hj]
  have h2 := own_setCells (l.eraseIdx j ++ List.replicate 1 0) 0 (w.drewN q) l hown hl (by simp [hlen]; omega)
  rw [← hw] at h2
  have h3 := owns_less (k := n - 1) h2.1 (by omega)
  have e5 : (icells (l.take 0 ++ (l.eraseIdx j ++ List.replicate 1 0))).take (n - 1) = icells (l.eraseIdx j) := by
    simp only [List.take_zero, List.nil_append, icells, List.map_append]
    rw [List.take_append_of_le_length (by simp [hlen]), List.take_of_length_le (by simp [hlen])]
  refine ⟨he, ?_, fun w0 hg0 hgs => (hg0.drewN q).grown h2.2 (fun k hk => by simp at hk; omega)⟩
  rw [← e5]
  exact h3
theorem mapR_erase (n v : Nat) (F : Nat → Int) (hv : v < n) : (mapR n F).eraseIdx v = mapR (n - 1) (fun b => F (upI v b)) := by
  have hl : ((mapR n F).eraseIdx v).length = n - 1 := by rw [List.length_eraseIdx, mapR_length, if_pos hv]
  refine nth_ext (by rw [hl, mapR_length]) (fun j hj => ?_)
  rw [hl] at hj
  rw [mapR_nth hj, nth_eq _ j (by omega), List.getElem_eraseIdx]
  unfold upI
  split
  · rw [← nth_eq _ j (by rw [mapR_length]; omega), mapR_nth (by omega)]
  · rw [← nth_eq _ (j + 1) (by rw [mapR_length]; omega), mapR_nth (by omega)]
/-- The rows that are there behind i. -/
def rowN (v i : Nat) : Nat := if i ≤ v then i else i - 1
theorem rowN_v (v : Nat) : rowN v (v + 1) = rowN v v := by simp [rowN]
theorem rowN_n {v i : Nat} (h : ¬ i = v) : rowN v (i + 1) = rowN v i + 1 ∧ upI v (rowN v i) = i := by
  unfold rowN upI
  split <;> split <;> split <;> omega
theorem rowN_all {v n : Nat} (h : v < n) : rowN v n = n - 1 := by unfold rowN; split <;> omega
theorem rowN_le (v i : Nat) : rowN v i ≤ i := by unfold rowN; split <;> omega

set_option maxHeartbeats 3200000 in
theorem iWithout (n v : Nat) (T : Int → Int → Int) (vm : Value) (w : World) (hm : SlMM w vm n T) (hn : 2 ≤ n) (h5 : n ≤ 5) (hv : v < n) :
    Calls Tryz.prog 72 #[vm, .int .i64 (v : Int)] w fun r w' => ∃ u, r = .returned u ∧ SlMM w' u (n - 1) (fun a b => T (upI v a.toNat) (upI v b.toNat)) ∧ Ge w w' := by
  obtain ⟨pm, cm, rfl, hmc⟩ := hm
  have HMC := Lib.hid hmc
  obtain ⟨M, hM⟩ : ∃ M : Nat → Nat → Int, M = fun (a b : Nat) => T (upI v a) (upI v b) := ⟨_, rfl⟩
  have HM : Hid (∀ i, ¬ i = v → mapR (n - 1) (M (rowN v i)) = (mapR n (fun j => T i j)).eraseIdx v) := fun i hi => by
    show _ = _
    rw [mapR_erase n v _ hv, hM]
    refine mapR_congr (fun b _ => ?_)
    show T (upI v (rowN v i)) (upI v b) = T i (upI v b)
    rw [(rowN_n hi).2]
  have HMz : Hid (∀ a b : Nat, M a b = (fun (a b : Int) => T (upI v a.toNat) (upI v b.toNat)) a b) := fun a b => by simp [hM]
  clear hM hmc
  go_enter Tryz.func72, Tryz.ntmps72
  go_wp2_with fail
  go_loopw [5, 11] (fun o i' wr => ∃ (a : Nat) (cs : List Value), a ≤ n ∧ i' = .int .i64 a ∧ RowsS wr w.heap.size (n - 1) o cs (rowN v a) M ∧ Ge w wr) (fun _ i _ => n - (intOf i).toNat)
  case atStart => exact ⟨0, [], Nat.zero_le _, rfl, ⟨owns_lit0 _ _ _, fun i hi => by simp [rowN] at hi⟩, kge⟩
  case round =>
    obtain ⟨a, cs, ha, rfl, HR, hg⟩ := hrel
    have HRa := Lib.hid HR
    clear HR
    by_cases hlt : a < n
    · obtain ⟨b, o, pr, cr, rfl, x0, hrow⟩ := HMC.out a hlt
      have x1 := hg.keep x0
      by_cases hav : a = v
      · subst hav
        have HRn := Lib.hid (rowN_v a)
        go_wp2_with fail
        go_roundw
        case rel => exact ⟨a + 1, cs, by omega, by go_num, by rw [HRn.out]; exact HRa.out, hg⟩
        case measure => simp [intOf]; omega
      · have t : ((a : Int) != (v : Int)) = true := by simp; omega
        have HRn := Lib.hid (rowN_n hav)
        have HMa := Lib.hid (HM.out a hav)
        have hrl := rowN_le v a
        have HCl := Lib.hid (fun w' (g : Ge w w') => cloneC (.slice pr n cr) (mapR n (fun j => T a j)) w' (⟨by rw [icells_length, mapR_length, Nat.mul_one], pr, cr, by rw [mapR_length], fun j u hu => by
          have hj : j < n := by have := (List.getElem?_eq_some_iff.1 hu).1; rwa [icells_length, mapR_length] at this
          obtain ⟨br, or', hp, hc⟩ := hrow j hj
          refine ⟨br, or', hp, ?_⟩
          rw [g.keep hc, ← hu, icells, List.getElem?_map, List.getElem?_eq_getElem (by rw [mapR_length]; exact hj), ← nth_eq _ j (by rw [mapR_length]; exact hj), mapR_nth hj]
          rfl⟩) (by rw [mapR_length]; omega) (by rw [mapR_length]; omega))
        rw [mapR_length] at HCl
        have HDl := Lib.hid (fun base g c w' h => deleteO base g n c v (mapR n (fun j => T a j)) w' h hv (by omega))
        rw [← HMa.out] at HDl
        clear hrow
        generalize mapR n (fun j => T (a : Int) j) = R at *
        go_wp2_with (first
          | (go_at_call 107; ((with_reducible refine (HCl.out _ hg).mono ?_); rintro e wC ⟨gC, cC, rfl, oC, hb⟩))
          | (go_at_call 106; ((with_reducible refine (HDl.out _ _ _ _ oC).mono ?_); rintro e wE ⟨rfl, sE, gE⟩); have gr := gE wr hb (oC.lt gC rfl).1; have OA := Lib.hid (gr.owns HRa.out.1); have zr := gr.size; have zg := hg.size)
          | (at_builtin; refine apRow rfl _ _ rfl w.heap.size _ (rowN v a) cs rfl OA.out _ (by rfl) rfl (by omega) (by omega) ?_; intro v6 w6 own6 hm6 hat6))
        go_roundw
        case rel => exact ⟨a + 1, _, by omega, by go_num, by rw [HRn.out.1]; exact RowsS.snoc HRa.out gr sE (by omega) hg.size own6 hm6 hat6, (Ge.trans hg gr).mine OA.out (Nat.le_refl _) hm6⟩
        case measure => simp [intOf]; omega
    · have han : a = n := by omega
      subst han
      have HRn := Lib.hid (rowN_all hv)
      have hR := HRa.out
      rw [HRn.out] at hR
      have HS := Lib.hid (RowsS.slMM (Z := fun (a b : Int) => T (upI v a.toNat) (upI v b.toNat)) hR (by omega) HMz.out)
      clear hR
      go_wp2_with fail
      go_ret
      exact ⟨_, rfl, HS.out, hg⟩
end Go.Proofs.YtagiecajffhnpaaGreat

namespace Go.Proofs.YtagiecajffhnpaaGreat

open Go.RowKit

theorem set_readW {w : World} {a : Addr} {x u : Value} (h : (w.setCell a x).cell? a = some u) : (w.setCell a x).cell? a = some x := by
  cases e : w.cell? a with
  | some z => exact World.cell?_setCell_same w a x e
  | none =>
    exfalso
    simp only [World.setCell, World.cell?, Array.getElem?_modify, if_pos] at h e
    cases hb : w.heap[a.block]? with
    | none => rw [hb] at h; simp at h
    | some o =>
      rw [hb] at h e
      cases o with
      | cells c t f =>
        simp only [Option.map_some] at h
        cases hs : a.spot with
        | some sp => rw [hs] at h; simp at h
        | none =>
          rw [hs] at h e
          simp only [Option.isSome_none, Bool.false_eq_true, if_false] at h e
          have h1 : a.off < c.size := by have := (Array.getElem?_eq_some_iff.1 h).1; simpa using this
          have h2 := Array.getElem?_eq_none_iff.1 e
          omega
      | _ => simp at h
theorem res2W {w : World} {a b : Addr} {x y u v : Value} (h : ((w.setCell a x).setCell b y).cell? a = some u) (k : ((w.setCell a x).setCell b y).cell? b = some v) (hne : b ≠ a) :
    ((w.setCell a x).setCell b y).cell? a = some x ∧ ((w.setCell a x).setCell b y).cell? b = some y := by
  refine ⟨?_, set_readW k⟩
  rw [World.cell?_setCell_other _ _ _ _ hne] at h ⊢
  exact set_readW h

end Go.Proofs.YtagiecajffhnpaaGreat
