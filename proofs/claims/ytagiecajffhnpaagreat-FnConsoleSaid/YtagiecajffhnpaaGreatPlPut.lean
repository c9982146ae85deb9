/- Plain law: wires put into a list in order. No program in sight. -/
import Derived.Test.YtagiecajffhnpaaGreatPlNet
namespace Go.Proofs.YtagiecajffhnpaaGreat

/-- The wire has the ends a and b. -/
def isE (a b : Int) (e : Wr) : Bool := decide (e.a = a) && decide (e.b = b)
/-- The wire lies behind the ends a and b. -/
def gtE (a b : Int) (e : Wr) : Bool := decide (a < e.a) || (decide (e.a = a) && decide (b < e.b))
theorem isE_t {a b : Int} {e : Wr} (h : e.a = a ∧ e.b = b) : isE a b e = true := by simp [isE, h]
theorem isE_f {a b : Int} {e : Wr} (h : ¬ (e.a = a ∧ e.b = b)) : isE a b e = false := by simpa [isE] using h
theorem gtE_t {a b : Int} {e : Wr} (h : a < e.a ∨ e.a = a ∧ b < e.b) : gtE a b e = true := by simpa [gtE] using h
theorem gtE_of {a b : Int} {e : Wr} (h : gtE a b e = true) : a < e.a ∨ e.a = a ∧ b < e.b := by simpa [gtE] using h
/-- The wires with other ends. -/
def dropE (a b : Int) (l : List Wr) : List Wr := l.filter fun e => !isE a b e
/-- The weights of those with these ends. -/
def sameS (a b : Int) : List Wr → Int
  | [] => 0
  | e :: l => (if isE a b e = true then e.w else 0) + sameS a b l
/-- The first k wires, x put ahead of the first that lies behind it; whether it has been put. -/
def insP (x : Wr) : List Wr → List Wr × Bool
  | [] => ([], false)
  | e :: l => if gtE x.a x.b e = true then (x :: e :: l, true) else (e :: (insP x l).1, (insP x l).2)
def insW (x : Wr) (l : List Wr) : List Wr := if (insP x l).2 = true then (insP x l).1 else (insP x l).1 ++ [x]
/-- What l03Put gives. -/
def putW (l : List Wr) (a b w : Int) (add : Bool) : List Wr := insW ⟨min a b, max a b, w + (if add = true then sameS (min a b) (max a b) l else 0)⟩ (dropE (min a b) (max a b) l)
theorem dropE_snoc (a b : Int) (l : List Wr) (e : Wr) : dropE a b (l ++ [e]) = if isE a b e = true then dropE a b l else dropE a b l ++ [e] := by
  unfold dropE
  rw [List.filter_append]
  cases c : isE a b e <;> simp [c]
theorem sameS_snoc (a b : Int) (l : List Wr) (e : Wr) : sameS a b (l ++ [e]) = sameS a b l + (if isE a b e = true then e.w else 0) := by
  induction l with
  | nil => simp [sameS]
  | cons x l ih => simp only [List.cons_append, sameS, ih]; omega
theorem insP_snoc (x : Wr) (l : List Wr) (e : Wr) : insP x (l ++ [e]) = if (insP x l).2 = true then ((insP x l).1 ++ [e], true) else if gtE x.a x.b e = true then ((insP x l).1 ++ [x, e], true) else ((insP x l).1 ++ [e], false) := by
  induction l with
  | nil => simp [insP]
  | cons y l ih =>
    simp only [List.cons_append, insP, ih]
    by_cases c : gtE x.a x.b y = true
    · simp [c]
    · by_cases d : (insP x l).2 = true
      · simp [c, d]
      · by_cases c2 : gtE x.a x.b e = true
        · simp [c, d, c2]
        · simp [c, d, c2]
theorem insW_cons (x e : Wr) (l : List Wr) : insW x (e :: l) = if gtE x.a x.b e = true then x :: e :: l else e :: insW x l := by
  unfold insW
  simp only [insP]
  by_cases c : gtE x.a x.b e = true
  · simp [c]
  · by_cases d : (insP x l).2 = true
    · simp [c, d]
    · simp [c, d]
theorem mem_insW {x : Wr} : ∀ {l : List Wr} {y : Wr}, y ∈ insW x l ↔ y = x ∨ y ∈ l
  | [], y => by simp [insW, insP]
  | e :: l, y => by
    rw [insW_cons]
    split
    · simp
    · simp only [List.mem_cons, mem_insW (x := x) (l := l) (y := y)]
      constructor
      · rintro (h | h | h) <;> simp [h]
      · rintro (h | h | h) <;> simp [h]
def ltW (x y : Wr) : Prop := x.a < y.a ∨ x.a = y.a ∧ x.b < y.b
theorem ltW_trans {x y z : Wr} (h : ltW x y) (k : ltW y z) : ltW x z := by unfold ltW at *; omega
theorem insW_sorted {x : Wr} : ∀ {l : List Wr}, l.Pairwise ltW → (∀ e ∈ l, ¬ (e.a = x.a ∧ e.b = x.b)) → (insW x l).Pairwise ltW
  | [], _, _ => by simp [insW, insP]
  | e :: l, h, hne => by
    rw [insW_cons]
    rw [List.pairwise_cons] at h
    by_cases c : gtE x.a x.b e = true
    · rw [if_pos c]
      have c' := gtE_of c
      have hxe : ltW x e := by unfold ltW; omega
      refine List.pairwise_cons.2 ⟨fun y hy => ?_, List.pairwise_cons.2 h⟩
      rcases List.mem_cons.1 hy with rfl | hy
      · exact hxe
      · exact ltW_trans hxe (h.1 y hy)
    · rw [if_neg c]
      refine List.pairwise_cons.2 ⟨fun y hy => ?_, insW_sorted h.2 (fun e he => hne e (List.mem_cons_of_mem _ he))⟩
      rcases mem_insW.1 hy with rfl | hy
      · have h1 := hne e (by simp)
        have h2 : ¬ (y.a < e.a ∨ e.a = y.a ∧ y.b < e.b) := fun k => c (gtE_t k)
        unfold ltW; omega
      · exact h.1 y hy
end Go.Proofs.YtagiecajffhnpaaGreat
