/- Slices as lists: reading, owning. -/
import Derived.Test.YtagiecajffhnpaaGreatWBase
namespace Go.Proofs.YtagiecajffhnpaaGreat

open Go.RowKit

/-- The slice value v has n elements of sz cells each, which read as the cells xs. -/
def Sl (w : World) (v : Value) (n sz : Nat) (xs : List Value) : Prop :=
  xs.length = n * sz ∧ ∃ p cap, v = .slice p n cap ∧ ∀ i u, xs[i]? = some u → ∃ b o, p = some ⟨b, o, none⟩ ∧ w.cell? ⟨b, o + i, none⟩ = some u

theorem Sl.ge {w w' : World} {v : Value} {n sz : Nat} {xs : List Value} (h : Sl w v n sz xs) (hg : Ge w w') : Sl w' v n sz xs := by
  obtain ⟨hl, p, cap, hv, hc⟩ := h
  refine ⟨hl, p, cap, hv, fun i u hu => ?_⟩
  obtain ⟨b, o, hp, hx⟩ := hc i u hu
  exact ⟨b, o, hp, hg.keep hx⟩

theorem Sl.of_owns {w : World} {base : Nat} {e : TypeId} {sz : Nat} {v : Value} {n : Nat} {xs : List Value} (h : w.ownsRow base e sz v n xs) : Sl w v n sz xs := by
  refine ⟨h.1, ?_⟩
  rcases h.2 with ⟨rfl, rfl⟩ | ⟨g, cap, cur, rfl, _⟩
  · exact ⟨none, 0, rfl, fun i u hu => by have := h.1; simp at this; subst this; simp at hu⟩
  · refine ⟨some ⟨g, 0, none⟩, cap, rfl, fun i u hu => ⟨g, 0, rfl, ?_⟩⟩
    have := h.cells (g := g) rfl i u hu
    have hadd : (⟨g, 0, none⟩ : Addr).add i = ⟨g, 0 + i, none⟩ := by unfold Addr.add; split <;> simp_all
    rwa [hadd] at this

theorem Ge.owns {w w' : World} (hg : Ge w w') {base : Nat} {e : TypeId} {sz : Nat} {v : Value} {n : Nat} {xs : List Value} (h : w.ownsRow base e sz v n xs) : w'.ownsRow base e sz v n xs := by
  refine ⟨h.1, ?_⟩
  rcases h.2 with hn | ⟨g, cap, cur, rfl, hb, hgg, rest⟩
  · exact .inl hn
  · exact .inr ⟨g, cap, cur, rfl, hb, (hg.below.block g (Array.getElem?_eq_some_iff.1 hgg).1).trans hgg, rest⟩

theorem owns_mono {w : World} {base base' : Nat} {e : TypeId} {sz : Nat} {v : Value} {n : Nat} {xs : List Value} (h : w.ownsRow base e sz v n xs) (hb : base' ≤ base) : w.ownsRow base' e sz v n xs := by
  refine ⟨h.1, ?_⟩
  rcases h.2 with hn | ⟨g, cap, cur, rfl, hbb, rest⟩
  · exact .inl hn
  · exact .inr ⟨g, cap, cur, rfl, Nat.le_trans hb hbb, rest⟩

/-- A list of integers as cells. -/
def icells (l : List Int) : List Value := l.map (Value.int .i64)
theorem icells_length (l : List Int) : (icells l).length = l.length := by simp [icells]
theorem icells_append (a b : List Int) : icells a ++ icells b = icells (a ++ b) := by simp [icells]

/-- A slice of ints that reads as l. -/
def SlI (w : World) (v : Value) (l : List Int) : Prop := Sl w v l.length 1 (icells l)

theorem SlI.ge {w w' : World} {v : Value} {l : List Int} (h : SlI w v l) (hg : Ge w w') : SlI w' v l := Sl.ge h hg

/-- The element number i; a word of its own, so that the walk's simp does not look into it. -/
def nth (l : List Int) (i : Nat) : Int := l.getD i 0
theorem nth_eq (l : List Int) (i : Nat) (h : i < l.length) : nth l i = l[i] := by simp [nth, List.getD, h]
theorem nth_ext {a b : List Int} (hl : a.length = b.length) (h : ∀ j, j < a.length → nth a j = nth b j) : a = b := by
  apply List.ext_getElem hl
  intro j h1 h2
  have := h j h1
  rwa [nth_eq _ _ h1, nth_eq _ _ h2] at this

theorem SlI.of_owns {w : World} {base : Nat} {e : TypeId} {v : Value} {l : List Int} (h : w.ownsRow base e 1 v l.length (icells l)) : SlI w v l := Sl.of_owns h

theorem SlI.openN {w : World} {v : Value} {l : List Int} {n : Nat} (h : SlI w v l) (hn : l.length = n) : ∃ p cap, v = .slice p n cap ∧ ∀ i, i < n → ∃ b o, p = some ⟨b, o, none⟩ ∧ w.cell? ⟨b, o + i, none⟩ = some (.int .i64 (nth l i)) := by
  subst hn
  obtain ⟨_, p, cap, hv, hc⟩ := h
  refine ⟨p, cap, hv, fun i hi => ?_⟩
  exact hc i (.int .i64 (nth l i)) (by simp [icells, hi, nth_eq])

/-- The world w' is w with new blocks and draws, and writes to the row of v alone. -/
def Mine (w w' : World) (v : Value) : Prop := w.grownBy w' v.ownBlock

theorem Ge.of_same {w w' : World} {v : Value} {a : World} (hg : Ge a w) (hm : Mine w w' v) (hv : ∀ k, v.ownBlock = some k → a.heap.size ≤ k) : Ge a w' := hg.grown hm hv

theorem Mine.alloc {w : World} (o : Obj) {w' : World} {v : Value} (h : Mine (w.alloc o) w' v) : Mine w w' v :=
  ⟨h.os, h.tape, h.output, by have := h.size; simp at this; omega, fun k hk hne => (h.block k (by simp; omega) hne).trans (Below.heap_alloc w o k hk)⟩

/-- 'append(s, x)' of one element onto a row of the call's own. -/
theorem ap1 {P : Program} {w : World} {ops : Array Oper} {rest : List Oper} {o : Oper} {a : Act} {Q : Exit → Act → World → Prop} (hgd : o.guard = none) (s x : Operand) (t : TypeId)
    (ho : o.op = .call { callee := .builtin .append, args := #[s, x], argTypes := #[t, t] })
    (e : TypeId) (z : Value) (size bytes : Nat) (ht : P.underlying t = some (.slice e)) (hi : (P.info? e).map (fun i => (i.zero, i.size, i.bytes)) = some (some z, size, bytes))
    (hzs : z.cells.size = size) (hsz : 0 < size) (hbs : bytes ≤ 100)
    (base : Nat) (v : Value) (n : Nat) (xs : List Value) (hs : a.eval s = v) (hown : w.ownsRow base e size v n xs)
    (cs : Array Value) (hx : a.eval x = .slice (some ⟨w.heap.size, 0, none⟩) 1 1) (hcs : cs.size = size) (h1 : ∀ u ∈ cs.toList, u.oneCell' = true)
    (hn : n < 1099511627776) (hbase : base ≤ w.heap.size)
    (h : ∀ v' w', w'.ownsRow base e size v' (n + 1) (xs ++ cs.toList) → Mine w w' v → wpList P ops Q rest (a.put o.dst v') w') :
    wpList P ops Q (o :: rest) a (w.alloc (.cells cs e)) := by
  obtain ⟨i, hi1, hi2, hi3, hi4⟩ := info_parts hi
  refine wpList_append_own _ hgd s x t ho base e i z size bytes ht hi1 hi2 hi3 hi4 hzs hsz v n xs hs (hown.alloc _) ⟨w.heap.size, 0, none⟩ 1 1 cs.toList hx (by simp [hcs]) ?_ h1 (by unfold maxLen; omega) ?_ (by simp; omega) ?_
  · intro j u hu
    have hadd : (⟨w.heap.size, 0, none⟩ : Addr).add j = ⟨w.heap.size, j, none⟩ := by unfold Addr.add; split <;> simp_all
    rw [hadd, cell_of_row (w.alloc (.cells cs e)) w.heap.size j cs e (0, 0) (heap_alloc_new w _)]
    simpa using hu
  · have : (n + 1) * bytes ≤ (n + 1) * 100 := Nat.mul_le_mul_left _ hbs
    omega
  · intro v' w' h2 h3 _
    exact h v' w' h2 (Mine.alloc _ h3)

theorem owns_lit0 (w : World) (e : TypeId) (size : Nat) : (w.alloc (.cells #[] e)).ownsRow w.heap.size e size (.slice (some ⟨w.heap.size, 0, none⟩) 0 0) 0 [] :=
  World.ownsRow_lit w #[] 0 (Nat.le_refl _) (by unfold maxLen; omega) (by simp)

theorem owns_bound {w : World} {base : Nat} {e : TypeId} {sz : Nat} {v : Value} {n : Nat} {xs : List Value} (h : w.ownsRow base e sz v n xs) : ∀ k, v.ownBlock = some k → base ≤ k := fun k hk => (h.lt k hk).1

theorem Ge.mine {a w w' : World} {base : Nat} {e : TypeId} {sz : Nat} {v : Value} {n : Nat} {xs : List Value} (hg : Ge a w) (h : w.ownsRow base e sz v n xs) (hb : a.heap.size ≤ base) (hm : Mine w w' v) : Ge a w' :=
  hg.grown hm (fun k hk => Nat.le_trans hb (owns_bound h k hk))

/-- A cell of another block stays while a row is written. -/
theorem mine_cell {w w' : World} {v : Value} (hm : Mine w w' v) {a : Addr} {u : Value} (h : w.cell? a = some u) (hne : ∀ k, v.ownBlock = some k → a.block ≠ k) : w'.cell? a = some u :=
  World.grownBy.cell hm h (fun e => hne _ e.symm rfl)
theorem before_row {w : World} {base : Nat} {e : TypeId} {sz : Nat} {v : Value} {n : Nat} {xs : List Value} (h : w.ownsRow base e sz v n xs) {b : Nat} (hb : b < base) : ∀ k, v.ownBlock = some k → b ≠ k :=
  fun k hk e => by have := (h.lt k hk).1; omega
theorem owns_form {w : World} {base : Nat} {e : TypeId} {sz : Nat} {v : Value} {n : Nat} {xs : List Value} (h : w.ownsRow base e sz v n xs) : ∃ p cap, v = .slice p n cap := by
  rcases h.2 with ⟨rfl, rfl⟩ | ⟨g, cap, cur, rfl, _⟩
  · exact ⟨none, 0, rfl⟩
  · exact ⟨some ⟨g, 0, none⟩, cap, rfl⟩

end Go.Proofs.YtagiecajffhnpaaGreat
