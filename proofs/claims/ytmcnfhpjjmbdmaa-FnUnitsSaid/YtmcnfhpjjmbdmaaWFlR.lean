/- Rows of fractions as flat rows of integers; clearing a row of fractions. No condition. -/
import Derived.Test.YtmcnfhpjjmbdmaaPlUnits
import Derived.Test.YtmcnfhpjjmbdmaaWLaw
import Derived.Test.YtmcnfhpjjmbdmaaWRatioArg
import Derived.Lib.SlicesCompact
namespace Go.Proofs.Ytmcnfhpjjmbdmaa
set_option maxRecDepth 100000
open Go.ChangeShapes Go.WideShapes Go.ChangeAt Go.RowKit Go.Joins

instance instInhRt : Inhabited Rt := ⟨zeroR⟩
/-- Numerators and denominators in a row. -/
def fl : List Rt → List Int
  | [] => []
  | r :: l => r.n :: r.d :: fl l
theorem fl_len : ∀ l : List Rt, (fl l).length = l.length * 2
  | [] => rfl
  | r :: l => by simp only [fl, List.length_cons, fl_len l]; omega
theorem fl_app : ∀ l m : List Rt, fl (l ++ m) = fl l ++ fl m
  | [], _ => rfl
  | r :: l, m => by simp only [List.cons_append, fl, fl_app l m]
theorem fl_take : ∀ (l : List Rt) (k : Nat), (fl l).take (k * 2) = fl (l.take k)
  | [], k => by simp [fl]
  | r :: l, 0 => by simp [fl]
  | r :: l, k + 1 => by
    rw [show (k + 1) * 2 = k * 2 + 1 + 1 by omega]
    simp only [fl, List.take_succ_cons, fl_take l k]
theorem fl_set : ∀ (l : List Rt) (k : Nat) (x : Rt), fl (l.set k x) = ((fl l).set (k * 2) x.n).set (k * 2 + 1) x.d
  | [], k, x => by simp [fl]
  | r :: l, 0, x => by simp [fl]
  | r :: l, k + 1, x => by
    rw [show (k + 1) * 2 = k * 2 + 1 + 1 by omega]
    simp only [fl, List.set_cons_succ, fl_set l k x]
theorem fl_get : ∀ (l : List Rt) (k : Nat), k < l.length → (fl l)[k * 2]? = some (l[k]!).n ∧ (fl l)[k * 2 + 1]? = some (l[k]!).d
  | [], k, h => by simp at h
  | r :: l, 0, h => by simp [fl]
  | r :: l, k + 1, h => by
    have ih := fl_get l k (by simpa using h)
    rw [show (k + 1) * 2 = k * 2 + 1 + 1 by omega]
    simpa only [fl, List.getElem?_cons_succ, List.getElem!_cons_succ] using ih
theorem fl_inj : ∀ l m : List Rt, fl l = fl m → l = m
  | [], [], _ => rfl
  | [], r :: m, h => by simp [fl] at h
  | r :: l, [], h => by simp [fl] at h
  | r :: l, s :: m, h => by
    simp only [fl, List.cons.injEq] at h
    obtain ⟨h1, h2, h3⟩ := h
    rw [fl_inj l m h3]
    cases r; cases s
    simp only at h1 h2
    rw [h1, h2]
/-- A row of fractions that is owned. -/
def OwR (w : World) (base : Nat) (v : Value) (l : List Rt) : Prop := w.ownsRow base 30 2 v l.length (icells (fl l))
theorem OwR.cell {w : World} {base g n c : Nat} {l : List Rt} (h : OwR w base (.slice (some ⟨g, 0, none⟩) n c) l) {k : Nat} (hk : k < l.length) :
    w.cell? ⟨g, k * 2, none⟩ = some (.int .i64 (l[k]!).n) ∧ w.cell? ⟨g, k * 2 + 1, none⟩ = some (.int .i64 (l[k]!).d) := by
  obtain ⟨h1, h2⟩ := fl_get l k hk
  have hn : n = l.length := by
    rcases h.2 with ⟨h', _⟩ | ⟨g', cap', cur, hv, _⟩
    · simp at h'
    · simp only [Value.slice.injEq] at hv
      exact hv.2.1
  subst hn
  have e1 := World.ownsRow.cellAt h (k * 2) (by omega)
  have e2 := World.ownsRow.cellAt h (k * 2 + 1) (by omega)
  rw [e1, e2]
  unfold icells
  rw [List.getElem?_map, List.getElem?_map, h1, h2]
  exact ⟨rfl, rfl⟩
theorem OwR.cellA {w : World} {base g n c : Nat} {d : Array Rt} (h : OwR w base (.slice (some ⟨g, 0, none⟩) n c) d.toList) {k : Nat} (hk : k < d.size) :
    w.cell? ⟨g, k * 2, none⟩ = some (.int .i64 (d[k]!).n) ∧ w.cell? ⟨g, k * 2 + 1, none⟩ = some (.int .i64 (d[k]!).d) := by
  have h1 := h.cell (k := k) (by simpa using hk)
  have e : d.toList[k]! = d[k]! := by
    rw [getElem!_pos d k hk, getElem!_pos d.toList k (by simpa using hk)]
    simp
  rw [e] at h1
  exact h1
theorem OwR.frozen {w : World} {base g n c : Nat} {l : List Rt} (h : OwR w base (.slice (some ⟨g, 0, none⟩) n c) l) (j : Nat) : w.frozen? ⟨g, j, none⟩ = false := by
  have hn : n = l.length := by
    rcases h.2 with ⟨h', _⟩ | ⟨g', cap', cur, hv, _⟩
    · simp at h'
    · simp only [Value.slice.injEq] at hv
      exact hv.2.1
  subst hn
  exact World.ownsRow.frozenAt h j
theorem OwR.ge {w w' : World} {base : Nat} {v : Value} {l : List Rt} (h : OwR w base v l) (hg : Ge w w') : OwR w' base v l := hg.owns h
theorem OwR.set {w w0 : World} {base g n cap : Nat} {l : List Rt} (h : OwR w base (.slice (some ⟨g, 0, none⟩) n cap) l) (hn : l.length = n) (hg : Ge w0 w) (h0 : w0.heap.size ≤ g) (k : Nat) (x : Rt) :
    OwR ((w.setCell ⟨g, k * 2, none⟩ (.int .i64 x.n)).setCell ⟨g, k * 2 + 1, none⟩ (.int .i64 x.d)) base (.slice (some ⟨g, 0, none⟩) n cap) (l.set k x) ∧
    Ge w0 ((w.setCell ⟨g, k * 2, none⟩ (.int .i64 x.n)).setCell ⟨g, k * 2 + 1, none⟩ (.int .i64 x.d)) := by
  subst hn
  have h1 := own_set_Ratio h hg h0 (k * 2) x.n x.d
  unfold OwR
  rw [fl_set, List.length_set]
  exact h1
/-- Some cells of a row of fractions are written. -/
theorem own_setCells2 {base g cap n m : Nat} {e : TypeId} : ∀ (vs : List Int) (o : Nat) (w : World) (l : List Int), w.ownsRow base e m (.slice (some ⟨g, 0, none⟩) n cap) n (icells l) → o + vs.length = l.length →
    (w.setCells g o (vs.map (Value.int .i64))).ownsRow base e m (.slice (some ⟨g, 0, none⟩) n cap) n (icells (l.take o ++ vs)) ∧ w.grownBy (w.setCells g o (vs.map (Value.int .i64))) (some g)
  | [], o, w, l, h, ho => by
    simp at ho
    have : l.take o = l := by rw [ho]; exact List.take_length
    simp only [List.map_nil, World.setCells, List.append_nil, this]
    exact ⟨h, World.grownBy.refl _ _⟩
  | v :: r, o, w, l, h, ho => by
    have h1 := h.stored o (.int .i64 v)
    rw [icells_set] at h1
    simp at ho
    have h2 := own_setCells2 r (o + 1) _ (l.set o v) h1.1 (by simp; omega)
    simp only [List.map_cons, World.setCells]
    refine ⟨?_, grown_trans h1.2 h2.2⟩
    have e1 : (l.set o v).take (o + 1) ++ r = l.take o ++ v :: r := by
      rw [List.take_succ_eq_append_getElem (by simp; omega)]
      simp
      exact List.take_set_of_le (Nat.le_refl _)
    rw [← e1]; exact h2.1
theorem owns_take2 {w : World} {base g n c k m : Nat} {e : TypeId} {xs : List Value} (h : w.ownsRow base e m (.slice (some ⟨g, 0, none⟩) n c) n xs) (hk : k ≤ n) : w.ownsRow base e m (.slice (some ⟨g, 0, none⟩) k c) k (xs.take (k * m)) := by
  obtain ⟨h1, h2⟩ := h
  have hkm : k * m ≤ n * m := Nat.mul_le_mul_right m hk
  refine ⟨by rw [List.length_take]; omega, ?_⟩
  rcases h2 with ⟨h', _⟩ | ⟨g', cap', cur, hv, hb, hheap, hn, hcap, hsz, ht⟩
  · simp at h'
  · simp only [Value.slice.injEq, Option.some.injEq, Addr.mk.injEq, and_true, true_and] at hv
    obtain ⟨rfl, rfl⟩ := hv
    refine .inr ⟨g, c, cur, rfl, hb, hheap, by omega, hcap, hsz, ?_⟩
    rw [← ht, List.take_take]
    congr 1
    omega
theorem OwR.take {w : World} {base g n c k : Nat} {l : List Rt} (h : OwR w base (.slice (some ⟨g, 0, none⟩) n c) l) (hn : l.length = n) (hk : k ≤ n) : OwR w base (.slice (some ⟨g, 0, none⟩) k c) (l.take k) := by
  subst hn
  have h1 := owns_take2 h hk
  have e1 : (icells (fl l)).take (k * 2) = icells (fl (l.take k)) := by rw [← fl_take]; simp [icells]
  rw [e1] at h1
  unfold OwR
  rw [List.length_take, Nat.min_eq_left hk]
  exact h1
theorem comp_head {d dk : Array Rt} {n k : Nat} (h : Go.Lib.CompInv d n k dk) (hk : k ≤ dk.size) : dk.toList.take k = Go.Lib.compactUpTo d n := by
  apply List.ext_getElem?
  intro j
  by_cases hj : j < k
  · rw [h.low j hj, List.getElem?_take_of_lt hj, getElem!_pos dk j (by omega)]
    simp
  · rw [List.getElem?_eq_none (by simp; omega), List.getElem?_eq_none (by rw [h.len]; omega)]
theorem rt_ne {x y : Rt} (h : x ≠ y) : x.n ≠ y.n ∨ (x.n = y.n ∧ x.d ≠ y.d) := by
  by_cases h1 : x.n = y.n
  · right
    refine ⟨h1, fun h2 => h ?_⟩
    cases x; cases y
    simp only at h1 h2
    rw [h1, h2]
  · exact .inl h1
/-- 'clear(s)' at fractions. -/
theorem clear_ratio (w : World) (b o n c : Nat) (hn : 0 < n) (hc : ∀ j, j < n * 2 → (w.cell? ⟨b, o + j, none⟩).isSome = true) (hf : ∀ j, j < n * 2 → w.frozen? ⟨b, o + j, none⟩ = false) :
    ∃ vs : List Int, vs.length = n * 2 ∧ ∀ ty, (Builtin.clear_ #[22] ty #[.slice (some ⟨b, o, none⟩) n c]).run Try.prog w = .ok (.tuple #[]) (w.setCells b o (vs.map (Value.int .i64))) := by
  refine ⟨List.replicate (n * 2) 0, by simp, fun ty => ?_⟩
  have hzc : (Builtin.zeroCells (Value.agg #[.int .i64 0, .int .i64 0]).cells n).toList = (List.replicate (n * 2) (0 : Int)).map (Value.int .i64) := by
    have h3 : ((Value.agg #[.int .i64 0, .int .i64 0]).cells) = #[.int .i64 0, .int .i64 0] := rfl
    simp [Builtin.zeroCells, h3]
    apply List.ext_getElem
    · simp
    · intro i h1 h2
      have h4 : i % 2 = 0 ∨ i % 2 = 1 := by omega
      rcases h4 with h4 | h4 <;> simp [h4]
  have hst := run_storeCells_cells (P := Try.prog) b o ((List.replicate (n * 2) (0 : Int)).map (Value.int .i64)) 0 w (by simpa using hc) (by simpa using hf) (by intro v hv'; rw [List.mem_map] at hv'; obtain ⟨_, _, rfl⟩ := hv'; rfl)
  simp only [Nat.add_zero] at hst
  obtain ⟨m, rfl⟩ : ∃ m, n = m + 1 := ⟨n - 1, by omega⟩
  simp [Builtin.clear_, run_underlying Try.underlying22, Try.zeroValue30, hzc]
  simp only [List.map_replicate] at hst ⊢
  rw [hst]
  rfl
end Go.Proofs.Ytmcnfhpjjmbdmaa
