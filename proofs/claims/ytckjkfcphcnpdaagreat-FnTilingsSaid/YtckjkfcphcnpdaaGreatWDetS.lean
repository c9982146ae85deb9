/- l04Det of the reference. No condition. -/
import Derived.Test.YtckjkfcphcnpdaaGreatWDet
namespace Go.Proofs.YtckjkfcphcnpdaaGreat
set_option maxRecDepth 100000
open Go.ChangeShapes Go.WideShapes Go.ChangeAt Go.RowKit Go.Joins

theorem ap_intsK {w : World} {o : Oper} {a : Act} {K : Act → World → Prop} {Q : Exit → Act → World → Prop} (s x : Operand)
    (ho : o.op = .call { callee := .builtin .append, args := #[s, x], argTypes := #[35, 35] })
    (base : Nat) (v : Value) (n : Nat) (l : List Int) (hs : a.eval s = v) (hown : w.ownsRow base 3 1 v n (icells l)) (hb : base ≤ w.heap.size)
    (ad : Addr) (m c : Nat) (y : List Int) (hx : a.eval x = .slice (some ad) m c) (hy : SlI w (.slice (some ad) m c) y) (hn : n + m < 1000)
    (h : ∀ v' w', w'.ownsRow base 3 1 v' (n + m) (icells (l ++ y)) → Mine w w' v → K (a.put o.dst v') w') : o.wp Tryz.prog a w K Q := by
  obtain ⟨i, hi, e⟩ : ∃ i, Tryz.prog.info? 3 = some i ∧ (i.zero, i.size, i.bytes) = (some (.int .i64 0), 1, 8) := by
    have := inf_int
    cases hc : Tryz.prog.info? 3 with
    | none => rw [hc] at this; simp at this
    | some i => rw [hc] at this; exact ⟨i, rfl, by simpa using this⟩
  simp only [Prod.mk.injEq] at e
  obtain ⟨h1, p, c', he, hc⟩ := hy
  simp only [Value.slice.injEq] at he
  obtain ⟨rfl, hm, rfl⟩ := he
  refine wp_append_own w s x 35 ho base 3 i _ 1 8 Tryz.underlying35 hi e.1 e.2.1 e.2.2 rfl (by decide) v n (icells l) hs hown ad m c (icells y) hx (by rw [h1, hm]) (fun j u hu => ?_) (fun u hu => ?_) (by unfold maxLen; omega) (by omega) hb (fun v' w' h2 h3 _ => h v' w' (by rw [← icells_append]; exact h2) h3)
  · obtain ⟨b, o, e, hz⟩ := hc j u hu
    simp only [Option.some.injEq] at e
    subst e
    by_cases hj0 : j = 0
    · subst hj0; simpa [Addr.add] using hz
    · simpa [Addr.add, hj0] using hz
  · simp only [icells, List.mem_map] at hu
    obtain ⟨_, _, rfl⟩ := hu
    rfl
theorem ap_ints1 {w0 w : World} {o : Oper} {a : Act} {K : Act → World → Prop} {Q : Exit → Act → World → Prop} (s x : Operand)
    (ho : o.op = .call { callee := .builtin .append, args := #[s, x], argTypes := #[35, 35] })
    (v : Value) (n : Nat) (l : List Int) (hs : a.eval s = v) (hg : Ge w0 w) (hown : w.ownsRow w0.heap.size 3 1 v n (icells l))
    (ad : Addr) (m c : Nat) (y : List Int) (hx : a.eval x = .slice (some ad) m c) (hy : SlI w (.slice (some ad) m c) y) (hn : n + m < 1000)
    (h : ∀ v' w', w'.ownsRow w0.heap.size 3 1 v' (n + m) (icells (l ++ y)) → Ge w0 w' → K (a.put o.dst v') w') : o.wp Tryz.prog a w K Q :=
  ap_intsK s x ho _ v n l hs hown (Ge.size hg) ad m c y hx hy hn (fun v' w' h1 h2 => h v' w' h1 (Ge.grown hg h2 (fun k hk => (hown.lt k hk).1)))
theorem ap_ints0 {w0 w : World} {o : Oper} {a : Act} {K : Act → World → Prop} {Q : Exit → Act → World → Prop} (s x : Operand)
    (ho : o.op = .call { callee := .builtin .append, args := #[s, x], argTypes := #[35, 35] })
    (hs : a.eval s = .slice (some ⟨w.heap.size, 0, none⟩) 0 0) (hg : Ge w0 w)
    (ad : Addr) (m c : Nat) (y : List Int) (hx : a.eval x = .slice (some ad) m c) (hy : SlI w (.slice (some ad) m c) y) (hn : m < 1000)
    (h : ∀ v' w', w'.ownsRow w0.heap.size 3 1 v' m (icells y) → Ge w0 w' → K (a.put o.dst v') w') : o.wp Tryz.prog a (w.alloc (.cells #[] 3)) K Q :=
  ap_ints1 (w0 := w0) s x ho _ 0 [] hs (Ge.alloc hg _) (owns_mono (owns_lit0 w _ 1) (Ge.size hg)) ad m c y hx (SlI.ge hy (Ge.alloc (Ge.refl w) _)) (by omega) (fun v' w' h1 h2 => h v' w' (by rw [Nat.zero_add] at h1; exact h1) h2)
theorem wr64 (x : Int) (h1 : -9223372036854775808 ≤ x) (h2 : x ≤ 9223372036854775807) : wrap64 x = x := by
  unfold wrap64
  omega
theorem take_slice {w : World} {b o n c k : Nat} {l : List Int} (h : SlI w (.slice (some ⟨b, o, none⟩) n c) l) (hk : k ≤ n) : SlI w (.slice (some ⟨b, o, none⟩) k c) (l.take k) := by
  obtain ⟨h1, p, c', he, hc⟩ := h
  simp only [Value.slice.injEq] at he
  obtain ⟨rfl, hm, rfl⟩ := he
  refine ⟨by simp [icells_length], some ⟨b, o, none⟩, c, by rw [List.length_take]; simp only [Value.slice.injEq]; exact ⟨trivial, by omega, trivial⟩, fun j u hu => ?_⟩
  refine hc j u ?_
  have hj : j < (icells (l.take k)).length := (List.getElem?_eq_some_iff.1 hu).1
  rw [icells_length, List.length_take] at hj
  rw [← hu]
  simp only [icells, List.getElem?_map, List.getElem?_take]
  rw [if_pos (by omega)]
theorem drop_slice {w : World} {b o n c k : Nat} {l : List Int} (h : SlI w (.slice (some ⟨b, o, none⟩) n c) l) (hk : k ≤ n) (hn : n ≤ c) :
    ∃ at' : Addr, (c = k ∧ at' = ⟨b, o, none⟩ ∨ c ≠ k ∧ at' = ⟨b, o + k, none⟩) ∧ SlI w (.slice (some at') (n - k) (c - k)) (l.drop k) := by
  obtain ⟨h1, p, c', he, hc⟩ := h
  simp only [Value.slice.injEq] at he
  obtain ⟨rfl, hm, rfl⟩ := he
  by_cases h1 : c = k
  · refine ⟨_, .inl ⟨h1, rfl⟩, by simp [icells_length], _, _, by rw [List.length_drop, hm], fun j u hu => ?_⟩
    have hj : j < (icells (l.drop k)).length := (List.getElem?_eq_some_iff.1 hu).1
    rw [icells_length, List.length_drop] at hj
    omega
  · refine ⟨_, .inr ⟨h1, rfl⟩, by simp [icells_length], _, _, by rw [List.length_drop, hm], fun j u hu => ⟨b, o + k, rfl, ?_⟩⟩
    obtain ⟨b', o', e, hx⟩ := hc (k + j) u (by simpa [icells] using hu)
    simp only [Option.some.injEq, Addr.mk.injEq, and_true] at e
    obtain ⟨rfl, rfl⟩ := e
    rw [Nat.add_assoc]; exact hx
theorem owns_cap {w : World} {base : Nat} {e : TypeId} {sz : Nat} {v : Value} {n : Nat} {xs : List Value} (h : w.ownsRow base e sz v n xs) : ∀ p n' c, v = .slice p n' c → n' ≤ c := by
  intro p n' c hv
  rcases h.2 with ⟨h', _⟩ | ⟨g', cap', cur, h', _, _, hnc, _⟩
  · rw [hv] at h'; simp at h'; omega
  · rw [hv] at h'; simp at h'; omega

end Go.Proofs.YtckjkfcphcnpdaaGreat
