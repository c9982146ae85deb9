/- Lists of lists of integers; choices of impl, l09Lists of the reference. No condition. -/
import Derived.Test.YtckjkfcphcnpdaaGreatPlPlanar
import Derived.Test.YtckjkfcphcnpdaaGreatWOthers
namespace Go.Proofs.YtckjkfcphcnpdaaGreat
set_option maxRecDepth 100000
open Go.ChangeShapes Go.WideShapes Go.ChangeAt Go.RowKit Go.Joins

/-- Two rows of different kinds: writing the one leaves the other. -/
theorem owns_typed {w w' : World} {b1 e1 s1 n1 b2 e2 s2 n2 : Nat} {v1 v2 : Value} {x1 x2 : List Value} (h1 : w.ownsRow b1 e1 s1 v1 n1 x1) (h2 : w.ownsRow b2 e2 s2 v2 n2 x2) (he : e1 ≠ e2) (hm : Mine w w' v2) : w'.ownsRow b1 e1 s1 v1 n1 x1 := by
  refine h1.kept hm ?_
  rcases h1.2 with ⟨rfl, _⟩ | ⟨g, cap, cur, rfl, _, hg, _⟩
  · exact .inl rfl
  · right
    intro e
    rcases h2.2 with ⟨rfl, _⟩ | ⟨g2, cap2, cur2, rfl, _, hg2, _⟩
    · simp [Value.ownBlock] at e
    · simp [Value.ownBlock] at e
      subst e
      rw [hg] at hg2
      simp at hg2
      exact he hg2.2

def rowL (L : List (List Int)) (i : Nat) : List Int := L.getD i []
theorem rowL_eq {L : List (List Int)} {i : Nat} (h : i < L.length) : rowL L i = L[i] := by simp [rowL, List.getD, h]
theorem rowL_mem {L : List (List Int)} {i : Nat} (h : i < L.length) : rowL L i ∈ L := by rw [rowL_eq h]; exact List.getElem_mem _
theorem rowL_app {L : List (List Int)} {l : List Int} {i : Nat} (h : i < L.length) : rowL (L ++ [l]) i = rowL L i := by
  rw [rowL_eq h, rowL_eq (by simp; omega)]
  exact List.getElem_append_left h
theorem rowL_last {L : List (List Int)} {l : List Int} : rowL (L ++ [l]) L.length = l := by
  rw [rowL_eq (by simp)]
  simp
/-- A slice of slices of integers. -/
def SlSS (w : World) (v : Value) (n : Nat) (L : List (List Int)) : Prop :=
  ∃ p cap, v = .slice p n cap ∧ ∀ i, i < n → ∃ b o q cq, p = some ⟨b, o, none⟩ ∧ w.cell? ⟨b, o + i, none⟩ = some (.slice (some q) (rowL L i).length cq) ∧ SlI w (.slice (some q) (rowL L i).length cq) (rowL L i)
theorem SlSS.ge {w w' : World} {v : Value} {n : Nat} {L : List (List Int)} (h : SlSS w v n L) (hg : Ge w w') : SlSS w' v n L := by
  obtain ⟨p, cap, hv, hc⟩ := h
  refine ⟨p, cap, hv, fun i hi => ?_⟩
  obtain ⟨b, o, q, cq, hp, hx, hs⟩ := hc i hi
  exact ⟨b, o, q, cq, hp, hg.keep hx, SlI.ge hs hg⟩

/-- A row of slices of integers, all of them the call's own. -/
def OwnL (w : World) (base : Nat) (v : Value) (L : List (List Int)) : Prop :=
  ∃ cs : List Value, w.ownsRow base 35 1 v L.length cs ∧ ∀ i, i < L.length → ∃ q cq, cs[i]? = some (.slice (some q) (rowL L i).length cq) ∧ w.ownsRow 0 3 1 (.slice (some q) (rowL L i).length cq) (rowL L i).length (icells (rowL L i))
theorem OwnL.ge {w w' : World} {base : Nat} {v : Value} {L : List (List Int)} (h : OwnL w base v L) (hg : Ge w w') : OwnL w' base v L := by
  obtain ⟨cs, h1, h2⟩ := h
  refine ⟨cs, hg.owns h1, fun i hi => ?_⟩
  obtain ⟨q, cq, h3, h4⟩ := h2 i hi
  exact ⟨q, cq, h3, hg.owns h4⟩
theorem OwnL.nil (w : World) : OwnL (w.alloc (.cells #[] 35)) w.heap.size (.slice (some ⟨w.heap.size, 0, none⟩) 0 0) [] :=
  ⟨[], owns_lit0 _ _ _, fun i hi => by simp at hi⟩
theorem OwnL.read {w : World} {base : Nat} {v : Value} {L : List (List Int)} {n : Nat} (h : OwnL w base v L) (hn : L.length = n) : SlSS w v n L := by
  subst hn
  obtain ⟨cs, h1, h2⟩ := h
  obtain ⟨p, cap, rfl⟩ := owns_form h1
  refine ⟨p, cap, rfl, fun i hi => ?_⟩
  obtain ⟨q, cq, h3, h4⟩ := h2 i hi
  obtain ⟨g, c2, he⟩ := Go.Joins.ownsRow_form h1 (by omega)
  simp only [Value.slice.injEq] at he
  obtain ⟨rfl, _, rfl⟩ := he
  exact ⟨g, 0, q, cq, rfl, by rw [Nat.zero_add, h1.cellAt i (by omega), h3], SlI.of_owns h4⟩
theorem OwnL.own {w : World} {base : Nat} {v : Value} {L : List (List Int)} (h : OwnL w base v L) : ∃ cs, w.ownsRow base 35 1 v L.length cs := ⟨_, h.choose_spec.1⟩

theorem ty_int_ints : 3 ≠ 35 := by decide
/-- Appending one slice of integers. -/
theorem ap_list {w : World} {ops : Array Oper} {rest : List Oper} {o : Oper} {a : Act} {Q : Exit → Act → World → Prop} (hgd : o.guard = none) (s x : Operand)
    (ho : o.op = .call { callee := .builtin .append, args := #[s, x], argTypes := #[33, 33] })
    (base : Nat) (v : Value) (L : List (List Int)) (hs : a.eval s = v) (hown : OwnL w base v L)
    (l : List Int) (q : Addr) (n cq : Nat) (hl : l.length = n) (hu : w.ownsRow 0 3 1 (.slice (some q) n cq) n (icells l)) (hx : a.eval x = .slice (some ⟨w.heap.size, 0, none⟩) 1 1) (hn : L.length < 1099511627776) (hbase : base ≤ w.heap.size)
    (h : ∀ v' w', OwnL w' base v' (L ++ [l]) → (∀ w0, Ge w0 w → w0.heap.size ≤ base → Ge w0 w') → wpList Tryz.prog ops Q rest (a.put o.dst v') w') :
    wpList Tryz.prog ops Q (o :: rest) a (w.alloc (.cells #[.slice (some q) n cq] 35)) := by
  subst hl
  obtain ⟨cs, h1, h2⟩ := hown
  refine ap1 hgd s x 33 ho 35 _ 1 24 Tryz.underlying33 inf_rowI rfl (by decide) (by decide) base v _ cs hs h1 #[.slice (some q) l.length cq] hx rfl (by simp [Value.oneCell']) hn hbase (fun v' w' h3 h4 => ?_)
  refine h v' w' ⟨cs ++ [.slice (some q) l.length cq], by simpa using h3, fun i hi => ?_⟩ (fun w0 g0 hb => g0.mine h1 hb h4)
  have hcl : cs.length = L.length := by have := h1.1; omega
  by_cases e : i = L.length
  · subst e
    rw [rowL_last]
    exact ⟨q, cq, by rw [← hcl]; simp, owns_typed hu h1 ty_int_ints h4⟩
  · have hi' : i < L.length := by simp at hi; omega
    rw [rowL_app hi']
    obtain ⟨q', cq', h5, h6⟩ := h2 i hi'
    exact ⟨q', cq', by rw [List.getElem?_append_left (by omega)]; exact h5, owns_typed h6 h1 ty_int_ints h4⟩
/-- slices.Clone, an empty slice too. -/
theorem cloneA (q : Addr) (n c : Nat) (l : List Int) (w : World) (h : SlI w (.slice (some q) n c) l) (hl : l.length = n) (hm : n ≤ 1000) :
    Calls Tryz.prog 102 #[.slice (some q) n c] w fun e w' => ∃ g c', e = .returned (.slice (some ⟨g, 0, none⟩) n c') ∧ w'.ownsRow w.heap.size 3 1 (.slice (some ⟨g, 0, none⟩) n c') n (icells l) ∧ Ge w w' := by
  subst hl
  by_cases hp : 0 < l.length
  · exact cloneC _ l w h hp hm
  · have h0 : l = [] := List.eq_nil_of_length_eq_zero (by omega)
    subst h0
    refine (Tryz.slices_Clone_int_zero q c w).mono ?_
    rintro e w' ⟨v', he, ho, hne, hb⟩
    rcases ho.2 with ⟨rfl, _⟩ | ⟨g, cap, cur, rfl, h2⟩
    · exact absurd rfl hne
    · exact ⟨g, cap, he, ho, hb⟩
theorem OwnL.mono {w : World} {b b' : Nat} {v : Value} {L : List (List Int)} (h : OwnL w b v L) (hb : b' ≤ b) : OwnL w b' v L := by
  obtain ⟨cs, h1, h2⟩ := h
  exact ⟨cs, owns_mono h1 hb, h2⟩
theorem own_lit (w : World) : OwnL ((w.alloc (.cells #[] 3)).alloc (.cells #[.slice (some ⟨w.heap.size, 0, none⟩) 0 0] 35)) 0 (.slice (some ⟨w.heap.size + 1, 0, none⟩) 1 1) [[]] := by
  have h1 := World.ownsRow_lit (w.alloc (.cells #[] 3)) (base := 0) (e := 35) (size := 1) #[.slice (some ⟨w.heap.size, 0, none⟩) 0 0] 1 (by omega) (by unfold maxLen; omega) (by simp)
  simp only [World.size_alloc] at h1
  refine ⟨_, h1, fun i hi => ?_⟩
  have h0 : i = 0 := by simp at hi; exact hi
  subst h0
  exact ⟨⟨w.heap.size, 0, none⟩, 0, rfl, owns_mono ((owns_lit0 w 3 1).alloc _) (Nat.zero_le _)⟩
/-- Rows of another kind than slices of slices of integers are as they were. -/
def KeepT (w w' : World) : Prop := ∀ (b e s : Nat) (v : Value) (n : Nat) (x : List Value), e ≠ 33 → w.ownsRow b e s v n x → w'.ownsRow b e s v n x
theorem KeepT.trans {a b c : World} (h1 : KeepT a b) (h2 : KeepT b c) : KeepT a c := fun _ _ _ _ _ _ he h => h2 _ _ _ _ _ _ he (h1 _ _ _ _ _ _ he h)
theorem KeepT.of_ge {w w' : World} (h : Ge w w') : KeepT w w' := fun _ _ _ _ _ _ _ h1 => h.owns h1
theorem OwnL.keepT {w w' : World} {b : Nat} {v : Value} {L : List (List Int)} (h : OwnL w b v L) (hk : KeepT w w') : OwnL w' b v L := by
  obtain ⟨cs, h1, h2⟩ := h
  refine ⟨cs, hk _ _ _ _ _ _ (by decide) h1, fun i hi => ?_⟩
  obtain ⟨q, cq, h3, h4⟩ := h2 i hi
  exact ⟨q, cq, h3, hk _ _ _ _ _ _ (by decide) h4⟩
/-- The rows of a list of lists, one at a time. -/
theorem OwnL.rows {w : World} {base : Nat} {v : Value} {L : List (List Int)} {n : Nat} (h : OwnL w base v L) (hn : L.length = n) :
    ∃ p cap, v = .slice p n cap ∧ ∀ i, i < n → ∃ b o q cq, p = some ⟨b, o, none⟩ ∧ w.cell? ⟨b, o + i, none⟩ = some (.slice (some q) (rowL L i).length cq) ∧ w.ownsRow 0 3 1 (.slice (some q) (rowL L i).length cq) (rowL L i).length (icells (rowL L i)) := by
  subst hn
  obtain ⟨cs, h1, h2⟩ := h
  obtain ⟨p, cap, rfl⟩ := owns_form h1
  refine ⟨p, cap, rfl, fun i hi => ?_⟩
  obtain ⟨q, cq, h3, h4⟩ := h2 i hi
  obtain ⟨g, c2, he⟩ := Go.Joins.ownsRow_form h1 (by omega)
  simp only [Value.slice.injEq] at he
  obtain ⟨rfl, _, rfl⟩ := he
  exact ⟨g, 0, q, cq, rfl, by rw [Nat.zero_add, h1.cellAt i (by omega), h3], h4⟩
/-- 'append([]int{}, y...)' -/
theorem ap_cop {w : World} {ops : Array Oper} {rest : List Oper} {o : Oper} {a : Act} {Q : Exit → Act → World → Prop} (hgd : o.guard = none) (s x : Operand)
    (ho : o.op = .call { callee := .builtin .append, args := #[s, x], argTypes := #[35, 35] })
    (hs : a.eval s = .slice (some ⟨w.heap.size, 0, none⟩) 0 0)
    (ad : Addr) (m c : Nat) (y : List Int) (hx : a.eval x = .slice (some ad) m c) (hy : SlI w (.slice (some ad) m c) y) (hm : y.length = m) (hn : m < 1000)
    (h : ∀ g c' w', w'.ownsRow w.heap.size 3 1 (.slice (some ⟨g, 0, none⟩) m c') m (icells y) → Ge w w' → wpList Tryz.prog ops Q rest (a.put o.dst (.slice (some ⟨g, 0, none⟩) m c')) w') : wpList Tryz.prog ops Q (o :: rest) a (w.alloc (.cells #[] 3)) := by
  obtain ⟨i, hi1, hi2, hi3, hi4⟩ := info_parts inf_int
  refine wpList_plain hgd fun _ hK => wp_append_own _ s x 35 ho w.heap.size 3 i _ 1 8 Tryz.underlying35 hi1 hi2 hi3 hi4 rfl (by decide) _ 0 [] hs (owns_lit0 w _ 1) ad m c (icells y) hx (by rw [icells_length]; omega) (fun j u hu => ?_) (fun u hu => ?_) (by unfold maxLen; omega) (by omega) (by simp) (fun v' w' h2 h3 h4 => ?_)
  · obtain ⟨h1, p, c', he, hc⟩ := SlI.ge hy (Ge.alloc (Ge.refl w) (.cells #[] 3))
    simp only [Value.slice.injEq] at he
    obtain ⟨rfl, hm, rfl⟩ := he
    obtain ⟨b, o, e, hz⟩ := hc j u hu
    simp only [Option.some.injEq] at e
    subst e
    by_cases hj0 : j = 0
    · subst hj0; simpa [Addr.add] using hz
    · simpa [Addr.add, hj0] using hz
  · simp only [icells, List.mem_map] at hu
    obtain ⟨_, _, rfl⟩ := hu
    rfl
  · rw [Nat.zero_add] at h2
    rcases h2.2 with ⟨rfl, _⟩ | ⟨g, cap, cur, rfl, h5⟩
    · exact absurd (h4.1 rfl).1 (by simp)
    · exact hK _ _ (h g cap w' h2 (Ge.grown (Ge.alloc (Ge.refl w) _) h3 (fun k hk => by simp [Value.ownBlock] at hk; omega)))
end Go.Proofs.YtckjkfcphcnpdaaGreat
