/- Rows of integers in blocks that rise: appending a row, setting a cell of the last row. No condition. -/
import Derived.Test.YtckjkfcphcnpdaaGreatWSortSp
import Derived.Maps.AppendAt
namespace Go.Proofs.YtckjkfcphcnpdaaGreat
set_option maxRecDepth 100000
open Go.ChangeShapes Go.WideShapes Go.ChangeAt Go.RowKit Go.Joins

/-- A row of slices of integers, their blocks one behind the other; from number f on not below B. -/
def OutL (w : World) (base B f : Nat) (v : Value) (L : List (List Int)) : Prop :=
  ∃ (cs : List Value) (q cq : Nat → Nat), w.ownsRow base 35 1 v L.length cs ∧
    (∀ i, i < L.length → cs[i]? = some (.slice (some ⟨q i, 0, none⟩) (rowL L i).length (cq i)) ∧ w.ownsRow base 3 1 (.slice (some ⟨q i, 0, none⟩) (rowL L i).length (cq i)) (rowL L i).length (icells (rowL L i))) ∧
    (∀ i j, i < j → j < L.length → q i < q j) ∧ ∀ i, f ≤ i → i < L.length → B ≤ q i
theorem OutL.ge {w w' : World} {base B f : Nat} {v : Value} {L : List (List Int)} (h : OutL w base B f v L) (hg : Ge w w') : OutL w' base B f v L := by
  obtain ⟨cs, q, cq, h1, h2, h3, h4⟩ := h
  exact ⟨cs, q, cq, hg.owns h1, fun i hi => ⟨(h2 i hi).1, hg.owns (h2 i hi).2⟩, h3, h4⟩
theorem OutL.again {w : World} {base B f : Nat} {v : Value} {L : List (List Int)} (h : OutL w base B f v L) (B' : Nat) : OutL w base B' L.length v L := by
  obtain ⟨cs, q, cq, h1, h2, h3, h4⟩ := h
  exact ⟨cs, q, cq, h1, h2, h3, fun i hi hi2 => by omega⟩
theorem OutL.zero {w : World} {base B f : Nat} {v : Value} {L : List (List Int)} (h : OutL w base B f v L) : OutL w base 0 0 v L := by
  obtain ⟨cs, q, cq, h1, h2, h3, h4⟩ := h
  exact ⟨cs, q, cq, h1, h2, h3, fun i hi hi2 => Nat.zero_le _⟩
theorem OutL.nil (w : World) (B f : Nat) : OutL (w.alloc (.cells #[] 35)) w.heap.size B f (.slice (some ⟨w.heap.size, 0, none⟩) 0 0) [] :=
  ⟨[], fun _ => 0, fun _ => 0, owns_lit0 _ _ _, fun i hi => by simp at hi, fun i j _ hj => by simp at hj, fun i _ hi => by simp at hi⟩
theorem OutL.mono {w : World} {base base' B f : Nat} {v : Value} {L : List (List Int)} (h : OutL w base B f v L) (hb : base' ≤ base) : OutL w base' B f v L := by
  obtain ⟨cs, q, cq, h1, h2, h3, h4⟩ := h
  exact ⟨cs, q, cq, owns_mono h1 hb, fun i hi => ⟨(h2 i hi).1, owns_mono (h2 i hi).2 hb⟩, h3, h4⟩
theorem OutL.own {w : World} {base B f : Nat} {v : Value} {L : List (List Int)} (h : OutL w base B f v L) : ∃ cs, w.ownsRow base 35 1 v L.length cs := by
  obtain ⟨cs, q, cq, h1, _⟩ := h
  exact ⟨cs, h1⟩
theorem OutL.form {w : World} {base B f : Nat} {v : Value} {L : List (List Int)} (h : OutL w base B f v L) : ∃ p c, v = .slice p L.length c := by
  obtain ⟨cs, q, cq, h1, _⟩ := h
  obtain ⟨p, c, he⟩ := owns_form h1
  exact ⟨p, c, he⟩
/-- Appending a row that lies in a new block. -/
theorem ap_out {w0 w : World} {ops : Array Oper} {rest : List Oper} {o : Oper} {a : Act} {Q : Exit → Act → World → Prop} (hgd : o.guard = none) (s x : Operand)
    (ho : o.op = .call { callee := .builtin .append, args := #[s, x], argTypes := #[33, 33] })
    (base B f : Nat) (v : Value) (L : List (List Int)) (hs : a.eval s = v) (hown : OutL w0 base B f v L) (hg0 : Ge w0 w)
    (l : List Int) (g n cq : Nat) (hl : l.length = n) (hu : w.ownsRow base 3 1 (.slice (some ⟨g, 0, none⟩) n cq) n (icells l)) (hgw : w0.heap.size ≤ g) (hgB : B ≤ g) {b0 : Nat} (hx : a.eval x = .slice (some ⟨b0, 0, none⟩) 1 1) (hb0 : b0 = w.heap.size) (hn : L.length < 1099511627776) (hbase : base ≤ w.heap.size)
    (h : ∀ v' w', OutL w' base B f v' (L ++ [l]) → (∀ wz, Ge wz w → wz.heap.size ≤ base → Ge wz w') → Mine w w' v → (∀ k, k < w.heap.size → v.ownBlock ≠ some k → v'.ownBlock ≠ some k) → wpList Tryz.prog ops Q rest (a.put o.dst v') w') :
    wpList Tryz.prog ops Q (o :: rest) a (w.alloc (.cells #[.slice (some ⟨g, 0, none⟩) n cq] 35)) := by
  subst hl hb0
  have hown2 := hown.ge hg0
  obtain ⟨cs0, q0, cq0, k1, k2, k3, k4⟩ := hown
  have hq0 : ∀ i, i < L.length → q0 i < w0.heap.size := fun i hi => ((k2 i hi).2.lt (q0 i) rfl).2
  have h1 := hg0.owns k1
  obtain ⟨i, hi1, hi2, hi3, hi4⟩ := info_parts inf_rowI
  refine wpList_append_own_at _ hgd s x 33 ho base 35 i _ 1 24 Tryz.underlying33 hi1 hi2 hi3 hi4 rfl (by decide) v L.length cs0 hs (h1.alloc _) ⟨w.heap.size, 0, none⟩ 1 1 [.slice (some ⟨g, 0, none⟩) l.length cq] hx rfl ?_ (by simp [Value.oneCell']) (by unfold maxLen; omega) ?_ (by simp; omega) ?_
  · intro j u hu
    have hadd : (⟨w.heap.size, 0, none⟩ : Addr).add j = ⟨w.heap.size, j, none⟩ := by unfold Addr.add; split <;> simp_all
    rw [hadd, cell_of_row (w.alloc (.cells #[.slice (some ⟨g, 0, none⟩) l.length cq] 35)) w.heap.size j _ _ (0, 0) (heap_alloc_new w _)]
    simpa using hu
  · have : (L.length + 1) * 24 ≤ (L.length + 1) * 100 := Nat.mul_le_mul_left _ (by decide)
    omega
  · intro v' w' h2 h3 _ h5
    have h4 : Mine w w' v := Mine.alloc _ h3
    have hcl : cs0.length = L.length := by have := k1.1; omega
    refine h v' w' ⟨cs0 ++ [.slice (some ⟨g, 0, none⟩) l.length cq], fun i => if i < L.length then q0 i else g, fun i => if i < L.length then cq0 i else cq, by simpa using h2, fun i hi => ?_, fun i j hij hj => ?_, fun i hi hi2 => ?_⟩ (fun wz g0 hb => g0.mine h1 hb h4) h4 (fun k hk hne => ?_)
    · by_cases e : i = L.length
      · subst e
        rw [rowL_last]
        simp only [Nat.lt_irrefl, if_false]
        exact ⟨by rw [← hcl]; simp, owns_typed hu h1 ty_int_ints h4⟩
      · have hi' : i < L.length := by simp at hi; omega
        rw [rowL_app hi']
        simp only [if_pos hi']
        exact ⟨by rw [List.getElem?_append_left (by omega)]; exact (k2 i hi').1, owns_typed (hg0.owns (k2 i hi').2) h1 ty_int_ints h4⟩
    · simp only [List.length_append, List.length_singleton] at hj
      have hi' : i < L.length := by omega
      simp only [if_pos hi']
      by_cases e : j < L.length
      · simp only [if_pos e]; exact k3 i j hij e
      · simp only [if_neg e]; have := hq0 i hi'; omega
    · simp only [List.length_append, List.length_singleton] at hi2
      by_cases e : i < L.length
      · simp only [if_pos e]; exact k4 i hi e
      · simp only [if_neg e]; exact hgB
    · rcases h5 with h5 | h5
      · rw [h5]; exact hne
      · rw [h5]
        simp only [World.size_alloc, ne_eq, Option.some.injEq]
        omega

theorem ap_listB {w : World} {ops : Array Oper} {rest : List Oper} {o : Oper} {a : Act} {Q : Exit → Act → World → Prop} (hgd : o.guard = none) (s x : Operand)
    (ho : o.op = .call { callee := .builtin .append, args := #[s, x], argTypes := #[33, 33] })
    (base : Nat) (v : Value) (L : List (List Int)) (hs : a.eval s = v) (hown : OwnL w base v L)
    (l : List Int) (q : Addr) (n cq : Nat) (hl : l.length = n) (hu : w.ownsRow 0 3 1 (.slice (some q) n cq) n (icells l)) {b0 : Nat} (hx : a.eval x = .slice (some ⟨b0, 0, none⟩) 1 1) (hb0 : b0 = w.heap.size) (hn : L.length < 1099511627776) (hbase : base ≤ w.heap.size)
    (h : ∀ v' w', OwnL w' base v' (L ++ [l]) → (∀ w0, Ge w0 w → w0.heap.size ≤ base → Ge w0 w') → wpList Tryz.prog ops Q rest (a.put o.dst v') w') :
    wpList Tryz.prog ops Q (o :: rest) a (w.alloc (.cells #[.slice (some q) n cq] 35)) := by
  subst hb0
  exact ap_list hgd s x ho base v L hs hown l q n cq hl hu hx hn hbase h
theorem lit3 (w : World) (base : Nat) (a b c : Int) (hb : base ≤ w.heap.size) : (w.alloc (.cells #[.int .i64 a, .int .i64 b, .int .i64 c] 3)).ownsRow base 3 1 (.slice (some ⟨w.heap.size, 0, none⟩) 3 3) 3 (icells [a, b, c]) :=
  World.ownsRow_lit w #[.int .i64 a, .int .i64 b, .int .i64 c] 3 hb (by unfold maxLen; omega) (by simp)
theorem grown_setL (w : World) (B i : Nat) (x : Value) : w.grownBy (w.setCell ⟨B, i, none⟩ x) (some B) :=
  ⟨rfl, rfl, rfl, by simp, fun k hk hne => Below.heap_setCell w ⟨B, i, none⟩ x k (fun e => hne (by rw [e]))⟩
theorem own_keepB {w w' : World} {base e sz n B : Nat} {v : Value} {xs : List Value} (h : w.ownsRow base e sz v n xs) (hg : w.grownBy w' (some B)) (hne : v.ownBlock ≠ some B) : w'.ownsRow base e sz v n xs := by
  refine h.kept hg ?_
  cases hv : v.ownBlock with
  | none => exact .inl rfl
  | some k =>
    right
    intro e'
    rw [hv] at hne
    exact hne (by first | exact e' | exact e'.symm)
/-- Rows of two types lie in two blocks. -/
theorem block_ne {w : World} {b1 e1 s1 n1 b2 e2 s2 n2 k : Nat} {v1 v2 : Value} {x1 x2 : List Value} (h1 : w.ownsRow b1 e1 s1 v1 n1 x1) (h2 : w.ownsRow b2 e2 s2 v2 n2 x2) (he : e1 ≠ e2) (hk : v2.ownBlock = some k) : v1.ownBlock ≠ some k := by
  intro e
  rcases h1.2 with ⟨rfl, _⟩ | ⟨g, cap, cur, rfl, _, hg, _⟩
  · simp [Value.ownBlock] at e
  · rcases h2.2 with ⟨rfl, _⟩ | ⟨g2, cap2, cur2, rfl, _, hg2, _⟩
    · simp [Value.ownBlock] at hk
    · simp [Value.ownBlock] at e hk
      subst e hk
      rw [hg] at hg2
      simp at hg2
      exact he hg2.2
theorem rowL_snoc_lt {L : List (List Int)} {l : List Int} {i : Nat} (h : i < L.length) : rowL (L ++ [l]) i = rowL L i := rowL_app h
/-- The last row of three, and what setting its last cell makes. -/
theorem OutL.last {w : World} {base B f : Nat} {v : Value} {L : List (List Int)} {y a b : Int} (h : OutL w base B f v (L ++ [[y, a, b]])) (hf : f ≤ L.length) :
    ∃ hd c qk ck, v = .slice (some ⟨hd, 0, none⟩) (L.length + 1) c ∧ w.cell? ⟨hd, L.length, none⟩ = some (.slice (some ⟨qk, 0, none⟩) 3 ck) ∧ B ≤ qk ∧ base ≤ qk ∧
      w.cell? ⟨qk, 0, none⟩ = some (.int .i64 y) ∧ w.cell? ⟨qk, 1, none⟩ = some (.int .i64 a) ∧ w.cell? ⟨qk, 2, none⟩ = some (.int .i64 b) ∧ w.frozen? ⟨qk, 2, none⟩ = false ∧
      ∀ (w1 : World) (x : Int), Ge w w1 → OutL (w1.setCell ⟨qk, 2, none⟩ (.int .i64 x)) base B f v (L ++ [[y, a, x]]) := by
  obtain ⟨cs, q, cq, h1, h2, h3, h4⟩ := h
  simp only [List.length_append, List.length_singleton] at h1 h2 h3 h4
  obtain ⟨hd, c, rfl⟩ := Go.Joins.ownsRow_form h1 (by omega)
  obtain ⟨r1, r2⟩ := h2 L.length (by omega)
  rw [rowL_last] at r1 r2
  refine ⟨hd, c, q L.length, cq L.length, rfl, by rw [h1.cellAt _ (by omega)]; exact r1, h4 _ hf (by omega), (r2.lt _ rfl).1, by rw [r2.cellAt 0 (by simp)]; rfl, by rw [r2.cellAt 1 (by simp)]; rfl, by rw [r2.cellAt 2 (by simp)]; rfl, r2.frozenAt 2, fun w1 x hg => ?_⟩
  have hS := grown_setL w1 (q L.length) 2 (.int .i64 x)
  refine ⟨cs, q, cq, ?_, fun i hi => ?_, fun i j hij hj => h3 i j hij (by simpa using hj), fun i hi hi2 => h4 i hi (by simpa using hi2)⟩
  · simp only [List.length_append, List.length_singleton]
    exact own_keepB (hg.owns h1) hS (block_ne (hg.owns h1) (hg.owns r2) (Ne.symm ty_int_ints) rfl)
  · simp only [List.length_append, List.length_singleton] at hi
    by_cases e : i = L.length
    · subst e
      rw [rowL_last]
      have hs := (hg.owns r2).stored 2 (.int .i64 x)
      exact ⟨r1, by simpa [icells] using hs.1⟩
    · have hi' : i < L.length := by omega
      obtain ⟨s1, s2⟩ := h2 i hi
      rw [rowL_app hi'] at s1 s2 ⊢
      refine ⟨s1, own_keepB (hg.owns s2) hS ?_⟩
      have := h3 i L.length hi' (by omega)
      simp only [Value.ownBlock, ne_eq, Option.some.injEq]
      omega
/-- Spans that lie below block B. -/
def SpL (w : World) (gs n : Nat) (T : List Sp) (B : Nat) : Prop :=
  gs < B ∧ ∀ i (hi : i < T.length), i < n → ∃ p cq, w.cell? ⟨gs, i, none⟩ = some (.slice (some ⟨p, 0, none⟩) 2 cq) ∧ p < B ∧ w.ownsRow 0 3 1 (.slice (some ⟨p, 0, none⟩) 2 cq) 2 (icells (rowP T[i]))
theorem SpL.of {w : World} {base gs n c : Nat} {T : List Sp} (h : OwnL w base (.slice (some ⟨gs, 0, none⟩) n c) (T.map rowP)) (hn : T.length = n) (hn0 : 0 < n) : SpL w gs n T w.heap.size := by
  obtain ⟨cs, h1, h2⟩ := h
  rw [List.length_map, hn] at h1 h2
  refine ⟨(h1.lt gs rfl).2, fun i hi hi2 => ?_⟩
  obtain ⟨q, cq, h3, h4⟩ := h2 i hi2
  rw [rowL_map T hi] at h3 h4
  have h4' : w.ownsRow 0 3 1 (.slice (some q) 2 cq) 2 (icells (rowP T[i])) := h4
  obtain ⟨g, c', he⟩ := Go.Joins.ownsRow_form h4' (by omega)
  simp only [Value.slice.injEq, Option.some.injEq] at he
  obtain ⟨rfl, _, rfl⟩ := he
  exact ⟨g, cq, by rw [h1.cellAt i (by omega), h3]; rfl, (h4'.lt g rfl).2, h4'⟩
theorem SpL.ge {w w' : World} {gs n B : Nat} {T : List Sp} (h : SpL w gs n T B) (hg : Ge w w') : SpL w' gs n T B := by
  refine ⟨h.1, fun i hi hi2 => ?_⟩
  obtain ⟨p, cq, h1, h2, h3⟩ := h.2 i hi hi2
  exact ⟨p, cq, hg.keep h1, h2, hg.owns h3⟩
/-- Writing into a row of slices that is not the spans' own. -/
theorem SpL.mine {w w' : World} {gs n B b m : Nat} {T : List Sp} {v : Value} {cs : List Value} (h : SpL w gs n T B) (hv : w.ownsRow b 35 1 v m cs) (hm : Mine w w' v) (hne : v.ownBlock ≠ some gs) : SpL w' gs n T B := by
  refine ⟨h.1, fun i hi hi2 => ?_⟩
  obtain ⟨p, cq, h1, h2, h3⟩ := h.2 i hi hi2
  exact ⟨p, cq, mine_cell hm h1 (fun k hk e => hne (by rw [hk, ← e])), h2, owns_typed h3 hv ty_int_ints hm⟩
theorem SpL.set {w w' : World} {gs n B k : Nat} {T : List Sp} (h : SpL w gs n T B) (hg : w.grownBy w' (some k)) (hk : B ≤ k) : SpL w' gs n T B := by
  refine ⟨h.1, fun i hi hi2 => ?_⟩
  obtain ⟨p, cq, h1, h2, h3⟩ := h.2 i hi hi2
  refine ⟨p, cq, World.grownBy.cell hg h1 (fun e => ?_), h2, own_keepB h3 hg (by simp only [Value.ownBlock, ne_eq, Option.some.injEq]; omega)⟩
  have := h.1
  simp only [Option.some.injEq] at e
  omega
end Go.Proofs.YtckjkfcphcnpdaaGreat
