/- Lists of the values of equal resistors. No condition. -/
import Derived.Test.YtmcnfhpjjmbdmaaPlUnits2
import Derived.Test.YtmcnfhpjjmbdmaaWSortR
import Derived.Test.YtmcnfhpjjmbdmaaWCompR
import Derived.Test.YtmcnfhpjjmbdmaaWSl
import Derived.Test.YtmcnfhpjjmbdmaaWInsR
import Derived.Maps.AppendAt
namespace Go.Proofs.Ytmcnfhpjjmbdmaa
set_option maxRecDepth 100000
open Go.ChangeShapes Go.WideShapes Go.ChangeAt Go.RowKit Go.Joins

theorem val_le (m : Nat) : (valV m).length ≤ 53 := by
  by_cases h : 1 ≤ m ∧ m ≤ 6
  · exact (val_len h.1 h.2).2
  · have : valV m = [] := by
      unfold valV
      split <;> first | rfl | omega
    rw [this]; decide
theorem allK_le (n : Nat) : ∀ k, (allK n k).length ≤ k * 10000
  | 0 => by simp [allK]
  | k + 1 => by
    rw [allK, List.length_append, matC_len]
    have h1 := val_le (k + 1)
    have h2 := val_le (n - (k + 1))
    have h3 := allK_le n k
    have h4 : (valV (k + 1)).length * ((valV (n - (k + 1))).length * 2) ≤ 53 * (53 * 2) := Nat.mul_le_mul h1 (by omega)
    omega
/-- The lists of the values of 0, 1 .. n - 1 resistors. -/
def OwnV (w : World) (base : Nat) (v : Value) (n : Nat) : Prop :=
  ∃ cs : List Value, w.ownsRow base 22 1 v n cs ∧ ∀ i, i < n → ∃ p cap, cs[i]? = some (.slice p (valV i).length cap) ∧ OwR w base (.slice p (valV i).length cap) (valV i)
theorem OwnV.ge {w w' : World} {base : Nat} {v : Value} {n : Nat} (h : OwnV w base v n) (hg : Ge w w') : OwnV w' base v n := by
  obtain ⟨cs, h1, h2⟩ := h
  refine ⟨cs, hg.owns h1, fun i hi => ?_⟩
  obtain ⟨p, c, h3, h4⟩ := h2 i hi
  exact ⟨p, c, h3, h4.ge hg⟩
theorem OwnV.open {w : World} {base : Nat} {v : Value} {n : Nat} (h : OwnV w base v n) (hn : 0 < n) (h6 : n ≤ 7) :
    ∃ g c, v = .slice (some ⟨g, 0, none⟩) n c ∧ ∀ k, 1 ≤ k → k < n → ∃ gk ck, w.cell? ⟨g, k, none⟩ = some (.slice (some ⟨gk, 0, none⟩) (valV k).length ck) ∧ OwR w base (.slice (some ⟨gk, 0, none⟩) (valV k).length ck) (valV k) := by
  obtain ⟨cs, h1, h2⟩ := h
  obtain ⟨g, c, rfl⟩ := Go.Joins.ownsRow_form h1 hn
  refine ⟨g, c, rfl, fun k hk1 hk => ?_⟩
  obtain ⟨p, ck, h3, h4⟩ := h2 k hk
  have hl := (val_len hk1 (show k ≤ 6 by omega)).1
  obtain ⟨gk, c', he⟩ := Go.Joins.ownsRow_form h4 hl
  simp only [Value.slice.injEq] at he
  obtain ⟨rfl, _, rfl⟩ := he
  exact ⟨gk, ck, by rw [h1.cellAt k (by omega), h3], h4⟩
/-- Any of the lists, the first too. -/
theorem OwnV.any {w : World} {base g n c : Nat} (h : OwnV w base (.slice (some ⟨g, 0, none⟩) n c) n) {k : Nat} (hk : k < n) :
    ∃ p ck, w.cell? ⟨g, k, none⟩ = some (.slice p (valV k).length ck) ∧ OwR w base (.slice p (valV k).length ck) (valV k) := by
  obtain ⟨cs, h1, h2⟩ := h
  obtain ⟨p, ck, h3, h4⟩ := h2 k hk
  exact ⟨p, ck, by rw [h1.cellAt k (by omega), h3], h4⟩
theorem ownsR_typed {w w' : World} {b1 e1 s1 n1 b2 e2 s2 n2 : Nat} {v1 v2 : Value} {x1 x2 : List Value} (h1 : w.ownsRow b1 e1 s1 v1 n1 x1) (h2 : w.ownsRow b2 e2 s2 v2 n2 x2) (he : e1 ≠ e2) (hm : Mine w w' v2) : w'.ownsRow b1 e1 s1 v1 n1 x1 := by
  refine h1.kept hm ?_
  rcases h1.2 with ⟨rfl, _⟩ | ⟨g, cap, cur, rfl, _, hg, _⟩
  · exact .inl rfl
  · right
    intro e
    rcases h2.2 with ⟨rfl, _⟩ | ⟨g2, cap2, cur2, rfl, _, hg2, _⟩
    · simp [Value.ownBlock] at e
    · simp [Value.ownBlock] at e
      subst e
      rw [hg] at hg2
      simp at hg2
      exact he hg2.2
theorem inf_rowR : (Try.prog.info? 22).map (fun i => (i.zero, i.size, i.bytes)) = some (some (Value.slice none 0 0), 1, 24) := by kernel_rfl
theorem inf_ratU : (Try.prog.info? 30).map (fun i => (i.zero, i.size, i.bytes)) = some (some (Value.agg #[.int .i64 0, .int .i64 0]), 2, 16) := by kernel_rfl
theorem ty_rat_rats : 30 ≠ 22 := by decide
/-- Appending the next list. -/
theorem ap_rats {w : World} {ops : Array Oper} {rest : List Oper} {o : Oper} {a : Act} {Q : Exit → Act → World → Prop} (hgd : o.guard = none) (s x : Operand)
    (ho : o.op = .call { callee := .builtin .append, args := #[s, x], argTypes := #[41, 41] })
    (base : Nat) (v : Value) (n : Nat) (hs : a.eval s = v) (hown : OwnV w base v n)
    (p : Option Addr) (m c : Nat) (hm : (valV n).length = m) (hu : OwR w base (.slice p m c) (valV n)) (hx : a.eval x = .slice (some ⟨w.heap.size, 0, none⟩) 1 1) (hn : n < 100) (hbase : base ≤ w.heap.size)
    (h : ∀ v' w', OwnV w' base v' (n + 1) → (∀ w0, Ge w0 w → w0.heap.size ≤ base → Ge w0 w') → wpList Try.prog ops Q rest (a.put o.dst v') w') :
    wpList Try.prog ops Q (o :: rest) a (w.alloc (.cells #[.slice p m c] 22)) := by
  subst hm
  obtain ⟨cs, h1, h2⟩ := hown
  refine ap1 hgd s x 41 ho 22 _ 1 24 Try.underlying41 inf_rowR rfl (by decide) (by decide) base v _ cs hs h1 #[.slice p (valV n).length c] hx rfl (by simp [Value.oneCell']) (by omega) hbase (fun v' w' h3 h4 => ?_)
  refine h v' w' ⟨cs ++ [.slice p (valV n).length c], by simpa using h3, fun i hi => ?_⟩ (fun w0 g0 hb => g0.mine h1 hb h4)
  have hcl : cs.length = n := by have := h1.1; omega
  by_cases e : i = n
  · subst e
    exact ⟨p, c, by rw [← hcl]; simp, ownsR_typed hu h1 ty_rat_rats h4⟩
  · have hi' : i < n := by omega
    obtain ⟨q', cq', h5, h6⟩ := h2 i hi'
    exact ⟨q', cq', by rw [List.getElem?_append_left (by omega)]; exact h5, ownsR_typed h6 h1 ty_rat_rats h4⟩
/-- Appending two fractions. -/
theorem ap_rat2 {w0 wr w : World} {ops : Array Oper} {rest : List Oper} {o : Oper} {a : Act} {Q : Exit → Act → World → Prop} (hgd : o.guard = none) (s x : Operand)
    (ho : o.op = .call { callee := .builtin .append, args := #[s, x], argTypes := #[22, 22] })
    (v : Value) (l : List Rt) (hs : a.eval s = v) (hg0 : Ge w0 wr) (hg : Ge wr w) (hown : OwR wr w0.heap.size v l)
    (y z y2 z2 : Int) {b0 : Nat} (hx : a.eval x = .slice (some ⟨b0, 0, none⟩) 2 2) (hb0 : b0 = w.heap.size) (hn : l.length < 100000)
    (h : ∀ v' w', OwR w' w0.heap.size v' (l ++ [⟨y, z⟩, ⟨y2, z2⟩]) → Ge w0 w' → (∀ p x y, Side w v p x y → Side w' v' p x y) → wpList Try.prog ops Q rest (a.put o.dst v') w') :
    wpList Try.prog ops Q (o :: rest) a (w.alloc (.cells #[.int .i64 y, .int .i64 z, .int .i64 y2, .int .i64 z2] 30)) := by
  subst hb0
  obtain ⟨i, hi1, hi2, hi3, hi4⟩ := info_parts inf_ratU
  have own2 : (w.alloc (.cells #[.int .i64 y, .int .i64 z, .int .i64 y2, .int .i64 z2] 30)).ownsRow w0.heap.size 30 2 v l.length (icells (fl l)) := (Ge.owns hg hown).alloc _
  have g2 : Ge w0 (w.alloc (.cells #[.int .i64 y, .int .i64 z, .int .i64 y2, .int .i64 z2] 30)) := Ge.alloc (Ge.trans hg0 hg) _
  refine wpList_append_own_at _ hgd s x 22 ho w0.heap.size 30 i _ 2 16 Try.underlying22 hi1 hi2 hi3 hi4 rfl (by decide) v l.length (icells (fl l)) hs own2 ⟨w.heap.size, 0, none⟩ 2 2 [.int .i64 y, .int .i64 z, .int .i64 y2, .int .i64 z2] hx rfl ?_ (by simp [Value.oneCell']) (by unfold maxLen; omega) ?_ g2.size ?_
  · intro j u hu
    have hadd : (⟨w.heap.size, 0, none⟩ : Addr).add j = ⟨w.heap.size, j, none⟩ := by unfold Addr.add; split <;> simp_all
    rw [hadd, cell_of_row (w.alloc (.cells #[.int .i64 y, .int .i64 z, .int .i64 y2, .int .i64 z2] 30)) w.heap.size j _ _ (0, 0) (heap_alloc_new w _)]
    simpa using hu
  · have : (l.length + 2) * 16 ≤ (l.length + 2) * 100 := Nat.mul_le_mul_left _ (by decide)
    omega
  · intro v' w' h2 h3 _ h5
    refine h v' w' ?_ (g2.mine own2 (Nat.le_refl _) h3) (fun p x y hs => ?_)
    · unfold OwR
      rw [fl_app]
      simpa [icells, fl] using h2
    · have hp := World.block_lt_of_cell? _ _ hs.1
      simp only at hp
      refine ⟨mine_cell h3 (cell_alloc hs.1) hs.2.2, mine_cell h3 (cell_alloc hs.2.1) hs.2.2, fun k hk => ?_⟩
      rcases h5 with h5 | h5
      · exact hs.2.2 k (by rw [← h5]; exact hk)
      · rw [h5] at hk
        simp only [World.size_alloc, Option.some.injEq] at hk
        omega
theorem val0 : valV 0 = [] := rfl
theorem val1 : valV 1 = [⟨1, 1⟩] := rfl
/-- Both lists at the start: nil, or empty. -/
theorem own_start (w : World) (base : Nat) (p : Option Addr) (hp : OwR w base (.slice p 0 0) []) (hb : base ≤ w.heap.size) :
    OwnV ((w.alloc (.cells #[.int .i64 1, .int .i64 1] 30)).alloc (.cells #[.slice p 0 0, .slice (some ⟨w.heap.size, 0, none⟩) 1 1] 22)) base (.slice (some ⟨w.heap.size + 1, 0, none⟩) 2 2) 2 := by
  have h1 := World.ownsRow_lit (w.alloc (.cells #[.int .i64 1, .int .i64 1] 30)) (base := base) (e := 22) (size := 1) #[.slice p 0 0, .slice (some ⟨w.heap.size, 0, none⟩) 1 1] 2 (by simp; omega) (by unfold maxLen; omega) (by simp)
  have h2 := World.ownsRow_lit w (base := base) (e := 30) (size := 2) #[.int .i64 1, .int .i64 1] 1 hb (by unfold maxLen; omega) (by simp)
  simp only [World.size_alloc] at h1
  refine ⟨_, h1, fun i hi => ?_⟩
  have h01 : i = 0 ∨ i = 1 := by omega
  rcases h01 with rfl | rfl
  · exact ⟨p, 0, rfl, (hp.ge (Ge.alloc (Ge.refl w) _)).ge (Ge.alloc (Ge.refl _) _)⟩
  · exact ⟨some ⟨w.heap.size, 0, none⟩, 1, rfl, (h2.alloc _ : World.ownsRow _ base 30 2 _ 1 _)⟩
/-- slices.Compact, a list. -/
theorem compactL (base g n c : Nat) (l : List Rt) (w w0 : World) (h : OwR w base (.slice (some ⟨g, 0, none⟩) n c) l) (hn : l.length = n) (hm : n ≤ 1000) (hg0 : Ge w0 w) (hgs : w0.heap.size ≤ g) :
    Calls Try.prog 40 #[.slice (some ⟨g, 0, none⟩) n c] w fun e w' => ∃ m, (Go.Lib.compactUpTo l.toArray l.toArray.size).length = m ∧
      e = .returned (.slice (some ⟨g, 0, none⟩) m c) ∧ OwR w' base (.slice (some ⟨g, 0, none⟩) m c) (Go.Lib.compactUpTo l.toArray l.toArray.size) ∧ Ge w0 w' := by
  subst hn
  have h1 := compactA base g c l.toArray w w0 (by simpa using h) (by simpa using hm) hg0 hgs
  simpa using h1
end Go.Proofs.Ytmcnfhpjjmbdmaa
