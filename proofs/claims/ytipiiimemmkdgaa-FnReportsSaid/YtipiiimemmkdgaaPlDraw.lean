/- Plain law: wires put into a list in order; what the draws make is a valid network. No program in sight. -/
import Derived.Test.YtipiiimemmkdgaaPlForI
import Derived.Test.YtipiiimemmkdgaaPlPut
namespace Go.Proofs.Ytipiiimemmkdgaa

open Go.RowKit

/-- The wires of a network that is being drawn. -/
structure Dwn (n : Nat) (c : Nat) (l : List Wr) : Prop where
  ok : ∀ e ∈ l, 0 ≤ e.a ∧ e.a < e.b ∧ e.b < n ∧ 1 ≤ e.w ∧ e.w ≤ 6
  sorted : l.Pairwise ltW
  down : ∀ v : Nat, 1 ≤ v → v < c → ∃ e ∈ l, e.b = (v : Int)
theorem Dwn.nil (n : Nat) : Dwn n 1 [] := ⟨by simp, List.Pairwise.nil, fun v h1 h2 => by omega⟩
theorem Dwn.put {n c : Nat} {l : List Wr} (h : Dwn n c l) {a b w : Int} (ha : 0 ≤ a ∧ a < n) (hb : 0 ≤ b ∧ b < n) (hab : ¬ a = b) (hw : 1 ≤ w ∧ w ≤ 6) : Dwn n c (putW l a b w false) := by
  have e0 : putW l a b w false = insW ⟨min a b, max a b, w⟩ (dropE (min a b) (max a b) l) := by simp [putW]
  rw [e0]
  refine ⟨fun e he => ?_, insW_sorted (h.sorted.filter _) (fun e he => ?_), fun v h1 h2 => ?_⟩
  · rcases mem_insW.1 he with rfl | he
    · simp only; omega
    · exact h.ok e (List.mem_filter.1 he).1
  · have := (List.mem_filter.1 he).2
    intro k
    rw [isE_t k] at this
    cases this
  · obtain ⟨e, he, hv⟩ := h.down v h1 h2
    cases c : isE (min a b) (max a b) e with
    | true =>
      have := isE_of c
      exact ⟨_, mem_insW.2 (Or.inl rfl), by simp only; omega⟩
    | false => exact ⟨e, mem_insW.2 (Or.inr (List.mem_filter.2 ⟨he, by simp [c]⟩)), hv⟩
theorem Dwn.next {n c : Nat} {l : List Wr} (h : Dwn n c l) {a w : Int} (ha : 0 ≤ a ∧ a < c) (hc : c < n) (hw : 1 ≤ w ∧ w ≤ 6) : Dwn n (c + 1) (putW l a c w false) := by
  have h1 := h.put (a := a) (b := c) (w := w) (by omega) (by omega) (by omega) hw
  refine ⟨h1.ok, h1.sorted, fun v h2 h3 => ?_⟩
  by_cases e : v = c
  · subst e
    refine ⟨⟨min a v, max a v, w + 0⟩, ?_, by simp only; omega⟩
    unfold putW
    exact mem_insW.2 (Or.inl (by simp))
  · exact h1.down v h2 (by omega)

/-! ### the network is valid -/
theorem wW (l : List Wr) (k : Nat) (h : k < l.length) : wa (flatW l) k = (l[k]).a ∧ wb (flatW l) k = (l[k]).b ∧ ww (flatW l) k = (l[k]).w := by
  have h1 := flatW_get l k h
  rw [nthW_eq l k h] at h1
  exact h1
theorem dwn_good {n c : Nat} {l : List Wr} (h : Dwn n c l) : ∀ k, k < l.length → goodW n (flatW l) k := fun k hk => by
  obtain ⟨e1, e2, e3⟩ := wW l k hk
  obtain ⟨o1, o2, o3, o4, o5⟩ := h.ok l[k] (List.getElem_mem hk)
  refine ⟨?_, fun h0 => ?_⟩
  · unfold okW; rw [e1, e2, e3]; omega
  · obtain ⟨f1, f2, _⟩ := wW l (k - 1) (by omega)
    have := (List.pairwise_iff_getElem.1 h.sorted) (k - 1) k (by omega) hk (by omega)
    unfold ordW
    rw [e1, e2, f1, f2]
    unfold ltW at this
    omega
theorem dwn_drn {n : Nat} {l : List Wr} (h : Dwn n n l) (h2 : 2 ≤ n) (h5 : n ≤ 5) : Drn n l.length (flatW l) :=
  ⟨h2, h5, dwn_good h, fun k hk => by rw [(wW l k hk).2.2]; exact (h.ok _ (List.getElem_mem hk)).2.2.2.2, fun v h1 hv => by
    obtain ⟨e, he, hb⟩ := h.down v h1 hv
    obtain ⟨k, hk, rfl⟩ := List.getElem_of_mem he
    exact ⟨k, hk, by rw [(wW l k hk).2.1]; exact hb⟩⟩
def downL (N : Nat) (l : List (Nat × Nat)) : Bool := (List.range N).all fun v => v == 0 || l.any fun e => e.2 == v
theorem down_all : ([1, 2, 3, 4, 5].all fun N => (subs (univ N)).all (fun l => !downL N l || mconn N l)) = true := by decide +kernel
theorem down_conn {N : Nat} {l : List (Nat × Nat)} (h1 : 1 ≤ N) (h5 : N ≤ 5) (hl : List.Sublist l (univ N)) (hd : downL N l = true) : mconn N l = true := by
  have h := down_all
  rw [List.all_eq_true] at h
  have hN : N ∈ [1, 2, 3, 4, 5] := by simp; omega
  have h' := h N hN
  rw [List.all_eq_true] at h'
  have := h' l (mem_subs hl)
  rw [hd] at this
  simpa using this
theorem drn_net {n m : Nat} {xs : List Int} (h : Drn n m xs) {E S : Int} (hE : 1 ≤ E ∧ E ≤ n) (hS : 1 ≤ S ∧ S ≤ 1000) : netB n E S m xs = true := by
  have h2 := h.two
  have h5 := h.five
  refine netB_true ⟨by omega, hE, hS, h.good, ?_⟩
  rw [show ((n : Int)).toNat = n by omega]
  have hs := prs_sub (by omega) h.good
  rw [show ((n : Int)).toNat = n by omega] at hs
  refine down_conn (by omega) h5 hs ?_
  simp only [downL, List.all_eq_true, List.mem_range]
  intro v hv
  by_cases e : v = 0
  · subst e; rfl
  · obtain ⟨k, hk, hb⟩ := h.down v (by omega) hv
    simp only [Bool.or_eq_true]
    right
    simp only [List.any_eq_true]
    refine ⟨((wa xs k).toNat, (wb xs k).toNat), ?_, by simp [hb]⟩
    simp only [prs, List.mem_map, List.mem_range]
    exact ⟨k, hk, rfl⟩
end Go.Proofs.Ytipiiimemmkdgaa
