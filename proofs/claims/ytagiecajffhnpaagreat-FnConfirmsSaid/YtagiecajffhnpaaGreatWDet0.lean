/- Clone, Delete of []int; matrices of integers. No condition. -/
import Derived.Test.YtagiecajffhnpaaGreatWEqInt
import Derived.Test.YtagiecajffhnpaaGreatWTyInt
import Derived.Test.YtagiecajffhnpaaGreatWLaw
import Derived.Test.YtagiecajffhnpaaGreatPlDet
import Derived.Test.YtagiecajffhnpaaGreatShelf
namespace Go.Proofs.YtagiecajffhnpaaGreat
set_option maxRecDepth 100000
open Go.ChangeShapes Go.WideShapes Go.ChangeAt Go.RowKit Go.Joins

theorem own_setCells {base g cap n : Nat} {e : TypeId} : ∀ (vs : List Int) (o : Nat) (w : World) (l : List Int), w.ownsRow base e 1 (.slice (some ⟨g, 0, none⟩) n cap) n (icells l) → l.length = n → o + vs.length = n →
    (w.setCells g o (vs.map (Value.int .i64))).ownsRow base e 1 (.slice (some ⟨g, 0, none⟩) n cap) n (icells (l.take o ++ vs)) ∧ w.grownBy (w.setCells g o (vs.map (Value.int .i64))) (some g)
  | [], o, w, l, h, hl, ho => by
    simp at ho
    have : l.take o = l := by rw [ho, ← hl]; exact List.take_length
    simp only [List.map_nil, World.setCells, List.append_nil, this]
    exact ⟨h, World.grownBy.refl _ _⟩
  | v :: r, o, w, l, h, hl, ho => by
    have h1 := h.stored o (.int .i64 v)
    rw [icells_set] at h1
    simp at ho
    have h2 := own_setCells r (o + 1) _ (l.set o v) h1.1 (by simpa using hl) (by omega)
    simp only [List.map_cons, World.setCells]
    refine ⟨?_, grown_trans h1.2 h2.2⟩
    have e1 : (l.set o v).take (o + 1) ++ r = l.take o ++ v :: r := by
      rw [List.take_succ_eq_append_getElem (by simp; omega)]
      simp
      exact List.take_set_of_le (Nat.le_refl _)
    rw [← e1]; exact h2.1

theorem cloneC (v : Value) (l : List Int) (w : World) (h : SlI w v l) (hp : 0 < l.length) (hm : l.length ≤ 1000) :
    Calls Tryz.prog 107 #[v] w fun e w' => ∃ g c, e = .returned (.slice (some ⟨g, 0, none⟩) l.length c) ∧ w'.ownsRow w.heap.size 3 1 (.slice (some ⟨g, 0, none⟩) l.length c) l.length (icells l) ∧ Ge w w' := by
  obtain ⟨p, c, rfl, hc⟩ := h.openN rfl
  obtain ⟨b, o, rfl, _⟩ := hc 0 hp
  have hc' : ∀ j, j < l.length → w.cell? ⟨b, o + j, none⟩ = some (.int .i64 (l.getD j 0)) := fun j hj => by
    obtain ⟨b', o', e, hx⟩ := hc j hj
    simp only [Option.some.injEq, Addr.mk.injEq, and_true] at e
    obtain ⟨rfl, rfl⟩ := e
    exact hx
  have key := Tryz.slices_Clone_int b o l.length c l w (Nat.le_refl _) (by omega) hc'
  rw [List.take_length] at key
  refine key.mono ?_
  rintro e w' ⟨v', he, ho, _, hb⟩
  obtain ⟨g, c', rfl⟩ := Go.Joins.ownsRow_form ho hp
  exact ⟨g, c', he, ho, hb⟩

theorem deleteC (base g n c j : Nat) (l : List Int) (w : World) (h : w.ownsRow base 3 1 (.slice (some ⟨g, 0, none⟩) n c) n (icells l)) (hj : j < n) (hm : n ≤ 1000) :
    Calls Tryz.prog 106 #[.slice (some ⟨g, 0, none⟩) n c, .int .i64 (j : Int), .int .i64 ((j : Int) + 1)] w fun e w' =>
      e = .returned (.slice (some ⟨g, 0, none⟩) (n - 1) c) ∧ SlI w' (.slice (some ⟨g, 0, none⟩) (n - 1) c) (l.eraseIdx j) ∧ ∀ w0, Ge w0 w → w0.heap.size ≤ g → Ge w0 w' := by
  have hl : l.length = n := by have := h.1; rw [icells_length] at this; omega
  have hcap : n ≤ c ∧ c ≤ 9223372036854775807 := by
    rcases h.2 with ⟨h', _⟩ | ⟨g', cap', cur, h', _, _, hnc, hmx, _⟩
    · simp at h'
    · simp at h'
      unfold maxLen at hmx
      omega
  have hcell : ∀ k, k < l.length → w.cell? ⟨g, 0 + k, none⟩ = some (.int .i64 (l.getD k 0)) := fun k hk => by
    rw [Nat.zero_add, h.cellAt k (by omega)]
    simp [icells, List.getD, hk]
  have hfr : ∀ k, k < n → w.frozen? ⟨g, 0 + k, none⟩ = false := fun k _ => by rw [Nat.zero_add]; exact h.frozenAt k
  have key := Tryz.slices_Delete_int_cells g 0 n c j (j + 1) l w (by omega) hcap.1 hcap.2 (by omega) (by omega) hcell hfr
  have e1 : ((j + 1 : Nat) : Int) = (j : Int) + 1 := by omega
  rw [e1] at key
  refine key.mono ?_
  rintro e w' ⟨he, q, hw⟩
  have e2 : j + 1 - j = 1 := by omega
  have e3 : l.take n = l := by rw [← hl]; exact List.take_length
  rw [e2] at he hw
  rw [e3] at hw
  have hown : (w.drewN q).ownsRow base 3 1 (.slice (some ⟨g, 0, none⟩) n c) n (icells l) := Ge.owns ((Ge.refl w).drewN q) h
  have e4 : l.take j ++ l.drop (j + 1) = l.eraseIdx j := by rw [List.eraseIdx_eq_take_drop_succ]
  rw [e4] at hw
  have hlen : (l.eraseIdx j).length = n - 1 := by rw [List.length_eraseIdx]; simp [hl, hj]
  have h2 := own_setCells (l.eraseIdx j ++ List.replicate 1 0) 0 (w.drewN q) l hown hl (by simp [hlen]; omega)
  rw [← hw] at h2
  refine ⟨he, ⟨by simp [icells_length, hlen], some ⟨g, 0, none⟩, c, by rw [hlen], fun k u hu => ⟨g, 0, rfl, ?_⟩⟩, fun w0 hg0 hgs => (hg0.drewN q).grown h2.2 (fun k hk => by simp at hk; omega)⟩
  have hk : k < n - 1 := by
    have := (List.getElem?_eq_some_iff.1 hu).1
    rw [icells_length, hlen] at this; exact this
  rw [Nat.zero_add, h2.1.cellAt k (by omega), ← hu]
  simp only [List.take_zero, List.nil_append, icells, List.map_append]
  rw [List.getElem?_append_left (by simp [hlen]; exact hk)]

/-- A matrix of N rows of N integers. -/
def SlMM (w : World) (v : Value) (N : Nat) (M : Int → Int → Int) : Prop :=
  ∃ p cap, v = .slice p N cap ∧ ∀ i, i < N → ∃ b o pr cr, p = some ⟨b, o, none⟩ ∧ w.cell? ⟨b, o + i, none⟩ = some (.slice pr N cr) ∧ ∀ j, j < N → ∃ br or, pr = some ⟨br, or, none⟩ ∧ w.cell? ⟨br, or + j, none⟩ = some (.int .i64 (M i j))
theorem SlMM.ge {w w' : World} {v : Value} {N : Nat} {M : Int → Int → Int} (h : SlMM w v N M) (hg : Ge w w') : SlMM w' v N M := by
  obtain ⟨p, cap, hv, hc⟩ := h
  refine ⟨p, cap, hv, fun i hi => ?_⟩
  obtain ⟨b, o, pr, cr, hp, hx, hr⟩ := hc i hi
  refine ⟨b, o, pr, cr, hp, hg.keep hx, fun j hj => ?_⟩
  obtain ⟨br, or, hq, hy⟩ := hr j hj
  exact ⟨br, or, hq, hg.keep hy⟩
end Go.Proofs.YtagiecajffhnpaaGreat
