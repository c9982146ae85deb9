/- The node of a segment: both ways of finding it agree: plain law. No program in sight. -/
import Derived.Test.YtckjkfcphcnpdaaGreatPlLev2
import Derived.Test.YtckjkfcphcnpdaaGreatWLists
namespace Go.Proofs.YtckjkfcphcnpdaaGreat

/-- The first of k, k + 1 .. (f of them) that p names, or -1. -/
def firstF (p : Nat → Bool) : Nat → Nat → Int
  | 0, _ => -1
  | f + 1, k => if p k = true then (k : Int) else firstF p f (k + 1)
def idxF (p : Nat → Bool) (n : Nat) : Int := firstF p n 0
theorem first_hit {p : Nat → Bool} {n k : Nat} (hk : k < n) (h : p k = true) : firstF p (n - k) k = k := by
  rw [show n - k = (n - (k + 1)) + 1 by omega, firstF, if_pos h]
theorem first_next {p : Nat → Bool} {n k : Nat} (hk : k < n) (h : p k = false) : firstF p (n - k) k = firstF p (n - (k + 1)) (k + 1) := by
  rw [show n - k = (n - (k + 1)) + 1 by omega, firstF, if_neg (by rw [h]; decide)]
theorem first_end {p : Nat → Bool} {n k : Nat} (hk : ¬ k < n) : firstF p (n - k) k = -1 := by
  rw [show n - k = 0 by omega, firstF]
theorem idx_start (p : Nat → Bool) (n : Nat) : idxF p n = firstF p (n - 0) 0 := rfl
theorem first_congr {p q : Nat → Bool} : ∀ (f k : Nat), (∀ i, k ≤ i → i < k + f → p i = q i) → firstF p f k = firstF q f k
  | 0, _, _ => rfl
  | f + 1, k, h => by
    unfold firstF
    rw [h k (Nat.le_refl _) (by omega), first_congr f (k + 1) (fun i h1 h2 => h i (by omega) (by omega))]
theorem first_bd {p : Nat → Bool} : ∀ (f k : Nat), -1 ≤ firstF p f k ∧ firstF p f k < (k : Int) + f
  | 0, k => by unfold firstF; omega
  | f + 1, k => by
    unfold firstF
    split
    · omega
    · have := first_bd (p := p) f (k + 1); omega
theorem first_some {p : Nat → Bool} : ∀ (f k : Nat), (∃ i, k ≤ i ∧ i < k + f ∧ p i = true) → ∃ i : Nat, firstF p f k = (i : Int) ∧ k ≤ i ∧ i < k + f ∧ p i = true
  | 0, k, ⟨i, h1, h2, _⟩ => by omega
  | f + 1, k, ⟨i, h1, h2, h3⟩ => by
    unfold firstF
    by_cases h : p k = true
    · rw [if_pos h]; exact ⟨k, rfl, Nat.le_refl _, by omega, h⟩
    · rw [if_neg h]
      obtain ⟨j, e, a, b, c⟩ := first_some (p := p) f (k + 1) ⟨i, by by_cases e : i = k; (subst e; exact absurd h3 h); omega, by omega, h3⟩
      exact ⟨j, e, by omega, by omega, c⟩
/-- The node of number i of n. -/
def nodeF (n i : Int) : Int := if i = 0 then 0 else if i = n - 1 then 1 else i + 1
theorem nodeF_bd {n i : Int} (hn : 2 ≤ n) (h1 : -1 ≤ i) (h2 : i < n) : 0 ≤ nodeF n i ∧ nodeF n i < n := by
  unfold nodeF
  repeat' split
  all_goals omega
theorem nodeF_inj {n i j : Int} (hn : 2 ≤ n) (hi : 0 ≤ i) (hi2 : i < n) (hj : 0 ≤ j) (hj2 : j < n) (h : nodeF n i = nodeF n j) : i = j := by
  unfold nodeF at h
  repeat' split at h
  all_goals omega
def r0 (L : List (List Int)) (i : Nat) : Int := (rowL L i).getD 0 0
def r1 (L : List (List Int)) (i : Nat) : Int := (rowL L i).getD 1 0
def r2 (L : List (List Int)) (i : Nat) : Int := (rowL L i).getD 2 0
def hitImp (L : List (List Int)) (y X Z : Int) (i : Nat) : Bool := decide (r0 L i = y) && decide (r1 L i ≤ X) && decide (X + Z ≤ r2 L i)
def hitSeg (L : List (List Int)) (y X : Int) (i : Nat) : Bool := decide (r0 L i = y) && decide (r1 L i ≤ X) && decide (X < r2 L i)
theorem sep_pos {M : Int} {o : List Sp} (h : Sep M o) {p : Sp} (hp : p ∈ o) : M < p.1 ∧ p.1 < p.2 := by
  induction o generalizing M with
  | nil => cases hp
  | cons q t ih =>
    obtain ⟨a, b, c⟩ := h
    rcases List.mem_cons.1 hp with rfl | hp
    · exact ⟨a, b⟩
    · have := ih c hp; omega
theorem sep_gap {M : Int} {o : List Sp} (h : Sep M o) {p : Sp} (hp : p ∈ o) : ¬ Cov o p.2 := by
  induction o generalizing M with
  | nil => cases hp
  | cons q t ih =>
    obtain ⟨a, b, c⟩ := h
    intro hc
    rcases List.mem_cons.1 hp with rfl | hp
    · rcases (cov_cons p t p.2).1 hc with d | d
      · omega
      · have := sep_lt c d; omega
    · have hq := sep_pos c hp
      rcases (cov_cons q t p.2).1 hc with d | d
      · omega
      · exact ih c hp d
theorem scan_end {S : List Sp} {w : Nat} (h0 : ∀ s ∈ S, 0 ≤ s.1 ∧ s.1 < s.2 ∧ s.2 ≤ w) {c : Nat → Bool} (hc : ∀ x : Nat, c x = true ↔ Cov S x) :
    Sep (-1) (scanS c (w + 1)).1 ∧ ∀ u, Cov (scanS c (w + 1)).1 u ↔ Cov S u := by
  obtain ⟨f, hf, h1, h2, h3, h4, h5, h6⟩ := scan_inv (C := Cov S) hc (fun u hu => by obtain ⟨p, hp, h⟩ := hu; have := h0 p hp; omega) (w + 1)
  have hw : ∀ u : Int, Cov S u → u < w := fun u hu => by obtain ⟨p, hp, h⟩ := hu; have := h0 p hp; omega
  have hneg : (scanS c (w + 1)).2 < 0 := by
    rcases Int.lt_or_le (scanS c (w + 1)).2 0 with h | h
    · exact h
    · rw [if_neg (by omega)] at hf
      have := hw w (h6 w (by omega) (by omega))
      omega
  rw [if_pos hneg] at hf
  refine ⟨h3, fun u => ?_⟩
  rw [h5]
  exact ⟨fun h => h.1, fun h => ⟨h, by have := hw u h; omega⟩⟩
theorem lev_cov {xs : List Int} {n W : Nat} {y : Int} (hok : ∀ k, k < n → okSq xs k) (hW : rightSq xs n = (W : Int)) :
    Sep (-1) (scanS (covU xs n W y) (W + 1)).1 ∧ ∀ u, Cov (scanS (covU xs n W y) (W + 1)).1 u ↔ Cov (spK xs y n) u := by
  have h0 : ∀ s ∈ spK xs y n, 0 ≤ s.1 ∧ s.1 < s.2 ∧ s.2 ≤ (W : Int) := fun s h => by rw [← hW]; exact spK_in hok (Nat.le_refl _) s h
  refine scan_end h0 (fun x => ?_)
  unfold covU
  rw [Bool.and_eq_true, decide_eq_true_eq, covN_iff]
  constructor
  · exact fun h => h.2
  · intro h
    obtain ⟨p, hp, h1, h2⟩ := h
    have := h0 p hp
    exact ⟨by omega, p, hp, h1, h2⟩
theorem mem_levU {xs : List Int} {n W : Nat} {r : List Int} : ∀ {H : Nat}, r ∈ levU xs n W H ↔ ∃ y : Nat, y < H ∧ ∃ p ∈ (scanS (covU xs n W y) (W + 1)).1, r = rowY y p
  | 0 => by simp [levU]
  | H + 1 => by
    rw [levU, List.mem_append, mem_levU (H := H)]
    constructor
    · rintro (⟨y, h1, p, hp, rfl⟩ | h)
      · exact ⟨y, by omega, p, hp, rfl⟩
      · obtain ⟨p, hp, rfl⟩ := List.mem_map.1 h
        exact ⟨H, by omega, p, hp, rfl⟩
    · rintro ⟨y, h1, p, hp, rfl⟩
      by_cases e : y = H
      · subst e; exact .inr (List.mem_map.2 ⟨p, hp, rfl⟩)
      · exact .inl ⟨y, by omega, p, hp, rfl⟩
theorem spK_mem {xs : List Int} {y : Int} {k : Nat} (h : sy xs k = y ∨ sy xs k + ss xs k = y) : ∀ {n : Nat}, k < n → (sx xs k, sx xs k + ss xs k) ∈ spK xs y n
  | 0, hk => by omega
  | n + 1, hk => by
    unfold spK
    by_cases e : k = n
    · subst e
      rw [if_pos (by simpa [onY] using h)]
      simp
    · have := spK_mem h (n := n) (by omega)
      split
      · exact List.mem_append_left _ this
      · exact this
theorem row_of {xs : List Int} {n W H : Nat} {L : List (List Int)} (hL : L = levU xs n W H) {i : Nat} (hi : i < L.length) :
    ∃ y : Nat, y < H ∧ ∃ p ∈ (scanS (covU xs n W y) (W + 1)).1, r0 L i = y ∧ r1 L i = p.1 ∧ r2 L i = p.2 := by
  have hm := rowL_mem hi
  subst hL
  obtain ⟨y, hy, p, hp, e⟩ := mem_levU.1 hm
  refine ⟨y, hy, p, hp, ?_, ?_, ?_⟩
  · unfold r0; rw [e]; rfl
  · unfold r1; rw [e]; rfl
  · unfold r2; rw [e]; rfl
section
variable {xs : List Int} {n W H : Nat} {L : List (List Int)}
/-- Both ways of asking agree. -/
theorem hit_same (hok : ∀ k, k < n → okSq xs k) (hW : rightSq xs n = (W : Int)) (hL : L = levU xs n W H) {k : Nat} (hk : k < n) {y : Int} (hy : sy xs k = y ∨ sy xs k + ss xs k = y) {i : Nat} (hi : i < L.length) :
    hitImp L y (sx xs k) (ss xs k) i = hitSeg L y (sx xs k) i := by
  obtain ⟨y', _, p, hp, e0, e1, e2⟩ := row_of hL hi
  obtain ⟨c1, c2, c3, c4, c5, c6⟩ := hok k hk
  unfold hitImp hitSeg
  rw [e0, e1, e2]
  by_cases hyy : (y' : Int) = y
  · by_cases hx : p.1 ≤ sx xs k
    · have key : sx xs k + ss xs k ≤ p.2 ↔ sx xs k < p.2 := by
        constructor
        · intro h; omega
        · intro h
          obtain ⟨hs, hc⟩ := lev_cov (y := (y' : Int)) hok hW
          rcases Int.lt_or_le p.2 (sx xs k + ss xs k) with hlt | hge
          · exfalso
            refine sep_gap hs hp ((hc p.2).2 ⟨(sx xs k, sx xs k + ss xs k), ?_, by simp only; omega, hlt⟩)
            rw [hyy]
            exact spK_mem hy hk
          · exact hge
      simp [hyy, hx, key]
    · simp [hx]
  · simp [hyy]
/-- A square's edge lies on some row. -/
theorem hit_some (hok : ∀ k, k < n → okSq xs k) (hW : rightSq xs n = (W : Int)) (hL : L = levU xs n W H) {k : Nat} (hk : k < n) {y : Nat} (hyH : y < H) (hy : sy xs k = y ∨ sy xs k + ss xs k = (y : Int)) :
    ∃ i, i < L.length ∧ hitSeg L y (sx xs k) i = true := by
  obtain ⟨c1, c2, c3, c4, c5, c6⟩ := hok k hk
  obtain ⟨hs, hc⟩ := lev_cov (y := (y : Int)) hok hW
  obtain ⟨p, hp, h1, h2⟩ := (hc (sx xs k)).2 ⟨(sx xs k, sx xs k + ss xs k), spK_mem hy hk, by simp only; omega, by simp only; omega⟩
  have hm : rowY y p ∈ L := by rw [hL]; exact mem_levU.2 ⟨y, hyH, p, hp, rfl⟩
  obtain ⟨i, hi, he⟩ := List.getElem_of_mem hm
  refine ⟨i, hi, ?_⟩
  have hr : rowL L i = rowY y p := by rw [rowL_eq hi]; exact he
  unfold hitSeg r0 r1 r2
  rw [hr]
  simp [rowY, h1, h2]
end
end Go.Proofs.YtckjkfcphcnpdaaGreat
