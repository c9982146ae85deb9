/- Plain law: a node taken out of a valid network; steps of it. No program in sight. Plain law: bounds of the wires that are put. No program in sight. -/
import Derived.Test.YtahicfpnmjofhaaJPut
import Derived.Test.YtahicfpnmjofhaaJCan
namespace Go.Proofs.Ytahicfpnmjofhaa

theorem ord_of_good {n : Nat} {L : List Wr} (h : ∀ k, k < L.length → goodW n (flatW L) k) : Ord n L ∧ ∀ e ∈ L, e.w ≤ 200 := by
  have key : ∀ k, (hk : k < L.length) → 0 ≤ L[k].a ∧ L[k].a < L[k].b ∧ L[k].b < n ∧ 1 ≤ L[k].w ∧ L[k].w ≤ 200 := fun k hk => by
    obtain ⟨q1, q2, q3, q4, q5⟩ := (h k hk).1
    obtain ⟨f1, f2, f3⟩ := flat_wire hk
    rw [nthW_eq L k hk] at f1 f2 f3
    rw [f1] at q1 q2
    rw [f2] at q2 q3
    rw [f3] at q4 q5
    exact ⟨q1, q2, q3, q4, q5⟩
  have nxt : ∀ k, (hk : k + 1 < L.length) → ltW (L[k]'(by omega)) L[k + 1] := fun k hk => by
    have h1 := (h (k + 1) hk).2 (by omega)
    obtain ⟨f1, f2, _⟩ := flat_wire (L := L) (k := k) (by omega)
    obtain ⟨g1, g2, _⟩ := flat_wire hk
    rw [nthW_eq L k (by omega)] at f1 f2
    rw [nthW_eq L (k + 1) hk] at g1 g2
    rw [Nat.add_sub_cancel] at h1
    unfold ordW at h1
    rw [f1, f2, g1, g2] at h1
    exact h1
  have far : ∀ d i, (hd : i + d + 1 < L.length) → ltW (L[i]'(by omega)) L[i + d + 1] := by
    intro d
    induction d with
    | zero => intro i hd; exact nxt i hd
    | succ d ih => intro i hd; exact ltW_trans (ih i (by omega)) (nxt (i + d + 1) hd)
  refine ⟨⟨List.pairwise_iff_getElem.2 (fun i j hi hj hij => ?_), fun e he => ?_⟩, fun e he => ?_⟩
  · have := far (j - i - 1) i (by omega)
    have e : i + (j - i - 1) + 1 = j := by omega
    simp only [e] at this
    exact this
  · obtain ⟨k, hk, rfl⟩ := List.getElem_of_mem he
    have := key k hk
    omega
  · obtain ⟨k, hk, rfl⟩ := List.getElem_of_mem he
    exact (key k hk).2.2.2.2
theorem near_nearL {n : Nat} {L : List Wr} (h : Ord n L) (v : Nat) : nearX L.length (flatW L) v n = (nearL n L v).map (fun (i : Nat) => (i : Int)) := by
  unfold nearX nearL
  rw [List.filter_map]
  congr 1
  refine List.filter_congr (fun x _ => ?_)
  show decide (0 < wbet (flatW L) L.length (v : Int) (x : Int)) = _
  rw [wbet_wbL h]
theorem wat_le {N : Int} {xs : List Int} (v : Int) {k : Nat} : ∀ {m : Nat}, (∀ k, k < m → goodW N xs k) → k < m → (wa xs k = v ∨ wb xs k = v) → ww xs k ≤ wat xs v m
  | 0, _, h, _ => by omega
  | m + 1, h, hk, hv => by
    have h0 := wat_bd v (m := m) (fun k hk => h k (by omega))
    obtain ⟨_, _, _, q1, q2⟩ := (h m (by omega)).1
    simp only [wat]
    by_cases e : k = m
    · subst e; rw [if_pos hv]; omega
    · have := wat_le v (m := m) (fun k hk => h k (by omega)) (by omega) hv
      split <;> omega
theorem wat_pos {n : Nat} {L : List Wr} (h : ∀ k, k < L.length → goodW n (flatW L) k) {v c : Nat} (hc : (nearX L.length (flatW L) v n).length = c) (h1 : 1 ≤ c) : 0 < wat (flatW L) v L.length := by
  obtain ⟨x, hx⟩ : ∃ x, x ∈ nearX L.length (flatW L) v n := List.exists_mem_of_length_pos (by omega)
  have hw : 0 < wbet (flatW L) L.length v x := by
    unfold nearX at hx
    have := (List.mem_filter.1 hx).2
    simpa using this
  cases e : wfind (flatW L) v x L.length with
  | none => rw [wbet_none e] at hw; omega
  | some k =>
    obtain ⟨hk, hi⟩ := wfind_lt e
    obtain ⟨_, _, _, q1, _⟩ := (h k hk).1
    unfold isW at hi
    have := wat_le (v : Int) h hk (by omega)
    omega
/-- What replaces a node. -/
def redM (n : Nat) (L : List Wr) (v : Nat) : List Wr := tabC (meshF L v (wat (flatW L) v L.length)) (n - 1) (n - 1)
def redG (n : Nat) (S : Int) (L : List Wr) (v : Nat) : Int := gcdF (S * wat (flatW L) v L.length) (redM n L v)
def redS (n : Nat) (S : Int) (L : List Wr) (v : Nat) : Int := (S * wat (flatW L) v L.length).tdiv (redG n S L v)
def redL (n : Nat) (S : Int) (L : List Wr) (v : Nat) : List Wr := cutW (redG n S L v) (redM n L v)
noncomputable def redB (n : Nat) (E S : Int) (L : List Wr) (v : Nat) : Bool := netB ((n - 1 : Nat) : Int) E (redS n S L v) (redL n S L v).length (flatW (redL n S L v))
/-- A network: nodes, scale, wires. -/
structure NwR where
  n : Nat
  s : Int
  l : List Wr
/-- The node that is taken out. -/
def redV (e : Nat) (x : NwR) : Int := if firstN x.n e x.l.length (flatW x.l) 1 < 0 then firstN x.n e x.l.length (flatW x.l) 2 else firstN x.n e x.l.length (flatW x.l) 1
noncomputable def redN (e : Nat) (x : NwR) : Option NwR :=
  if redV e x < 0 then none else if redB x.n e x.s x.l (redV e x).toNat = true then some ⟨x.n - 1, redS x.n x.s x.l (redV e x).toNat, redL x.n x.s x.l (redV e x).toNat⟩ else none
noncomputable def redK (e : Nat) (x : NwR) : Nat → Option NwR
  | 0 => some x
  | k + 1 => (redK e x k).bind (redN e)
theorem redK_succ {e : Nat} {x y z : NwR} {k : Nat} (h : redK e x k = some y) (h2 : redN e y = some z) : redK e x (k + 1) = some z := by
  simp [redK, h, h2]
theorem redK_none {e : Nat} {x y : NwR} {k : Nat} (h : redK e x k = some y) (h2 : redN e y = none) : ∀ d, redK e x (k + 1 + d) = none
  | 0 => by simp [redK, h, h2]
  | d + 1 => by
    have := redK_none h h2 d
    rw [show k + 1 + (d + 1) = (k + 1 + d) + 1 by omega]
    simp [redK, this]
theorem redK_one {e : Nat} {x y z : NwR} {k j : Nat} (h : redK e x k = some y) (h2 : redN e y = none) (h' : redK e x j = some z) (h2' : redN e z = none) : k = j ∧ y = z := by
  have : k = j := by
    rcases Nat.lt_trichotomy k j with hl | hl | hl
    · have := redK_none h h2 (j - (k + 1))
      rw [show k + 1 + (j - (k + 1)) = j by omega, h'] at this
      cases this
    · exact hl
    · have := redK_none h' h2' (k - (j + 1))
      rw [show j + 1 + (k - (j + 1)) = k by omega, h] at this
      cases this
  subst this
  rw [h] at h'
  exact ⟨rfl, by simpa using h'⟩
theorem redV_bd {e : Nat} {x : NwR} (h : ¬ redV e x < 0) : ∃ v c : Nat, redV e x = v ∧ (redV e x).toNat = v ∧ e ≤ v ∧ v < x.n ∧ (nearX x.l.length (flatW x.l) v x.n).length = c ∧ 1 ≤ c ∧ c ≤ 2 := by
  have h1 := firstN_bd x.n e x.l.length (flatW x.l) 1
  have h2 := firstN_bd x.n e x.l.length (flatW x.l) 2
  unfold redV at *
  split at h
  · rename_i hlt
    rw [if_pos hlt]
    rcases h2 with h2 | ⟨a, b, v, hv, hc⟩
    · omega
    · exact ⟨v, 2, hv, by omega, by omega, by omega, hc, by omega, by omega⟩
  · rename_i hlt
    rw [if_neg hlt]
    rcases h1 with h1 | ⟨a, b, v, hv, hc⟩
    · omega
    · exact ⟨v, 1, hv, by omega, by omega, by omega, hc, by omega, by omega⟩
end Go.Proofs.Ytahicfpnmjofhaa

namespace Go.Proofs.Ytahicfpnmjofhaa

theorem sameS_take_le {a b : Int} : ∀ {l : List Wr} {k : Nat}, (∀ e ∈ l, 0 < e.w) → sameS a b (l.take k) ≤ sameS a b l
  | [], k, _ => by simp
  | e :: l, 0, h => by
    have h1 := sameS_take_le (a := a) (b := b) (l := l) (k := 0) (fun x hx => h x (List.mem_cons_of_mem _ hx))
    have h2 := h e (by simp)
    simp only [List.take_zero, sameS] at *
    split <;> omega
  | e :: l, k + 1, h => by
    have h1 := sameS_take_le (a := a) (b := b) (l := l) (k := k) (fun x hx => h x (List.mem_cons_of_mem _ hx))
    simp only [List.take_succ_cons, sameS]
    split <;> omega
theorem sameS_le {n : Nat} {l : List Wr} {B : Int} (h : Ord n l) (hB : 0 ≤ B) (hb : ∀ e ∈ l, e.w ≤ B) (a b : Int) : sameS a b l ≤ B := by
  by_cases c : ∃ e ∈ l, e.a = a ∧ e.b = b
  · obtain ⟨e, he, rfl, rfl⟩ := c
    rw [sameS_mem h.1 he]
    exact hb e he
  · rw [sameS_none (fun e he hh => c ⟨e, he, hh⟩)]
    exact hB
theorem wires_le {n : Nat} {l : List Wr} {B : Int} (h : Ord n l) (hb : ∀ i j : Nat, i < j → sameS i j l ≤ B) : ∀ e ∈ l, e.w ≤ B := fun e he => by
  obtain ⟨h1, h2, h3, h4⟩ := h.2 e he
  have := hb e.a.toNat e.b.toNat (by omega)
  rw [show ((e.a.toNat : Nat) : Int) = e.a by omega, show ((e.b.toNat : Nat) : Int) = e.b by omega, sameS_mem h.1 he] at this
  exact this
theorem addS_bd {n : Nat} {l : List Wr} {B x A C : Int} (h : Ord n l) (hB : 0 ≤ B ∧ B ≤ 1000000000) (hb : ∀ i j : Nat, i < j → sameS i j l ≤ B) (hx : 0 ≤ x ∧ x ≤ 1000000000) : ∀ k, k ≤ l.length → -9000000000000000000 ≤ addS true A C x (l.take k) ∧ addS true A C x (l.take k) ≤ 9000000000000000000 := fun k _ => by
  have h1 := sameS_le h hB.1 (wires_le h hb) A C
  have h2 := sameS_take_le (a := A) (b := C) (k := k) (fun e he => (h.2 e he).2.2.2)
  have h3 := sameS_nn (l := l.take k) (fun e he => h.2 e (List.mem_of_mem_take he)) A C
  unfold addS
  rw [if_pos rfl]
  omega
/-- What stands while wires are put. -/
def Put (n : Nat) (l : List Wr) : Prop := Ord (n - 1) l ∧ ∀ i j : Nat, i < j → sameS i j l ≤ 1000000
theorem first_bd {n v : Nat} {s : Int} {L : List Wr} (hL : Ord n L) (hw : ∀ e ∈ L, e.w ≤ 200) (hv : v < n) (hs : 0 < s) (hs2 : s ≤ 2000) {k : Nat} (hk : k ≤ L.length) : Put n (firstP v s L k) ∧ ∀ i j : Nat, i < j → sameS i j (firstP v s L k) ≤ 400000 := by
  obtain ⟨h1, h2⟩ := first_ok hL.2 hv hs k hk
  have key : ∀ i j : Nat, i < j → sameS i j (firstP v s L k) ≤ 400000 := fun i j hij => by
    rw [h2 i j hij]
    have g1 := sameS_le hL (B := 200) (by omega) hw (upI v i : Nat) (upI v j : Nat)
    have g2 := sameS_take_le (a := (upI v i : Nat)) (b := (upI v j : Nat)) (k := k) (fun e he => (hL.2 e he).2.2.2)
    have g3 := sameS_nn (l := L.take k) (fun e he => hL.2 e (List.mem_of_mem_take he)) (upI v i : Nat) (upI v j : Nat)
    exact Int.le_trans (Int.mul_le_mul (Int.le_trans g2 g1) hs2 (by omega) (by omega)) (by decide)
  exact ⟨⟨h1, fun i j hij => Int.le_trans (key i j hij) (by omega)⟩, key⟩
theorem wbL_le {n : Nat} {L : List Wr} (hL : Ord n L) (hw : ∀ e ∈ L, e.w ≤ 200) (a b : Nat) : wbL L a b ≤ 200 := by
  unfold wbL
  split
  · omega
  · exact sameS_le hL (by omega) hw _ _
theorem near_ok {n v : Nat} {L : List Wr} : (∀ x ∈ nearL n L v, x < n ∧ x ≠ v ∧ 0 < wbL L v x) := fun x hx => by
  obtain ⟨h1, h2⟩ := mem_nearL.1 hx
  refine ⟨h1, fun e => ?_, h2⟩
  subst e
  unfold wbL at h2
  rw [if_pos rfl] at h2
  omega
theorem out_bd {n v : Nat} {s : Int} {L : List Wr} (hL : Ord n L) (hw : ∀ e ∈ L, e.w ≤ 200) (hv : v < n) (hs : 0 < s) (hs2 : s ≤ 2000) {t : Nat} (ht : t ≤ (nearL n L v).length) :
    Put n (outP v (wbL L v) (firstP v s L L.length) (nearL n L v) t) ∧ ∀ i j : Nat, i < j → sameS i j (outP v (wbL L v) (firstP v s L L.length) (nearL n L v) t) ≤ 440000 := by
  obtain ⟨⟨h1, _⟩, h2⟩ := first_bd hL hw hv hs hs2 (Nat.le_refl L.length)
  obtain ⟨h3, h4⟩ := out_ok (f := wbL L v) h1 hv near_ok (nearL_sorted n L v) t ht
  have key : ∀ i j : Nat, i < j → sameS i j (outP v (wbL L v) (firstP v s L L.length) (nearL n L v) t) ≤ 440000 := fun i j hij => by
    rw [h4 i j hij]
    have g1 := h2 i j hij
    have g2 := Int.mul_le_mul (wbL_le hL hw v (upI v i)) (wbL_le hL hw v (upI v j)) (wbL_nn hL _ _) (by omega)
    split <;> omega
  exact ⟨⟨h3, fun i j hij => Int.le_trans (key i j hij) (by omega)⟩, key⟩
theorem drop_near {n v : Nat} {L : List Wr} {t : Nat} (ht : t < (nearL n L v).length) : (nAt (nearL n L v) t < n ∧ nAt (nearL n L v) t ≠ v) ∧ 0 < wbL L v (nAt (nearL n L v) t) ∧ (∀ x ∈ (nearL n L v).drop (t + 1), nAt (nearL n L v) t < x ∧ x < n ∧ x ≠ v ∧ 0 < wbL L v x) ∧ ((nearL n L v).drop (t + 1)).Pairwise (· < ·) := by
  have hm : nAt (nearL n L v) t ∈ nearL n L v := by rw [nAt_eq _ t ht]; exact List.getElem_mem _
  obtain ⟨q1, q2, q3⟩ := near_ok _ hm
  refine ⟨⟨q1, q2⟩, q3, fun x hx => ?_, List.Pairwise.sublist (List.drop_sublist _ _) (nearL_sorted n L v)⟩
  obtain ⟨p1, p2, p3⟩ := near_ok x (List.mem_of_mem_drop hx)
  refine ⟨?_, p1, p2, p3⟩
  obtain ⟨u, hu, he⟩ := List.getElem_of_mem hx
  rw [List.length_drop] at hu
  rw [List.getElem_drop] at he
  have := (List.pairwise_iff_getElem.1 (nearL_sorted n L v)) t (t + 1 + u) (by omega) (by omega) (by omega)
  rw [nAt_eq _ t (by omega)]
  omega
theorem inn_bd {n v : Nat} {s : Int} {L : List Wr} (hL : Ord n L) (hw : ∀ e ∈ L, e.w ≤ 200) (hv : v < n) (hs : 0 < s) (hs2 : s ≤ 2000) {t : Nat} (ht : t < (nearL n L v).length) {k : Nat} (hk : k ≤ ((nearL n L v).drop (t + 1)).length) :
    Put n (innP v (wbL L v) (outP v (wbL L v) (firstP v s L L.length) (nearL n L v) t) (nAt (nearL n L v) t) ((nearL n L v).drop (t + 1)) k) := by
  obtain ⟨⟨h1, _⟩, h2⟩ := out_bd hL hw hv hs hs2 (t := t) (by omega)
  obtain ⟨d1, d2, d3, d4⟩ := drop_near ht
  obtain ⟨h3, h4⟩ := inn_ok h1 d1 d2 hv d3 d4 k hk
  refine ⟨h3, fun i j hij => ?_⟩
  rw [h4 i j hij]
  have g1 := h2 i j hij
  have g2 := Int.mul_le_mul (wbL_le hL hw v (nAt (nearL n L v) t)) (wbL_le hL hw v (upI v j)) (wbL_nn hL _ _) (by omega)
  split <;> omega
theorem firstP_len (v : Nat) (s : Int) (L : List Wr) : ∀ k, (firstP v s L k).length ≤ k
  | 0 => by simp [firstP]
  | k + 1 => by
    have h := firstP_len v s L k
    simp only [firstP]
    split
    · omega
    · have := (putW_len (firstP v s L k) (outI v (nthW L k).a) (outI v (nthW L k).b) ((nthW L k).w * s) true).1
      omega
theorem innP_len (v : Nat) (f : Nat → Int) (acc : List Wr) (a : Nat) (r : List Nat) : ∀ k, (innP v f acc a r k).length ≤ acc.length + k
  | 0 => by simp [innP]
  | k + 1 => by
    have h := innP_len v f acc a r k
    simp only [innP]
    have := (putW_len (innP v f acc a r k) (outI v (a : Int)) (outI v (nAt r k : Int)) (f a * f (nAt r k)) true).1
    omega
theorem outP_len (v : Nat) (f : Nat → Int) (base : List Wr) (near : List Nat) : ∀ t, (outP v f base near t).length ≤ base.length + t * near.length
  | 0 => by simp [outP]
  | t + 1 => by
    have h := outP_len v f base near t
    have h2 := innP_len v f (outP v f base near t) (nAt near t) (near.drop (t + 1)) (near.drop (t + 1)).length
    simp only [outP]
    rw [List.length_drop] at *
    rw [Nat.succ_mul]
    omega
theorem redM_bd {n v : Nat} {L : List Wr} (hL : Ord n L) (hw : ∀ e ∈ L, e.w ≤ 200) (hv : v < n) (hs : 0 < wat (flatW L) v L.length) (hs2 : wat (flatW L) v L.length ≤ 2000) : ∀ e ∈ redM n L v, 0 < e.w ∧ e.w ≤ 1000000000 := fun e he => by
  have h := out_bd hL hw hv hs hs2 (Nat.le_refl (nearL n L v).length)
  rw [mesh_tab hL hv hs] at h
  exact ⟨(h.1.1.2 e he).2.2.2, Int.le_trans (wires_le h.1.1 h.2 e he) (by omega)⟩
end Go.Proofs.Ytahicfpnmjofhaa
