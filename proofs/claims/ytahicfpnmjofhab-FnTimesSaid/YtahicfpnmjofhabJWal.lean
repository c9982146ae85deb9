/- Plain law: wires put into a list in order. No program in sight. Plain law: tree and forest sums of a network in which every node but the first has a wire down. No program in sight. Plain law: wires put into a list in order; what the draws make is a valid network. No program in sight. Plain Lean: sums and products of small fractions are exact. Plain law: walks on a drawn network. No program in sight. -/
import Derived.Test.YtahicfpnmjofhabPlNet
import Derived.Test.YtahicfpnmjofhabJFor
import Derived.Test.YtahicfpnmjofhabPlSum
namespace Go.Proofs.Ytahicfpnmjofhab

/-- The wire has the ends a and b. -/
def isE (a b : Int) (e : Wr) : Bool := decide (e.a = a) && decide (e.b = b)
/-- The wire lies behind the ends a and b. -/
def gtE (a b : Int) (e : Wr) : Bool := decide (a < e.a) || (decide (e.a = a) && decide (b < e.b))
theorem isE_t {a b : Int} {e : Wr} (h : e.a = a ∧ e.b = b) : isE a b e = true := by simp [isE, h]
theorem isE_f {a b : Int} {e : Wr} (h : ¬ (e.a = a ∧ e.b = b)) : isE a b e = false := by simpa [isE] using h
theorem isE_of {a b : Int} {e : Wr} (h : isE a b e = true) : e.a = a ∧ e.b = b := by simpa [isE] using h
theorem gtE_t {a b : Int} {e : Wr} (h : a < e.a ∨ e.a = a ∧ b < e.b) : gtE a b e = true := by simpa [gtE] using h
theorem gtE_f {a b : Int} {e : Wr} (h : ¬ (a < e.a ∨ e.a = a ∧ b < e.b)) : gtE a b e = false := by
  cases c : gtE a b e with
  | false => rfl
  | true => exact absurd (by simpa [gtE] using c) h
theorem gtE_of {a b : Int} {e : Wr} (h : gtE a b e = true) : a < e.a ∨ e.a = a ∧ b < e.b := by simpa [gtE] using h
/-- The wires with other ends. -/
def dropE (a b : Int) (l : List Wr) : List Wr := l.filter fun e => !isE a b e
/-- The weights of those with these ends. -/
def sameS (a b : Int) : List Wr → Int
  | [] => 0
  | e :: l => (if isE a b e = true then e.w else 0) + sameS a b l
/-- The first k wires, x put ahead of the first that lies behind it; whether it has been put. -/
def insP (x : Wr) : List Wr → List Wr × Bool
  | [] => ([], false)
  | e :: l => if gtE x.a x.b e = true then (x :: e :: l, true) else (e :: (insP x l).1, (insP x l).2)
def insW (x : Wr) (l : List Wr) : List Wr := if (insP x l).2 = true then (insP x l).1 else (insP x l).1 ++ [x]
/-- What l03Put gives. -/
def putW (l : List Wr) (a b w : Int) (add : Bool) : List Wr := insW ⟨min a b, max a b, w + (if add = true then sameS (min a b) (max a b) l else 0)⟩ (dropE (min a b) (max a b) l)
theorem dropE_snoc (a b : Int) (l : List Wr) (e : Wr) : dropE a b (l ++ [e]) = if isE a b e = true then dropE a b l else dropE a b l ++ [e] := by
  unfold dropE
  rw [List.filter_append]
  cases c : isE a b e <;> simp [c]
theorem sameS_snoc (a b : Int) (l : List Wr) (e : Wr) : sameS a b (l ++ [e]) = sameS a b l + (if isE a b e = true then e.w else 0) := by
  induction l with
  | nil => simp [sameS]
  | cons x l ih => simp only [List.cons_append, sameS, ih]; omega
theorem insP_snoc (x : Wr) (l : List Wr) (e : Wr) : insP x (l ++ [e]) = if (insP x l).2 = true then ((insP x l).1 ++ [e], true) else if gtE x.a x.b e = true then ((insP x l).1 ++ [x, e], true) else ((insP x l).1 ++ [e], false) := by
  induction l with
  | nil => simp [insP]
  | cons y l ih =>
    simp only [List.cons_append, insP, ih]
    by_cases c : gtE x.a x.b y = true
    · simp [c]
    · by_cases d : (insP x l).2 = true
      · simp [c, d]
      · by_cases c2 : gtE x.a x.b e = true
        · simp [c, d, c2]
        · simp [c, d, c2]
theorem insP_len (x : Wr) (l : List Wr) : (insP x l).1.length = l.length + (if (insP x l).2 = true then 1 else 0) := by
  induction l with
  | nil => simp [insP]
  | cons y l ih =>
    simp only [insP]
    by_cases c : gtE x.a x.b y = true
    · simp [c]
    · simp [c, ih]; omega
theorem dropE_len (a b : Int) (l : List Wr) : (dropE a b l).length ≤ l.length := List.length_filter_le _ _
theorem insW_cons (x e : Wr) (l : List Wr) : insW x (e :: l) = if gtE x.a x.b e = true then x :: e :: l else e :: insW x l := by
  unfold insW
  simp only [insP]
  by_cases c : gtE x.a x.b e = true
  · simp [c]
  · by_cases d : (insP x l).2 = true
    · simp [c, d]
    · simp [c, d]
theorem mem_insW {x : Wr} : ∀ {l : List Wr} {y : Wr}, y ∈ insW x l ↔ y = x ∨ y ∈ l
  | [], y => by simp [insW, insP]
  | e :: l, y => by
    rw [insW_cons]
    split
    · simp
    · simp only [List.mem_cons, mem_insW (x := x) (l := l) (y := y)]
      constructor
      · rintro (h | h | h) <;> simp [h]
      · rintro (h | h | h) <;> simp [h]
theorem insW_len (x : Wr) : ∀ l : List Wr, (insW x l).length = l.length + 1
  | [] => rfl
  | e :: l => by
    rw [insW_cons]
    split
    · rfl
    · simp [insW_len x l]
theorem putW_len (l : List Wr) (a b w : Int) (add : Bool) : (putW l a b w add).length ≤ l.length + 1 ∧ 1 ≤ (putW l a b w add).length := by
  unfold putW
  rw [insW_len]
  have h1 := dropE_len (min a b) (max a b) l
  omega
def ltW (x y : Wr) : Prop := x.a < y.a ∨ x.a = y.a ∧ x.b < y.b
theorem ltW_trans {x y z : Wr} (h : ltW x y) (k : ltW y z) : ltW x z := by unfold ltW at *; omega
theorem insW_sorted {x : Wr} : ∀ {l : List Wr}, l.Pairwise ltW → (∀ e ∈ l, ¬ (e.a = x.a ∧ e.b = x.b)) → (insW x l).Pairwise ltW
  | [], _, _ => by simp [insW, insP]
  | e :: l, h, hne => by
    rw [insW_cons]
    rw [List.pairwise_cons] at h
    by_cases c : gtE x.a x.b e = true
    · rw [if_pos c]
      have c' := gtE_of c
      have hxe : ltW x e := by unfold ltW; omega
      refine List.pairwise_cons.2 ⟨fun y hy => ?_, List.pairwise_cons.2 h⟩
      rcases List.mem_cons.1 hy with rfl | hy
      · exact hxe
      · exact ltW_trans hxe (h.1 y hy)
    · rw [if_neg c]
      refine List.pairwise_cons.2 ⟨fun y hy => ?_, insW_sorted h.2 (fun e he => hne e (List.mem_cons_of_mem _ he))⟩
      rcases mem_insW.1 hy with rfl | hy
      · have h1 := hne e (by simp)
        have h2 : ¬ (y.a < e.a ∨ e.a = y.a ∧ y.b < e.b) := fun k => c (gtE_t k)
        unfold ltW; omega
      · exact h.1 y hy
end Go.Proofs.Ytahicfpnmjofhab

namespace Go.Proofs.Ytahicfpnmjofhab

open Go.RowKit

/-- Every node but the first has a wire to an earlier one. -/
def downB (n m : Nat) (xs : List Int) : Prop := ∀ v : Nat, 1 ≤ v → v < n → ∃ k, k < m ∧ wb xs k = (v : Int)
/-- A network as the draws make it. -/
structure Drn (n m : Nat) (xs : List Int) : Prop where
  two : 2 ≤ n
  five : n ≤ 5
  good : ∀ k, k < m → goodW n xs k
  six : ∀ k, k < m → ww xs k ≤ 6
  down : downB n m xs
theorem wbet_nn {n m : Nat} {xs : List Int} (h : Drn n m xs) (a b : Int) : 0 ≤ wbet xs m a b := (wbet_bd h.good a b).1
theorem wbet_six {n m : Nat} {xs : List Int} (h : Drn n m xs) (a b : Int) : wbet xs m a b ≤ 6 := by
  cases e : wfind xs a b m with
  | none => rw [wbet_none e]; omega
  | some k => rw [wbet_some e]; exact h.six k (wfind_lt e).1
theorem wbet_self {n m : Nat} {xs : List Int} (h : Drn n m xs) (a : Int) : wbet xs m a a = 0 := wbet_none (wfind_self h.good a)
theorem wbet_one {n m : Nat} {xs : List Int} (h : Drn n m xs) {k : Nat} (hk : k < m) : 1 ≤ wbet xs m (wa xs k) (wb xs k) := by
  have hw : isW xs (wa xs k) (wb xs k) k := by
    obtain ⟨_, q, _⟩ := (h.good k hk).1
    unfold isW; omega
  cases e : wfind xs (wa xs k) (wb xs k) m with
  | none =>
    have : ∀ m', k < m' → wfind xs (wa xs k) (wb xs k) m' ≠ none := fun m' => by
      induction m' with
      | zero => intro h; omega
      | succ m' ih =>
        intro hk'
        simp only [wfind]
        by_cases ek : k = m'
        · subst ek
          split
          · simp
          · rw [if_pos hw]; simp
        · have := ih (by omega)
          split
          · simp
          · rename_i e2; exact absurd e2 this
    exact absurd e (this m hk)
  | some j =>
    rw [wbet_some e]
    exact (h.good j (wfind_lt e).1).1.2.2.2.1
theorem down_sum {n m : Nat} {xs : List Int} (h : Drn n m xs) {v : Nat} (h1 : 1 ≤ v) (h2 : v < n) : ∃ p : Nat, p < v ∧ 1 ≤ wbet xs m p v := by
  obtain ⟨k, hk, hv⟩ := h.down v h1 h2
  obtain ⟨q0, q1, _⟩ := (h.good k hk).1
  have h3 := wbet_one h hk
  rw [hv] at h3
  exact ⟨(wa xs k).toNat, by omega, by rw [show (((wa xs k).toNat : Nat) : Int) = wa xs k by omega]; exact h3⟩
theorem lap_off (xs : List Int) (m : Nat) {a b : Int} (h : a ≠ b) : lapZ xs m a b = -(wbet xs m a b) := by unfold lapZ; rw [if_neg h]
theorem lap_dia (xs : List Int) (m : Nat) (a : Int) : lapZ xs m a a = wat xs a m := by unfold lapZ; rw [if_pos rfl]

theorem lap2_of {m : Nat} {xs : List Int} (h : Drn 2 m xs) : Lap2 (lapZ xs m) (wbet xs m 0 1) := by
  have d0 : lapZ xs m 0 0 = wbet xs m 0 1 := by
    have e := wat_sum (n := 2) (xs := xs) (v := 0) (by decide) (by decide) h.good
    have z := wbet_self h 0
    have c0 : ((0 : Nat) : Int) = 0 := rfl
    have c1 : ((1 : Nat) : Int) = 1 := rfl
    simp only [sumTo, c0, c1] at e
    rw [lap_dia, ← e, z]; omega
  have d1 : lapZ xs m 1 1 = wbet xs m 0 1 := by
    have e := wat_sum (n := 2) (xs := xs) (v := 1) (by decide) (by decide) h.good
    have z := wbet_self h 1
    have c0 : ((0 : Nat) : Int) = 0 := rfl
    have c1 : ((1 : Nat) : Int) = 1 := rfl
    simp only [sumTo, c0, c1] at e
    rw [lap_dia, ← e, z, wbet_symm xs m 1 0]; omega
  exact ⟨d0, lap_off xs m (by decide), by rw [lap_off xs m (by decide), wbet_symm], d1⟩
theorem dn2_1 {m : Nat} {xs : List Int} (h : Drn 2 m xs) : 1 ≤ wbet xs m 0 1 := by
  obtain ⟨p, hp, h1⟩ := down_sum h (v := 1) (by decide) (by decide)
  have n0 := wbet_nn h 0 1
  have hc : p = 0 := by omega
  rcases hc with rfl
  · replace h1 : 1 ≤ wbet xs m 0 1 := h1; omega
theorem trT2 {m : Nat} {xs : List Int} (h : Drn 2 m xs) : treeT 2 m xs = tp2 (wbet xs m 0 1) := tree2 (lap2_of h)
theorem trP2 {m : Nat} {xs : List Int} (h : Drn 2 m xs) : 1 ≤ treeT 2 m xs := by rw [trT2 h]; exact tp2_pos (wbet_nn h 0 1) (dn2_1 h)
theorem foT2_01 {m : Nat} {xs : List Int} (h : Drn 2 m xs) : forZ 2 m xs 0 1 = fp2_01 (wbet xs m 0 1) := for2_01 (lap2_of h)
theorem foP2_01 {m : Nat} {xs : List Int} (h : Drn 2 m xs) : 1 ≤ forZ 2 m xs 0 1 := by rw [foT2_01 h]; exact fp2_01_pos (wbet_nn h 0 1) (dn2_1 h)
theorem foT2_10 {m : Nat} {xs : List Int} (h : Drn 2 m xs) : forZ 2 m xs 1 0 = fp2_01 (wbet xs m 0 1) := for2_01 (lap2_of h)

theorem lap3_of {m : Nat} {xs : List Int} (h : Drn 3 m xs) : Lap3 (lapZ xs m) (wbet xs m 0 1) (wbet xs m 0 2) (wbet xs m 1 2) := by
  have d0 : lapZ xs m 0 0 = wbet xs m 0 1 + wbet xs m 0 2 := by
    have e := wat_sum (n := 3) (xs := xs) (v := 0) (by decide) (by decide) h.good
    have z := wbet_self h 0
    have c0 : ((0 : Nat) : Int) = 0 := rfl
    have c1 : ((1 : Nat) : Int) = 1 := rfl
    have c2 : ((2 : Nat) : Int) = 2 := rfl
    simp only [sumTo, c0, c1, c2] at e
    rw [lap_dia, ← e, z]; omega
  have d1 : lapZ xs m 1 1 = wbet xs m 0 1 + wbet xs m 1 2 := by
    have e := wat_sum (n := 3) (xs := xs) (v := 1) (by decide) (by decide) h.good
    have z := wbet_self h 1
    have c0 : ((0 : Nat) : Int) = 0 := rfl
    have c1 : ((1 : Nat) : Int) = 1 := rfl
    have c2 : ((2 : Nat) : Int) = 2 := rfl
    simp only [sumTo, c0, c1, c2] at e
    rw [lap_dia, ← e, z, wbet_symm xs m 1 0]; omega
  have d2 : lapZ xs m 2 2 = wbet xs m 0 2 + wbet xs m 1 2 := by
    have e := wat_sum (n := 3) (xs := xs) (v := 2) (by decide) (by decide) h.good
    have z := wbet_self h 2
    have c0 : ((0 : Nat) : Int) = 0 := rfl
    have c1 : ((1 : Nat) : Int) = 1 := rfl
    have c2 : ((2 : Nat) : Int) = 2 := rfl
    simp only [sumTo, c0, c1, c2] at e
    rw [lap_dia, ← e, z, wbet_symm xs m 2 0, wbet_symm xs m 2 1]; omega
  exact ⟨d0, lap_off xs m (by decide), lap_off xs m (by decide), by rw [lap_off xs m (by decide), wbet_symm], d1, lap_off xs m (by decide), by rw [lap_off xs m (by decide), wbet_symm], by rw [lap_off xs m (by decide), wbet_symm], d2⟩
theorem dn3_1 {m : Nat} {xs : List Int} (h : Drn 3 m xs) : 1 ≤ wbet xs m 0 1 := by
  obtain ⟨p, hp, h1⟩ := down_sum h (v := 1) (by decide) (by decide)
  have n0 := wbet_nn h 0 1
  have hc : p = 0 := by omega
  rcases hc with rfl
  · replace h1 : 1 ≤ wbet xs m 0 1 := h1; omega
theorem dn3_2 {m : Nat} {xs : List Int} (h : Drn 3 m xs) : 1 ≤ wbet xs m 0 2 + wbet xs m 1 2 := by
  obtain ⟨p, hp, h1⟩ := down_sum h (v := 2) (by decide) (by decide)
  have n0 := wbet_nn h 0 2
  have n1 := wbet_nn h 1 2
  have hc : p = 0 ∨ p = 1 := by omega
  rcases hc with rfl | rfl
  · replace h1 : 1 ≤ wbet xs m 0 2 := h1; omega
  · replace h1 : 1 ≤ wbet xs m 1 2 := h1; omega
theorem trT3 {m : Nat} {xs : List Int} (h : Drn 3 m xs) : treeT 3 m xs = tp3 (wbet xs m 0 1) (wbet xs m 0 2) (wbet xs m 1 2) := tree3 (lap3_of h)
theorem trP3 {m : Nat} {xs : List Int} (h : Drn 3 m xs) : 1 ≤ treeT 3 m xs := by rw [trT3 h]; exact tp3_pos (wbet_nn h 0 1) (wbet_nn h 0 2) (wbet_nn h 1 2) (dn3_1 h) (dn3_2 h)
theorem foT3_01 {m : Nat} {xs : List Int} (h : Drn 3 m xs) : forZ 3 m xs 0 1 = fp3_01 (wbet xs m 0 1) (wbet xs m 0 2) (wbet xs m 1 2) := for3_01 (lap3_of h)
theorem foP3_01 {m : Nat} {xs : List Int} (h : Drn 3 m xs) : 1 ≤ forZ 3 m xs 0 1 := by rw [foT3_01 h]; exact fp3_01_pos (wbet_nn h 0 1) (wbet_nn h 0 2) (wbet_nn h 1 2) (dn3_1 h) (dn3_2 h)
theorem foT3_02 {m : Nat} {xs : List Int} (h : Drn 3 m xs) : forZ 3 m xs 0 2 = fp3_02 (wbet xs m 0 1) (wbet xs m 0 2) (wbet xs m 1 2) := for3_02 (lap3_of h)
theorem foP3_02 {m : Nat} {xs : List Int} (h : Drn 3 m xs) : 1 ≤ forZ 3 m xs 0 2 := by rw [foT3_02 h]; exact fp3_02_pos (wbet_nn h 0 1) (wbet_nn h 0 2) (wbet_nn h 1 2) (dn3_1 h) (dn3_2 h)
theorem foT3_10 {m : Nat} {xs : List Int} (h : Drn 3 m xs) : forZ 3 m xs 1 0 = fp3_01 (wbet xs m 0 1) (wbet xs m 0 2) (wbet xs m 1 2) := for3_01 (lap3_of h)
theorem foT3_12 {m : Nat} {xs : List Int} (h : Drn 3 m xs) : forZ 3 m xs 1 2 = fp3_12 (wbet xs m 0 1) (wbet xs m 0 2) (wbet xs m 1 2) := for3_12 (lap3_of h)
theorem foP3_12 {m : Nat} {xs : List Int} (h : Drn 3 m xs) : 1 ≤ forZ 3 m xs 1 2 := by rw [foT3_12 h]; exact fp3_12_pos (wbet_nn h 0 1) (wbet_nn h 0 2) (wbet_nn h 1 2) (dn3_1 h) (dn3_2 h)
theorem foT3_20 {m : Nat} {xs : List Int} (h : Drn 3 m xs) : forZ 3 m xs 2 0 = fp3_02 (wbet xs m 0 1) (wbet xs m 0 2) (wbet xs m 1 2) := for3_02 (lap3_of h)
theorem foT3_21 {m : Nat} {xs : List Int} (h : Drn 3 m xs) : forZ 3 m xs 2 1 = fp3_12 (wbet xs m 0 1) (wbet xs m 0 2) (wbet xs m 1 2) := for3_12 (lap3_of h)

theorem lap4_of {m : Nat} {xs : List Int} (h : Drn 4 m xs) : Lap4 (lapZ xs m) (wbet xs m 0 1) (wbet xs m 0 2) (wbet xs m 0 3) (wbet xs m 1 2) (wbet xs m 1 3) (wbet xs m 2 3) := by
  have d0 : lapZ xs m 0 0 = wbet xs m 0 1 + wbet xs m 0 2 + wbet xs m 0 3 := by
    have e := wat_sum (n := 4) (xs := xs) (v := 0) (by decide) (by decide) h.good
    have z := wbet_self h 0
    have c0 : ((0 : Nat) : Int) = 0 := rfl
    have c1 : ((1 : Nat) : Int) = 1 := rfl
    have c2 : ((2 : Nat) : Int) = 2 := rfl
    have c3 : ((3 : Nat) : Int) = 3 := rfl
    simp only [sumTo, c0, c1, c2, c3] at e
    rw [lap_dia, ← e, z]; omega
  have d1 : lapZ xs m 1 1 = wbet xs m 0 1 + wbet xs m 1 2 + wbet xs m 1 3 := by
    have e := wat_sum (n := 4) (xs := xs) (v := 1) (by decide) (by decide) h.good
    have z := wbet_self h 1
    have c0 : ((0 : Nat) : Int) = 0 := rfl
    have c1 : ((1 : Nat) : Int) = 1 := rfl
    have c2 : ((2 : Nat) : Int) = 2 := rfl
    have c3 : ((3 : Nat) : Int) = 3 := rfl
    simp only [sumTo, c0, c1, c2, c3] at e
    rw [lap_dia, ← e, z, wbet_symm xs m 1 0]; omega
  have d2 : lapZ xs m 2 2 = wbet xs m 0 2 + wbet xs m 1 2 + wbet xs m 2 3 := by
    have e := wat_sum (n := 4) (xs := xs) (v := 2) (by decide) (by decide) h.good
    have z := wbet_self h 2
    have c0 : ((0 : Nat) : Int) = 0 := rfl
    have c1 : ((1 : Nat) : Int) = 1 := rfl
    have c2 : ((2 : Nat) : Int) = 2 := rfl
    have c3 : ((3 : Nat) : Int) = 3 := rfl
    simp only [sumTo, c0, c1, c2, c3] at e
    rw [lap_dia, ← e, z, wbet_symm xs m 2 0, wbet_symm xs m 2 1]; omega
  have d3 : lapZ xs m 3 3 = wbet xs m 0 3 + wbet xs m 1 3 + wbet xs m 2 3 := by
    have e := wat_sum (n := 4) (xs := xs) (v := 3) (by decide) (by decide) h.good
    have z := wbet_self h 3
    have c0 : ((0 : Nat) : Int) = 0 := rfl
    have c1 : ((1 : Nat) : Int) = 1 := rfl
    have c2 : ((2 : Nat) : Int) = 2 := rfl
    have c3 : ((3 : Nat) : Int) = 3 := rfl
    simp only [sumTo, c0, c1, c2, c3] at e
    rw [lap_dia, ← e, z, wbet_symm xs m 3 0, wbet_symm xs m 3 1, wbet_symm xs m 3 2]; omega
  exact ⟨d0, lap_off xs m (by decide), lap_off xs m (by decide), lap_off xs m (by decide), by rw [lap_off xs m (by decide), wbet_symm], d1, lap_off xs m (by decide), lap_off xs m (by decide), by rw [lap_off xs m (by decide), wbet_symm], by rw [lap_off xs m (by decide), wbet_symm], d2, lap_off xs m (by decide), by rw [lap_off xs m (by decide), wbet_symm], by rw [lap_off xs m (by decide), wbet_symm], by rw [lap_off xs m (by decide), wbet_symm], d3⟩
theorem dn4_1 {m : Nat} {xs : List Int} (h : Drn 4 m xs) : 1 ≤ wbet xs m 0 1 := by
  obtain ⟨p, hp, h1⟩ := down_sum h (v := 1) (by decide) (by decide)
  have n0 := wbet_nn h 0 1
  have hc : p = 0 := by omega
  rcases hc with rfl
  · replace h1 : 1 ≤ wbet xs m 0 1 := h1; omega
theorem dn4_2 {m : Nat} {xs : List Int} (h : Drn 4 m xs) : 1 ≤ wbet xs m 0 2 + wbet xs m 1 2 := by
  obtain ⟨p, hp, h1⟩ := down_sum h (v := 2) (by decide) (by decide)
  have n0 := wbet_nn h 0 2
  have n1 := wbet_nn h 1 2
  have hc : p = 0 ∨ p = 1 := by omega
  rcases hc with rfl | rfl
  · replace h1 : 1 ≤ wbet xs m 0 2 := h1; omega
  · replace h1 : 1 ≤ wbet xs m 1 2 := h1; omega
theorem dn4_3 {m : Nat} {xs : List Int} (h : Drn 4 m xs) : 1 ≤ wbet xs m 0 3 + wbet xs m 1 3 + wbet xs m 2 3 := by
  obtain ⟨p, hp, h1⟩ := down_sum h (v := 3) (by decide) (by decide)
  have n0 := wbet_nn h 0 3
  have n1 := wbet_nn h 1 3
  have n2 := wbet_nn h 2 3
  have hc : p = 0 ∨ p = 1 ∨ p = 2 := by omega
  rcases hc with rfl | rfl | rfl
  · replace h1 : 1 ≤ wbet xs m 0 3 := h1; omega
  · replace h1 : 1 ≤ wbet xs m 1 3 := h1; omega
  · replace h1 : 1 ≤ wbet xs m 2 3 := h1; omega
theorem trT4 {m : Nat} {xs : List Int} (h : Drn 4 m xs) : treeT 4 m xs = tp4 (wbet xs m 0 1) (wbet xs m 0 2) (wbet xs m 0 3) (wbet xs m 1 2) (wbet xs m 1 3) (wbet xs m 2 3) := tree4 (lap4_of h)
theorem trP4 {m : Nat} {xs : List Int} (h : Drn 4 m xs) : 1 ≤ treeT 4 m xs := by rw [trT4 h]; exact tp4_pos (wbet_nn h 0 1) (wbet_nn h 0 2) (wbet_nn h 0 3) (wbet_nn h 1 2) (wbet_nn h 1 3) (wbet_nn h 2 3) (dn4_1 h) (dn4_2 h) (dn4_3 h)
theorem foT4_01 {m : Nat} {xs : List Int} (h : Drn 4 m xs) : forZ 4 m xs 0 1 = fp4_01 (wbet xs m 0 1) (wbet xs m 0 2) (wbet xs m 0 3) (wbet xs m 1 2) (wbet xs m 1 3) (wbet xs m 2 3) := for4_01 (lap4_of h)
theorem foP4_01 {m : Nat} {xs : List Int} (h : Drn 4 m xs) : 1 ≤ forZ 4 m xs 0 1 := by rw [foT4_01 h]; exact fp4_01_pos (wbet_nn h 0 1) (wbet_nn h 0 2) (wbet_nn h 0 3) (wbet_nn h 1 2) (wbet_nn h 1 3) (wbet_nn h 2 3) (dn4_1 h) (dn4_2 h) (dn4_3 h)
theorem foT4_02 {m : Nat} {xs : List Int} (h : Drn 4 m xs) : forZ 4 m xs 0 2 = fp4_02 (wbet xs m 0 1) (wbet xs m 0 2) (wbet xs m 0 3) (wbet xs m 1 2) (wbet xs m 1 3) (wbet xs m 2 3) := for4_02 (lap4_of h)
theorem foP4_02 {m : Nat} {xs : List Int} (h : Drn 4 m xs) : 1 ≤ forZ 4 m xs 0 2 := by rw [foT4_02 h]; exact fp4_02_pos (wbet_nn h 0 1) (wbet_nn h 0 2) (wbet_nn h 0 3) (wbet_nn h 1 2) (wbet_nn h 1 3) (wbet_nn h 2 3) (dn4_1 h) (dn4_2 h) (dn4_3 h)
theorem foT4_03 {m : Nat} {xs : List Int} (h : Drn 4 m xs) : forZ 4 m xs 0 3 = fp4_03 (wbet xs m 0 1) (wbet xs m 0 2) (wbet xs m 0 3) (wbet xs m 1 2) (wbet xs m 1 3) (wbet xs m 2 3) := for4_03 (lap4_of h)
theorem foP4_03 {m : Nat} {xs : List Int} (h : Drn 4 m xs) : 1 ≤ forZ 4 m xs 0 3 := by rw [foT4_03 h]; exact fp4_03_pos (wbet_nn h 0 1) (wbet_nn h 0 2) (wbet_nn h 0 3) (wbet_nn h 1 2) (wbet_nn h 1 3) (wbet_nn h 2 3) (dn4_1 h) (dn4_2 h) (dn4_3 h)
theorem foT4_10 {m : Nat} {xs : List Int} (h : Drn 4 m xs) : forZ 4 m xs 1 0 = fp4_01 (wbet xs m 0 1) (wbet xs m 0 2) (wbet xs m 0 3) (wbet xs m 1 2) (wbet xs m 1 3) (wbet xs m 2 3) := for4_01 (lap4_of h)
theorem foT4_12 {m : Nat} {xs : List Int} (h : Drn 4 m xs) : forZ 4 m xs 1 2 = fp4_12 (wbet xs m 0 1) (wbet xs m 0 2) (wbet xs m 0 3) (wbet xs m 1 2) (wbet xs m 1 3) (wbet xs m 2 3) := for4_12 (lap4_of h)
theorem foP4_12 {m : Nat} {xs : List Int} (h : Drn 4 m xs) : 1 ≤ forZ 4 m xs 1 2 := by rw [foT4_12 h]; exact fp4_12_pos (wbet_nn h 0 1) (wbet_nn h 0 2) (wbet_nn h 0 3) (wbet_nn h 1 2) (wbet_nn h 1 3) (wbet_nn h 2 3) (dn4_1 h) (dn4_2 h) (dn4_3 h)
theorem foT4_13 {m : Nat} {xs : List Int} (h : Drn 4 m xs) : forZ 4 m xs 1 3 = fp4_13 (wbet xs m 0 1) (wbet xs m 0 2) (wbet xs m 0 3) (wbet xs m 1 2) (wbet xs m 1 3) (wbet xs m 2 3) := for4_13 (lap4_of h)
theorem foP4_13 {m : Nat} {xs : List Int} (h : Drn 4 m xs) : 1 ≤ forZ 4 m xs 1 3 := by rw [foT4_13 h]; exact fp4_13_pos (wbet_nn h 0 1) (wbet_nn h 0 2) (wbet_nn h 0 3) (wbet_nn h 1 2) (wbet_nn h 1 3) (wbet_nn h 2 3) (dn4_1 h) (dn4_2 h) (dn4_3 h)
theorem foT4_20 {m : Nat} {xs : List Int} (h : Drn 4 m xs) : forZ 4 m xs 2 0 = fp4_02 (wbet xs m 0 1) (wbet xs m 0 2) (wbet xs m 0 3) (wbet xs m 1 2) (wbet xs m 1 3) (wbet xs m 2 3) := for4_02 (lap4_of h)
theorem foT4_21 {m : Nat} {xs : List Int} (h : Drn 4 m xs) : forZ 4 m xs 2 1 = fp4_12 (wbet xs m 0 1) (wbet xs m 0 2) (wbet xs m 0 3) (wbet xs m 1 2) (wbet xs m 1 3) (wbet xs m 2 3) := for4_12 (lap4_of h)
theorem foT4_23 {m : Nat} {xs : List Int} (h : Drn 4 m xs) : forZ 4 m xs 2 3 = fp4_23 (wbet xs m 0 1) (wbet xs m 0 2) (wbet xs m 0 3) (wbet xs m 1 2) (wbet xs m 1 3) (wbet xs m 2 3) := for4_23 (lap4_of h)
theorem foP4_23 {m : Nat} {xs : List Int} (h : Drn 4 m xs) : 1 ≤ forZ 4 m xs 2 3 := by rw [foT4_23 h]; exact fp4_23_pos (wbet_nn h 0 1) (wbet_nn h 0 2) (wbet_nn h 0 3) (wbet_nn h 1 2) (wbet_nn h 1 3) (wbet_nn h 2 3) (dn4_1 h) (dn4_2 h) (dn4_3 h)
theorem foT4_30 {m : Nat} {xs : List Int} (h : Drn 4 m xs) : forZ 4 m xs 3 0 = fp4_03 (wbet xs m 0 1) (wbet xs m 0 2) (wbet xs m 0 3) (wbet xs m 1 2) (wbet xs m 1 3) (wbet xs m 2 3) := for4_03 (lap4_of h)
theorem foT4_31 {m : Nat} {xs : List Int} (h : Drn 4 m xs) : forZ 4 m xs 3 1 = fp4_13 (wbet xs m 0 1) (wbet xs m 0 2) (wbet xs m 0 3) (wbet xs m 1 2) (wbet xs m 1 3) (wbet xs m 2 3) := for4_13 (lap4_of h)
theorem foT4_32 {m : Nat} {xs : List Int} (h : Drn 4 m xs) : forZ 4 m xs 3 2 = fp4_23 (wbet xs m 0 1) (wbet xs m 0 2) (wbet xs m 0 3) (wbet xs m 1 2) (wbet xs m 1 3) (wbet xs m 2 3) := for4_23 (lap4_of h)

theorem lap5_of {m : Nat} {xs : List Int} (h : Drn 5 m xs) : Lap5 (lapZ xs m) (wbet xs m 0 1) (wbet xs m 0 2) (wbet xs m 0 3) (wbet xs m 0 4) (wbet xs m 1 2) (wbet xs m 1 3) (wbet xs m 1 4) (wbet xs m 2 3) (wbet xs m 2 4) (wbet xs m 3 4) := by
  have d0 : lapZ xs m 0 0 = wbet xs m 0 1 + wbet xs m 0 2 + wbet xs m 0 3 + wbet xs m 0 4 := by
    have e := wat_sum (n := 5) (xs := xs) (v := 0) (by decide) (by decide) h.good
    have z := wbet_self h 0
    have c0 : ((0 : Nat) : Int) = 0 := rfl
    have c1 : ((1 : Nat) : Int) = 1 := rfl
    have c2 : ((2 : Nat) : Int) = 2 := rfl
    have c3 : ((3 : Nat) : Int) = 3 := rfl
    have c4 : ((4 : Nat) : Int) = 4 := rfl
    simp only [sumTo, c0, c1, c2, c3, c4] at e
    rw [lap_dia, ← e, z]; omega
  have d1 : lapZ xs m 1 1 = wbet xs m 0 1 + wbet xs m 1 2 + wbet xs m 1 3 + wbet xs m 1 4 := by
    have e := wat_sum (n := 5) (xs := xs) (v := 1) (by decide) (by decide) h.good
    have z := wbet_self h 1
    have c0 : ((0 : Nat) : Int) = 0 := rfl
    have c1 : ((1 : Nat) : Int) = 1 := rfl
    have c2 : ((2 : Nat) : Int) = 2 := rfl
    have c3 : ((3 : Nat) : Int) = 3 := rfl
    have c4 : ((4 : Nat) : Int) = 4 := rfl
    simp only [sumTo, c0, c1, c2, c3, c4] at e
    rw [lap_dia, ← e, z, wbet_symm xs m 1 0]; omega
  have d2 : lapZ xs m 2 2 = wbet xs m 0 2 + wbet xs m 1 2 + wbet xs m 2 3 + wbet xs m 2 4 := by
    have e := wat_sum (n := 5) (xs := xs) (v := 2) (by decide) (by decide) h.good
    have z := wbet_self h 2
    have c0 : ((0 : Nat) : Int) = 0 := rfl
    have c1 : ((1 : Nat) : Int) = 1 := rfl
    have c2 : ((2 : Nat) : Int) = 2 := rfl
    have c3 : ((3 : Nat) : Int) = 3 := rfl
    have c4 : ((4 : Nat) : Int) = 4 := rfl
    simp only [sumTo, c0, c1, c2, c3, c4] at e
    rw [lap_dia, ← e, z, wbet_symm xs m 2 0, wbet_symm xs m 2 1]; omega
  have d3 : lapZ xs m 3 3 = wbet xs m 0 3 + wbet xs m 1 3 + wbet xs m 2 3 + wbet xs m 3 4 := by
    have e := wat_sum (n := 5) (xs := xs) (v := 3) (by decide) (by decide) h.good
    have z := wbet_self h 3
    have c0 : ((0 : Nat) : Int) = 0 := rfl
    have c1 : ((1 : Nat) : Int) = 1 := rfl
    have c2 : ((2 : Nat) : Int) = 2 := rfl
    have c3 : ((3 : Nat) : Int) = 3 := rfl
    have c4 : ((4 : Nat) : Int) = 4 := rfl
    simp only [sumTo, c0, c1, c2, c3, c4] at e
    rw [lap_dia, ← e, z, wbet_symm xs m 3 0, wbet_symm xs m 3 1, wbet_symm xs m 3 2]; omega
  have d4 : lapZ xs m 4 4 = wbet xs m 0 4 + wbet xs m 1 4 + wbet xs m 2 4 + wbet xs m 3 4 := by
    have e := wat_sum (n := 5) (xs := xs) (v := 4) (by decide) (by decide) h.good
    have z := wbet_self h 4
    have c0 : ((0 : Nat) : Int) = 0 := rfl
    have c1 : ((1 : Nat) : Int) = 1 := rfl
    have c2 : ((2 : Nat) : Int) = 2 := rfl
    have c3 : ((3 : Nat) : Int) = 3 := rfl
    have c4 : ((4 : Nat) : Int) = 4 := rfl
    simp only [sumTo, c0, c1, c2, c3, c4] at e
    rw [lap_dia, ← e, z, wbet_symm xs m 4 0, wbet_symm xs m 4 1, wbet_symm xs m 4 2, wbet_symm xs m 4 3]; omega
  exact ⟨d0, lap_off xs m (by decide), lap_off xs m (by decide), lap_off xs m (by decide), lap_off xs m (by decide), by rw [lap_off xs m (by decide), wbet_symm], d1, lap_off xs m (by decide), lap_off xs m (by decide), lap_off xs m (by decide), by rw [lap_off xs m (by decide), wbet_symm], by rw [lap_off xs m (by decide), wbet_symm], d2, lap_off xs m (by decide), lap_off xs m (by decide), by rw [lap_off xs m (by decide), wbet_symm], by rw [lap_off xs m (by decide), wbet_symm], by rw [lap_off xs m (by decide), wbet_symm], d3, lap_off xs m (by decide), by rw [lap_off xs m (by decide), wbet_symm], by rw [lap_off xs m (by decide), wbet_symm], by rw [lap_off xs m (by decide), wbet_symm], by rw [lap_off xs m (by decide), wbet_symm], d4⟩
theorem dn5_1 {m : Nat} {xs : List Int} (h : Drn 5 m xs) : 1 ≤ wbet xs m 0 1 := by
  obtain ⟨p, hp, h1⟩ := down_sum h (v := 1) (by decide) (by decide)
  have n0 := wbet_nn h 0 1
  have hc : p = 0 := by omega
  rcases hc with rfl
  · replace h1 : 1 ≤ wbet xs m 0 1 := h1; omega
theorem dn5_2 {m : Nat} {xs : List Int} (h : Drn 5 m xs) : 1 ≤ wbet xs m 0 2 + wbet xs m 1 2 := by
  obtain ⟨p, hp, h1⟩ := down_sum h (v := 2) (by decide) (by decide)
  have n0 := wbet_nn h 0 2
  have n1 := wbet_nn h 1 2
  have hc : p = 0 ∨ p = 1 := by omega
  rcases hc with rfl | rfl
  · replace h1 : 1 ≤ wbet xs m 0 2 := h1; omega
  · replace h1 : 1 ≤ wbet xs m 1 2 := h1; omega
theorem dn5_3 {m : Nat} {xs : List Int} (h : Drn 5 m xs) : 1 ≤ wbet xs m 0 3 + wbet xs m 1 3 + wbet xs m 2 3 := by
  obtain ⟨p, hp, h1⟩ := down_sum h (v := 3) (by decide) (by decide)
  have n0 := wbet_nn h 0 3
  have n1 := wbet_nn h 1 3
  have n2 := wbet_nn h 2 3
  have hc : p = 0 ∨ p = 1 ∨ p = 2 := by omega
  rcases hc with rfl | rfl | rfl
  · replace h1 : 1 ≤ wbet xs m 0 3 := h1; omega
  · replace h1 : 1 ≤ wbet xs m 1 3 := h1; omega
  · replace h1 : 1 ≤ wbet xs m 2 3 := h1; omega
theorem dn5_4 {m : Nat} {xs : List Int} (h : Drn 5 m xs) : 1 ≤ wbet xs m 0 4 + wbet xs m 1 4 + wbet xs m 2 4 + wbet xs m 3 4 := by
  obtain ⟨p, hp, h1⟩ := down_sum h (v := 4) (by decide) (by decide)
  have n0 := wbet_nn h 0 4
  have n1 := wbet_nn h 1 4
  have n2 := wbet_nn h 2 4
  have n3 := wbet_nn h 3 4
  have hc : p = 0 ∨ p = 1 ∨ p = 2 ∨ p = 3 := by omega
  rcases hc with rfl | rfl | rfl | rfl
  · replace h1 : 1 ≤ wbet xs m 0 4 := h1; omega
  · replace h1 : 1 ≤ wbet xs m 1 4 := h1; omega
  · replace h1 : 1 ≤ wbet xs m 2 4 := h1; omega
  · replace h1 : 1 ≤ wbet xs m 3 4 := h1; omega
theorem trT5 {m : Nat} {xs : List Int} (h : Drn 5 m xs) : treeT 5 m xs = tp5 (wbet xs m 0 1) (wbet xs m 0 2) (wbet xs m 0 3) (wbet xs m 0 4) (wbet xs m 1 2) (wbet xs m 1 3) (wbet xs m 1 4) (wbet xs m 2 3) (wbet xs m 2 4) (wbet xs m 3 4) := tree5 (lap5_of h)
theorem trP5 {m : Nat} {xs : List Int} (h : Drn 5 m xs) : 1 ≤ treeT 5 m xs := by rw [trT5 h]; exact tp5_pos (wbet_nn h 0 1) (wbet_nn h 0 2) (wbet_nn h 0 3) (wbet_nn h 0 4) (wbet_nn h 1 2) (wbet_nn h 1 3) (wbet_nn h 1 4) (wbet_nn h 2 3) (wbet_nn h 2 4) (wbet_nn h 3 4) (dn5_1 h) (dn5_2 h) (dn5_3 h) (dn5_4 h)
theorem foT5_01 {m : Nat} {xs : List Int} (h : Drn 5 m xs) : forZ 5 m xs 0 1 = fp5_01 (wbet xs m 0 1) (wbet xs m 0 2) (wbet xs m 0 3) (wbet xs m 0 4) (wbet xs m 1 2) (wbet xs m 1 3) (wbet xs m 1 4) (wbet xs m 2 3) (wbet xs m 2 4) (wbet xs m 3 4) := for5_01 (lap5_of h)
theorem foP5_01 {m : Nat} {xs : List Int} (h : Drn 5 m xs) : 1 ≤ forZ 5 m xs 0 1 := by rw [foT5_01 h]; exact fp5_01_pos (wbet_nn h 0 1) (wbet_nn h 0 2) (wbet_nn h 0 3) (wbet_nn h 0 4) (wbet_nn h 1 2) (wbet_nn h 1 3) (wbet_nn h 1 4) (wbet_nn h 2 3) (wbet_nn h 2 4) (wbet_nn h 3 4) (dn5_1 h) (dn5_2 h) (dn5_3 h) (dn5_4 h)
theorem foT5_02 {m : Nat} {xs : List Int} (h : Drn 5 m xs) : forZ 5 m xs 0 2 = fp5_02 (wbet xs m 0 1) (wbet xs m 0 2) (wbet xs m 0 3) (wbet xs m 0 4) (wbet xs m 1 2) (wbet xs m 1 3) (wbet xs m 1 4) (wbet xs m 2 3) (wbet xs m 2 4) (wbet xs m 3 4) := for5_02 (lap5_of h)
theorem foP5_02 {m : Nat} {xs : List Int} (h : Drn 5 m xs) : 1 ≤ forZ 5 m xs 0 2 := by rw [foT5_02 h]; exact fp5_02_pos (wbet_nn h 0 1) (wbet_nn h 0 2) (wbet_nn h 0 3) (wbet_nn h 0 4) (wbet_nn h 1 2) (wbet_nn h 1 3) (wbet_nn h 1 4) (wbet_nn h 2 3) (wbet_nn h 2 4) (wbet_nn h 3 4) (dn5_1 h) (dn5_2 h) (dn5_3 h) (dn5_4 h)
theorem foT5_03 {m : Nat} {xs : List Int} (h : Drn 5 m xs) : forZ 5 m xs 0 3 = fp5_03 (wbet xs m 0 1) (wbet xs m 0 2) (wbet xs m 0 3) (wbet xs m 0 4) (wbet xs m 1 2) (wbet xs m 1 3) (wbet xs m 1 4) (wbet xs m 2 3) (wbet xs m 2 4) (wbet xs m 3 4) := for5_03 (lap5_of h)
theorem foP5_03 {m : Nat} {xs : List Int} (h : Drn 5 m xs) : 1 ≤ forZ 5 m xs 0 3 := by rw [foT5_03 h]; exact fp5_03_pos (wbet_nn h 0 1) (wbet_nn h 0 2) (wbet_nn h 0 3) (wbet_nn h 0 4) (wbet_nn h 1 2) (wbet_nn h 1 3) (wbet_nn h 1 4) (wbet_nn h 2 3) (wbet_nn h 2 4) (wbet_nn h 3 4) (dn5_1 h) (dn5_2 h) (dn5_3 h) (dn5_4 h)
theorem foT5_04 {m : Nat} {xs : List Int} (h : Drn 5 m xs) : forZ 5 m xs 0 4 = fp5_04 (wbet xs m 0 1) (wbet xs m 0 2) (wbet xs m 0 3) (wbet xs m 0 4) (wbet xs m 1 2) (wbet xs m 1 3) (wbet xs m 1 4) (wbet xs m 2 3) (wbet xs m 2 4) (wbet xs m 3 4) := for5_04 (lap5_of h)
theorem foP5_04 {m : Nat} {xs : List Int} (h : Drn 5 m xs) : 1 ≤ forZ 5 m xs 0 4 := by rw [foT5_04 h]; exact fp5_04_pos (wbet_nn h 0 1) (wbet_nn h 0 2) (wbet_nn h 0 3) (wbet_nn h 0 4) (wbet_nn h 1 2) (wbet_nn h 1 3) (wbet_nn h 1 4) (wbet_nn h 2 3) (wbet_nn h 2 4) (wbet_nn h 3 4) (dn5_1 h) (dn5_2 h) (dn5_3 h) (dn5_4 h)
theorem foT5_10 {m : Nat} {xs : List Int} (h : Drn 5 m xs) : forZ 5 m xs 1 0 = fp5_01 (wbet xs m 0 1) (wbet xs m 0 2) (wbet xs m 0 3) (wbet xs m 0 4) (wbet xs m 1 2) (wbet xs m 1 3) (wbet xs m 1 4) (wbet xs m 2 3) (wbet xs m 2 4) (wbet xs m 3 4) := for5_01 (lap5_of h)
theorem foT5_12 {m : Nat} {xs : List Int} (h : Drn 5 m xs) : forZ 5 m xs 1 2 = fp5_12 (wbet xs m 0 1) (wbet xs m 0 2) (wbet xs m 0 3) (wbet xs m 0 4) (wbet xs m 1 2) (wbet xs m 1 3) (wbet xs m 1 4) (wbet xs m 2 3) (wbet xs m 2 4) (wbet xs m 3 4) := for5_12 (lap5_of h)
theorem foP5_12 {m : Nat} {xs : List Int} (h : Drn 5 m xs) : 1 ≤ forZ 5 m xs 1 2 := by rw [foT5_12 h]; exact fp5_12_pos (wbet_nn h 0 1) (wbet_nn h 0 2) (wbet_nn h 0 3) (wbet_nn h 0 4) (wbet_nn h 1 2) (wbet_nn h 1 3) (wbet_nn h 1 4) (wbet_nn h 2 3) (wbet_nn h 2 4) (wbet_nn h 3 4) (dn5_1 h) (dn5_2 h) (dn5_3 h) (dn5_4 h)
theorem foT5_13 {m : Nat} {xs : List Int} (h : Drn 5 m xs) : forZ 5 m xs 1 3 = fp5_13 (wbet xs m 0 1) (wbet xs m 0 2) (wbet xs m 0 3) (wbet xs m 0 4) (wbet xs m 1 2) (wbet xs m 1 3) (wbet xs m 1 4) (wbet xs m 2 3) (wbet xs m 2 4) (wbet xs m 3 4) := for5_13 (lap5_of h)
theorem foP5_13 {m : Nat} {xs : List Int} (h : Drn 5 m xs) : 1 ≤ forZ 5 m xs 1 3 := by rw [foT5_13 h]; exact fp5_13_pos (wbet_nn h 0 1) (wbet_nn h 0 2) (wbet_nn h 0 3) (wbet_nn h 0 4) (wbet_nn h 1 2) (wbet_nn h 1 3) (wbet_nn h 1 4) (wbet_nn h 2 3) (wbet_nn h 2 4) (wbet_nn h 3 4) (dn5_1 h) (dn5_2 h) (dn5_3 h) (dn5_4 h)
theorem foT5_14 {m : Nat} {xs : List Int} (h : Drn 5 m xs) : forZ 5 m xs 1 4 = fp5_14 (wbet xs m 0 1) (wbet xs m 0 2) (wbet xs m 0 3) (wbet xs m 0 4) (wbet xs m 1 2) (wbet xs m 1 3) (wbet xs m 1 4) (wbet xs m 2 3) (wbet xs m 2 4) (wbet xs m 3 4) := for5_14 (lap5_of h)
theorem foP5_14 {m : Nat} {xs : List Int} (h : Drn 5 m xs) : 1 ≤ forZ 5 m xs 1 4 := by rw [foT5_14 h]; exact fp5_14_pos (wbet_nn h 0 1) (wbet_nn h 0 2) (wbet_nn h 0 3) (wbet_nn h 0 4) (wbet_nn h 1 2) (wbet_nn h 1 3) (wbet_nn h 1 4) (wbet_nn h 2 3) (wbet_nn h 2 4) (wbet_nn h 3 4) (dn5_1 h) (dn5_2 h) (dn5_3 h) (dn5_4 h)
theorem foT5_20 {m : Nat} {xs : List Int} (h : Drn 5 m xs) : forZ 5 m xs 2 0 = fp5_02 (wbet xs m 0 1) (wbet xs m 0 2) (wbet xs m 0 3) (wbet xs m 0 4) (wbet xs m 1 2) (wbet xs m 1 3) (wbet xs m 1 4) (wbet xs m 2 3) (wbet xs m 2 4) (wbet xs m 3 4) := for5_02 (lap5_of h)
theorem foT5_21 {m : Nat} {xs : List Int} (h : Drn 5 m xs) : forZ 5 m xs 2 1 = fp5_12 (wbet xs m 0 1) (wbet xs m 0 2) (wbet xs m 0 3) (wbet xs m 0 4) (wbet xs m 1 2) (wbet xs m 1 3) (wbet xs m 1 4) (wbet xs m 2 3) (wbet xs m 2 4) (wbet xs m 3 4) := for5_12 (lap5_of h)
theorem foT5_23 {m : Nat} {xs : List Int} (h : Drn 5 m xs) : forZ 5 m xs 2 3 = fp5_23 (wbet xs m 0 1) (wbet xs m 0 2) (wbet xs m 0 3) (wbet xs m 0 4) (wbet xs m 1 2) (wbet xs m 1 3) (wbet xs m 1 4) (wbet xs m 2 3) (wbet xs m 2 4) (wbet xs m 3 4) := for5_23 (lap5_of h)
theorem foP5_23 {m : Nat} {xs : List Int} (h : Drn 5 m xs) : 1 ≤ forZ 5 m xs 2 3 := by rw [foT5_23 h]; exact fp5_23_pos (wbet_nn h 0 1) (wbet_nn h 0 2) (wbet_nn h 0 3) (wbet_nn h 0 4) (wbet_nn h 1 2) (wbet_nn h 1 3) (wbet_nn h 1 4) (wbet_nn h 2 3) (wbet_nn h 2 4) (wbet_nn h 3 4) (dn5_1 h) (dn5_2 h) (dn5_3 h) (dn5_4 h)
theorem foT5_24 {m : Nat} {xs : List Int} (h : Drn 5 m xs) : forZ 5 m xs 2 4 = fp5_24 (wbet xs m 0 1) (wbet xs m 0 2) (wbet xs m 0 3) (wbet xs m 0 4) (wbet xs m 1 2) (wbet xs m 1 3) (wbet xs m 1 4) (wbet xs m 2 3) (wbet xs m 2 4) (wbet xs m 3 4) := for5_24 (lap5_of h)
theorem foP5_24 {m : Nat} {xs : List Int} (h : Drn 5 m xs) : 1 ≤ forZ 5 m xs 2 4 := by rw [foT5_24 h]; exact fp5_24_pos (wbet_nn h 0 1) (wbet_nn h 0 2) (wbet_nn h 0 3) (wbet_nn h 0 4) (wbet_nn h 1 2) (wbet_nn h 1 3) (wbet_nn h 1 4) (wbet_nn h 2 3) (wbet_nn h 2 4) (wbet_nn h 3 4) (dn5_1 h) (dn5_2 h) (dn5_3 h) (dn5_4 h)
theorem foT5_30 {m : Nat} {xs : List Int} (h : Drn 5 m xs) : forZ 5 m xs 3 0 = fp5_03 (wbet xs m 0 1) (wbet xs m 0 2) (wbet xs m 0 3) (wbet xs m 0 4) (wbet xs m 1 2) (wbet xs m 1 3) (wbet xs m 1 4) (wbet xs m 2 3) (wbet xs m 2 4) (wbet xs m 3 4) := for5_03 (lap5_of h)
theorem foT5_31 {m : Nat} {xs : List Int} (h : Drn 5 m xs) : forZ 5 m xs 3 1 = fp5_13 (wbet xs m 0 1) (wbet xs m 0 2) (wbet xs m 0 3) (wbet xs m 0 4) (wbet xs m 1 2) (wbet xs m 1 3) (wbet xs m 1 4) (wbet xs m 2 3) (wbet xs m 2 4) (wbet xs m 3 4) := for5_13 (lap5_of h)
theorem foT5_32 {m : Nat} {xs : List Int} (h : Drn 5 m xs) : forZ 5 m xs 3 2 = fp5_23 (wbet xs m 0 1) (wbet xs m 0 2) (wbet xs m 0 3) (wbet xs m 0 4) (wbet xs m 1 2) (wbet xs m 1 3) (wbet xs m 1 4) (wbet xs m 2 3) (wbet xs m 2 4) (wbet xs m 3 4) := for5_23 (lap5_of h)
theorem foT5_34 {m : Nat} {xs : List Int} (h : Drn 5 m xs) : forZ 5 m xs 3 4 = fp5_34 (wbet xs m 0 1) (wbet xs m 0 2) (wbet xs m 0 3) (wbet xs m 0 4) (wbet xs m 1 2) (wbet xs m 1 3) (wbet xs m 1 4) (wbet xs m 2 3) (wbet xs m 2 4) (wbet xs m 3 4) := for5_34 (lap5_of h)
theorem foP5_34 {m : Nat} {xs : List Int} (h : Drn 5 m xs) : 1 ≤ forZ 5 m xs 3 4 := by rw [foT5_34 h]; exact fp5_34_pos (wbet_nn h 0 1) (wbet_nn h 0 2) (wbet_nn h 0 3) (wbet_nn h 0 4) (wbet_nn h 1 2) (wbet_nn h 1 3) (wbet_nn h 1 4) (wbet_nn h 2 3) (wbet_nn h 2 4) (wbet_nn h 3 4) (dn5_1 h) (dn5_2 h) (dn5_3 h) (dn5_4 h)
theorem foT5_40 {m : Nat} {xs : List Int} (h : Drn 5 m xs) : forZ 5 m xs 4 0 = fp5_04 (wbet xs m 0 1) (wbet xs m 0 2) (wbet xs m 0 3) (wbet xs m 0 4) (wbet xs m 1 2) (wbet xs m 1 3) (wbet xs m 1 4) (wbet xs m 2 3) (wbet xs m 2 4) (wbet xs m 3 4) := for5_04 (lap5_of h)
theorem foT5_41 {m : Nat} {xs : List Int} (h : Drn 5 m xs) : forZ 5 m xs 4 1 = fp5_14 (wbet xs m 0 1) (wbet xs m 0 2) (wbet xs m 0 3) (wbet xs m 0 4) (wbet xs m 1 2) (wbet xs m 1 3) (wbet xs m 1 4) (wbet xs m 2 3) (wbet xs m 2 4) (wbet xs m 3 4) := for5_14 (lap5_of h)
theorem foT5_42 {m : Nat} {xs : List Int} (h : Drn 5 m xs) : forZ 5 m xs 4 2 = fp5_24 (wbet xs m 0 1) (wbet xs m 0 2) (wbet xs m 0 3) (wbet xs m 0 4) (wbet xs m 1 2) (wbet xs m 1 3) (wbet xs m 1 4) (wbet xs m 2 3) (wbet xs m 2 4) (wbet xs m 3 4) := for5_24 (lap5_of h)
theorem foT5_43 {m : Nat} {xs : List Int} (h : Drn 5 m xs) : forZ 5 m xs 4 3 = fp5_34 (wbet xs m 0 1) (wbet xs m 0 2) (wbet xs m 0 3) (wbet xs m 0 4) (wbet xs m 1 2) (wbet xs m 1 3) (wbet xs m 1 4) (wbet xs m 2 3) (wbet xs m 2 4) (wbet xs m 3 4) := for5_34 (lap5_of h)

theorem forZ_symm (n m : Nat) (xs : List Int) (a b : Int) : forZ n m xs a b = forZ n m xs b a := by
  unfold forZ
  by_cases h : a = b
  · rw [h]
  · rw [if_neg h, if_neg (fun k => h k.symm)]
    have e : without n [a, b] = without n [b, a] := by
      unfold without
      congr 1
      funext x
      congr 2
      simp only [List.mem_cons, List.not_mem_nil, or_false, eq_iff_iff]
      omega
    unfold forT minorV
    rw [e]
theorem forZ_self (n m : Nat) (xs : List Int) (a : Int) : forZ n m xs a a = 0 := if_pos rfl
theorem tree_pos {n m : Nat} {xs : List Int} (h : Drn n m xs) : 1 ≤ treeT n m xs := by
  have h1 := h.two
  have h2 := h.five
  obtain rfl | rfl | rfl | rfl : n = 2 ∨ n = 3 ∨ n = 4 ∨ n = 5 := by omega
  · exact trP2 h
  · exact trP3 h
  · exact trP4 h
  · exact trP5 h
theorem for_pos2 {m : Nat} {xs : List Int} (h : Drn 2 m xs) {a b : Int} (ha : 0 ≤ a ∧ a < 2) (hb : 0 ≤ b ∧ b < 2) (hab : a ≠ b) : 1 ≤ forZ 2 m xs a b := by
  obtain rfl | rfl : a = 0 ∨ a = 1 := by omega
  · obtain rfl | rfl : b = 0 ∨ b = 1 := by omega
    · exact absurd rfl hab
    · exact foP2_01 h
  · obtain rfl | rfl : b = 0 ∨ b = 1 := by omega
    · rw [forZ_symm]; exact foP2_01 h
    · exact absurd rfl hab
theorem for_pos3 {m : Nat} {xs : List Int} (h : Drn 3 m xs) {a b : Int} (ha : 0 ≤ a ∧ a < 3) (hb : 0 ≤ b ∧ b < 3) (hab : a ≠ b) : 1 ≤ forZ 3 m xs a b := by
  obtain rfl | rfl | rfl : a = 0 ∨ a = 1 ∨ a = 2 := by omega
  · obtain rfl | rfl | rfl : b = 0 ∨ b = 1 ∨ b = 2 := by omega
    · exact absurd rfl hab
    · exact foP3_01 h
    · exact foP3_02 h
  · obtain rfl | rfl | rfl : b = 0 ∨ b = 1 ∨ b = 2 := by omega
    · rw [forZ_symm]; exact foP3_01 h
    · exact absurd rfl hab
    · exact foP3_12 h
  · obtain rfl | rfl | rfl : b = 0 ∨ b = 1 ∨ b = 2 := by omega
    · rw [forZ_symm]; exact foP3_02 h
    · rw [forZ_symm]; exact foP3_12 h
    · exact absurd rfl hab
theorem for_pos4 {m : Nat} {xs : List Int} (h : Drn 4 m xs) {a b : Int} (ha : 0 ≤ a ∧ a < 4) (hb : 0 ≤ b ∧ b < 4) (hab : a ≠ b) : 1 ≤ forZ 4 m xs a b := by
  obtain rfl | rfl | rfl | rfl : a = 0 ∨ a = 1 ∨ a = 2 ∨ a = 3 := by omega
  · obtain rfl | rfl | rfl | rfl : b = 0 ∨ b = 1 ∨ b = 2 ∨ b = 3 := by omega
    · exact absurd rfl hab
    · exact foP4_01 h
    · exact foP4_02 h
    · exact foP4_03 h
  · obtain rfl | rfl | rfl | rfl : b = 0 ∨ b = 1 ∨ b = 2 ∨ b = 3 := by omega
    · rw [forZ_symm]; exact foP4_01 h
    · exact absurd rfl hab
    · exact foP4_12 h
    · exact foP4_13 h
  · obtain rfl | rfl | rfl | rfl : b = 0 ∨ b = 1 ∨ b = 2 ∨ b = 3 := by omega
    · rw [forZ_symm]; exact foP4_02 h
    · rw [forZ_symm]; exact foP4_12 h
    · exact absurd rfl hab
    · exact foP4_23 h
  · obtain rfl | rfl | rfl | rfl : b = 0 ∨ b = 1 ∨ b = 2 ∨ b = 3 := by omega
    · rw [forZ_symm]; exact foP4_03 h
    · rw [forZ_symm]; exact foP4_13 h
    · rw [forZ_symm]; exact foP4_23 h
    · exact absurd rfl hab
theorem for_pos5 {m : Nat} {xs : List Int} (h : Drn 5 m xs) {a b : Int} (ha : 0 ≤ a ∧ a < 5) (hb : 0 ≤ b ∧ b < 5) (hab : a ≠ b) : 1 ≤ forZ 5 m xs a b := by
  obtain rfl | rfl | rfl | rfl | rfl : a = 0 ∨ a = 1 ∨ a = 2 ∨ a = 3 ∨ a = 4 := by omega
  · obtain rfl | rfl | rfl | rfl | rfl : b = 0 ∨ b = 1 ∨ b = 2 ∨ b = 3 ∨ b = 4 := by omega
    · exact absurd rfl hab
    · exact foP5_01 h
    · exact foP5_02 h
    · exact foP5_03 h
    · exact foP5_04 h
  · obtain rfl | rfl | rfl | rfl | rfl : b = 0 ∨ b = 1 ∨ b = 2 ∨ b = 3 ∨ b = 4 := by omega
    · rw [forZ_symm]; exact foP5_01 h
    · exact absurd rfl hab
    · exact foP5_12 h
    · exact foP5_13 h
    · exact foP5_14 h
  · obtain rfl | rfl | rfl | rfl | rfl : b = 0 ∨ b = 1 ∨ b = 2 ∨ b = 3 ∨ b = 4 := by omega
    · rw [forZ_symm]; exact foP5_02 h
    · rw [forZ_symm]; exact foP5_12 h
    · exact absurd rfl hab
    · exact foP5_23 h
    · exact foP5_24 h
  · obtain rfl | rfl | rfl | rfl | rfl : b = 0 ∨ b = 1 ∨ b = 2 ∨ b = 3 ∨ b = 4 := by omega
    · rw [forZ_symm]; exact foP5_03 h
    · rw [forZ_symm]; exact foP5_13 h
    · rw [forZ_symm]; exact foP5_23 h
    · exact absurd rfl hab
    · exact foP5_34 h
  · obtain rfl | rfl | rfl | rfl | rfl : b = 0 ∨ b = 1 ∨ b = 2 ∨ b = 3 ∨ b = 4 := by omega
    · rw [forZ_symm]; exact foP5_04 h
    · rw [forZ_symm]; exact foP5_14 h
    · rw [forZ_symm]; exact foP5_24 h
    · rw [forZ_symm]; exact foP5_34 h
    · exact absurd rfl hab
theorem for_pos {n m : Nat} {xs : List Int} (h : Drn n m xs) {a b : Int} (ha : 0 ≤ a ∧ a < n) (hb : 0 ≤ b ∧ b < n) (hab : a ≠ b) : 1 ≤ forZ n m xs a b := by
  have h1 := h.two
  have h2 := h.five
  obtain rfl | rfl | rfl | rfl : n = 2 ∨ n = 3 ∨ n = 4 ∨ n = 5 := by omega
  · exact for_pos2 h ha hb hab
  · exact for_pos3 h ha hb hab
  · exact for_pos4 h ha hb hab
  · exact for_pos5 h ha hb hab
theorem pot_nn3 {m : Nat} {xs : List Int} (h : Drn 3 m xs) {a b v : Int} (ha : 0 ≤ a ∧ a < 3) (hb : 0 ≤ b ∧ b < 3) (hv : 0 ≤ v ∧ v < 3) (hab : a ≠ b) (hav : a < v) (hvb : v ≠ b) : 0 ≤ forZ 3 m xs a b + forZ 3 m xs v b - forZ 3 m xs a v := by
  obtain rfl | rfl | rfl : a = 0 ∨ a = 1 ∨ a = 2 := by omega
  · obtain rfl | rfl | rfl : v = 0 ∨ v = 1 ∨ v = 2 := by omega
    · omega
    · obtain rfl | rfl | rfl : b = 0 ∨ b = 1 ∨ b = 2 := by omega
      · exact absurd rfl hab
      · exact absurd rfl hvb
      · rw [foT3_02 h, foT3_12 h, foT3_01 h]; have e := pp3_012_id (wbet xs m 0 1) (wbet xs m 0 2) (wbet xs m 1 2); have z := pp3_012_nn (wbet_nn h 0 1) (wbet_nn h 0 2) (wbet_nn h 1 2); omega
    · obtain rfl | rfl | rfl : b = 0 ∨ b = 1 ∨ b = 2 := by omega
      · exact absurd rfl hab
      · rw [foT3_01 h, foT3_21 h, foT3_02 h]; have e := pp3_021_id (wbet xs m 0 1) (wbet xs m 0 2) (wbet xs m 1 2); have z := pp3_021_nn (wbet_nn h 0 1) (wbet_nn h 0 2) (wbet_nn h 1 2); omega
      · exact absurd rfl hvb
  · obtain rfl | rfl | rfl : v = 0 ∨ v = 1 ∨ v = 2 := by omega
    · omega
    · omega
    · obtain rfl | rfl | rfl : b = 0 ∨ b = 1 ∨ b = 2 := by omega
      · rw [foT3_10 h, foT3_20 h, foT3_12 h]; have e := pp3_120_id (wbet xs m 0 1) (wbet xs m 0 2) (wbet xs m 1 2); have z := pp3_120_nn (wbet_nn h 0 1) (wbet_nn h 0 2) (wbet_nn h 1 2); omega
      · exact absurd rfl hab
      · exact absurd rfl hvb
  · obtain rfl | rfl | rfl : v = 0 ∨ v = 1 ∨ v = 2 := by omega
    · omega
    · omega
    · omega
theorem pot_nn4 {m : Nat} {xs : List Int} (h : Drn 4 m xs) {a b v : Int} (ha : 0 ≤ a ∧ a < 4) (hb : 0 ≤ b ∧ b < 4) (hv : 0 ≤ v ∧ v < 4) (hab : a ≠ b) (hav : a < v) (hvb : v ≠ b) : 0 ≤ forZ 4 m xs a b + forZ 4 m xs v b - forZ 4 m xs a v := by
  obtain rfl | rfl | rfl | rfl : a = 0 ∨ a = 1 ∨ a = 2 ∨ a = 3 := by omega
  · obtain rfl | rfl | rfl | rfl : v = 0 ∨ v = 1 ∨ v = 2 ∨ v = 3 := by omega
    · omega
    · obtain rfl | rfl | rfl | rfl : b = 0 ∨ b = 1 ∨ b = 2 ∨ b = 3 := by omega
      · exact absurd rfl hab
      · exact absurd rfl hvb
      · rw [foT4_02 h, foT4_12 h, foT4_01 h]; have e := pp4_012_id (wbet xs m 0 1) (wbet xs m 0 2) (wbet xs m 0 3) (wbet xs m 1 2) (wbet xs m 1 3) (wbet xs m 2 3); have z := pp4_012_nn (wbet_nn h 0 1) (wbet_nn h 0 2) (wbet_nn h 0 3) (wbet_nn h 1 2) (wbet_nn h 1 3) (wbet_nn h 2 3); omega
      · rw [foT4_03 h, foT4_13 h, foT4_01 h]; have e := pp4_013_id (wbet xs m 0 1) (wbet xs m 0 2) (wbet xs m 0 3) (wbet xs m 1 2) (wbet xs m 1 3) (wbet xs m 2 3); have z := pp4_013_nn (wbet_nn h 0 1) (wbet_nn h 0 2) (wbet_nn h 0 3) (wbet_nn h 1 2) (wbet_nn h 1 3) (wbet_nn h 2 3); omega
    · obtain rfl | rfl | rfl | rfl : b = 0 ∨ b = 1 ∨ b = 2 ∨ b = 3 := by omega
      · exact absurd rfl hab
      · rw [foT4_01 h, foT4_21 h, foT4_02 h]; have e := pp4_021_id (wbet xs m 0 1) (wbet xs m 0 2) (wbet xs m 0 3) (wbet xs m 1 2) (wbet xs m 1 3) (wbet xs m 2 3); have z := pp4_021_nn (wbet_nn h 0 1) (wbet_nn h 0 2) (wbet_nn h 0 3) (wbet_nn h 1 2) (wbet_nn h 1 3) (wbet_nn h 2 3); omega
      · exact absurd rfl hvb
      · rw [foT4_03 h, foT4_23 h, foT4_02 h]; have e := pp4_023_id (wbet xs m 0 1) (wbet xs m 0 2) (wbet xs m 0 3) (wbet xs m 1 2) (wbet xs m 1 3) (wbet xs m 2 3); have z := pp4_023_nn (wbet_nn h 0 1) (wbet_nn h 0 2) (wbet_nn h 0 3) (wbet_nn h 1 2) (wbet_nn h 1 3) (wbet_nn h 2 3); omega
    · obtain rfl | rfl | rfl | rfl : b = 0 ∨ b = 1 ∨ b = 2 ∨ b = 3 := by omega
      · exact absurd rfl hab
      · rw [foT4_01 h, foT4_31 h, foT4_03 h]; have e := pp4_031_id (wbet xs m 0 1) (wbet xs m 0 2) (wbet xs m 0 3) (wbet xs m 1 2) (wbet xs m 1 3) (wbet xs m 2 3); have z := pp4_031_nn (wbet_nn h 0 1) (wbet_nn h 0 2) (wbet_nn h 0 3) (wbet_nn h 1 2) (wbet_nn h 1 3) (wbet_nn h 2 3); omega
      · rw [foT4_02 h, foT4_32 h, foT4_03 h]; have e := pp4_032_id (wbet xs m 0 1) (wbet xs m 0 2) (wbet xs m 0 3) (wbet xs m 1 2) (wbet xs m 1 3) (wbet xs m 2 3); have z := pp4_032_nn (wbet_nn h 0 1) (wbet_nn h 0 2) (wbet_nn h 0 3) (wbet_nn h 1 2) (wbet_nn h 1 3) (wbet_nn h 2 3); omega
      · exact absurd rfl hvb
  · obtain rfl | rfl | rfl | rfl : v = 0 ∨ v = 1 ∨ v = 2 ∨ v = 3 := by omega
    · omega
    · omega
    · obtain rfl | rfl | rfl | rfl : b = 0 ∨ b = 1 ∨ b = 2 ∨ b = 3 := by omega
      · rw [foT4_10 h, foT4_20 h, foT4_12 h]; have e := pp4_120_id (wbet xs m 0 1) (wbet xs m 0 2) (wbet xs m 0 3) (wbet xs m 1 2) (wbet xs m 1 3) (wbet xs m 2 3); have z := pp4_120_nn (wbet_nn h 0 1) (wbet_nn h 0 2) (wbet_nn h 0 3) (wbet_nn h 1 2) (wbet_nn h 1 3) (wbet_nn h 2 3); omega
      · exact absurd rfl hab
      · exact absurd rfl hvb
      · rw [foT4_13 h, foT4_23 h, foT4_12 h]; have e := pp4_123_id (wbet xs m 0 1) (wbet xs m 0 2) (wbet xs m 0 3) (wbet xs m 1 2) (wbet xs m 1 3) (wbet xs m 2 3); have z := pp4_123_nn (wbet_nn h 0 1) (wbet_nn h 0 2) (wbet_nn h 0 3) (wbet_nn h 1 2) (wbet_nn h 1 3) (wbet_nn h 2 3); omega
    · obtain rfl | rfl | rfl | rfl : b = 0 ∨ b = 1 ∨ b = 2 ∨ b = 3 := by omega
      · rw [foT4_10 h, foT4_30 h, foT4_13 h]; have e := pp4_130_id (wbet xs m 0 1) (wbet xs m 0 2) (wbet xs m 0 3) (wbet xs m 1 2) (wbet xs m 1 3) (wbet xs m 2 3); have z := pp4_130_nn (wbet_nn h 0 1) (wbet_nn h 0 2) (wbet_nn h 0 3) (wbet_nn h 1 2) (wbet_nn h 1 3) (wbet_nn h 2 3); omega
      · exact absurd rfl hab
      · rw [foT4_12 h, foT4_32 h, foT4_13 h]; have e := pp4_132_id (wbet xs m 0 1) (wbet xs m 0 2) (wbet xs m 0 3) (wbet xs m 1 2) (wbet xs m 1 3) (wbet xs m 2 3); have z := pp4_132_nn (wbet_nn h 0 1) (wbet_nn h 0 2) (wbet_nn h 0 3) (wbet_nn h 1 2) (wbet_nn h 1 3) (wbet_nn h 2 3); omega
      · exact absurd rfl hvb
  · obtain rfl | rfl | rfl | rfl : v = 0 ∨ v = 1 ∨ v = 2 ∨ v = 3 := by omega
    · omega
    · omega
    · omega
    · obtain rfl | rfl | rfl | rfl : b = 0 ∨ b = 1 ∨ b = 2 ∨ b = 3 := by omega
      · rw [foT4_20 h, foT4_30 h, foT4_23 h]; have e := pp4_230_id (wbet xs m 0 1) (wbet xs m 0 2) (wbet xs m 0 3) (wbet xs m 1 2) (wbet xs m 1 3) (wbet xs m 2 3); have z := pp4_230_nn (wbet_nn h 0 1) (wbet_nn h 0 2) (wbet_nn h 0 3) (wbet_nn h 1 2) (wbet_nn h 1 3) (wbet_nn h 2 3); omega
      · rw [foT4_21 h, foT4_31 h, foT4_23 h]; have e := pp4_231_id (wbet xs m 0 1) (wbet xs m 0 2) (wbet xs m 0 3) (wbet xs m 1 2) (wbet xs m 1 3) (wbet xs m 2 3); have z := pp4_231_nn (wbet_nn h 0 1) (wbet_nn h 0 2) (wbet_nn h 0 3) (wbet_nn h 1 2) (wbet_nn h 1 3) (wbet_nn h 2 3); omega
      · exact absurd rfl hab
      · exact absurd rfl hvb
  · obtain rfl | rfl | rfl | rfl : v = 0 ∨ v = 1 ∨ v = 2 ∨ v = 3 := by omega
    · omega
    · omega
    · omega
    · omega
theorem pot_nn5 {m : Nat} {xs : List Int} (h : Drn 5 m xs) {a b v : Int} (ha : 0 ≤ a ∧ a < 5) (hb : 0 ≤ b ∧ b < 5) (hv : 0 ≤ v ∧ v < 5) (hab : a ≠ b) (hav : a < v) (hvb : v ≠ b) : 0 ≤ forZ 5 m xs a b + forZ 5 m xs v b - forZ 5 m xs a v := by
  obtain rfl | rfl | rfl | rfl | rfl : a = 0 ∨ a = 1 ∨ a = 2 ∨ a = 3 ∨ a = 4 := by omega
  · obtain rfl | rfl | rfl | rfl | rfl : v = 0 ∨ v = 1 ∨ v = 2 ∨ v = 3 ∨ v = 4 := by omega
    · omega
    · obtain rfl | rfl | rfl | rfl | rfl : b = 0 ∨ b = 1 ∨ b = 2 ∨ b = 3 ∨ b = 4 := by omega
      · exact absurd rfl hab
      · exact absurd rfl hvb
      · rw [foT5_02 h, foT5_12 h, foT5_01 h]; have e := pp5_012_id (wbet xs m 0 1) (wbet xs m 0 2) (wbet xs m 0 3) (wbet xs m 0 4) (wbet xs m 1 2) (wbet xs m 1 3) (wbet xs m 1 4) (wbet xs m 2 3) (wbet xs m 2 4) (wbet xs m 3 4); have z := pp5_012_nn (wbet_nn h 0 1) (wbet_nn h 0 2) (wbet_nn h 0 3) (wbet_nn h 0 4) (wbet_nn h 1 2) (wbet_nn h 1 3) (wbet_nn h 1 4) (wbet_nn h 2 3) (wbet_nn h 2 4) (wbet_nn h 3 4); omega
      · rw [foT5_03 h, foT5_13 h, foT5_01 h]; have e := pp5_013_id (wbet xs m 0 1) (wbet xs m 0 2) (wbet xs m 0 3) (wbet xs m 0 4) (wbet xs m 1 2) (wbet xs m 1 3) (wbet xs m 1 4) (wbet xs m 2 3) (wbet xs m 2 4) (wbet xs m 3 4); have z := pp5_013_nn (wbet_nn h 0 1) (wbet_nn h 0 2) (wbet_nn h 0 3) (wbet_nn h 0 4) (wbet_nn h 1 2) (wbet_nn h 1 3) (wbet_nn h 1 4) (wbet_nn h 2 3) (wbet_nn h 2 4) (wbet_nn h 3 4); omega
      · rw [foT5_04 h, foT5_14 h, foT5_01 h]; have e := pp5_014_id (wbet xs m 0 1) (wbet xs m 0 2) (wbet xs m 0 3) (wbet xs m 0 4) (wbet xs m 1 2) (wbet xs m 1 3) (wbet xs m 1 4) (wbet xs m 2 3) (wbet xs m 2 4) (wbet xs m 3 4); have z := pp5_014_nn (wbet_nn h 0 1) (wbet_nn h 0 2) (wbet_nn h 0 3) (wbet_nn h 0 4) (wbet_nn h 1 2) (wbet_nn h 1 3) (wbet_nn h 1 4) (wbet_nn h 2 3) (wbet_nn h 2 4) (wbet_nn h 3 4); omega
    · obtain rfl | rfl | rfl | rfl | rfl : b = 0 ∨ b = 1 ∨ b = 2 ∨ b = 3 ∨ b = 4 := by omega
      · exact absurd rfl hab
      · rw [foT5_01 h, foT5_21 h, foT5_02 h]; have e := pp5_021_id (wbet xs m 0 1) (wbet xs m 0 2) (wbet xs m 0 3) (wbet xs m 0 4) (wbet xs m 1 2) (wbet xs m 1 3) (wbet xs m 1 4) (wbet xs m 2 3) (wbet xs m 2 4) (wbet xs m 3 4); have z := pp5_021_nn (wbet_nn h 0 1) (wbet_nn h 0 2) (wbet_nn h 0 3) (wbet_nn h 0 4) (wbet_nn h 1 2) (wbet_nn h 1 3) (wbet_nn h 1 4) (wbet_nn h 2 3) (wbet_nn h 2 4) (wbet_nn h 3 4); omega
      · exact absurd rfl hvb
      · rw [foT5_03 h, foT5_23 h, foT5_02 h]; have e := pp5_023_id (wbet xs m 0 1) (wbet xs m 0 2) (wbet xs m 0 3) (wbet xs m 0 4) (wbet xs m 1 2) (wbet xs m 1 3) (wbet xs m 1 4) (wbet xs m 2 3) (wbet xs m 2 4) (wbet xs m 3 4); have z := pp5_023_nn (wbet_nn h 0 1) (wbet_nn h 0 2) (wbet_nn h 0 3) (wbet_nn h 0 4) (wbet_nn h 1 2) (wbet_nn h 1 3) (wbet_nn h 1 4) (wbet_nn h 2 3) (wbet_nn h 2 4) (wbet_nn h 3 4); omega
      · rw [foT5_04 h, foT5_24 h, foT5_02 h]; have e := pp5_024_id (wbet xs m 0 1) (wbet xs m 0 2) (wbet xs m 0 3) (wbet xs m 0 4) (wbet xs m 1 2) (wbet xs m 1 3) (wbet xs m 1 4) (wbet xs m 2 3) (wbet xs m 2 4) (wbet xs m 3 4); have z := pp5_024_nn (wbet_nn h 0 1) (wbet_nn h 0 2) (wbet_nn h 0 3) (wbet_nn h 0 4) (wbet_nn h 1 2) (wbet_nn h 1 3) (wbet_nn h 1 4) (wbet_nn h 2 3) (wbet_nn h 2 4) (wbet_nn h 3 4); omega
    · obtain rfl | rfl | rfl | rfl | rfl : b = 0 ∨ b = 1 ∨ b = 2 ∨ b = 3 ∨ b = 4 := by omega
      · exact absurd rfl hab
      · rw [foT5_01 h, foT5_31 h, foT5_03 h]; have e := pp5_031_id (wbet xs m 0 1) (wbet xs m 0 2) (wbet xs m 0 3) (wbet xs m 0 4) (wbet xs m 1 2) (wbet xs m 1 3) (wbet xs m 1 4) (wbet xs m 2 3) (wbet xs m 2 4) (wbet xs m 3 4); have z := pp5_031_nn (wbet_nn h 0 1) (wbet_nn h 0 2) (wbet_nn h 0 3) (wbet_nn h 0 4) (wbet_nn h 1 2) (wbet_nn h 1 3) (wbet_nn h 1 4) (wbet_nn h 2 3) (wbet_nn h 2 4) (wbet_nn h 3 4); omega
      · rw [foT5_02 h, foT5_32 h, foT5_03 h]; have e := pp5_032_id (wbet xs m 0 1) (wbet xs m 0 2) (wbet xs m 0 3) (wbet xs m 0 4) (wbet xs m 1 2) (wbet xs m 1 3) (wbet xs m 1 4) (wbet xs m 2 3) (wbet xs m 2 4) (wbet xs m 3 4); have z := pp5_032_nn (wbet_nn h 0 1) (wbet_nn h 0 2) (wbet_nn h 0 3) (wbet_nn h 0 4) (wbet_nn h 1 2) (wbet_nn h 1 3) (wbet_nn h 1 4) (wbet_nn h 2 3) (wbet_nn h 2 4) (wbet_nn h 3 4); omega
      · exact absurd rfl hvb
      · rw [foT5_04 h, foT5_34 h, foT5_03 h]; have e := pp5_034_id (wbet xs m 0 1) (wbet xs m 0 2) (wbet xs m 0 3) (wbet xs m 0 4) (wbet xs m 1 2) (wbet xs m 1 3) (wbet xs m 1 4) (wbet xs m 2 3) (wbet xs m 2 4) (wbet xs m 3 4); have z := pp5_034_nn (wbet_nn h 0 1) (wbet_nn h 0 2) (wbet_nn h 0 3) (wbet_nn h 0 4) (wbet_nn h 1 2) (wbet_nn h 1 3) (wbet_nn h 1 4) (wbet_nn h 2 3) (wbet_nn h 2 4) (wbet_nn h 3 4); omega
    · obtain rfl | rfl | rfl | rfl | rfl : b = 0 ∨ b = 1 ∨ b = 2 ∨ b = 3 ∨ b = 4 := by omega
      · exact absurd rfl hab
      · rw [foT5_01 h, foT5_41 h, foT5_04 h]; have e := pp5_041_id (wbet xs m 0 1) (wbet xs m 0 2) (wbet xs m 0 3) (wbet xs m 0 4) (wbet xs m 1 2) (wbet xs m 1 3) (wbet xs m 1 4) (wbet xs m 2 3) (wbet xs m 2 4) (wbet xs m 3 4); have z := pp5_041_nn (wbet_nn h 0 1) (wbet_nn h 0 2) (wbet_nn h 0 3) (wbet_nn h 0 4) (wbet_nn h 1 2) (wbet_nn h 1 3) (wbet_nn h 1 4) (wbet_nn h 2 3) (wbet_nn h 2 4) (wbet_nn h 3 4); omega
      · rw [foT5_02 h, foT5_42 h, foT5_04 h]; have e := pp5_042_id (wbet xs m 0 1) (wbet xs m 0 2) (wbet xs m 0 3) (wbet xs m 0 4) (wbet xs m 1 2) (wbet xs m 1 3) (wbet xs m 1 4) (wbet xs m 2 3) (wbet xs m 2 4) (wbet xs m 3 4); have z := pp5_042_nn (wbet_nn h 0 1) (wbet_nn h 0 2) (wbet_nn h 0 3) (wbet_nn h 0 4) (wbet_nn h 1 2) (wbet_nn h 1 3) (wbet_nn h 1 4) (wbet_nn h 2 3) (wbet_nn h 2 4) (wbet_nn h 3 4); omega
      · rw [foT5_03 h, foT5_43 h, foT5_04 h]; have e := pp5_043_id (wbet xs m 0 1) (wbet xs m 0 2) (wbet xs m 0 3) (wbet xs m 0 4) (wbet xs m 1 2) (wbet xs m 1 3) (wbet xs m 1 4) (wbet xs m 2 3) (wbet xs m 2 4) (wbet xs m 3 4); have z := pp5_043_nn (wbet_nn h 0 1) (wbet_nn h 0 2) (wbet_nn h 0 3) (wbet_nn h 0 4) (wbet_nn h 1 2) (wbet_nn h 1 3) (wbet_nn h 1 4) (wbet_nn h 2 3) (wbet_nn h 2 4) (wbet_nn h 3 4); omega
      · exact absurd rfl hvb
  · obtain rfl | rfl | rfl | rfl | rfl : v = 0 ∨ v = 1 ∨ v = 2 ∨ v = 3 ∨ v = 4 := by omega
    · omega
    · omega
    · obtain rfl | rfl | rfl | rfl | rfl : b = 0 ∨ b = 1 ∨ b = 2 ∨ b = 3 ∨ b = 4 := by omega
      · rw [foT5_10 h, foT5_20 h, foT5_12 h]; have e := pp5_120_id (wbet xs m 0 1) (wbet xs m 0 2) (wbet xs m 0 3) (wbet xs m 0 4) (wbet xs m 1 2) (wbet xs m 1 3) (wbet xs m 1 4) (wbet xs m 2 3) (wbet xs m 2 4) (wbet xs m 3 4); have z := pp5_120_nn (wbet_nn h 0 1) (wbet_nn h 0 2) (wbet_nn h 0 3) (wbet_nn h 0 4) (wbet_nn h 1 2) (wbet_nn h 1 3) (wbet_nn h 1 4) (wbet_nn h 2 3) (wbet_nn h 2 4) (wbet_nn h 3 4); omega
      · exact absurd rfl hab
      · exact absurd rfl hvb
      · rw [foT5_13 h, foT5_23 h, foT5_12 h]; have e := pp5_123_id (wbet xs m 0 1) (wbet xs m 0 2) (wbet xs m 0 3) (wbet xs m 0 4) (wbet xs m 1 2) (wbet xs m 1 3) (wbet xs m 1 4) (wbet xs m 2 3) (wbet xs m 2 4) (wbet xs m 3 4); have z := pp5_123_nn (wbet_nn h 0 1) (wbet_nn h 0 2) (wbet_nn h 0 3) (wbet_nn h 0 4) (wbet_nn h 1 2) (wbet_nn h 1 3) (wbet_nn h 1 4) (wbet_nn h 2 3) (wbet_nn h 2 4) (wbet_nn h 3 4); omega
      · rw [foT5_14 h, foT5_24 h, foT5_12 h]; have e := pp5_124_id (wbet xs m 0 1) (wbet xs m 0 2) (wbet xs m 0 3) (wbet xs m 0 4) (wbet xs m 1 2) (wbet xs m 1 3) (wbet xs m 1 4) (wbet xs m 2 3) (wbet xs m 2 4) (wbet xs m 3 4); have z := pp5_124_nn (wbet_nn h 0 1) (wbet_nn h 0 2) (wbet_nn h 0 3) (wbet_nn h 0 4) (wbet_nn h 1 2) (wbet_nn h 1 3) (wbet_nn h 1 4) (wbet_nn h 2 3) (wbet_nn h 2 4) (wbet_nn h 3 4); omega
    · obtain rfl | rfl | rfl | rfl | rfl : b = 0 ∨ b = 1 ∨ b = 2 ∨ b = 3 ∨ b = 4 := by omega
      · rw [foT5_10 h, foT5_30 h, foT5_13 h]; have e := pp5_130_id (wbet xs m 0 1) (wbet xs m 0 2) (wbet xs m 0 3) (wbet xs m 0 4) (wbet xs m 1 2) (wbet xs m 1 3) (wbet xs m 1 4) (wbet xs m 2 3) (wbet xs m 2 4) (wbet xs m 3 4); have z := pp5_130_nn (wbet_nn h 0 1) (wbet_nn h 0 2) (wbet_nn h 0 3) (wbet_nn h 0 4) (wbet_nn h 1 2) (wbet_nn h 1 3) (wbet_nn h 1 4) (wbet_nn h 2 3) (wbet_nn h 2 4) (wbet_nn h 3 4); omega
      · exact absurd rfl hab
      · rw [foT5_12 h, foT5_32 h, foT5_13 h]; have e := pp5_132_id (wbet xs m 0 1) (wbet xs m 0 2) (wbet xs m 0 3) (wbet xs m 0 4) (wbet xs m 1 2) (wbet xs m 1 3) (wbet xs m 1 4) (wbet xs m 2 3) (wbet xs m 2 4) (wbet xs m 3 4); have z := pp5_132_nn (wbet_nn h 0 1) (wbet_nn h 0 2) (wbet_nn h 0 3) (wbet_nn h 0 4) (wbet_nn h 1 2) (wbet_nn h 1 3) (wbet_nn h 1 4) (wbet_nn h 2 3) (wbet_nn h 2 4) (wbet_nn h 3 4); omega
      · exact absurd rfl hvb
      · rw [foT5_14 h, foT5_34 h, foT5_13 h]; have e := pp5_134_id (wbet xs m 0 1) (wbet xs m 0 2) (wbet xs m 0 3) (wbet xs m 0 4) (wbet xs m 1 2) (wbet xs m 1 3) (wbet xs m 1 4) (wbet xs m 2 3) (wbet xs m 2 4) (wbet xs m 3 4); have z := pp5_134_nn (wbet_nn h 0 1) (wbet_nn h 0 2) (wbet_nn h 0 3) (wbet_nn h 0 4) (wbet_nn h 1 2) (wbet_nn h 1 3) (wbet_nn h 1 4) (wbet_nn h 2 3) (wbet_nn h 2 4) (wbet_nn h 3 4); omega
    · obtain rfl | rfl | rfl | rfl | rfl : b = 0 ∨ b = 1 ∨ b = 2 ∨ b = 3 ∨ b = 4 := by omega
      · rw [foT5_10 h, foT5_40 h, foT5_14 h]; have e := pp5_140_id (wbet xs m 0 1) (wbet xs m 0 2) (wbet xs m 0 3) (wbet xs m 0 4) (wbet xs m 1 2) (wbet xs m 1 3) (wbet xs m 1 4) (wbet xs m 2 3) (wbet xs m 2 4) (wbet xs m 3 4); have z := pp5_140_nn (wbet_nn h 0 1) (wbet_nn h 0 2) (wbet_nn h 0 3) (wbet_nn h 0 4) (wbet_nn h 1 2) (wbet_nn h 1 3) (wbet_nn h 1 4) (wbet_nn h 2 3) (wbet_nn h 2 4) (wbet_nn h 3 4); omega
      · exact absurd rfl hab
      · rw [foT5_12 h, foT5_42 h, foT5_14 h]; have e := pp5_142_id (wbet xs m 0 1) (wbet xs m 0 2) (wbet xs m 0 3) (wbet xs m 0 4) (wbet xs m 1 2) (wbet xs m 1 3) (wbet xs m 1 4) (wbet xs m 2 3) (wbet xs m 2 4) (wbet xs m 3 4); have z := pp5_142_nn (wbet_nn h 0 1) (wbet_nn h 0 2) (wbet_nn h 0 3) (wbet_nn h 0 4) (wbet_nn h 1 2) (wbet_nn h 1 3) (wbet_nn h 1 4) (wbet_nn h 2 3) (wbet_nn h 2 4) (wbet_nn h 3 4); omega
      · rw [foT5_13 h, foT5_43 h, foT5_14 h]; have e := pp5_143_id (wbet xs m 0 1) (wbet xs m 0 2) (wbet xs m 0 3) (wbet xs m 0 4) (wbet xs m 1 2) (wbet xs m 1 3) (wbet xs m 1 4) (wbet xs m 2 3) (wbet xs m 2 4) (wbet xs m 3 4); have z := pp5_143_nn (wbet_nn h 0 1) (wbet_nn h 0 2) (wbet_nn h 0 3) (wbet_nn h 0 4) (wbet_nn h 1 2) (wbet_nn h 1 3) (wbet_nn h 1 4) (wbet_nn h 2 3) (wbet_nn h 2 4) (wbet_nn h 3 4); omega
      · exact absurd rfl hvb
  · obtain rfl | rfl | rfl | rfl | rfl : v = 0 ∨ v = 1 ∨ v = 2 ∨ v = 3 ∨ v = 4 := by omega
    · omega
    · omega
    · omega
    · obtain rfl | rfl | rfl | rfl | rfl : b = 0 ∨ b = 1 ∨ b = 2 ∨ b = 3 ∨ b = 4 := by omega
      · rw [foT5_20 h, foT5_30 h, foT5_23 h]; have e := pp5_230_id (wbet xs m 0 1) (wbet xs m 0 2) (wbet xs m 0 3) (wbet xs m 0 4) (wbet xs m 1 2) (wbet xs m 1 3) (wbet xs m 1 4) (wbet xs m 2 3) (wbet xs m 2 4) (wbet xs m 3 4); have z := pp5_230_nn (wbet_nn h 0 1) (wbet_nn h 0 2) (wbet_nn h 0 3) (wbet_nn h 0 4) (wbet_nn h 1 2) (wbet_nn h 1 3) (wbet_nn h 1 4) (wbet_nn h 2 3) (wbet_nn h 2 4) (wbet_nn h 3 4); omega
      · rw [foT5_21 h, foT5_31 h, foT5_23 h]; have e := pp5_231_id (wbet xs m 0 1) (wbet xs m 0 2) (wbet xs m 0 3) (wbet xs m 0 4) (wbet xs m 1 2) (wbet xs m 1 3) (wbet xs m 1 4) (wbet xs m 2 3) (wbet xs m 2 4) (wbet xs m 3 4); have z := pp5_231_nn (wbet_nn h 0 1) (wbet_nn h 0 2) (wbet_nn h 0 3) (wbet_nn h 0 4) (wbet_nn h 1 2) (wbet_nn h 1 3) (wbet_nn h 1 4) (wbet_nn h 2 3) (wbet_nn h 2 4) (wbet_nn h 3 4); omega
      · exact absurd rfl hab
      · exact absurd rfl hvb
      · rw [foT5_24 h, foT5_34 h, foT5_23 h]; have e := pp5_234_id (wbet xs m 0 1) (wbet xs m 0 2) (wbet xs m 0 3) (wbet xs m 0 4) (wbet xs m 1 2) (wbet xs m 1 3) (wbet xs m 1 4) (wbet xs m 2 3) (wbet xs m 2 4) (wbet xs m 3 4); have z := pp5_234_nn (wbet_nn h 0 1) (wbet_nn h 0 2) (wbet_nn h 0 3) (wbet_nn h 0 4) (wbet_nn h 1 2) (wbet_nn h 1 3) (wbet_nn h 1 4) (wbet_nn h 2 3) (wbet_nn h 2 4) (wbet_nn h 3 4); omega
    · obtain rfl | rfl | rfl | rfl | rfl : b = 0 ∨ b = 1 ∨ b = 2 ∨ b = 3 ∨ b = 4 := by omega
      · rw [foT5_20 h, foT5_40 h, foT5_24 h]; have e := pp5_240_id (wbet xs m 0 1) (wbet xs m 0 2) (wbet xs m 0 3) (wbet xs m 0 4) (wbet xs m 1 2) (wbet xs m 1 3) (wbet xs m 1 4) (wbet xs m 2 3) (wbet xs m 2 4) (wbet xs m 3 4); have z := pp5_240_nn (wbet_nn h 0 1) (wbet_nn h 0 2) (wbet_nn h 0 3) (wbet_nn h 0 4) (wbet_nn h 1 2) (wbet_nn h 1 3) (wbet_nn h 1 4) (wbet_nn h 2 3) (wbet_nn h 2 4) (wbet_nn h 3 4); omega
      · rw [foT5_21 h, foT5_41 h, foT5_24 h]; have e := pp5_241_id (wbet xs m 0 1) (wbet xs m 0 2) (wbet xs m 0 3) (wbet xs m 0 4) (wbet xs m 1 2) (wbet xs m 1 3) (wbet xs m 1 4) (wbet xs m 2 3) (wbet xs m 2 4) (wbet xs m 3 4); have z := pp5_241_nn (wbet_nn h 0 1) (wbet_nn h 0 2) (wbet_nn h 0 3) (wbet_nn h 0 4) (wbet_nn h 1 2) (wbet_nn h 1 3) (wbet_nn h 1 4) (wbet_nn h 2 3) (wbet_nn h 2 4) (wbet_nn h 3 4); omega
      · exact absurd rfl hab
      · rw [foT5_23 h, foT5_43 h, foT5_24 h]; have e := pp5_243_id (wbet xs m 0 1) (wbet xs m 0 2) (wbet xs m 0 3) (wbet xs m 0 4) (wbet xs m 1 2) (wbet xs m 1 3) (wbet xs m 1 4) (wbet xs m 2 3) (wbet xs m 2 4) (wbet xs m 3 4); have z := pp5_243_nn (wbet_nn h 0 1) (wbet_nn h 0 2) (wbet_nn h 0 3) (wbet_nn h 0 4) (wbet_nn h 1 2) (wbet_nn h 1 3) (wbet_nn h 1 4) (wbet_nn h 2 3) (wbet_nn h 2 4) (wbet_nn h 3 4); omega
      · exact absurd rfl hvb
  · obtain rfl | rfl | rfl | rfl | rfl : v = 0 ∨ v = 1 ∨ v = 2 ∨ v = 3 ∨ v = 4 := by omega
    · omega
    · omega
    · omega
    · omega
    · obtain rfl | rfl | rfl | rfl | rfl : b = 0 ∨ b = 1 ∨ b = 2 ∨ b = 3 ∨ b = 4 := by omega
      · rw [foT5_30 h, foT5_40 h, foT5_34 h]; have e := pp5_340_id (wbet xs m 0 1) (wbet xs m 0 2) (wbet xs m 0 3) (wbet xs m 0 4) (wbet xs m 1 2) (wbet xs m 1 3) (wbet xs m 1 4) (wbet xs m 2 3) (wbet xs m 2 4) (wbet xs m 3 4); have z := pp5_340_nn (wbet_nn h 0 1) (wbet_nn h 0 2) (wbet_nn h 0 3) (wbet_nn h 0 4) (wbet_nn h 1 2) (wbet_nn h 1 3) (wbet_nn h 1 4) (wbet_nn h 2 3) (wbet_nn h 2 4) (wbet_nn h 3 4); omega
      · rw [foT5_31 h, foT5_41 h, foT5_34 h]; have e := pp5_341_id (wbet xs m 0 1) (wbet xs m 0 2) (wbet xs m 0 3) (wbet xs m 0 4) (wbet xs m 1 2) (wbet xs m 1 3) (wbet xs m 1 4) (wbet xs m 2 3) (wbet xs m 2 4) (wbet xs m 3 4); have z := pp5_341_nn (wbet_nn h 0 1) (wbet_nn h 0 2) (wbet_nn h 0 3) (wbet_nn h 0 4) (wbet_nn h 1 2) (wbet_nn h 1 3) (wbet_nn h 1 4) (wbet_nn h 2 3) (wbet_nn h 2 4) (wbet_nn h 3 4); omega
      · rw [foT5_32 h, foT5_42 h, foT5_34 h]; have e := pp5_342_id (wbet xs m 0 1) (wbet xs m 0 2) (wbet xs m 0 3) (wbet xs m 0 4) (wbet xs m 1 2) (wbet xs m 1 3) (wbet xs m 1 4) (wbet xs m 2 3) (wbet xs m 2 4) (wbet xs m 3 4); have z := pp5_342_nn (wbet_nn h 0 1) (wbet_nn h 0 2) (wbet_nn h 0 3) (wbet_nn h 0 4) (wbet_nn h 1 2) (wbet_nn h 1 3) (wbet_nn h 1 4) (wbet_nn h 2 3) (wbet_nn h 2 4) (wbet_nn h 3 4); omega
      · exact absurd rfl hab
      · exact absurd rfl hvb
  · obtain rfl | rfl | rfl | rfl | rfl : v = 0 ∨ v = 1 ∨ v = 2 ∨ v = 3 ∨ v = 4 := by omega
    · omega
    · omega
    · omega
    · omega
    · omega
theorem pot_nn {n m : Nat} {xs : List Int} (h : Drn n m xs) {a b v : Int} (ha : 0 ≤ a ∧ a < n) (hb : 0 ≤ b ∧ b < n) (hv : 0 ≤ v ∧ v < n) : 0 ≤ forZ n m xs a b + forZ n m xs v b - forZ n m xs a v := by
  have h1 := h.two
  have h2 := h.five
  by_cases e1 : a = b
  · subst e1
    rw [forZ_self, forZ_symm n m xs v a]; omega
  have p1 := for_pos h ha hb e1
  by_cases e2 : v = b
  · subst e2; rw [forZ_self]; omega
  have p2 := for_pos h hv hb e2
  by_cases e3 : a = v
  · subst e3; rw [forZ_self]; omega
  obtain rfl | rfl | rfl | rfl : n = 2 ∨ n = 3 ∨ n = 4 ∨ n = 5 := by omega
  · omega
  · by_cases e4 : a < v
    · exact pot_nn3 h ha hb hv e1 e4 e2
    · have := pot_nn3 h hv hb ha e2 (by omega) e1
      rw [forZ_symm _ _ _ v a] at this; omega
  · by_cases e4 : a < v
    · exact pot_nn4 h ha hb hv e1 e4 e2
    · have := pot_nn4 h hv hb ha e2 (by omega) e1
      rw [forZ_symm _ _ _ v a] at this; omega
  · by_cases e4 : a < v
    · exact pot_nn5 h ha hb hv e1 e4 e2
    · have := pot_nn5 h hv hb ha e2 (by omega) e1
      rw [forZ_symm _ _ _ v a] at this; omega
theorem kir2 {m : Nat} {xs : List Int} (h : Drn 2 m xs) {a y : Int} (ha : 0 ≤ a ∧ a < 2) (hy : 0 ≤ y ∧ y < 2) (hay : a ≠ y) : sumTo (fun (w : Nat) => wbet xs m a w * (forZ 2 m xs a y - forZ 2 m xs w y + forZ 2 m xs w a)) 2 = 2 * treeT 2 m xs := by
  rw [trT2 h]
  obtain rfl | rfl : a = 0 ∨ a = 1 := by omega
  · obtain rfl | rfl : y = 0 ∨ y = 1 := by omega
    · exact absurd rfl hay
    · have e := kir2_01 (wbet xs m 0 1); have c0 : ((0 : Nat) : Int) = 0 := rfl; have c1 : ((1 : Nat) : Int) = 1 := rfl; have z := wbet_self h 0; have s := forZ_self 2 m xs 1; have s2 := forZ_self 2 m xs 0
      simp only [sumTo, c0, c1, z, s, s2, foT2_10 h, foT2_01 h]
      rw [← e]
      simp only [Int.zero_add, Int.zero_mul, Int.add_zero, Int.sub_zero]
  · obtain rfl | rfl : y = 0 ∨ y = 1 := by omega
    · have e := kir2_10 (wbet xs m 0 1); have c0 : ((0 : Nat) : Int) = 0 := rfl; have c1 : ((1 : Nat) : Int) = 1 := rfl; have z := wbet_self h 1; have s := forZ_self 2 m xs 0; have s2 := forZ_self 2 m xs 1
      simp only [sumTo, c0, c1, z, s, s2, foT2_01 h, foT2_10 h, wbet_symm xs m 1 0]
      rw [← e]
      simp only [Int.zero_add, Int.zero_mul, Int.add_zero, Int.sub_zero]
    · exact absurd rfl hay
theorem kir3 {m : Nat} {xs : List Int} (h : Drn 3 m xs) {a y : Int} (ha : 0 ≤ a ∧ a < 3) (hy : 0 ≤ y ∧ y < 3) (hay : a ≠ y) : sumTo (fun (w : Nat) => wbet xs m a w * (forZ 3 m xs a y - forZ 3 m xs w y + forZ 3 m xs w a)) 3 = 2 * treeT 3 m xs := by
  rw [trT3 h]
  obtain rfl | rfl | rfl : a = 0 ∨ a = 1 ∨ a = 2 := by omega
  · obtain rfl | rfl | rfl : y = 0 ∨ y = 1 ∨ y = 2 := by omega
    · exact absurd rfl hay
    · have e := kir3_01 (wbet xs m 0 1) (wbet xs m 0 2) (wbet xs m 1 2); have c0 : ((0 : Nat) : Int) = 0 := rfl; have c1 : ((1 : Nat) : Int) = 1 := rfl; have c2 : ((2 : Nat) : Int) = 2 := rfl; have z := wbet_self h 0; have s := forZ_self 3 m xs 1; have s2 := forZ_self 3 m xs 0
      simp only [sumTo, c0, c1, c2, z, s, s2, foT3_10 h, foT3_21 h, foT3_20 h, foT3_01 h]
      rw [← e]
      simp only [Int.zero_add, Int.zero_mul, Int.add_zero, Int.sub_zero]
    · have e := kir3_02 (wbet xs m 0 1) (wbet xs m 0 2) (wbet xs m 1 2); have c0 : ((0 : Nat) : Int) = 0 := rfl; have c1 : ((1 : Nat) : Int) = 1 := rfl; have c2 : ((2 : Nat) : Int) = 2 := rfl; have z := wbet_self h 0; have s := forZ_self 3 m xs 2; have s2 := forZ_self 3 m xs 0
      simp only [sumTo, c0, c1, c2, z, s, s2, foT3_12 h, foT3_10 h, foT3_20 h, foT3_02 h]
      rw [← e]
      simp only [Int.zero_add, Int.zero_mul, Int.add_zero, Int.sub_zero]
  · obtain rfl | rfl | rfl : y = 0 ∨ y = 1 ∨ y = 2 := by omega
    · have e := kir3_10 (wbet xs m 0 1) (wbet xs m 0 2) (wbet xs m 1 2); have c0 : ((0 : Nat) : Int) = 0 := rfl; have c1 : ((1 : Nat) : Int) = 1 := rfl; have c2 : ((2 : Nat) : Int) = 2 := rfl; have z := wbet_self h 1; have s := forZ_self 3 m xs 0; have s2 := forZ_self 3 m xs 1
      simp only [sumTo, c0, c1, c2, z, s, s2, foT3_01 h, foT3_20 h, foT3_21 h, foT3_10 h, wbet_symm xs m 1 0]
      rw [← e]
      simp only [Int.zero_add, Int.zero_mul, Int.add_zero, Int.sub_zero]
    · exact absurd rfl hay
    · have e := kir3_12 (wbet xs m 0 1) (wbet xs m 0 2) (wbet xs m 1 2); have c0 : ((0 : Nat) : Int) = 0 := rfl; have c1 : ((1 : Nat) : Int) = 1 := rfl; have c2 : ((2 : Nat) : Int) = 2 := rfl; have z := wbet_self h 1; have s := forZ_self 3 m xs 2; have s2 := forZ_self 3 m xs 1
      simp only [sumTo, c0, c1, c2, z, s, s2, foT3_02 h, foT3_01 h, foT3_21 h, foT3_12 h, wbet_symm xs m 1 0]
      rw [← e]
      simp only [Int.zero_add, Int.zero_mul, Int.add_zero, Int.sub_zero]
  · obtain rfl | rfl | rfl : y = 0 ∨ y = 1 ∨ y = 2 := by omega
    · have e := kir3_20 (wbet xs m 0 1) (wbet xs m 0 2) (wbet xs m 1 2); have c0 : ((0 : Nat) : Int) = 0 := rfl; have c1 : ((1 : Nat) : Int) = 1 := rfl; have c2 : ((2 : Nat) : Int) = 2 := rfl; have z := wbet_self h 2; have s := forZ_self 3 m xs 0; have s2 := forZ_self 3 m xs 2
      simp only [sumTo, c0, c1, c2, z, s, s2, foT3_02 h, foT3_10 h, foT3_12 h, foT3_20 h, wbet_symm xs m 2 0, wbet_symm xs m 2 1]
      rw [← e]
      simp only [Int.zero_add, Int.zero_mul, Int.add_zero, Int.sub_zero]
    · have e := kir3_21 (wbet xs m 0 1) (wbet xs m 0 2) (wbet xs m 1 2); have c0 : ((0 : Nat) : Int) = 0 := rfl; have c1 : ((1 : Nat) : Int) = 1 := rfl; have c2 : ((2 : Nat) : Int) = 2 := rfl; have z := wbet_self h 2; have s := forZ_self 3 m xs 1; have s2 := forZ_self 3 m xs 2
      simp only [sumTo, c0, c1, c2, z, s, s2, foT3_01 h, foT3_02 h, foT3_12 h, foT3_21 h, wbet_symm xs m 2 0, wbet_symm xs m 2 1]
      rw [← e]
      simp only [Int.zero_add, Int.zero_mul, Int.add_zero, Int.sub_zero]
    · exact absurd rfl hay
theorem kir4 {m : Nat} {xs : List Int} (h : Drn 4 m xs) {a y : Int} (ha : 0 ≤ a ∧ a < 4) (hy : 0 ≤ y ∧ y < 4) (hay : a ≠ y) : sumTo (fun (w : Nat) => wbet xs m a w * (forZ 4 m xs a y - forZ 4 m xs w y + forZ 4 m xs w a)) 4 = 2 * treeT 4 m xs := by
  rw [trT4 h]
  obtain rfl | rfl | rfl | rfl : a = 0 ∨ a = 1 ∨ a = 2 ∨ a = 3 := by omega
  · obtain rfl | rfl | rfl | rfl : y = 0 ∨ y = 1 ∨ y = 2 ∨ y = 3 := by omega
    · exact absurd rfl hay
    · have e := kir4_01 (wbet xs m 0 1) (wbet xs m 0 2) (wbet xs m 0 3) (wbet xs m 1 2) (wbet xs m 1 3) (wbet xs m 2 3); have c0 : ((0 : Nat) : Int) = 0 := rfl; have c1 : ((1 : Nat) : Int) = 1 := rfl; have c2 : ((2 : Nat) : Int) = 2 := rfl; have c3 : ((3 : Nat) : Int) = 3 := rfl; have z := wbet_self h 0; have s := forZ_self 4 m xs 1; have s2 := forZ_self 4 m xs 0
      simp only [sumTo, c0, c1, c2, c3, z, s, s2, foT4_10 h, foT4_21 h, foT4_20 h, foT4_31 h, foT4_30 h, foT4_01 h]
      rw [← e]
      simp only [Int.zero_add, Int.zero_mul, Int.add_zero, Int.sub_zero]
    · have e := kir4_02 (wbet xs m 0 1) (wbet xs m 0 2) (wbet xs m 0 3) (wbet xs m 1 2) (wbet xs m 1 3) (wbet xs m 2 3); have c0 : ((0 : Nat) : Int) = 0 := rfl; have c1 : ((1 : Nat) : Int) = 1 := rfl; have c2 : ((2 : Nat) : Int) = 2 := rfl; have c3 : ((3 : Nat) : Int) = 3 := rfl; have z := wbet_self h 0; have s := forZ_self 4 m xs 2; have s2 := forZ_self 4 m xs 0
      simp only [sumTo, c0, c1, c2, c3, z, s, s2, foT4_12 h, foT4_10 h, foT4_20 h, foT4_32 h, foT4_30 h, foT4_02 h]
      rw [← e]
      simp only [Int.zero_add, Int.zero_mul, Int.add_zero, Int.sub_zero]
    · have e := kir4_03 (wbet xs m 0 1) (wbet xs m 0 2) (wbet xs m 0 3) (wbet xs m 1 2) (wbet xs m 1 3) (wbet xs m 2 3); have c0 : ((0 : Nat) : Int) = 0 := rfl; have c1 : ((1 : Nat) : Int) = 1 := rfl; have c2 : ((2 : Nat) : Int) = 2 := rfl; have c3 : ((3 : Nat) : Int) = 3 := rfl; have z := wbet_self h 0; have s := forZ_self 4 m xs 3; have s2 := forZ_self 4 m xs 0
      simp only [sumTo, c0, c1, c2, c3, z, s, s2, foT4_13 h, foT4_10 h, foT4_23 h, foT4_20 h, foT4_30 h, foT4_03 h]
      rw [← e]
      simp only [Int.zero_add, Int.zero_mul, Int.add_zero, Int.sub_zero]
  · obtain rfl | rfl | rfl | rfl : y = 0 ∨ y = 1 ∨ y = 2 ∨ y = 3 := by omega
    · have e := kir4_10 (wbet xs m 0 1) (wbet xs m 0 2) (wbet xs m 0 3) (wbet xs m 1 2) (wbet xs m 1 3) (wbet xs m 2 3); have c0 : ((0 : Nat) : Int) = 0 := rfl; have c1 : ((1 : Nat) : Int) = 1 := rfl; have c2 : ((2 : Nat) : Int) = 2 := rfl; have c3 : ((3 : Nat) : Int) = 3 := rfl; have z := wbet_self h 1; have s := forZ_self 4 m xs 0; have s2 := forZ_self 4 m xs 1
      simp only [sumTo, c0, c1, c2, c3, z, s, s2, foT4_01 h, foT4_20 h, foT4_21 h, foT4_30 h, foT4_31 h, foT4_10 h, wbet_symm xs m 1 0]
      rw [← e]
      simp only [Int.zero_add, Int.zero_mul, Int.add_zero, Int.sub_zero]
    · exact absurd rfl hay
    · have e := kir4_12 (wbet xs m 0 1) (wbet xs m 0 2) (wbet xs m 0 3) (wbet xs m 1 2) (wbet xs m 1 3) (wbet xs m 2 3); have c0 : ((0 : Nat) : Int) = 0 := rfl; have c1 : ((1 : Nat) : Int) = 1 := rfl; have c2 : ((2 : Nat) : Int) = 2 := rfl; have c3 : ((3 : Nat) : Int) = 3 := rfl; have z := wbet_self h 1; have s := forZ_self 4 m xs 2; have s2 := forZ_self 4 m xs 1
      simp only [sumTo, c0, c1, c2, c3, z, s, s2, foT4_02 h, foT4_01 h, foT4_21 h, foT4_32 h, foT4_31 h, foT4_12 h, wbet_symm xs m 1 0]
      rw [← e]
      simp only [Int.zero_add, Int.zero_mul, Int.add_zero, Int.sub_zero]
    · have e := kir4_13 (wbet xs m 0 1) (wbet xs m 0 2) (wbet xs m 0 3) (wbet xs m 1 2) (wbet xs m 1 3) (wbet xs m 2 3); have c0 : ((0 : Nat) : Int) = 0 := rfl; have c1 : ((1 : Nat) : Int) = 1 := rfl; have c2 : ((2 : Nat) : Int) = 2 := rfl; have c3 : ((3 : Nat) : Int) = 3 := rfl; have z := wbet_self h 1; have s := forZ_self 4 m xs 3; have s2 := forZ_self 4 m xs 1
      simp only [sumTo, c0, c1, c2, c3, z, s, s2, foT4_03 h, foT4_01 h, foT4_23 h, foT4_21 h, foT4_31 h, foT4_13 h, wbet_symm xs m 1 0]
      rw [← e]
      simp only [Int.zero_add, Int.zero_mul, Int.add_zero, Int.sub_zero]
  · obtain rfl | rfl | rfl | rfl : y = 0 ∨ y = 1 ∨ y = 2 ∨ y = 3 := by omega
    · have e := kir4_20 (wbet xs m 0 1) (wbet xs m 0 2) (wbet xs m 0 3) (wbet xs m 1 2) (wbet xs m 1 3) (wbet xs m 2 3); have c0 : ((0 : Nat) : Int) = 0 := rfl; have c1 : ((1 : Nat) : Int) = 1 := rfl; have c2 : ((2 : Nat) : Int) = 2 := rfl; have c3 : ((3 : Nat) : Int) = 3 := rfl; have z := wbet_self h 2; have s := forZ_self 4 m xs 0; have s2 := forZ_self 4 m xs 2
      simp only [sumTo, c0, c1, c2, c3, z, s, s2, foT4_02 h, foT4_10 h, foT4_12 h, foT4_30 h, foT4_32 h, foT4_20 h, wbet_symm xs m 2 0, wbet_symm xs m 2 1]
      rw [← e]
      simp only [Int.zero_add, Int.zero_mul, Int.add_zero, Int.sub_zero]
    · have e := kir4_21 (wbet xs m 0 1) (wbet xs m 0 2) (wbet xs m 0 3) (wbet xs m 1 2) (wbet xs m 1 3) (wbet xs m 2 3); have c0 : ((0 : Nat) : Int) = 0 := rfl; have c1 : ((1 : Nat) : Int) = 1 := rfl; have c2 : ((2 : Nat) : Int) = 2 := rfl; have c3 : ((3 : Nat) : Int) = 3 := rfl; have z := wbet_self h 2; have s := forZ_self 4 m xs 1; have s2 := forZ_self 4 m xs 2
      simp only [sumTo, c0, c1, c2, c3, z, s, s2, foT4_01 h, foT4_02 h, foT4_12 h, foT4_31 h, foT4_32 h, foT4_21 h, wbet_symm xs m 2 0, wbet_symm xs m 2 1]
      rw [← e]
      simp only [Int.zero_add, Int.zero_mul, Int.add_zero, Int.sub_zero]
    · exact absurd rfl hay
    · have e := kir4_23 (wbet xs m 0 1) (wbet xs m 0 2) (wbet xs m 0 3) (wbet xs m 1 2) (wbet xs m 1 3) (wbet xs m 2 3); have c0 : ((0 : Nat) : Int) = 0 := rfl; have c1 : ((1 : Nat) : Int) = 1 := rfl; have c2 : ((2 : Nat) : Int) = 2 := rfl; have c3 : ((3 : Nat) : Int) = 3 := rfl; have z := wbet_self h 2; have s := forZ_self 4 m xs 3; have s2 := forZ_self 4 m xs 2
      simp only [sumTo, c0, c1, c2, c3, z, s, s2, foT4_03 h, foT4_02 h, foT4_13 h, foT4_12 h, foT4_32 h, foT4_23 h, wbet_symm xs m 2 0, wbet_symm xs m 2 1]
      rw [← e]
      simp only [Int.zero_add, Int.zero_mul, Int.add_zero, Int.sub_zero]
  · obtain rfl | rfl | rfl | rfl : y = 0 ∨ y = 1 ∨ y = 2 ∨ y = 3 := by omega
    · have e := kir4_30 (wbet xs m 0 1) (wbet xs m 0 2) (wbet xs m 0 3) (wbet xs m 1 2) (wbet xs m 1 3) (wbet xs m 2 3); have c0 : ((0 : Nat) : Int) = 0 := rfl; have c1 : ((1 : Nat) : Int) = 1 := rfl; have c2 : ((2 : Nat) : Int) = 2 := rfl; have c3 : ((3 : Nat) : Int) = 3 := rfl; have z := wbet_self h 3; have s := forZ_self 4 m xs 0; have s2 := forZ_self 4 m xs 3
      simp only [sumTo, c0, c1, c2, c3, z, s, s2, foT4_03 h, foT4_10 h, foT4_13 h, foT4_20 h, foT4_23 h, foT4_30 h, wbet_symm xs m 3 0, wbet_symm xs m 3 1, wbet_symm xs m 3 2]
      rw [← e]
      simp only [Int.zero_add, Int.zero_mul, Int.add_zero, Int.sub_zero]
    · have e := kir4_31 (wbet xs m 0 1) (wbet xs m 0 2) (wbet xs m 0 3) (wbet xs m 1 2) (wbet xs m 1 3) (wbet xs m 2 3); have c0 : ((0 : Nat) : Int) = 0 := rfl; have c1 : ((1 : Nat) : Int) = 1 := rfl; have c2 : ((2 : Nat) : Int) = 2 := rfl; have c3 : ((3 : Nat) : Int) = 3 := rfl; have z := wbet_self h 3; have s := forZ_self 4 m xs 1; have s2 := forZ_self 4 m xs 3
      simp only [sumTo, c0, c1, c2, c3, z, s, s2, foT4_01 h, foT4_03 h, foT4_13 h, foT4_21 h, foT4_23 h, foT4_31 h, wbet_symm xs m 3 0, wbet_symm xs m 3 1, wbet_symm xs m 3 2]
      rw [← e]
      simp only [Int.zero_add, Int.zero_mul, Int.add_zero, Int.sub_zero]
    · have e := kir4_32 (wbet xs m 0 1) (wbet xs m 0 2) (wbet xs m 0 3) (wbet xs m 1 2) (wbet xs m 1 3) (wbet xs m 2 3); have c0 : ((0 : Nat) : Int) = 0 := rfl; have c1 : ((1 : Nat) : Int) = 1 := rfl; have c2 : ((2 : Nat) : Int) = 2 := rfl; have c3 : ((3 : Nat) : Int) = 3 := rfl; have z := wbet_self h 3; have s := forZ_self 4 m xs 2; have s2 := forZ_self 4 m xs 3
      simp only [sumTo, c0, c1, c2, c3, z, s, s2, foT4_02 h, foT4_03 h, foT4_12 h, foT4_13 h, foT4_23 h, foT4_32 h, wbet_symm xs m 3 0, wbet_symm xs m 3 1, wbet_symm xs m 3 2]
      rw [← e]
      simp only [Int.zero_add, Int.zero_mul, Int.add_zero, Int.sub_zero]
    · exact absurd rfl hay
theorem kir5 {m : Nat} {xs : List Int} (h : Drn 5 m xs) {a y : Int} (ha : 0 ≤ a ∧ a < 5) (hy : 0 ≤ y ∧ y < 5) (hay : a ≠ y) : sumTo (fun (w : Nat) => wbet xs m a w * (forZ 5 m xs a y - forZ 5 m xs w y + forZ 5 m xs w a)) 5 = 2 * treeT 5 m xs := by
  rw [trT5 h]
  obtain rfl | rfl | rfl | rfl | rfl : a = 0 ∨ a = 1 ∨ a = 2 ∨ a = 3 ∨ a = 4 := by omega
  · obtain rfl | rfl | rfl | rfl | rfl : y = 0 ∨ y = 1 ∨ y = 2 ∨ y = 3 ∨ y = 4 := by omega
    · exact absurd rfl hay
    · have e := kir5_01 (wbet xs m 0 1) (wbet xs m 0 2) (wbet xs m 0 3) (wbet xs m 0 4) (wbet xs m 1 2) (wbet xs m 1 3) (wbet xs m 1 4) (wbet xs m 2 3) (wbet xs m 2 4) (wbet xs m 3 4); have c0 : ((0 : Nat) : Int) = 0 := rfl; have c1 : ((1 : Nat) : Int) = 1 := rfl; have c2 : ((2 : Nat) : Int) = 2 := rfl; have c3 : ((3 : Nat) : Int) = 3 := rfl; have c4 : ((4 : Nat) : Int) = 4 := rfl; have z := wbet_self h 0; have s := forZ_self 5 m xs 1; have s2 := forZ_self 5 m xs 0
      simp only [sumTo, c0, c1, c2, c3, c4, z, s, s2, foT5_10 h, foT5_21 h, foT5_20 h, foT5_31 h, foT5_30 h, foT5_41 h, foT5_40 h, foT5_01 h]
      rw [← e]
      simp only [Int.zero_add, Int.zero_mul, Int.add_zero, Int.sub_zero]
    · have e := kir5_02 (wbet xs m 0 1) (wbet xs m 0 2) (wbet xs m 0 3) (wbet xs m 0 4) (wbet xs m 1 2) (wbet xs m 1 3) (wbet xs m 1 4) (wbet xs m 2 3) (wbet xs m 2 4) (wbet xs m 3 4); have c0 : ((0 : Nat) : Int) = 0 := rfl; have c1 : ((1 : Nat) : Int) = 1 := rfl; have c2 : ((2 : Nat) : Int) = 2 := rfl; have c3 : ((3 : Nat) : Int) = 3 := rfl; have c4 : ((4 : Nat) : Int) = 4 := rfl; have z := wbet_self h 0; have s := forZ_self 5 m xs 2; have s2 := forZ_self 5 m xs 0
      simp only [sumTo, c0, c1, c2, c3, c4, z, s, s2, foT5_12 h, foT5_10 h, foT5_20 h, foT5_32 h, foT5_30 h, foT5_42 h, foT5_40 h, foT5_02 h]
      rw [← e]
      simp only [Int.zero_add, Int.zero_mul, Int.add_zero, Int.sub_zero]
    · have e := kir5_03 (wbet xs m 0 1) (wbet xs m 0 2) (wbet xs m 0 3) (wbet xs m 0 4) (wbet xs m 1 2) (wbet xs m 1 3) (wbet xs m 1 4) (wbet xs m 2 3) (wbet xs m 2 4) (wbet xs m 3 4); have c0 : ((0 : Nat) : Int) = 0 := rfl; have c1 : ((1 : Nat) : Int) = 1 := rfl; have c2 : ((2 : Nat) : Int) = 2 := rfl; have c3 : ((3 : Nat) : Int) = 3 := rfl; have c4 : ((4 : Nat) : Int) = 4 := rfl; have z := wbet_self h 0; have s := forZ_self 5 m xs 3; have s2 := forZ_self 5 m xs 0
      simp only [sumTo, c0, c1, c2, c3, c4, z, s, s2, foT5_13 h, foT5_10 h, foT5_23 h, foT5_20 h, foT5_30 h, foT5_43 h, foT5_40 h, foT5_03 h]
      rw [← e]
      simp only [Int.zero_add, Int.zero_mul, Int.add_zero, Int.sub_zero]
    · have e := kir5_04 (wbet xs m 0 1) (wbet xs m 0 2) (wbet xs m 0 3) (wbet xs m 0 4) (wbet xs m 1 2) (wbet xs m 1 3) (wbet xs m 1 4) (wbet xs m 2 3) (wbet xs m 2 4) (wbet xs m 3 4); have c0 : ((0 : Nat) : Int) = 0 := rfl; have c1 : ((1 : Nat) : Int) = 1 := rfl; have c2 : ((2 : Nat) : Int) = 2 := rfl; have c3 : ((3 : Nat) : Int) = 3 := rfl; have c4 : ((4 : Nat) : Int) = 4 := rfl; have z := wbet_self h 0; have s := forZ_self 5 m xs 4; have s2 := forZ_self 5 m xs 0
      simp only [sumTo, c0, c1, c2, c3, c4, z, s, s2, foT5_14 h, foT5_10 h, foT5_24 h, foT5_20 h, foT5_34 h, foT5_30 h, foT5_40 h, foT5_04 h]
      rw [← e]
      simp only [Int.zero_add, Int.zero_mul, Int.add_zero, Int.sub_zero]
  · obtain rfl | rfl | rfl | rfl | rfl : y = 0 ∨ y = 1 ∨ y = 2 ∨ y = 3 ∨ y = 4 := by omega
    · have e := kir5_10 (wbet xs m 0 1) (wbet xs m 0 2) (wbet xs m 0 3) (wbet xs m 0 4) (wbet xs m 1 2) (wbet xs m 1 3) (wbet xs m 1 4) (wbet xs m 2 3) (wbet xs m 2 4) (wbet xs m 3 4); have c0 : ((0 : Nat) : Int) = 0 := rfl; have c1 : ((1 : Nat) : Int) = 1 := rfl; have c2 : ((2 : Nat) : Int) = 2 := rfl; have c3 : ((3 : Nat) : Int) = 3 := rfl; have c4 : ((4 : Nat) : Int) = 4 := rfl; have z := wbet_self h 1; have s := forZ_self 5 m xs 0; have s2 := forZ_self 5 m xs 1
      simp only [sumTo, c0, c1, c2, c3, c4, z, s, s2, foT5_01 h, foT5_20 h, foT5_21 h, foT5_30 h, foT5_31 h, foT5_40 h, foT5_41 h, foT5_10 h, wbet_symm xs m 1 0]
      rw [← e]
      simp only [Int.zero_add, Int.zero_mul, Int.add_zero, Int.sub_zero]
    · exact absurd rfl hay
    · have e := kir5_12 (wbet xs m 0 1) (wbet xs m 0 2) (wbet xs m 0 3) (wbet xs m 0 4) (wbet xs m 1 2) (wbet xs m 1 3) (wbet xs m 1 4) (wbet xs m 2 3) (wbet xs m 2 4) (wbet xs m 3 4); have c0 : ((0 : Nat) : Int) = 0 := rfl; have c1 : ((1 : Nat) : Int) = 1 := rfl; have c2 : ((2 : Nat) : Int) = 2 := rfl; have c3 : ((3 : Nat) : Int) = 3 := rfl; have c4 : ((4 : Nat) : Int) = 4 := rfl; have z := wbet_self h 1; have s := forZ_self 5 m xs 2; have s2 := forZ_self 5 m xs 1
      simp only [sumTo, c0, c1, c2, c3, c4, z, s, s2, foT5_02 h, foT5_01 h, foT5_21 h, foT5_32 h, foT5_31 h, foT5_42 h, foT5_41 h, foT5_12 h, wbet_symm xs m 1 0]
      rw [← e]
      simp only [Int.zero_add, Int.zero_mul, Int.add_zero, Int.sub_zero]
    · have e := kir5_13 (wbet xs m 0 1) (wbet xs m 0 2) (wbet xs m 0 3) (wbet xs m 0 4) (wbet xs m 1 2) (wbet xs m 1 3) (wbet xs m 1 4) (wbet xs m 2 3) (wbet xs m 2 4) (wbet xs m 3 4); have c0 : ((0 : Nat) : Int) = 0 := rfl; have c1 : ((1 : Nat) : Int) = 1 := rfl; have c2 : ((2 : Nat) : Int) = 2 := rfl; have c3 : ((3 : Nat) : Int) = 3 := rfl; have c4 : ((4 : Nat) : Int) = 4 := rfl; have z := wbet_self h 1; have s := forZ_self 5 m xs 3; have s2 := forZ_self 5 m xs 1
      simp only [sumTo, c0, c1, c2, c3, c4, z, s, s2, foT5_03 h, foT5_01 h, foT5_23 h, foT5_21 h, foT5_31 h, foT5_43 h, foT5_41 h, foT5_13 h, wbet_symm xs m 1 0]
      rw [← e]
      simp only [Int.zero_add, Int.zero_mul, Int.add_zero, Int.sub_zero]
    · have e := kir5_14 (wbet xs m 0 1) (wbet xs m 0 2) (wbet xs m 0 3) (wbet xs m 0 4) (wbet xs m 1 2) (wbet xs m 1 3) (wbet xs m 1 4) (wbet xs m 2 3) (wbet xs m 2 4) (wbet xs m 3 4); have c0 : ((0 : Nat) : Int) = 0 := rfl; have c1 : ((1 : Nat) : Int) = 1 := rfl; have c2 : ((2 : Nat) : Int) = 2 := rfl; have c3 : ((3 : Nat) : Int) = 3 := rfl; have c4 : ((4 : Nat) : Int) = 4 := rfl; have z := wbet_self h 1; have s := forZ_self 5 m xs 4; have s2 := forZ_self 5 m xs 1
      simp only [sumTo, c0, c1, c2, c3, c4, z, s, s2, foT5_04 h, foT5_01 h, foT5_24 h, foT5_21 h, foT5_34 h, foT5_31 h, foT5_41 h, foT5_14 h, wbet_symm xs m 1 0]
      rw [← e]
      simp only [Int.zero_add, Int.zero_mul, Int.add_zero, Int.sub_zero]
  · obtain rfl | rfl | rfl | rfl | rfl : y = 0 ∨ y = 1 ∨ y = 2 ∨ y = 3 ∨ y = 4 := by omega
    · have e := kir5_20 (wbet xs m 0 1) (wbet xs m 0 2) (wbet xs m 0 3) (wbet xs m 0 4) (wbet xs m 1 2) (wbet xs m 1 3) (wbet xs m 1 4) (wbet xs m 2 3) (wbet xs m 2 4) (wbet xs m 3 4); have c0 : ((0 : Nat) : Int) = 0 := rfl; have c1 : ((1 : Nat) : Int) = 1 := rfl; have c2 : ((2 : Nat) : Int) = 2 := rfl; have c3 : ((3 : Nat) : Int) = 3 := rfl; have c4 : ((4 : Nat) : Int) = 4 := rfl; have z := wbet_self h 2; have s := forZ_self 5 m xs 0; have s2 := forZ_self 5 m xs 2
      simp only [sumTo, c0, c1, c2, c3, c4, z, s, s2, foT5_02 h, foT5_10 h, foT5_12 h, foT5_30 h, foT5_32 h, foT5_40 h, foT5_42 h, foT5_20 h, wbet_symm xs m 2 0, wbet_symm xs m 2 1]
      rw [← e]
      simp only [Int.zero_add, Int.zero_mul, Int.add_zero, Int.sub_zero]
    · have e := kir5_21 (wbet xs m 0 1) (wbet xs m 0 2) (wbet xs m 0 3) (wbet xs m 0 4) (wbet xs m 1 2) (wbet xs m 1 3) (wbet xs m 1 4) (wbet xs m 2 3) (wbet xs m 2 4) (wbet xs m 3 4); have c0 : ((0 : Nat) : Int) = 0 := rfl; have c1 : ((1 : Nat) : Int) = 1 := rfl; have c2 : ((2 : Nat) : Int) = 2 := rfl; have c3 : ((3 : Nat) : Int) = 3 := rfl; have c4 : ((4 : Nat) : Int) = 4 := rfl; have z := wbet_self h 2; have s := forZ_self 5 m xs 1; have s2 := forZ_self 5 m xs 2
      simp only [sumTo, c0, c1, c2, c3, c4, z, s, s2, foT5_01 h, foT5_02 h, foT5_12 h, foT5_31 h, foT5_32 h, foT5_41 h, foT5_42 h, foT5_21 h, wbet_symm xs m 2 0, wbet_symm xs m 2 1]
      rw [← e]
      simp only [Int.zero_add, Int.zero_mul, Int.add_zero, Int.sub_zero]
    · exact absurd rfl hay
    · have e := kir5_23 (wbet xs m 0 1) (wbet xs m 0 2) (wbet xs m 0 3) (wbet xs m 0 4) (wbet xs m 1 2) (wbet xs m 1 3) (wbet xs m 1 4) (wbet xs m 2 3) (wbet xs m 2 4) (wbet xs m 3 4); have c0 : ((0 : Nat) : Int) = 0 := rfl; have c1 : ((1 : Nat) : Int) = 1 := rfl; have c2 : ((2 : Nat) : Int) = 2 := rfl; have c3 : ((3 : Nat) : Int) = 3 := rfl; have c4 : ((4 : Nat) : Int) = 4 := rfl; have z := wbet_self h 2; have s := forZ_self 5 m xs 3; have s2 := forZ_self 5 m xs 2
      simp only [sumTo, c0, c1, c2, c3, c4, z, s, s2, foT5_03 h, foT5_02 h, foT5_13 h, foT5_12 h, foT5_32 h, foT5_43 h, foT5_42 h, foT5_23 h, wbet_symm xs m 2 0, wbet_symm xs m 2 1]
      rw [← e]
      simp only [Int.zero_add, Int.zero_mul, Int.add_zero, Int.sub_zero]
    · have e := kir5_24 (wbet xs m 0 1) (wbet xs m 0 2) (wbet xs m 0 3) (wbet xs m 0 4) (wbet xs m 1 2) (wbet xs m 1 3) (wbet xs m 1 4) (wbet xs m 2 3) (wbet xs m 2 4) (wbet xs m 3 4); have c0 : ((0 : Nat) : Int) = 0 := rfl; have c1 : ((1 : Nat) : Int) = 1 := rfl; have c2 : ((2 : Nat) : Int) = 2 := rfl; have c3 : ((3 : Nat) : Int) = 3 := rfl; have c4 : ((4 : Nat) : Int) = 4 := rfl; have z := wbet_self h 2; have s := forZ_self 5 m xs 4; have s2 := forZ_self 5 m xs 2
      simp only [sumTo, c0, c1, c2, c3, c4, z, s, s2, foT5_04 h, foT5_02 h, foT5_14 h, foT5_12 h, foT5_34 h, foT5_32 h, foT5_42 h, foT5_24 h, wbet_symm xs m 2 0, wbet_symm xs m 2 1]
      rw [← e]
      simp only [Int.zero_add, Int.zero_mul, Int.add_zero, Int.sub_zero]
  · obtain rfl | rfl | rfl | rfl | rfl : y = 0 ∨ y = 1 ∨ y = 2 ∨ y = 3 ∨ y = 4 := by omega
    · have e := kir5_30 (wbet xs m 0 1) (wbet xs m 0 2) (wbet xs m 0 3) (wbet xs m 0 4) (wbet xs m 1 2) (wbet xs m 1 3) (wbet xs m 1 4) (wbet xs m 2 3) (wbet xs m 2 4) (wbet xs m 3 4); have c0 : ((0 : Nat) : Int) = 0 := rfl; have c1 : ((1 : Nat) : Int) = 1 := rfl; have c2 : ((2 : Nat) : Int) = 2 := rfl; have c3 : ((3 : Nat) : Int) = 3 := rfl; have c4 : ((4 : Nat) : Int) = 4 := rfl; have z := wbet_self h 3; have s := forZ_self 5 m xs 0; have s2 := forZ_self 5 m xs 3
      simp only [sumTo, c0, c1, c2, c3, c4, z, s, s2, foT5_03 h, foT5_10 h, foT5_13 h, foT5_20 h, foT5_23 h, foT5_40 h, foT5_43 h, foT5_30 h, wbet_symm xs m 3 0, wbet_symm xs m 3 1, wbet_symm xs m 3 2]
      rw [← e]
      simp only [Int.zero_add, Int.zero_mul, Int.add_zero, Int.sub_zero]
    · have e := kir5_31 (wbet xs m 0 1) (wbet xs m 0 2) (wbet xs m 0 3) (wbet xs m 0 4) (wbet xs m 1 2) (wbet xs m 1 3) (wbet xs m 1 4) (wbet xs m 2 3) (wbet xs m 2 4) (wbet xs m 3 4); have c0 : ((0 : Nat) : Int) = 0 := rfl; have c1 : ((1 : Nat) : Int) = 1 := rfl; have c2 : ((2 : Nat) : Int) = 2 := rfl; have c3 : ((3 : Nat) : Int) = 3 := rfl; have c4 : ((4 : Nat) : Int) = 4 := rfl; have z := wbet_self h 3; have s := forZ_self 5 m xs 1; have s2 := forZ_self 5 m xs 3
      simp only [sumTo, c0, c1, c2, c3, c4, z, s, s2, foT5_01 h, foT5_03 h, foT5_13 h, foT5_21 h, foT5_23 h, foT5_41 h, foT5_43 h, foT5_31 h, wbet_symm xs m 3 0, wbet_symm xs m 3 1, wbet_symm xs m 3 2]
      rw [← e]
      simp only [Int.zero_add, Int.zero_mul, Int.add_zero, Int.sub_zero]
    · have e := kir5_32 (wbet xs m 0 1) (wbet xs m 0 2) (wbet xs m 0 3) (wbet xs m 0 4) (wbet xs m 1 2) (wbet xs m 1 3) (wbet xs m 1 4) (wbet xs m 2 3) (wbet xs m 2 4) (wbet xs m 3 4); have c0 : ((0 : Nat) : Int) = 0 := rfl; have c1 : ((1 : Nat) : Int) = 1 := rfl; have c2 : ((2 : Nat) : Int) = 2 := rfl; have c3 : ((3 : Nat) : Int) = 3 := rfl; have c4 : ((4 : Nat) : Int) = 4 := rfl; have z := wbet_self h 3; have s := forZ_self 5 m xs 2; have s2 := forZ_self 5 m xs 3
      simp only [sumTo, c0, c1, c2, c3, c4, z, s, s2, foT5_02 h, foT5_03 h, foT5_12 h, foT5_13 h, foT5_23 h, foT5_42 h, foT5_43 h, foT5_32 h, wbet_symm xs m 3 0, wbet_symm xs m 3 1, wbet_symm xs m 3 2]
      rw [← e]
      simp only [Int.zero_add, Int.zero_mul, Int.add_zero, Int.sub_zero]
    · exact absurd rfl hay
    · have e := kir5_34 (wbet xs m 0 1) (wbet xs m 0 2) (wbet xs m 0 3) (wbet xs m 0 4) (wbet xs m 1 2) (wbet xs m 1 3) (wbet xs m 1 4) (wbet xs m 2 3) (wbet xs m 2 4) (wbet xs m 3 4); have c0 : ((0 : Nat) : Int) = 0 := rfl; have c1 : ((1 : Nat) : Int) = 1 := rfl; have c2 : ((2 : Nat) : Int) = 2 := rfl; have c3 : ((3 : Nat) : Int) = 3 := rfl; have c4 : ((4 : Nat) : Int) = 4 := rfl; have z := wbet_self h 3; have s := forZ_self 5 m xs 4; have s2 := forZ_self 5 m xs 3
      simp only [sumTo, c0, c1, c2, c3, c4, z, s, s2, foT5_04 h, foT5_03 h, foT5_14 h, foT5_13 h, foT5_24 h, foT5_23 h, foT5_43 h, foT5_34 h, wbet_symm xs m 3 0, wbet_symm xs m 3 1, wbet_symm xs m 3 2]
      rw [← e]
      simp only [Int.zero_add, Int.zero_mul, Int.add_zero, Int.sub_zero]
  · obtain rfl | rfl | rfl | rfl | rfl : y = 0 ∨ y = 1 ∨ y = 2 ∨ y = 3 ∨ y = 4 := by omega
    · have e := kir5_40 (wbet xs m 0 1) (wbet xs m 0 2) (wbet xs m 0 3) (wbet xs m 0 4) (wbet xs m 1 2) (wbet xs m 1 3) (wbet xs m 1 4) (wbet xs m 2 3) (wbet xs m 2 4) (wbet xs m 3 4); have c0 : ((0 : Nat) : Int) = 0 := rfl; have c1 : ((1 : Nat) : Int) = 1 := rfl; have c2 : ((2 : Nat) : Int) = 2 := rfl; have c3 : ((3 : Nat) : Int) = 3 := rfl; have c4 : ((4 : Nat) : Int) = 4 := rfl; have z := wbet_self h 4; have s := forZ_self 5 m xs 0; have s2 := forZ_self 5 m xs 4
      simp only [sumTo, c0, c1, c2, c3, c4, z, s, s2, foT5_04 h, foT5_10 h, foT5_14 h, foT5_20 h, foT5_24 h, foT5_30 h, foT5_34 h, foT5_40 h, wbet_symm xs m 4 0, wbet_symm xs m 4 1, wbet_symm xs m 4 2, wbet_symm xs m 4 3]
      rw [← e]
      simp only [Int.zero_add, Int.zero_mul, Int.add_zero, Int.sub_zero]
    · have e := kir5_41 (wbet xs m 0 1) (wbet xs m 0 2) (wbet xs m 0 3) (wbet xs m 0 4) (wbet xs m 1 2) (wbet xs m 1 3) (wbet xs m 1 4) (wbet xs m 2 3) (wbet xs m 2 4) (wbet xs m 3 4); have c0 : ((0 : Nat) : Int) = 0 := rfl; have c1 : ((1 : Nat) : Int) = 1 := rfl; have c2 : ((2 : Nat) : Int) = 2 := rfl; have c3 : ((3 : Nat) : Int) = 3 := rfl; have c4 : ((4 : Nat) : Int) = 4 := rfl; have z := wbet_self h 4; have s := forZ_self 5 m xs 1; have s2 := forZ_self 5 m xs 4
      simp only [sumTo, c0, c1, c2, c3, c4, z, s, s2, foT5_01 h, foT5_04 h, foT5_14 h, foT5_21 h, foT5_24 h, foT5_31 h, foT5_34 h, foT5_41 h, wbet_symm xs m 4 0, wbet_symm xs m 4 1, wbet_symm xs m 4 2, wbet_symm xs m 4 3]
      rw [← e]
      simp only [Int.zero_add, Int.zero_mul, Int.add_zero, Int.sub_zero]
    · have e := kir5_42 (wbet xs m 0 1) (wbet xs m 0 2) (wbet xs m 0 3) (wbet xs m 0 4) (wbet xs m 1 2) (wbet xs m 1 3) (wbet xs m 1 4) (wbet xs m 2 3) (wbet xs m 2 4) (wbet xs m 3 4); have c0 : ((0 : Nat) : Int) = 0 := rfl; have c1 : ((1 : Nat) : Int) = 1 := rfl; have c2 : ((2 : Nat) : Int) = 2 := rfl; have c3 : ((3 : Nat) : Int) = 3 := rfl; have c4 : ((4 : Nat) : Int) = 4 := rfl; have z := wbet_self h 4; have s := forZ_self 5 m xs 2; have s2 := forZ_self 5 m xs 4
      simp only [sumTo, c0, c1, c2, c3, c4, z, s, s2, foT5_02 h, foT5_04 h, foT5_12 h, foT5_14 h, foT5_24 h, foT5_32 h, foT5_34 h, foT5_42 h, wbet_symm xs m 4 0, wbet_symm xs m 4 1, wbet_symm xs m 4 2, wbet_symm xs m 4 3]
      rw [← e]
      simp only [Int.zero_add, Int.zero_mul, Int.add_zero, Int.sub_zero]
    · have e := kir5_43 (wbet xs m 0 1) (wbet xs m 0 2) (wbet xs m 0 3) (wbet xs m 0 4) (wbet xs m 1 2) (wbet xs m 1 3) (wbet xs m 1 4) (wbet xs m 2 3) (wbet xs m 2 4) (wbet xs m 3 4); have c0 : ((0 : Nat) : Int) = 0 := rfl; have c1 : ((1 : Nat) : Int) = 1 := rfl; have c2 : ((2 : Nat) : Int) = 2 := rfl; have c3 : ((3 : Nat) : Int) = 3 := rfl; have c4 : ((4 : Nat) : Int) = 4 := rfl; have z := wbet_self h 4; have s := forZ_self 5 m xs 3; have s2 := forZ_self 5 m xs 4
      simp only [sumTo, c0, c1, c2, c3, c4, z, s, s2, foT5_03 h, foT5_04 h, foT5_13 h, foT5_14 h, foT5_23 h, foT5_24 h, foT5_34 h, foT5_43 h, wbet_symm xs m 4 0, wbet_symm xs m 4 1, wbet_symm xs m 4 2, wbet_symm xs m 4 3]
      rw [← e]
      simp only [Int.zero_add, Int.zero_mul, Int.add_zero, Int.sub_zero]
    · exact absurd rfl hay
theorem kirchhoff {n m : Nat} {xs : List Int} (h : Drn n m xs) {a y : Int} (ha : 0 ≤ a ∧ a < n) (hy : 0 ≤ y ∧ y < n) (hay : a ≠ y) : sumTo (fun (w : Nat) => wbet xs m a w * (forZ n m xs a y - forZ n m xs w y + forZ n m xs w a)) n = 2 * treeT n m xs := by
  have h1 := h.two
  have h2 := h.five
  obtain rfl | rfl | rfl | rfl : n = 2 ∨ n = 3 ∨ n = 4 ∨ n = 5 := by omega
  · exact kir2 h ha hy hay
  · exact kir3 h ha hy hay
  · exact kir4 h ha hy hay
  · exact kir5 h ha hy hay
/-- A sum over the first k wires. -/
def wireS (xs : List Int) (f : Int → Int → Int) : Nat → Int
  | 0 => 0
  | k + 1 => wireS xs f k + ww xs k * f (wa xs k) (wb xs k)
def pairS2 (g : Int → Int → Int) : Int := g 0 1
theorem wireS2 {xs : List Int} (f : Int → Int → Int) : ∀ {m : Nat}, (∀ k, k < m → goodW 2 xs k) → wireS xs f m = pairS2 (fun i j => wbet xs m i j * f i j)
  | 0, _ => by
    have z : ∀ i j, wbet xs 0 i j = 0 := fun i j => rfl
    simp only [wireS, pairS2, z]; simp
  | m + 1, h => by
    have ih := wireS2 f (m := m) (fun k hk => h k (by omega))
    obtain ⟨q0, q1, q2, _, _⟩ := (h m (by omega)).1
    have st : ∀ i j : Int, i < j → wbet xs (m + 1) i j * f i j = wbet xs m i j * f i j + (if wa xs m = i ∧ wb xs m = j then ww xs m * f (wa xs m) (wb xs m) else 0) := fun i j hij => by
      rw [wbet_snoc h]
      by_cases c : wa xs m = i ∧ wb xs m = j
      · rw [if_pos c, if_pos (by unfold isW; omega), c.1, c.2, Int.add_mul]
      · rw [if_neg c, if_neg (by unfold isW; omega)]; simp
    simp only [wireS, ih, pairS2, st 0 1 (by decide)]
    generalize ww xs m * f (wa xs m) (wb xs m) = z
    have hc : (wa xs m = 0 ∧ wb xs m = 1) := by omega
    rcases hc with hc
    all_goals (simp [hc.1, hc.2]; try omega)
theorem foster2 {m : Nat} {xs : List Int} (h : Drn 2 m xs) : wireS xs (forZ 2 m xs) m = 1 * treeT 2 m xs := by
  rw [wireS2 _ h.good, trT2 h, ← fos2 (wbet xs m 0 1)]
  unfold pairS2
  dsimp only
  rw [foT2_01 h]
def pairS3 (g : Int → Int → Int) : Int := g 0 1 + g 0 2 + g 1 2
theorem wireS3 {xs : List Int} (f : Int → Int → Int) : ∀ {m : Nat}, (∀ k, k < m → goodW 3 xs k) → wireS xs f m = pairS3 (fun i j => wbet xs m i j * f i j)
  | 0, _ => by
    have z : ∀ i j, wbet xs 0 i j = 0 := fun i j => rfl
    simp only [wireS, pairS3, z]; simp
  | m + 1, h => by
    have ih := wireS3 f (m := m) (fun k hk => h k (by omega))
    obtain ⟨q0, q1, q2, _, _⟩ := (h m (by omega)).1
    have st : ∀ i j : Int, i < j → wbet xs (m + 1) i j * f i j = wbet xs m i j * f i j + (if wa xs m = i ∧ wb xs m = j then ww xs m * f (wa xs m) (wb xs m) else 0) := fun i j hij => by
      rw [wbet_snoc h]
      by_cases c : wa xs m = i ∧ wb xs m = j
      · rw [if_pos c, if_pos (by unfold isW; omega), c.1, c.2, Int.add_mul]
      · rw [if_neg c, if_neg (by unfold isW; omega)]; simp
    simp only [wireS, ih, pairS3, st 0 1 (by decide), st 0 2 (by decide), st 1 2 (by decide)]
    generalize ww xs m * f (wa xs m) (wb xs m) = z
    have hc : (wa xs m = 0 ∧ wb xs m = 1) ∨ (wa xs m = 0 ∧ wb xs m = 2) ∨ (wa xs m = 1 ∧ wb xs m = 2) := by omega
    rcases hc with hc | hc | hc
    all_goals (simp [hc.1, hc.2]; try omega)
theorem foster3 {m : Nat} {xs : List Int} (h : Drn 3 m xs) : wireS xs (forZ 3 m xs) m = 2 * treeT 3 m xs := by
  rw [wireS3 _ h.good, trT3 h, ← fos3 (wbet xs m 0 1) (wbet xs m 0 2) (wbet xs m 1 2)]
  unfold pairS3
  dsimp only
  rw [foT3_01 h, foT3_02 h, foT3_12 h]
def pairS4 (g : Int → Int → Int) : Int := g 0 1 + g 0 2 + g 0 3 + g 1 2 + g 1 3 + g 2 3
theorem wireS4 {xs : List Int} (f : Int → Int → Int) : ∀ {m : Nat}, (∀ k, k < m → goodW 4 xs k) → wireS xs f m = pairS4 (fun i j => wbet xs m i j * f i j)
  | 0, _ => by
    have z : ∀ i j, wbet xs 0 i j = 0 := fun i j => rfl
    simp only [wireS, pairS4, z]; simp
  | m + 1, h => by
    have ih := wireS4 f (m := m) (fun k hk => h k (by omega))
    obtain ⟨q0, q1, q2, _, _⟩ := (h m (by omega)).1
    have st : ∀ i j : Int, i < j → wbet xs (m + 1) i j * f i j = wbet xs m i j * f i j + (if wa xs m = i ∧ wb xs m = j then ww xs m * f (wa xs m) (wb xs m) else 0) := fun i j hij => by
      rw [wbet_snoc h]
      by_cases c : wa xs m = i ∧ wb xs m = j
      · rw [if_pos c, if_pos (by unfold isW; omega), c.1, c.2, Int.add_mul]
      · rw [if_neg c, if_neg (by unfold isW; omega)]; simp
    simp only [wireS, ih, pairS4, st 0 1 (by decide), st 0 2 (by decide), st 0 3 (by decide), st 1 2 (by decide), st 1 3 (by decide), st 2 3 (by decide)]
    generalize ww xs m * f (wa xs m) (wb xs m) = z
    have hc : (wa xs m = 0 ∧ wb xs m = 1) ∨ (wa xs m = 0 ∧ wb xs m = 2) ∨ (wa xs m = 0 ∧ wb xs m = 3) ∨ (wa xs m = 1 ∧ wb xs m = 2) ∨ (wa xs m = 1 ∧ wb xs m = 3) ∨ (wa xs m = 2 ∧ wb xs m = 3) := by omega
    rcases hc with hc | hc | hc | hc | hc | hc
    all_goals (simp [hc.1, hc.2]; try omega)
theorem foster4 {m : Nat} {xs : List Int} (h : Drn 4 m xs) : wireS xs (forZ 4 m xs) m = 3 * treeT 4 m xs := by
  rw [wireS4 _ h.good, trT4 h, ← fos4 (wbet xs m 0 1) (wbet xs m 0 2) (wbet xs m 0 3) (wbet xs m 1 2) (wbet xs m 1 3) (wbet xs m 2 3)]
  unfold pairS4
  dsimp only
  rw [foT4_01 h, foT4_02 h, foT4_03 h, foT4_12 h, foT4_13 h, foT4_23 h]
def pairS5 (g : Int → Int → Int) : Int := g 0 1 + g 0 2 + g 0 3 + g 0 4 + g 1 2 + g 1 3 + g 1 4 + g 2 3 + g 2 4 + g 3 4
theorem wireS5 {xs : List Int} (f : Int → Int → Int) : ∀ {m : Nat}, (∀ k, k < m → goodW 5 xs k) → wireS xs f m = pairS5 (fun i j => wbet xs m i j * f i j)
  | 0, _ => by
    have z : ∀ i j, wbet xs 0 i j = 0 := fun i j => rfl
    simp only [wireS, pairS5, z]; simp
  | m + 1, h => by
    have ih := wireS5 f (m := m) (fun k hk => h k (by omega))
    obtain ⟨q0, q1, q2, _, _⟩ := (h m (by omega)).1
    have st : ∀ i j : Int, i < j → wbet xs (m + 1) i j * f i j = wbet xs m i j * f i j + (if wa xs m = i ∧ wb xs m = j then ww xs m * f (wa xs m) (wb xs m) else 0) := fun i j hij => by
      rw [wbet_snoc h]
      by_cases c : wa xs m = i ∧ wb xs m = j
      · rw [if_pos c, if_pos (by unfold isW; omega), c.1, c.2, Int.add_mul]
      · rw [if_neg c, if_neg (by unfold isW; omega)]; simp
    simp only [wireS, ih, pairS5, st 0 1 (by decide), st 0 2 (by decide), st 0 3 (by decide), st 0 4 (by decide), st 1 2 (by decide), st 1 3 (by decide), st 1 4 (by decide), st 2 3 (by decide), st 2 4 (by decide), st 3 4 (by decide)]
    generalize ww xs m * f (wa xs m) (wb xs m) = z
    have hc : (wa xs m = 0 ∧ wb xs m = 1) ∨ (wa xs m = 0 ∧ wb xs m = 2) ∨ (wa xs m = 0 ∧ wb xs m = 3) ∨ (wa xs m = 0 ∧ wb xs m = 4) ∨ (wa xs m = 1 ∧ wb xs m = 2) ∨ (wa xs m = 1 ∧ wb xs m = 3) ∨ (wa xs m = 1 ∧ wb xs m = 4) ∨ (wa xs m = 2 ∧ wb xs m = 3) ∨ (wa xs m = 2 ∧ wb xs m = 4) ∨ (wa xs m = 3 ∧ wb xs m = 4) := by omega
    rcases hc with hc | hc | hc | hc | hc | hc | hc | hc | hc | hc
    all_goals (simp [hc.1, hc.2]; try omega)
theorem foster5 {m : Nat} {xs : List Int} (h : Drn 5 m xs) : wireS xs (forZ 5 m xs) m = 4 * treeT 5 m xs := by
  rw [wireS5 _ h.good, trT5 h, ← fos5 (wbet xs m 0 1) (wbet xs m 0 2) (wbet xs m 0 3) (wbet xs m 0 4) (wbet xs m 1 2) (wbet xs m 1 3) (wbet xs m 1 4) (wbet xs m 2 3) (wbet xs m 2 4) (wbet xs m 3 4)]
  unfold pairS5
  dsimp only
  rw [foT5_01 h, foT5_02 h, foT5_03 h, foT5_04 h, foT5_12 h, foT5_13 h, foT5_14 h, foT5_23 h, foT5_24 h, foT5_34 h]
theorem foster {n m : Nat} {xs : List Int} (h : Drn n m xs) : wireS xs (forZ n m xs) m = ((n : Int) - 1) * treeT n m xs := by
  have h1 := h.two
  have h2 := h.five
  obtain rfl | rfl | rfl | rfl : n = 2 ∨ n = 3 ∨ n = 4 ∨ n = 5 := by omega
  · exact foster2 h
  · exact foster3 h
  · exact foster4 h
  · exact foster5 h

/-! ### bounds -/
def nsum (g : Int → Nat) (l : List Int) : Nat := (l.map g).sum
theorem nsum_erase (g : Int → Nat) : ∀ (l : List Int) (j : Nat), nsum g (l.eraseIdx j) ≤ nsum g l
  | [], _ => by simp [nsum]
  | x :: l, 0 => by simp [nsum]
  | x :: l, j + 1 => by have := nsum_erase g l j; simp [nsum] at *; omega
theorem nsum_filter (g : Int → Nat) (p : Int → Bool) : ∀ l : List Int, nsum g (l.filter p) ≤ nsum g l
  | [] => by simp [nsum]
  | x :: l => by
    have := nsum_filter g p l
    unfold nsum at *
    rw [List.filter_cons]
    split
    · simp only [List.map_cons, List.sum_cons]; omega
    · simp only [List.map_cons, List.sum_cons]; omega
theorem nsum_snoc (g : Int → Nat) (l : List Int) (x : Int) : nsum g (l ++ [x]) = nsum g l + g x := by simp [nsum]
theorem sumTo_na {f : Nat → Int} {g : Int → Nat} {l : List Int} {B : Nat} (h : ∀ j, j < l.length → (f j).natAbs ≤ g (nth l j) * B) : ∀ {k : Nat}, k ≤ l.length → (sumTo f k).natAbs ≤ nsum g (l.take k) * B
  | 0, _ => by simp [sumTo]
  | k + 1, hk => by
    have ih := sumTo_na h (k := k) (by omega)
    have h2 := h k (by omega)
    have e : l.take (k + 1) = l.take k ++ [nth l k] := by
      rw [List.take_succ_eq_append_getElem (by omega)]
      congr 2
      unfold nth
      rw [List.getD_eq_getElem?_getD, List.getElem?_eq_getElem (by omega)]; rfl
    rw [e, nsum_snoc, Nat.add_mul]
    simp only [sumTo]
    omega
theorem detF_na {M : Int → Int → Int} {B : Nat} : ∀ (rows cols : List Int), (∀ r ∈ rows, nsum (fun c => (M r c).natAbs) cols ≤ B) → (detF M rows cols).natAbs ≤ B ^ rows.length
  | [], cols, _ => by simp [detF]
  | r :: rs, cols, h => by
    have h1 := sumTo_na (f := fun j => sgn j * M r (nth cols j) * detF M rs (cols.eraseIdx j)) (g := fun c => (M r c).natAbs) (l := cols) (B := B ^ rs.length) (fun j _ => by
      have ih := detF_na rs (cols.eraseIdx j) (fun r' hr' => Nat.le_trans (nsum_erase _ cols j) (h r' (List.mem_cons_of_mem _ hr')))
      rw [Int.natAbs_mul, Int.natAbs_mul]
      have hs : (sgn j).natAbs = 1 := by unfold sgn; split <;> rfl
      rw [hs, Nat.one_mul]
      exact Nat.mul_le_mul_left _ ih) (k := cols.length) (Nat.le_refl _)
    rw [List.take_of_length_le (Nat.le_refl _)] at h1
    have h2 := Nat.mul_le_mul_right (B ^ rs.length) (h r (by simp))
    simp only [detF, List.length_cons, Nat.pow_succ]
    rw [Nat.mul_comm (B ^ rs.length) B]
    omega
theorem wat_24 {n m : Nat} {xs : List Int} (h : Drn n m xs) {v : Int} (hv : 0 ≤ v ∧ v < n) : 0 ≤ wat xs v m ∧ wat xs v m ≤ 24 := by
  have h5 := h.five
  refine ⟨(wat_bd v h.good).1, ?_⟩
  rw [← wat_sum hv.1 hv.2 h.good]
  have key : ∀ k : Nat, sumTo (fun (u : Nat) => wbet xs m v u) k ≤ 6 * (k : Int) - (if v < k then 6 else 0) := fun k => by
    induction k with
    | zero => rw [if_neg (by omega)]; simp [sumTo]
    | succ k ih =>
      simp only [sumTo]
      have h6 := wbet_six h v (k : Int)
      by_cases e : v = (k : Int)
      · subst e
        rw [wbet_self h]
        rw [if_neg (by omega)] at ih
        rw [if_pos (by omega)]; omega
      · by_cases d : v < (k : Int)
        · rw [if_pos d] at ih
          rw [if_pos (by omega)]; omega
        · rw [if_neg d] at ih
          rw [if_neg (by omega)]; omega
  have := key n
  rw [if_pos hv.2] at this
  omega
theorem lap_row48 {n m : Nat} {xs : List Int} (h : Drn n m xs) {v : Int} (hv : 0 ≤ v ∧ v < n) (l : List Int) : nsum (fun c => (lapZ xs m v c).natAbs) (without n l) ≤ 48 := by
  refine Nat.le_trans (nsum_filter _ _ _) ?_
  have key : ∀ k : Nat, ((nsum (fun c => (lapZ xs m v c).natAbs) ((List.range k).map (fun (i : Nat) => (i : Int))) : Nat) : Int) = sumTo (fun (u : Nat) => wbet xs m v u) k + (if v < k then wat xs v m else 0) := fun k => by
    induction k with
    | zero => rw [if_neg (by omega)]; rfl
    | succ k ih =>
      rw [List.range_succ, List.map_append, List.map_singleton, nsum_snoc, Int.natCast_add, ih]
      simp only [sumTo]
      have w0 := wbet_nn h v (k : Int)
      have w1 := (wat_24 h hv).1
      unfold lapZ
      by_cases e : v = (k : Int)
      · rw [if_pos e, if_neg (by omega), if_pos (by omega), ← e, wbet_self h]; omega
      · rw [if_neg e]
        by_cases d : v < (k : Int)
        · rw [if_pos d, if_pos (by omega)]; omega
        · rw [if_neg d, if_neg (by omega)]; omega
  have k1 := key n
  rw [wat_sum hv.1 hv.2 h.good, if_pos hv.2] at k1
  have := (wat_24 h hv).2
  omega
theorem minor48 {n m : Nat} {xs : List Int} (h : Drn n m xs) (l : List Int) : (minorV n m xs l l).natAbs ≤ 48 ^ (without n l).length :=
  detF_na _ _ (fun r hr => lap_row48 h (without_below r hr) l)
theorem tree_le {n m : Nat} {xs : List Int} (h : Drn n m xs) : treeT n m xs ≤ 5308416 := by
  have h5 := h.five
  have h2 := h.two
  have h1 := minor48 h [0]
  have h3 := without_lt (k := n) (l := [0]) (x := 0) (by simp) (by omega) (by omega)
  have h4 : 48 ^ (without n [0]).length ≤ 48 ^ 4 := Nat.pow_le_pow_right (by decide) (by omega)
  unfold treeT
  omega
theorem for_le {n m : Nat} {xs : List Int} (h : Drn n m xs) {a b : Int} (ha : 0 ≤ a ∧ a < n) (hb : 0 ≤ b ∧ b < n) : 0 ≤ forZ n m xs a b ∧ forZ n m xs a b ≤ 110592 := by
  have h5 := h.five
  by_cases e : a = b
  · rw [e, forZ_self]; omega
  · have p := for_pos h ha hb e
    refine ⟨by omega, ?_⟩
    have h1 := minor48 h [a, b]
    have h3 := without_lt2 (k := n) (l := [a, b]) (x := a) (y := b) (by simp) (by simp) e ha hb
    have h4 : 48 ^ (without n [a, b]).length ≤ 48 ^ 3 := Nat.pow_le_pow_right (by decide) (by omega)
    unfold forZ
    rw [if_neg e]
    unfold forT
    omega
end Go.Proofs.Ytahicfpnmjofhab

namespace Go.Proofs.Ytahicfpnmjofhab

open Go.RowKit

/-- The wires of a network that is being drawn. -/
structure Dwn (n : Nat) (c : Nat) (l : List Wr) : Prop where
  ok : ∀ e ∈ l, 0 ≤ e.a ∧ e.a < e.b ∧ e.b < n ∧ 1 ≤ e.w ∧ e.w ≤ 6
  sorted : l.Pairwise ltW
  down : ∀ v : Nat, 1 ≤ v → v < c → ∃ e ∈ l, e.b = (v : Int)
theorem Dwn.nil (n : Nat) : Dwn n 1 [] := ⟨by simp, List.Pairwise.nil, fun v h1 h2 => by omega⟩
theorem Dwn.put {n c : Nat} {l : List Wr} (h : Dwn n c l) {a b w : Int} (ha : 0 ≤ a ∧ a < n) (hb : 0 ≤ b ∧ b < n) (hab : ¬ a = b) (hw : 1 ≤ w ∧ w ≤ 6) : Dwn n c (putW l a b w false) := by
  have e0 : putW l a b w false = insW ⟨min a b, max a b, w⟩ (dropE (min a b) (max a b) l) := by simp [putW]
  rw [e0]
  refine ⟨fun e he => ?_, insW_sorted (h.sorted.filter _) (fun e he => ?_), fun v h1 h2 => ?_⟩
  · rcases mem_insW.1 he with rfl | he
    · simp only; omega
    · exact h.ok e (List.mem_filter.1 he).1
  · have := (List.mem_filter.1 he).2
    intro k
    rw [isE_t k] at this
    cases this
  · obtain ⟨e, he, hv⟩ := h.down v h1 h2
    cases c : isE (min a b) (max a b) e with
    | true =>
      have := isE_of c
      exact ⟨_, mem_insW.2 (Or.inl rfl), by simp only; omega⟩
    | false => exact ⟨e, mem_insW.2 (Or.inr (List.mem_filter.2 ⟨he, by simp [c]⟩)), hv⟩
theorem Dwn.next {n c : Nat} {l : List Wr} (h : Dwn n c l) {a w : Int} (ha : 0 ≤ a ∧ a < c) (hc : c < n) (hw : 1 ≤ w ∧ w ≤ 6) : Dwn n (c + 1) (putW l a c w false) := by
  have h1 := h.put (a := a) (b := c) (w := w) (by omega) (by omega) (by omega) hw
  refine ⟨h1.ok, h1.sorted, fun v h2 h3 => ?_⟩
  by_cases e : v = c
  · subst e
    refine ⟨⟨min a v, max a v, w + 0⟩, ?_, by simp only; omega⟩
    unfold putW
    exact mem_insW.2 (Or.inl (by simp))
  · exact h1.down v h2 (by omega)

/-! ### the network is valid -/
theorem wW (l : List Wr) (k : Nat) (h : k < l.length) : wa (flatW l) k = (l[k]).a ∧ wb (flatW l) k = (l[k]).b ∧ ww (flatW l) k = (l[k]).w := by
  have h1 := flatW_get l k h
  rw [nthW_eq l k h] at h1
  exact h1
theorem dwn_good {n c : Nat} {l : List Wr} (h : Dwn n c l) : ∀ k, k < l.length → goodW n (flatW l) k := fun k hk => by
  obtain ⟨e1, e2, e3⟩ := wW l k hk
  obtain ⟨o1, o2, o3, o4, o5⟩ := h.ok l[k] (List.getElem_mem hk)
  refine ⟨?_, fun h0 => ?_⟩
  · unfold okW; rw [e1, e2, e3]; omega
  · obtain ⟨f1, f2, _⟩ := wW l (k - 1) (by omega)
    have := (List.pairwise_iff_getElem.1 h.sorted) (k - 1) k (by omega) hk (by omega)
    unfold ordW
    rw [e1, e2, f1, f2]
    unfold ltW at this
    omega
theorem dwn_drn {n : Nat} {l : List Wr} (h : Dwn n n l) (h2 : 2 ≤ n) (h5 : n ≤ 5) : Drn n l.length (flatW l) :=
  ⟨h2, h5, dwn_good h, fun k hk => by rw [(wW l k hk).2.2]; exact (h.ok _ (List.getElem_mem hk)).2.2.2.2, fun v h1 hv => by
    obtain ⟨e, he, hb⟩ := h.down v h1 hv
    obtain ⟨k, hk, rfl⟩ := List.getElem_of_mem he
    exact ⟨k, hk, by rw [(wW l k hk).2.1]; exact hb⟩⟩
def downL (N : Nat) (l : List (Nat × Nat)) : Bool := (List.range N).all fun v => v == 0 || l.any fun e => e.2 == v
theorem down_all : ([1, 2, 3, 4, 5].all fun N => (subs (univ N)).all (fun l => !downL N l || mconn N l)) = true := by decide +kernel
theorem down_conn {N : Nat} {l : List (Nat × Nat)} (h1 : 1 ≤ N) (h5 : N ≤ 5) (hl : List.Sublist l (univ N)) (hd : downL N l = true) : mconn N l = true := by
  have h := down_all
  rw [List.all_eq_true] at h
  have hN : N ∈ [1, 2, 3, 4, 5] := by simp; omega
  have h' := h N hN
  rw [List.all_eq_true] at h'
  have := h' l (mem_subs hl)
  rw [hd] at this
  simpa using this
theorem drn_net {n m : Nat} {xs : List Int} (h : Drn n m xs) {E S : Int} (hE : 1 ≤ E ∧ E ≤ n) (hS : 1 ≤ S ∧ S ≤ 1000) : netB n E S m xs = true := by
  have h2 := h.two
  have h5 := h.five
  refine netB_true ⟨by omega, hE, hS, h.good, ?_⟩
  rw [show ((n : Int)).toNat = n by omega]
  have hs := prs_sub (by omega) h.good
  rw [show ((n : Int)).toNat = n by omega] at hs
  refine down_conn (by omega) h5 hs ?_
  simp only [downL, List.all_eq_true, List.mem_range]
  intro v hv
  by_cases e : v = 0
  · subst e; rfl
  · obtain ⟨k, hk, hb⟩ := h.down v (by omega) hv
    simp only [Bool.or_eq_true]
    right
    simp only [List.any_eq_true]
    refine ⟨((wa xs k).toNat, (wb xs k).toNat), ?_, by simp [hb]⟩
    simp only [prs, List.mem_map, List.mem_range]
    exact ⟨k, hk, rfl⟩
end Go.Proofs.Ytahicfpnmjofhab

namespace Go.Proofs.Ytahicfpnmjofhab

theorem ratioOf_mul {k : Nat} (hk : 0 < k) (a b : Int) : ratioOf ((k : Int) * a) ((k : Int) * b) = ratioOf a b := by
  unfold ratioOf
  by_cases h0 : b = 0
  · rw [if_pos h0, if_pos (by rw [h0]; simp)]
  · have h1 : ¬ (k : Int) * b = 0 := by
      intro h
      rcases Int.mul_eq_zero.1 h with h | h
      · omega
      · exact h0 h
    rw [if_neg h0, if_neg h1]
    have e : gcdN ((k : Int) * a) ((k : Int) * b) = k * gcdN a b := by
      unfold gcdN
      rw [Int.natAbs_mul, Int.natAbs_mul, Int.natAbs_natCast, Nat.gcd_mul_left]
    have e1 : ((k : Int) * a).natAbs / (k * gcdN a b) = a.natAbs / gcdN a b := by rw [Int.natAbs_mul, Int.natAbs_natCast, Nat.mul_div_mul_left _ _ hk]
    have e2 : ((k : Int) * b).natAbs / (k * gcdN a b) = b.natAbs / gcdN a b := by rw [Int.natAbs_mul, Int.natAbs_natCast, Nat.mul_div_mul_left _ _ hk]
    have hk' : (0 : Int) < k := by omega
    have s1 : ((k : Int) * a < 0) ↔ a < 0 := ⟨fun h => by
      rcases Int.lt_or_le a 0 with h2 | h2
      · exact h2
      · have := Int.mul_nonneg (Int.le_of_lt hk') h2; omega, fun h => Int.mul_neg_of_pos_of_neg hk' h⟩
    have s2 : ((k : Int) * b < 0) ↔ b < 0 := ⟨fun h => by
      rcases Int.lt_or_le b 0 with h2 | h2
      · exact h2
      · have := Int.mul_nonneg (Int.le_of_lt hk') h2; omega, fun h => Int.mul_neg_of_pos_of_neg hk' h⟩
    simp only [e, e1, e2, s1, s2]
theorem ratioOf_eq {a b c d : Int} (hb : 0 < b) (hd : 0 < d) (h : a * d = c * b) : ratioOf a b = ratioOf c d := by
  obtain ⟨p, rfl⟩ : ∃ p : Nat, b = p := ⟨b.toNat, by omega⟩
  obtain ⟨q, rfl⟩ : ∃ q : Nat, d = q := ⟨d.toNat, by omega⟩
  rw [← ratioOf_mul (k := q) (by omega) a p, ← ratioOf_mul (k := p) (by omega) c q]
  rw [Int.mul_comm (q : Int) a, h, Int.mul_comm c, Int.mul_comm (q : Int) p]
/-- A small fraction in its lowest terms. -/
theorem rat_form {a b : Int} (h1 : 0 < b) (h2 : b ≤ 1000000000000000) (h3 : -1000000000000000000 ≤ a) (h4 : a ≤ 1000000000000000000) :
    ∃ g : Nat, 0 < g ∧ a = g * (ratioOf a b).n ∧ b = g * (ratioOf a b).d ∧ ratioOk (ratioOf a b).n (ratioOf a b).d = true := by
  have hb : b ≠ 0 := by omega
  have hg := gcdN_pos (n := a) hb
  obtain ⟨x, hx⟩ := gcdN_dvd_left a b
  obtain ⟨y, hy⟩ := gcdN_dvd_right a b
  have ex : a.natAbs / gcdN a b = x := by rw [hx]; exact Nat.mul_div_cancel_left x hg
  have ey : b.natAbs / gcdN a b = y := by rw [hy]; exact Nat.mul_div_cancel_left y hg
  have lx : x ≤ a.natAbs := by rw [← ex]; exact Nat.div_le_self _ _
  have ly : y ≤ b.natAbs := by rw [← ey]; exact Nat.div_le_self _ _
  have y0 : y ≠ 0 := fun e => by rw [e] at hy; omega
  have hr : ratioOf a b = ⟨if a < 0 then -(x : Int) else (x : Int), (y : Int)⟩ := by
    unfold ratioOf
    rw [if_neg hb]
    simp only [ex, ey]
    rw [if_neg (by omega)]
    congr 1
    by_cases c : a < 0
    · rw [if_pos c, if_neg (by simp [c]; omega)]
    · rw [if_neg c, if_pos (by simp [c]; omega)]
  refine ⟨gcdN a b, hg, ?_, ?_, ?_⟩
  · rw [hr]
    have : ((gcdN a b * x : Nat) : Int) = (gcdN a b : Int) * (x : Int) := Int.natCast_mul _ _
    simp only
    split
    · rw [Int.mul_neg]; omega
    · omega
  · rw [hr]
    have : ((gcdN a b * y : Nat) : Int) = (gcdN a b : Int) * (y : Int) := Int.natCast_mul _ _
    simp only
    omega
  · rcases ratioOf_ok a b with h | h
    · rw [hr] at h
      have := congrArg Rt.d h
      simp only [zeroR] at this
      omega
    · exact h
theorem natAbs_le_mul {g : Nat} (hg : 0 < g) (x : Int) : x.natAbs ≤ (g * x).natAbs := by
  rw [Int.natAbs_mul, Int.natAbs_natCast]
  exact Nat.le_mul_of_pos_left _ hg
theorem fits_of {a b c d : Int} (h : (c * d).natAbs ≤ 1000000000000000000) (h1 : a.natAbs ≤ c.natAbs) (h2 : b.natAbs ≤ d.natAbs) : fitsB a b = true := by
  unfold fitsB
  rw [decide_eq_true_eq]
  refine Nat.le_trans ?_ h
  rw [Int.natAbs_mul, Int.natAbs_mul]
  exact Nat.mul_le_mul h1 h2
/-- a / b with |a| up to A and b up to B. -/
def smallQ (a b A B : Int) : Prop := -A ≤ a ∧ a ≤ A ∧ 0 < b ∧ b ≤ B
theorem na_mul_le {a b A B : Int} (ha : -A ≤ a) (ha2 : a ≤ A) (hb : -B ≤ b) (hb2 : b ≤ B) : (a * b).natAbs ≤ (A * B).natAbs := by
  rw [Int.natAbs_mul, Int.natAbs_mul]
  exact Nat.mul_le_mul (by omega) (by omega)
theorem calc_of {a b c d A B C D : Int} (h1 : smallQ a b A B) (h2 : smallQ c d C D) (q1 : (A * D).natAbs ≤ 1000000000000000000) (q2 : (C * B).natAbs ≤ 1000000000000000000) (q3 : (B * D).natAbs ≤ 1000000000000000000) (q4 : (A * C).natAbs ≤ 1000000000000000000)
    (hA : A ≤ 1000000000000000000) (hB : B ≤ 1000000000000000) (hC : C ≤ 1000000000000000000) (hD : D ≤ 1000000000000000) :
    ∃ g k : Nat, 0 < g ∧ 0 < k ∧ a = g * (ratioOf a b).n ∧ b = g * (ratioOf a b).d ∧ c = k * (ratioOf c d).n ∧ d = k * (ratioOf c d).d ∧ calcB (ratioOf a b) (ratioOf c d) = true := by
  obtain ⟨a1, a2, b1, b2⟩ := h1
  obtain ⟨c1, c2, d1, d2⟩ := h2
  obtain ⟨g, g0, ga, gb, gok⟩ := rat_form (a := a) b1 (by omega) (by omega) (by omega)
  obtain ⟨k, k0, kc, kd, kok⟩ := rat_form (a := c) d1 (by omega) (by omega) (by omega)
  refine ⟨g, k, g0, k0, ga, gb, kc, kd, ?_⟩
  have na := natAbs_le_mul g0 (ratioOf a b).n
  have nb := natAbs_le_mul g0 (ratioOf a b).d
  have nc := natAbs_le_mul k0 (ratioOf c d).n
  have nd := natAbs_le_mul k0 (ratioOf c d).d
  rw [← ga] at na
  rw [← gb] at nb
  rw [← kc] at nc
  rw [← kd] at nd
  rw [calcB_iff]
  refine ⟨gok, kok, fits_of (Nat.le_trans (na_mul_le a1 a2 (by omega) d2) q1) na nd, fits_of (Nat.le_trans (na_mul_le c1 c2 (by omega) b2) q2) nc nb, fits_of (Nat.le_trans (na_mul_le (by omega) b2 (by omega) d2) q3) nb nd, fits_of (Nat.le_trans (na_mul_le a1 a2 c1 c2) q4) na nc⟩
theorem sum_q {a b c d A B C D : Int} (h1 : smallQ a b A B) (h2 : smallQ c d C D) (q1 : (A * D).natAbs ≤ 1000000000000000000) (q2 : (C * B).natAbs ≤ 1000000000000000000) (q3 : (B * D).natAbs ≤ 1000000000000000000) (q4 : (A * C).natAbs ≤ 1000000000000000000)
    (hA : A ≤ 1000000000000000000) (hB : B ≤ 1000000000000000) (hC : C ≤ 1000000000000000000) (hD : D ≤ 1000000000000000) :
    ratioSum (ratioOf a b) (ratioOf c d) = ratioOf (a * d + c * b) (b * d) := by
  obtain ⟨g, k, g0, k0, ga, gb, kc, kd, hc⟩ := calc_of h1 h2 q1 q2 q3 q4 hA hB hC hD
  unfold ratioSum
  rw [if_pos hc]
  generalize ratioOf a b = r at *
  generalize ratioOf c d = s at *
  rw [← ratioOf_mul (k := g * k) (Nat.mul_pos g0 k0)]
  rw [ga, gb, kc, kd, Int.natCast_mul]
  congr 1
  · grind
  · grind
theorem times_q {a b c d A B C D : Int} (h1 : smallQ a b A B) (h2 : smallQ c d C D) (q1 : (A * D).natAbs ≤ 1000000000000000000) (q2 : (C * B).natAbs ≤ 1000000000000000000) (q3 : (B * D).natAbs ≤ 1000000000000000000) (q4 : (A * C).natAbs ≤ 1000000000000000000)
    (hA : A ≤ 1000000000000000000) (hB : B ≤ 1000000000000000) (hC : C ≤ 1000000000000000000) (hD : D ≤ 1000000000000000) :
    ratioTimes (ratioOf a b) (ratioOf c d) = ratioOf (a * c) (b * d) := by
  obtain ⟨g, k, g0, k0, ga, gb, kc, kd, hc⟩ := calc_of h1 h2 q1 q2 q3 q4 hA hB hC hD
  unfold ratioTimes
  rw [if_pos hc]
  generalize ratioOf a b = r at *
  generalize ratioOf c d = s at *
  rw [← ratioOf_mul (k := g * k) (Nat.mul_pos g0 k0)]
  rw [ga, gb, kc, kd, Int.natCast_mul]
  congr 1
  · grind
  · grind
/-- Fractions over one denominator. -/
theorem sum_same {a c b A C B : Int} (h1 : smallQ a b A B) (h2 : smallQ c b C B) (q1 : (A * B).natAbs ≤ 1000000000000000000) (q2 : (C * B).natAbs ≤ 1000000000000000000) (q3 : (B * B).natAbs ≤ 1000000000000000000) (q4 : (A * C).natAbs ≤ 1000000000000000000)
    (hA : A ≤ 1000000000000000000) (hC : C ≤ 1000000000000000000) (hB : B ≤ 1000000000000000) : ratioSum (ratioOf a b) (ratioOf c b) = ratioOf (a + c) b := by
  rw [sum_q h1 h2 q1 q2 q3 q4 hA hB hC hB]
  have h0 := h1.2.2.1
  refine ratioOf_eq (Int.mul_pos h0 h0) h0 ?_
  rw [← Int.add_mul, Int.mul_assoc]
theorem ratioOf_int {a b k : Int} (hb : 0 < b) (h : a = k * b) (h1 : -1000000000000000000 ≤ k) (h2 : k ≤ 1000000000000000000) : ratioOf a b = ⟨k, 1⟩ := by
  rw [ratioOf_eq hb (d := 1) (c := k) (by decide) (by rw [Int.mul_one]; exact h)]
  unfold ratioOf gcdN
  simp only [Int.natAbs_one, Nat.gcd_one_right, Nat.div_one]
  rw [if_neg (by decide), if_neg (by omega)]
  congr 1
  by_cases c : k < 0
  · rw [if_neg (by simp [c])]; omega
  · rw [if_pos (by constructor <;> (intro; omega))]; omega
theorem ratioOf_nn {a b : Int} (hb : 0 < b) (ha : 0 ≤ a) : 0 ≤ (ratioOf a b).n := by
  unfold ratioOf
  rw [if_neg (by omega)]
  simp only
  split
  · simp [zeroR]
  · rw [if_pos (by constructor <;> (intro; omega))]; exact Int.natCast_nonneg _
theorem ratioOf_pos {a b : Int} (hb : 0 < b) (hb2 : b ≤ 1000000000000000) (ha : 0 < a) (ha2 : a ≤ 1000000000000000000) : 1 ≤ (ratioOf a b).n := by
  obtain ⟨g, g0, ga, _, _⟩ := rat_form (a := a) hb hb2 (by omega) ha2
  have := ratioOf_nn (a := a) hb (by omega)
  rcases Int.lt_or_le 0 (ratioOf a b).n with h | h
  · omega
  · have : (ratioOf a b).n = 0 := by omega
    rw [this] at ga
    simp at ga
    omega
end Go.Proofs.Ytahicfpnmjofhab

namespace Go.Proofs.Ytahicfpnmjofhab

open Go.RowKit

theorem sumTo_mul (c : Int) (f : Nat → Int) : ∀ k, sumTo (fun u => c * f u) k = c * sumTo f k
  | 0 => by simp [sumTo]
  | k + 1 => by simp only [sumTo, sumTo_mul c f k, Int.mul_add]
theorem sumTo_sub (f g : Nat → Int) : ∀ k, sumTo (fun u => f u - g u) k = sumTo f k - sumTo g k
  | 0 => rfl
  | k + 1 => by simp only [sumTo, sumTo_sub f g k]; omega
theorem sumTo_zero : ∀ k, sumTo (fun _ => (0 : Int)) k = 0
  | 0 => rfl
  | k + 1 => by simp only [sumTo, sumTo_zero k]; rfl
theorem sumTo_swap (f : Nat → Nat → Int) (k : Nat) : ∀ n, sumTo (fun u => sumTo (f u) k) n = sumTo (fun v => sumTo (fun u => f u v) n) k
  | 0 => by simp only [sumTo]; rw [sumTo_zero]
  | n + 1 => by simp only [sumTo, sumTo_swap f k n]; rw [← sumTo_add]
theorem sumTo_nn {f : Nat → Int} {B : Int} : ∀ {k : Nat}, (∀ u, u < k → 0 ≤ f u ∧ f u ≤ B) → 0 ≤ sumTo f k ∧ sumTo f k ≤ B * k
  | 0, _ => by simp [sumTo]
  | k + 1, h => by
    have ih := sumTo_nn (k := k) (fun u hu => h u (by omega))
    have h1 := h k (by omega)
    have e : B * ((k + 1 : Nat) : Int) = B * k + B := by rw [Int.natCast_add, Int.mul_add]; simp
    simp only [sumTo]
    omega
theorem mul_nn {a b A B : Int} (h1 : 0 ≤ a) (h2 : a ≤ A) (h3 : 0 ≤ b) (h4 : b ≤ B) : 0 ≤ a * b ∧ a * b ≤ A * B :=
  ⟨Int.mul_nonneg h1 h3, Int.mul_le_mul h2 h4 h3 (by omega)⟩
section
variable {n m : Nat} {xs : List Int}
theorem wat_pos (h : Drn n m xs) {v : Int} (hv : 0 ≤ v ∧ v < n) : 1 ≤ wat xs v m := by
  have h2 := h.two
  have key : ∀ u : Nat, u < n → ∀ k : Nat, u < k → wbet xs m v u ≤ sumTo (fun (u : Nat) => wbet xs m v u) k := fun u _ k => by
    induction k with
    | zero => intro h; omega
    | succ k ih =>
      intro hk
      simp only [sumTo]
      by_cases e : u = k
      · subst e
        have := (sumTo_nn (f := fun (u : Nat) => wbet xs m v u) (B := 6) (k := u) (fun i _ => ⟨wbet_nn h v i, wbet_six h v i⟩)).1
        omega
      · have := ih (by omega)
        have := wbet_nn h v (k : Int)
        omega
  rw [← wat_sum hv.1 hv.2 h.good]
  obtain ⟨x, rfl⟩ : ∃ x : Nat, v = x := ⟨v.toNat, by omega⟩
  by_cases e : x = 0
  · subst e
    obtain ⟨p, hp, h1⟩ := down_sum h (v := 1) (by omega) (by omega)
    have : p = 0 := by omega
    subst this
    have := key 1 (by omega) n (by omega)
    exact Int.le_trans h1 this
  · obtain ⟨p, hp, h1⟩ := down_sum h (v := x) (by omega) (by omega)
    have := key p (by omega) n (by omega)
    rw [wbet_symm] at h1
    omega
theorem pot_half (h : Drn n m xs) {a b v : Int} (ha : 0 ≤ a ∧ a < n) (hb : 0 ≤ b ∧ b < n) (hv : 0 ≤ v ∧ v < n) (hab : ¬ a = b) : forZ n m xs a b + forZ n m xs v b - forZ n m xs a v = 2 * potV n m xs a b v :=
  pot_id h.five h.good ha hb hv hab
theorem pot_bd (h : Drn n m xs) {a b v : Int} (ha : 0 ≤ a ∧ a < n) (hb : 0 ≤ b ∧ b < n) (hv : 0 ≤ v ∧ v < n) (hab : ¬ a = b) : 0 ≤ potV n m xs a b v ∧ potV n m xs a b v ≤ 110592 := by
  have h1 := pot_half h ha hb hv hab
  have h2 := pot_nn h ha hb hv
  have h3 := for_le h ha hb
  have h4 := for_le h hv hb
  have h5 := for_le h ha hv
  omega
theorem pot_a (h : Drn n m xs) {a b : Int} (ha : 0 ≤ a ∧ a < n) (hb : 0 ≤ b ∧ b < n) (hab : ¬ a = b) : potV n m xs a b a = forZ n m xs a b := by
  have := pot_half h ha hb ha hab
  rw [forZ_self] at this
  omega
theorem pot_b (a b : Int) : potV n m xs a b b = 0 := potV_0 rfl
theorem pot_ab (h : Drn n m xs) {a b v : Int} (ha : 0 ≤ a ∧ a < n) (hb : 0 ≤ b ∧ b < n) (hv : 0 ≤ v ∧ v < n) (hab : ¬ a = b) : potV n m xs a b v + potV n m xs b a v = forZ n m xs a b := by
  have h1 := pot_half h ha hb hv hab
  have h2 := pot_half h hb ha hv (fun e => hab e.symm)
  rw [forZ_symm n m xs b a, forZ_symm n m xs b v] at h2
  rw [forZ_symm n m xs a v] at h1
  omega
/-- Kirchhoff's law, parted. -/
theorem kir_part (h : Drn n m xs) {a y : Int} (ha : 0 ≤ a ∧ a < n) (hy : 0 ≤ y ∧ y < n) (hay : ¬ a = y) :
    wat xs a m * forZ n m xs a y - sumTo (fun (w : Nat) => wbet xs m a w * forZ n m xs w y) n + sumTo (fun (w : Nat) => wbet xs m a w * forZ n m xs w a) n = 2 * treeT n m xs := by
  rw [← kirchhoff h ha hy hay]
  have e : ∀ w : Nat, wbet xs m a w * (forZ n m xs a y - forZ n m xs w y + forZ n m xs w a) = forZ n m xs a y * wbet xs m a w - wbet xs m a w * forZ n m xs w y + wbet xs m a w * forZ n m xs w a := fun w => by grind
  rw [sumTo_congr (k := n) (fun u _ => e u), sumTo_add, sumTo_sub, sumTo_mul, wat_sum ha.1 ha.2 h.good, Int.mul_comm]
/-- The sum of the potentials of a's neighbours, b on 0. -/
theorem pot_sum (h : Drn n m xs) {a b v : Int} (ha : 0 ≤ a ∧ a < n) (hb : 0 ≤ b ∧ b < n) (hab : ¬ a = b) (hv : 0 ≤ v ∧ v < n) :
    2 * sumTo (fun (w : Nat) => wbet xs m v w * potV n m xs a b w) n = wat xs v m * forZ n m xs a b + sumTo (fun (w : Nat) => wbet xs m v w * forZ n m xs w b) n - sumTo (fun (w : Nat) => wbet xs m v w * forZ n m xs w a) n := by
  rw [← sumTo_mul]
  have e : ∀ w : Nat, w < n → 2 * (wbet xs m v w * potV n m xs a b w) = forZ n m xs a b * wbet xs m v w + wbet xs m v w * forZ n m xs w b - wbet xs m v w * forZ n m xs w a := fun w hw => by
    have := pot_half h ha hb (v := (w : Int)) (by omega) hab
    rw [forZ_symm n m xs a w] at this
    grind
  rw [sumTo_congr (k := n) e, sumTo_sub, sumTo_add, sumTo_mul, wat_sum hv.1 hv.2 h.good, Int.mul_comm]

/-! ### FnWalks -/
theorem away_all (h : Drn n m xs) {a b : Int} (ha : 0 ≤ a ∧ a < n) (hb : 0 ≤ b ∧ b < n) (hab : ¬ a = b) : sumTo (fun (w : Nat) => wbet xs m a w * potV n m xs b a w) n = treeT n m xs := by
  have h1 := pot_sum h hb ha (fun e => hab e.symm) ha
  have h2 := kir_part h ha hb hab
  rw [forZ_symm n m xs b a] at h1
  omega
theorem step_all (h : Drn n m xs) {a : Int} (ha : 0 ≤ a ∧ a < n) : sumTo (fun (w : Nat) => wbet xs m a w) n = wat xs a m := wat_sum ha.1 ha.2 h.good
theorem wtAll_pos (h : Drn n m xs) : 1 ≤ wtAll xs m ∧ wtAll xs m ≤ 120 := by
  have h2 := h.two
  have h5 := h.five
  rw [← watS_all h.good]
  have key : ∀ k : Nat, k ≤ n → (k : Int) ≤ watS xs m k ∧ watS xs m k ≤ 24 * k := fun k => by
    induction k with
    | zero => intro _; simp [watS]
    | succ k ih =>
      intro hk
      have := ih (by omega)
      have h3 := wat_pos h (v := (k : Int)) (by omega)
      have h4 := (wat_24 h (v := (k : Int)) (by omega)).2
      simp only [watS]
      omega
  have := key n (Nat.le_refl _)
  omega
theorem share_same (h : Drn n m xs) {a w : Int} (ha : 0 ≤ a ∧ a < n) (hw : 0 ≤ w ∧ w < n) :
    ratioTimes (ratioOf (wat xs a m) (wtAll xs m)) (ratioOf (wbet xs m a w) (wat xs a m)) = ratioTimes (ratioOf (wat xs w m) (wtAll xs m)) (ratioOf (wbet xs m w a) (wat xs w m)) := by
  have a1 := wat_pos h ha
  have a2 := (wat_24 h ha).2
  have b1 := wat_pos h hw
  have b2 := (wat_24 h hw).2
  have t1 := wtAll_pos h
  have c1 := wbet_nn h a w
  have c2 := wbet_six h a w
  rw [wbet_symm xs m w a]
  rw [times_q (A := 24) (B := 120) (C := 6) (D := 24) (by unfold smallQ; omega) (by unfold smallQ; omega) (by decide) (by decide) (by decide) (by decide) (by decide) (by decide) (by decide) (by decide)]
  rw [times_q (A := 24) (B := 120) (C := 6) (D := 24) (by unfold smallQ; omega) (by unfold smallQ; omega) (by decide) (by decide) (by decide) (by decide) (by decide) (by decide) (by decide) (by decide)]
  exact ratioOf_eq (Int.mul_pos (by omega) (by omega)) (Int.mul_pos (by omega) (by omega)) (by grind)
theorem stepP_bd (h : Drn n m xs) (a : Int) {k : Nat} (hk : k ≤ n) : 0 ≤ sumTo (fun (w : Nat) => wbet xs m a w) k ∧ sumTo (fun (w : Nat) => wbet xs m a w) k ≤ 30 := by
  have h5 := h.five
  have := sumTo_nn (f := fun (w : Nat) => wbet xs m a w) (B := 6) (k := k) (fun i _ => ⟨wbet_nn h a i, wbet_six h a i⟩)
  omega
theorem step_next (h : Drn n m xs) {a : Int} (ha : 0 ≤ a ∧ a < n) {k : Nat} (hk : k < n) :
    ratioSum (ratioOf (sumTo (fun (w : Nat) => wbet xs m a w) k) (wat xs a m)) (ratioOf (wbet xs m a k) (wat xs a m)) = ratioOf (sumTo (fun (w : Nat) => wbet xs m a w) (k + 1)) (wat xs a m) := by
  have a1 := wat_pos h ha
  have a2 := (wat_24 h ha).2
  have b1 := stepP_bd h a (k := k) (by omega)
  have c1 := wbet_nn h a k
  have c2 := wbet_six h a k
  exact sum_same (A := 30) (C := 6) (B := 24) (by unfold smallQ; omega) (by unfold smallQ; omega) (by decide) (by decide) (by decide) (by decide) (by decide) (by decide) (by decide)
/-- Any mean over the first k neighbours of v. -/
theorem mean_next (h : Drn n m xs) {v : Int} (hv : 0 ≤ v ∧ v < n) (f : Nat → Int) {F z : Int} (hF : 1 ≤ F ∧ F ≤ 10616832) (hf : ∀ u, u < n → 0 ≤ f u ∧ f u ≤ 26542080) (hz : 0 ≤ z ∧ z ≤ 254803968) {k : Nat} (hk : k < n) :
    ratioSum (ratioOf (z + sumTo (fun (w : Nat) => wbet xs m v w * f w) k) (wat xs v m * F)) (ratioTimes (ratioOf (wbet xs m v k) (wat xs v m)) (ratioOf (f k) F)) = ratioOf (z + sumTo (fun (w : Nat) => wbet xs m v w * f w) (k + 1)) (wat xs v m * F) := by
  have h5 := h.five
  have a1 := wat_pos h hv
  have a2 := (wat_24 h hv).2
  have c1 := wbet_nn h v k
  have c2 := wbet_six h v k
  have f1 := hf k hk
  have p1 := mul_nn (a := wat xs v m) (b := F) (A := 24) (B := 10616832) (by omega) a2 (by omega) hF.2
  have p2 := Int.mul_pos (a := wat xs v m) (b := F) (by omega) (by omega)
  have p3 := mul_nn c1 c2 f1.1 f1.2
  have s1 := sumTo_nn (f := fun (w : Nat) => wbet xs m v w * f w) (B := 6 * 26542080) (k := k) (fun u hu => mul_nn (wbet_nn h v u) (wbet_six h v u) (hf u (by omega)).1 (hf u (by omega)).2)
  rw [times_q (A := 6) (B := 24) (C := 26542080) (D := 10616832) (by unfold smallQ; omega) (by unfold smallQ; omega) (by decide) (by decide) (by decide) (by decide) (by decide) (by decide) (by decide) (by decide)]
  have e : z + sumTo (fun (w : Nat) => wbet xs m v w * f w) (k + 1) = z + sumTo (fun (w : Nat) => wbet xs m v w * f w) k + wbet xs m v k * f k := by simp only [sumTo]; omega
  rw [e]
  exact sum_same (A := 1051066368) (C := 159252480) (B := 254803968) (by unfold smallQ; omega) (by unfold smallQ; omega) (by decide) (by decide) (by decide) (by decide) (by decide) (by decide) (by decide)

/-! ### FnHits -/
theorem hits_sum (h : Drn n m xs) {a b v : Int} (ha : 0 ≤ a ∧ a < n) (hb : 0 ≤ b ∧ b < n) (hv : 0 ≤ v ∧ v < n) (hab : ¬ a = b) :
    ratioSum (ratioOf (potV n m xs a b v) (forZ n m xs a b)) (ratioOf (potV n m xs b a v) (forZ n m xs b a)) = ⟨1, 1⟩ := by
  have p := for_pos h ha hb hab
  have q := (for_le h ha hb).2
  have h1 := pot_bd h ha hb hv hab
  have h2 := pot_bd h hb ha hv (fun e => hab e.symm)
  rw [forZ_symm n m xs b a]
  rw [sum_same (A := 110592) (C := 110592) (B := 110592) (by unfold smallQ; omega) (by unfold smallQ; omega) (by decide) (by decide) (by decide) (by decide) (by decide) (by decide) (by decide), pot_ab h ha hb hv hab]
  exact ratioOf_int (by omega) (by omega) (by decide) (by decide)
theorem hits_mean (h : Drn n m xs) {a b v : Int} (ha : 0 ≤ a ∧ a < n) (hb : 0 ≤ b ∧ b < n) (hv : 0 ≤ v ∧ v < n) (hab : ¬ a = b) (hva : ¬ v = a) (hvb : ¬ v = b) :
    ratioOf (sumTo (fun (w : Nat) => wbet xs m v w * potV n m xs a b w) n) (wat xs v m * forZ n m xs a b) = ratioOf (potV n m xs a b v) (forZ n m xs a b) := by
  have a1 := wat_pos h hv
  have p := for_pos h ha hb hab
  have h1 := pot_sum h ha hb hab hv
  have h2 := kir_part h hv hb hvb
  have h3 := kir_part h hv ha hva
  have h4 := pot_half h ha hb hv hab
  rw [forZ_symm n m xs a v] at h4
  have e : sumTo (fun (w : Nat) => wbet xs m v w * potV n m xs a b w) n = wat xs v m * potV n m xs a b v := by grind
  rw [e]
  exact ratioOf_eq (Int.mul_pos (by omega) (by omega)) (by omega) (by grind)

/-! ### FnTimes -/
def hitZ (n m : Nat) (xs : List Int) (a b : Int) : Int := sumTo (fun (v : Nat) => wat xs v m * (forZ n m xs a b + forZ n m xs v b - forZ n m xs a v)) n
theorem hitZ_bd (h : Drn n m xs) {a b : Int} (ha : 0 ≤ a ∧ a < n) (hb : 0 ≤ b ∧ b < n) : 0 ≤ hitZ n m xs a b ∧ hitZ n m xs a b ≤ 26542080 := by
  have h5 := h.five
  have := sumTo_nn (f := fun (v : Nat) => wat xs v m * (forZ n m xs a b + forZ n m xs v b - forZ n m xs a v)) (B := 24 * 221184) (k := n) (fun u hu => by
    have h1 := wat_24 h (v := (u : Int)) (by omega)
    have h2 := pot_nn h ha hb (v := (u : Int)) (by omega)
    have h3 := for_le h ha hb
    have h4 := for_le h (a := (u : Int)) (by omega) hb
    have h5 := for_le h ha (b := (u : Int)) (by omega)
    exact mul_nn h1.1 h1.2 h2 (by omega))
  unfold hitZ
  omega
theorem hitZ_sum (h : Drn n m xs) (a b : Int) : hitZ n m xs a b + hitZ n m xs b a = 2 * (wtAll xs m * forZ n m xs a b) := by
  unfold hitZ
  rw [← sumTo_add]
  have e : ∀ u : Nat, wat xs u m * (forZ n m xs a b + forZ n m xs u b - forZ n m xs a u) + wat xs u m * (forZ n m xs b a + forZ n m xs u a - forZ n m xs b u) = 2 * forZ n m xs a b * wat xs u m := fun u => by
    rw [forZ_symm n m xs b a, forZ_symm n m xs a u, forZ_symm n m xs b u]; grind
  rw [sumTo_congr (k := n) (fun u _ => e u), sumTo_mul]
  have key : ∀ k : Nat, sumTo (fun (u : Nat) => wat xs u m) k = watS xs m k := fun k => by
    induction k with
    | zero => rfl
    | succ k ih => simp only [sumTo, watS, ih]
  rw [key, watS_all h.good]
  grind
theorem times_both (h : Drn n m xs) {a b : Int} (ha : 0 ≤ a ∧ a < n) (hb : 0 ≤ b ∧ b < n) :
    ratioSum (ratioOf (hitZ n m xs a b) (2 * treeT n m xs)) (ratioOf (hitZ n m xs b a) (2 * treeT n m xs)) = ratioOf (wtAll xs m * forZ n m xs a b) (treeT n m xs) := by
  have t1 := tree_pos h
  have t2 := tree_le h
  have h1 := hitZ_bd h ha hb
  have h2 := hitZ_bd h hb ha
  rw [sum_same (A := 26542080) (C := 26542080) (B := 10616832) (by unfold smallQ; omega) (by unfold smallQ; omega) (by decide) (by decide) (by decide) (by decide) (by decide) (by decide) (by decide), hitZ_sum h]
  exact ratioOf_eq (by omega) (by omega) (by grind)
theorem times_self (h : Drn n m xs) (a : Int) : ratioOf (hitZ n m xs a a) (2 * treeT n m xs) = ⟨0, 1⟩ := by
  have t1 := tree_pos h
  have e : hitZ n m xs a a = 0 := by
    have := hitZ_sum h a a
    rw [forZ_self] at this
    simp at this
    omega
  exact ratioOf_int (by omega) (by rw [e]; simp) (by decide) (by decide)
theorem times_num (h : Drn n m xs) {a b : Int} (ha : 0 ≤ a ∧ a < n) (hb : 0 ≤ b ∧ b < n) (hab : ¬ a = b) :
    wat xs a m * (2 * treeT n m xs) + sumTo (fun (w : Nat) => wbet xs m a w * hitZ n m xs w b) n = wat xs a m * hitZ n m xs a b := by
  obtain ⟨x, rfl⟩ : ∃ x : Nat, a = x := ⟨a.toNat, by omega⟩
  have inner : ∀ v : Nat, v < n → sumTo (fun (w : Nat) => wbet xs m x w * (wat xs v m * (forZ n m xs w b + forZ n m xs v b - forZ n m xs w v))) n
      = wat xs x m * (wat xs v m * (forZ n m xs x b + forZ n m xs v b - forZ n m xs x v)) - (if v = x then wat xs x m * (2 * treeT n m xs) else 0) := fun v hv => by
    have e : ∀ w : Nat, wbet xs m x w * (wat xs v m * (forZ n m xs w b + forZ n m xs v b - forZ n m xs w v)) = wat xs v m * (wbet xs m x w * forZ n m xs w b) + wat xs v m * forZ n m xs v b * wbet xs m x w - wat xs v m * (wbet xs m x w * forZ n m xs w v) := fun w => by grind
    rw [sumTo_congr (k := n) (fun u _ => e u), sumTo_sub, sumTo_add, sumTo_mul, sumTo_mul, sumTo_mul, wat_sum ha.1 ha.2 h.good]
    have k1 := kir_part h ha hb hab
    by_cases c : v = x
    · subst c
      rw [if_pos rfl, forZ_self]
      grind
    · rw [if_neg c]
      have k2 := kir_part h ha (y := (v : Int)) (by omega) (by omega)
      grind
  have e1 : sumTo (fun (w : Nat) => wbet xs m x w * hitZ n m xs w b) n = sumTo (fun (w : Nat) => sumTo (fun (v : Nat) => wbet xs m x w * (wat xs v m * (forZ n m xs w b + forZ n m xs v b - forZ n m xs w v))) n) n := by
    refine sumTo_congr (fun u _ => ?_)
    unfold hitZ
    rw [sumTo_mul]
  rw [e1, sumTo_swap, sumTo_congr inner, sumTo_sub, sumTo_mul]
  have key : ∀ k : Nat, sumTo (fun (v : Nat) => if v = x then wat xs x m * (2 * treeT n m xs) else 0) k = if x < k then wat xs x m * (2 * treeT n m xs) else 0 := fun k => by
    induction k with
    | zero => rw [if_neg (by omega)]; rfl
    | succ k ih =>
      simp only [sumTo, ih]
      by_cases c : k = x
      · rw [if_pos c, if_neg (by omega), if_pos (by omega)]; omega
      · rw [if_neg c]
        by_cases d : x < k
        · rw [if_pos d, if_pos (by omega)]; omega
        · rw [if_neg d, if_neg (by omega)]; omega
  rw [key, if_pos (by omega)]
  unfold hitZ
  omega
theorem times_mean (h : Drn n m xs) {a b : Int} (ha : 0 ≤ a ∧ a < n) (hb : 0 ≤ b ∧ b < n) (hab : ¬ a = b) :
    ratioOf (wat xs a m * (2 * treeT n m xs) + sumTo (fun (w : Nat) => wbet xs m a w * hitZ n m xs w b) n) (wat xs a m * (2 * treeT n m xs)) = ratioOf (hitZ n m xs a b) (2 * treeT n m xs) := by
  have t1 := tree_pos h
  have a1 := wat_pos h ha
  rw [times_num h ha hb hab]
  exact ratioOf_eq (Int.mul_pos (by omega) (by omega)) (by omega) (by grind)

/-! ### FnFoster -/
theorem wireS_bd (h : Drn n m xs) : ∀ {k : Nat}, k ≤ m → 0 ≤ wireS xs (forZ n m xs) k ∧ wireS xs (forZ n m xs) k ≤ 663552 * k
  | 0, _ => by simp [wireS]
  | k + 1, hk => by
    have ih := wireS_bd h (k := k) (by omega)
    obtain ⟨q0, q1, q2, q3, _⟩ := (h.good k (by omega)).1
    have h6 := h.six k (by omega)
    have h3 := for_le h (a := wa xs k) (b := wb xs k) (by omega) (by omega)
    have := mul_nn (by omega) h6 h3.1 h3.2
    simp only [wireS]
    omega
theorem fos_next (h : Drn n m xs) {k : Nat} (hk : k < m) :
    ratioSum (ratioOf (wireS xs (forZ n m xs) k) (treeT n m xs)) (ratioOf (ww xs k * forZ n m xs (wa xs k) (wb xs k)) (treeT n m xs)) = ratioOf (wireS xs (forZ n m xs) (k + 1)) (treeT n m xs) := by
  have t1 := tree_pos h
  have t2 := tree_le h
  have hm : m ≤ 10 := prs_len (N := n) (by have := h.five; omega) h.good
  have s1 := wireS_bd h (k := k) (by omega)
  obtain ⟨q0, q1, q2, q3, _⟩ := (h.good k (by omega)).1
  have h6 := h.six k (by omega)
  have h3 := for_le h (a := wa xs k) (b := wb xs k) (by omega) (by omega)
  have := mul_nn (by omega) h6 h3.1 h3.2
  exact sum_same (A := 6635520) (C := 663552) (B := 5308416) (by unfold smallQ; omega) (by unfold smallQ; omega) (by decide) (by decide) (by decide) (by decide) (by decide) (by decide) (by decide)
theorem fos_times (h : Drn n m xs) {k : Nat} (hk : k < m) {S : Int} (hS : 1 ≤ S ∧ S ≤ 3) :
    ratioTimes (ratioOf (S * forZ n m xs (wa xs k) (wb xs k)) (treeT n m xs)) (ratioOf (ww xs k) S) = ratioOf (ww xs k * forZ n m xs (wa xs k) (wb xs k)) (treeT n m xs) := by
  have t1 := tree_pos h
  have t2 := tree_le h
  obtain ⟨q0, q1, q2, q3, _⟩ := (h.good k (by omega)).1
  have h6 := h.six k (by omega)
  have h3 := for_le h (a := wa xs k) (b := wb xs k) (by omega) (by omega)
  have := mul_nn (by omega) hS.2 h3.1 h3.2
  rw [times_q (A := 331776) (B := 5308416) (C := 6) (D := 3) (by unfold smallQ; omega) (by unfold smallQ; omega) (by decide) (by decide) (by decide) (by decide) (by decide) (by decide) (by decide) (by decide)]
  exact ratioOf_eq (Int.mul_pos (by omega) (by omega)) (by omega) (by grind)
theorem fos_pos (h : Drn n m xs) {k : Nat} (hk : k < m) : 1 ≤ (ratioOf (ww xs k * forZ n m xs (wa xs k) (wb xs k)) (treeT n m xs)).n := by
  have t1 := tree_pos h
  have t2 := tree_le h
  obtain ⟨q0, q1, q2, q3, _⟩ := (h.good k (by omega)).1
  have h6 := h.six k (by omega)
  have h3 := for_le h (a := wa xs k) (b := wb xs k) (by omega) (by omega)
  have p := for_pos h (a := wa xs k) (b := wb xs k) (by omega) (by omega) (by omega)
  have := mul_nn (by omega) h6 h3.1 h3.2
  have := Int.mul_pos (a := ww xs k) (b := forZ n m xs (wa xs k) (wb xs k)) (by omega) (by omega)
  exact ratioOf_pos (by omega) (by omega) (by omega) (by omega)
theorem fos_end (h : Drn n m xs) : ratioOf (wireS xs (forZ n m xs) m) (treeT n m xs) = ⟨(n : Int) - 1, 1⟩ := by
  have t1 := tree_pos h
  have h5 := h.five
  exact ratioOf_int (by omega) (foster h) (by omega) (by omega)
theorem ratio_zero {b : Int} (hb : 1 ≤ b) : ratioOf 0 b = ⟨0, 1⟩ := ratioOf_int (by omega) (by simp) (by decide) (by decide)
theorem ratio_one {b : Int} (hb : 1 ≤ b) : ratioOf b b = ⟨1, 1⟩ := ratioOf_int (by omega) (by omega) (by decide) (by decide)
end
end Go.Proofs.Ytahicfpnmjofhab
