/- The network of a tiling, square by square: plain law. No program in sight. -/
import Derived.Test.YtenfkpdbfmeebaaPlNode
import Derived.Test.YtenfkpdbfmeebaaPlMesh
namespace Go.Proofs.Ytenfkpdbfmeebaa

/-- The nodes of the upper and the lower edge of square k. -/
def nodA (xs : List Int) (L : List (List Int)) (N : Nat) (k : Nat) : Int := nodeF N (idxF (hitImp L (sy xs k) (sx xs k) (ss xs k)) N)
def nodB (xs : List Int) (L : List (List Int)) (N : Nat) (k : Nat) : Int := nodeF N (idxF (hitImp L (sy xs k + ss xs k) (sx xs k) (ss xs k)) N)
def wirT (xs : List Int) (L : List (List Int)) (N : Nat) : Nat → List Wr
  | 0 => []
  | k + 1 => putW (wirT xs L N k) (nodA xs L N k) (nodB xs L N k) 1 true
def tabT (xs : List Int) (L : List (List Int)) (N : Nat) : Nat → Int → Int → Int
  | 0, _, _ => 0
  | k + 1, i, j => tabT xs L N k i j + (if i = min (nodA xs L N k) (nodB xs L N k) ∧ j = max (nodA xs L N k) (nodB xs L N k) then 1 else 0)
theorem tab_same (xs : List Int) (L : List (List Int)) (N : Nat) (i j : Int) : ∀ k, tabT xs L N k i j = sameS i j (wirT xs L N k)
  | 0 => rfl
  | k + 1 => by rw [tabT, wirT, sameS_putW, tab_same xs L N i j k]
theorem tab_bd (xs : List Int) (L : List (List Int)) (N : Nat) (i j : Int) : ∀ k : Nat, 0 ≤ tabT xs L N k i j ∧ tabT xs L N k i j ≤ k
  | 0 => by simp [tabT]
  | k + 1 => by
    have := tab_bd xs L N i j k
    unfold tabT
    split <;> omega
theorem wirT_len (xs : List Int) (L : List (List Int)) (N : Nat) : ∀ k, (wirT xs L N k).length ≤ k
  | 0 => Nat.le_refl _
  | k + 1 => by
    have h1 := wirT_len xs L N k
    have h2 := (putW_len (wirT xs L N k) (nodA xs L N k) (nodB xs L N k) 1 true).1
    rw [wirT]
    omega
theorem sameS_bd {a b : Int} {M : Nat} : ∀ {l : List Wr}, (∀ e ∈ l, 0 ≤ e.w ∧ e.w ≤ M) → 0 ≤ sameS a b l ∧ sameS a b l ≤ ((M * l.length : Nat) : Int)
  | [], _ => by simp [sameS]
  | e :: l, h => by
    have h1 := h e (by simp)
    have h2 := sameS_bd (a := a) (b := b) (l := l) (fun x hx => h x (List.mem_cons_of_mem _ hx))
    have e1 : M * (e :: l).length = M * l.length + M := by rw [List.length_cons, Nat.mul_add, Nat.mul_one]
    rw [e1]
    unfold sameS
    split <;> omega
theorem wirT_w (xs : List Int) (L : List (List Int)) (N : Nat) : ∀ k, ∀ e ∈ wirT xs L N k, 0 ≤ e.w ∧ e.w ≤ k
  | 0, e, he => by cases he
  | k + 1, e, he => by
    rw [wirT] at he
    unfold putW at he
    rcases mem_insW.1 he with rfl | he
    · have := tab_bd xs L N (min (nodA xs L N k) (nodB xs L N k)) (max (nodA xs L N k) (nodB xs L N k)) k
      rw [tab_same] at this
      simp only [if_true]
      omega
    · unfold dropE at he
      rw [List.mem_filter] at he
      have := wirT_w xs L N k e he.1
      omega
theorem wirT_add (xs : List Int) (L : List (List Int)) (N : Nat) (a b : Int) {k n : Nat} (hk : k ≤ n) (hn : n ≤ 12) (j : Nat) : 0 ≤ sameS a b ((wirT xs L N k).take j) ∧ sameS a b ((wirT xs L N k).take j) ≤ 144 := by
  have h := sameS_bd (a := a) (b := b) (M := k) (l := (wirT xs L N k).take j) (fun e he => wirT_w xs L N k e (List.mem_of_mem_take he))
  have h1 := wirT_len xs L N k
  have h2 : ((wirT xs L N k).take j).length ≤ 12 := by rw [List.length_take]; omega
  have h3 : k * ((wirT xs L N k).take j).length ≤ 12 * 12 := Nat.mul_le_mul (by omega) h2
  omega
section
variable {xs : List Int} {n W H N : Nat} {L : List (List Int)}
theorem low_ge2 {xs : List Int} : ∀ {k j : Nat}, j < k → sy xs j + ss xs j ≤ lowSq xs k
  | 0, j, h => by omega
  | k + 1, j, h => by
    simp only [lowSq]
    by_cases e : j = k
    · subst e; omega
    · have := low_ge2 (xs := xs) (k := k) (j := j) (by omega); omega
theorem nod_facts (hok : ∀ k, k < n → okSq xs k) (hW : rightSq xs n = (W : Int)) (hH : lowSq xs n = (H : Int)) (hL : L = levU xs n W (H + 1)) (hN : L.length = N) {k : Nat} (hk : k < n) :
    2 ≤ N ∧ (0 ≤ nodA xs L N k ∧ nodA xs L N k < N) ∧ (0 ≤ nodB xs L N k ∧ nodB xs L N k < N) ∧ nodA xs L N k ≠ nodB xs L N k ∧
    (∃ i : Nat, idxF (hitSeg L (sy xs k) (sx xs k)) N = (i : Int) ∧ nodeF N i = nodA xs L N k) ∧ (∃ i : Nat, idxF (hitSeg L (sy xs k + ss xs k) (sx xs k)) N = (i : Int) ∧ nodeF N i = nodB xs L N k) := by
  subst hN
  obtain ⟨c1, c2, c3, c4, c5, c6⟩ := hok k hk
  have hlo := low_ge2 (xs := xs) (k := n) (j := k) hk
  have side : ∀ y : Int, (sy xs k = y ∨ sy xs k + ss xs k = y) → ∃ i : Nat, idxF (hitImp L y (sx xs k) (ss xs k)) L.length = (i : Int) ∧ idxF (hitSeg L y (sx xs k)) L.length = (i : Int) ∧ i < L.length ∧ r0 L i = y := by
    intro y hy
    obtain ⟨y', rfl⟩ := Int.eq_ofNat_of_zero_le (show 0 ≤ y by omega)
    obtain ⟨i, hi, hh⟩ := hit_some (k := k) hok hW hL hk (y := y') (by omega) hy
    obtain ⟨j, e, _, h2, h3⟩ := first_some (p := hitSeg L (y' : Int) (sx xs k)) L.length 0 ⟨i, by omega, by omega, hh⟩
    refine ⟨j, ?_, e, by omega, ?_⟩
    · unfold idxF
      rw [first_congr (q := hitSeg L (y' : Int) (sx xs k)) L.length 0 (fun i _ hi => hit_same hok hW hL hk hy (by omega))]
      exact e
    · unfold hitSeg at h3
      simp only [Bool.and_eq_true, decide_eq_true_eq] at h3
      exact h3.1.1
  obtain ⟨i, a1, a2, a3, a4⟩ := side (sy xs k) (.inl rfl)
  obtain ⟨j, b1, b2, b3, b4⟩ := side (sy xs k + ss xs k) (.inr rfl)
  have hij : i ≠ j := fun e => by subst e; omega
  have h2 : 2 ≤ L.length := by omega
  have eA : nodA xs L L.length k = nodeF L.length i := by unfold nodA; rw [a1]
  have eB : nodB xs L L.length k = nodeF L.length j := by unfold nodB; rw [b1]
  refine ⟨h2, ?_, ?_, ?_, ⟨i, a2, eA.symm⟩, ⟨j, b2, eB.symm⟩⟩
  · rw [eA]; exact nodeF_bd (by omega) (by omega) (by omega)
  · rw [eB]; exact nodeF_bd (by omega) (by omega) (by omega)
  · rw [eA, eB]
    intro h
    have := nodeF_inj (by omega) (by omega) (by omega) (by omega) (by omega) h
    omega
/-- The wires are in order, and all of them valid. -/
theorem wirT_good (hok : ∀ k, k < n → okSq xs k) (hW : rightSq xs n = (W : Int)) (hH : lowSq xs n = (H : Int)) (hL : L = levU xs n W (H + 1)) (hN : L.length = N) : ∀ k, k ≤ n →
    (wirT xs L N k).Pairwise ltW ∧ ∀ e ∈ wirT xs L N k, 0 ≤ e.a ∧ e.a < e.b ∧ e.b < N ∧ 1 ≤ e.w
  | 0, _ => ⟨List.Pairwise.nil, fun e he => by cases he⟩
  | k + 1, hk => by
    obtain ⟨h1, h2⟩ := wirT_good hok hW hH hL hN k (by omega)
    obtain ⟨_, ⟨a1, a2⟩, ⟨b1, b2⟩, hne, _, _⟩ := nod_facts hok hW hH hL hN (k := k) (by omega)
    have hS : 0 ≤ sameS (min (nodA xs L N k) (nodB xs L N k)) (max (nodA xs L N k) (nodB xs L N k)) (wirT xs L N k) := by
      rw [← tab_same]; exact (tab_bd xs L N _ _ k).1
    rw [wirT]
    unfold putW
    have hd : ∀ e ∈ dropE (min (nodA xs L N k) (nodB xs L N k)) (max (nodA xs L N k) (nodB xs L N k)) (wirT xs L N k), e ∈ wirT xs L N k ∧ ¬ (e.a = min (nodA xs L N k) (nodB xs L N k) ∧ e.b = max (nodA xs L N k) (nodB xs L N k)) := fun e he => by
      unfold dropE at he
      rw [List.mem_filter] at he
      refine ⟨he.1, fun h => ?_⟩
      rw [isE_t h] at he
      simp at he
    refine ⟨insW_sorted ?_ (fun e he => (hd e he).2), fun e he => ?_⟩
    · unfold dropE
      exact h1.filter _
    · rcases mem_insW.1 he with rfl | he
      · simp only [if_true]
        refine ⟨by omega, by omega, by omega, by omega⟩
      · exact h2 e (hd e he).1
/-- The wires are those of the table. -/
theorem wirT_tab (hok : ∀ k, k < n → okSq xs k) (hW : rightSq xs n = (W : Int)) (hH : lowSq xs n = (H : Int)) (hL : L = levU xs n W (H + 1)) (hN : L.length = N) :
    wirT xs L N n = tabC (fun i j => tabT xs L N n i j) N N := by
  obtain ⟨h1, h2⟩ := wirT_good hok hW hH hL hN n (Nat.le_refl _)
  have h := list_tab (k := N) h1 (fun e he => by obtain ⟨a, b, c, d⟩ := h2 e he; exact ⟨a, b, c, by omega⟩)
  have e : (fun (i j : Nat) => tabT xs L N n i j) = fun (i j : Nat) => sameS i j (wirT xs L N n) := by
    funext i j
    exact tab_same xs L N i j n
  rw [e]
  exact h
end
end Go.Proofs.Ytenfkpdbfmeebaa
