/- The neighbors of a node: WiresAt of impl, l07Near of the reference; the first node with a number of neighbors. No condition. The first node that is no terminal and has a number of neighbors. No condition. Plain law: a node taken out of a valid network; steps of it. No program in sight. StarMesh of impl. No condition. Tilings: sides of impl. No condition. Tilings: TilingOk of impl. No condition. -/
import Derived.Test.YtenfkpdbfmeebaaJAd
import Derived.Test.YtenfkpdbfmeebaaJAa
import Derived.Test.YtenfkpdbfmeebaaWNetOkI2
import Derived.Test.YtenfkpdbfmeebaaJAb
import Derived.Test.YtenfkpdbfmeebaaWCanonS
import Derived.Test.YtenfkpdbfmeebaaWTail
import Derived.Test.YtenfkpdbfmeebaaWTile
namespace Go.Proofs.Ytenfkpdbfmeebaa
set_option maxRecDepth 100000
open Go.ChangeShapes Go.WideShapes Go.ChangeAt Go.RowKit Go.Joins

/-- The neighbors of v below k. -/
def nearX (m : Nat) (xs : List Int) (v : Int) (k : Nat) : List Int := ((List.range k).map (fun (i : Nat) => (i : Int))).filter (fun x => decide (0 < wbet xs m v x))
theorem nearX_in {m : Nat} {xs : List Int} {v : Int} {k : Nat} (h : 0 < wbet xs m v k) : nearX m xs v (k + 1) = nearX m xs v k ++ [(k : Int)] := by simp [nearX, List.range_succ, h]
theorem nearX_out {m : Nat} {xs : List Int} {v : Int} {k : Nat} (h : ¬ 0 < wbet xs m v k) : nearX m xs v (k + 1) = nearX m xs v k := by simp [nearX, List.range_succ, h]
theorem nearX_len (m : Nat) (xs : List Int) (v : Int) (k : Nat) : (nearX m xs v k).length ≤ k := by
  refine Nat.le_trans (List.length_filter_le _ _) ?_
  simp

end Go.Proofs.Ytenfkpdbfmeebaa

namespace Go.Proofs.Ytenfkpdbfmeebaa
set_option maxRecDepth 100000
open Go.ChangeShapes Go.WideShapes Go.ChangeAt Go.RowKit Go.Joins

/-- The first number from a on, of c, with q; -1 if there is none. -/
def firstQ (q : Nat → Bool) (a : Nat) : Nat → Int
  | 0 => -1
  | c + 1 => if q a = true then (a : Int) else firstQ q (a + 1) c
theorem firstQ_none {q : Nat → Bool} : ∀ {c a : Nat}, (∀ t, t < c → q (a + t) = false) → firstQ q a c = -1
  | 0, a, _ => rfl
  | c + 1, a, h => by
    have h0 := h 0 (by omega)
    rw [Nat.add_zero] at h0
    simp only [firstQ, h0]
    exact firstQ_none (fun t ht => by have := h (t + 1) (by omega); rwa [show a + 1 + t = a + (t + 1) by omega])
theorem firstQ_some {q : Nat → Bool} : ∀ {c a k : Nat}, (∀ t, t < k → q (a + t) = false) → k < c → q (a + k) = true → firstQ q a c = ((a + k : Nat) : Int)
  | 0, a, k, _, h, _ => by omega
  | c + 1, a, 0, _, _, h => by rw [Nat.add_zero] at h; simp [firstQ, h]
  | c + 1, a, k + 1, hn, hk, h => by
    have h0 := hn 0 (by omega)
    rw [Nat.add_zero] at h0
    simp only [firstQ, h0]
    have := firstQ_some (q := q) (c := c) (a := a + 1) (k := k) (fun t ht => by have := hn (t + 1) (by omega); rwa [show a + 1 + t = a + (t + 1) by omega]) (by omega) (by rwa [show a + 1 + k = a + (k + 1) by omega])
    rw [show a + (k + 1) = a + 1 + k by omega]
    exact this
def nodeQ (n m : Nat) (xs : List Int) (c : Nat) (v : Nat) : Bool := decide ((nearX m xs v n).length = c)
def firstN (n e m : Nat) (xs : List Int) (c : Nat) : Int := firstQ (nodeQ n m xs c) e (n - e)
theorem firstN_bd (n e m : Nat) (xs : List Int) (c : Nat) : firstN n e m xs c = -1 ∨ ((e : Int) ≤ firstN n e m xs c ∧ firstN n e m xs c < n ∧ ∃ v : Nat, firstN n e m xs c = v ∧ (nearX m xs v n).length = c) := by
  unfold firstN
  have key : ∀ (c' a : Nat), firstQ (nodeQ n m xs c) a c' = -1 ∨ ((a : Int) ≤ firstQ (nodeQ n m xs c) a c' ∧ firstQ (nodeQ n m xs c) a c' < ((a + c' : Nat) : Int) ∧ ∃ v : Nat, firstQ (nodeQ n m xs c) a c' = v ∧ (nearX m xs v n).length = c) := by
    intro c'
    induction c' with
    | zero => intro a; exact .inl rfl
    | succ c' ih =>
      intro a
      simp only [firstQ]
      by_cases h : nodeQ n m xs c a = true
      · rw [if_pos h]
        exact .inr ⟨by omega, by omega, a, rfl, by simpa [nodeQ] using h⟩
      · rw [if_neg h]
        rcases ih (a + 1) with h | ⟨h1, h2, h3⟩
        · exact .inl h
        · exact .inr ⟨by omega, by omega, h3⟩
  rcases key (n - e) e with h | ⟨h1, h2, h3⟩
  · exact .inl h
  · by_cases he : e ≤ n
    · exact .inr ⟨h1, by omega, h3⟩
    · omega

end Go.Proofs.Ytenfkpdbfmeebaa

namespace Go.Proofs.Ytenfkpdbfmeebaa

theorem ord_of_good {n : Nat} {L : List Wr} (h : ∀ k, k < L.length → goodW n (flatW L) k) : Ord n L ∧ ∀ e ∈ L, e.w ≤ 200 := by
  have key : ∀ k, (hk : k < L.length) → 0 ≤ L[k].a ∧ L[k].a < L[k].b ∧ L[k].b < n ∧ 1 ≤ L[k].w ∧ L[k].w ≤ 200 := fun k hk => by
    obtain ⟨q1, q2, q3, q4, q5⟩ := (h k hk).1
    obtain ⟨f1, f2, f3⟩ := flat_wire hk
    rw [nthW_eq L k hk] at f1 f2 f3
    rw [f1] at q1 q2
    rw [f2] at q2 q3
    rw [f3] at q4 q5
    exact ⟨q1, q2, q3, q4, q5⟩
  have nxt : ∀ k, (hk : k + 1 < L.length) → ltW (L[k]'(by omega)) L[k + 1] := fun k hk => by
    have h1 := (h (k + 1) hk).2 (by omega)
    obtain ⟨f1, f2, _⟩ := flat_wire (L := L) (k := k) (by omega)
    obtain ⟨g1, g2, _⟩ := flat_wire hk
    rw [nthW_eq L k (by omega)] at f1 f2
    rw [nthW_eq L (k + 1) hk] at g1 g2
    rw [Nat.add_sub_cancel] at h1
    unfold ordW at h1
    rw [f1, f2, g1, g2] at h1
    exact h1
  have far : ∀ d i, (hd : i + d + 1 < L.length) → ltW (L[i]'(by omega)) L[i + d + 1] := by
    intro d
    induction d with
    | zero => intro i hd; exact nxt i hd
    | succ d ih => intro i hd; exact ltW_trans (ih i (by omega)) (nxt (i + d + 1) hd)
  refine ⟨⟨List.pairwise_iff_getElem.2 (fun i j hi hj hij => ?_), fun e he => ?_⟩, fun e he => ?_⟩
  · have := far (j - i - 1) i (by omega)
    have e : i + (j - i - 1) + 1 = j := by omega
    simp only [e] at this
    exact this
  · obtain ⟨k, hk, rfl⟩ := List.getElem_of_mem he
    have := key k hk
    omega
  · obtain ⟨k, hk, rfl⟩ := List.getElem_of_mem he
    exact (key k hk).2.2.2.2
theorem near_nearL {n : Nat} {L : List Wr} (h : Ord n L) (v : Nat) : nearX L.length (flatW L) v n = (nearL n L v).map (fun (i : Nat) => (i : Int)) := by
  unfold nearX nearL
  rw [List.filter_map]
  congr 1
  refine List.filter_congr (fun x _ => ?_)
  show decide (0 < wbet (flatW L) L.length (v : Int) (x : Int)) = _
  rw [wbet_wbL h]
theorem wat_le {N : Int} {xs : List Int} (v : Int) {k : Nat} : ∀ {m : Nat}, (∀ k, k < m → goodW N xs k) → k < m → (wa xs k = v ∨ wb xs k = v) → ww xs k ≤ wat xs v m
  | 0, _, h, _ => by omega
  | m + 1, h, hk, hv => by
    have h0 := wat_bd v (m := m) (fun k hk => h k (by omega))
    obtain ⟨_, _, _, q1, q2⟩ := (h m (by omega)).1
    simp only [wat]
    by_cases e : k = m
    · subst e; rw [if_pos hv]; omega
    · have := wat_le v (m := m) (fun k hk => h k (by omega)) (by omega) hv
      split <;> omega
theorem wat_pos {n : Nat} {L : List Wr} (h : ∀ k, k < L.length → goodW n (flatW L) k) {v c : Nat} (hc : (nearX L.length (flatW L) v n).length = c) (h1 : 1 ≤ c) : 0 < wat (flatW L) v L.length := by
  obtain ⟨x, hx⟩ : ∃ x, x ∈ nearX L.length (flatW L) v n := List.exists_mem_of_length_pos (by omega)
  have hw : 0 < wbet (flatW L) L.length v x := by
    unfold nearX at hx
    have := (List.mem_filter.1 hx).2
    simpa using this
  cases e : wfind (flatW L) v x L.length with
  | none => rw [wbet_none e] at hw; omega
  | some k =>
    obtain ⟨hk, hi⟩ := wfind_lt e
    obtain ⟨_, _, _, q1, _⟩ := (h k hk).1
    unfold isW at hi
    have := wat_le (v : Int) h hk (by omega)
    omega
/-- What replaces a node. -/
def redM (n : Nat) (L : List Wr) (v : Nat) : List Wr := tabC (meshF L v (wat (flatW L) v L.length)) (n - 1) (n - 1)
def redG (n : Nat) (S : Int) (L : List Wr) (v : Nat) : Int := gcdF (S * wat (flatW L) v L.length) (redM n L v)
def redS (n : Nat) (S : Int) (L : List Wr) (v : Nat) : Int := (S * wat (flatW L) v L.length).tdiv (redG n S L v)
def redL (n : Nat) (S : Int) (L : List Wr) (v : Nat) : List Wr := cutW (redG n S L v) (redM n L v)
noncomputable def redB (n : Nat) (E S : Int) (L : List Wr) (v : Nat) : Bool := netB ((n - 1 : Nat) : Int) E (redS n S L v) (redL n S L v).length (flatW (redL n S L v))
/-- A network: nodes, scale, wires. -/
structure NwR where
  n : Nat
  s : Int
  l : List Wr
/-- The node that is taken out. -/
def redV (e : Nat) (x : NwR) : Int := if firstN x.n e x.l.length (flatW x.l) 1 < 0 then firstN x.n e x.l.length (flatW x.l) 2 else firstN x.n e x.l.length (flatW x.l) 1
noncomputable def redN (e : Nat) (x : NwR) : Option NwR :=
  if redV e x < 0 then none else if redB x.n e x.s x.l (redV e x).toNat = true then some ⟨x.n - 1, redS x.n x.s x.l (redV e x).toNat, redL x.n x.s x.l (redV e x).toNat⟩ else none
noncomputable def redK (e : Nat) (x : NwR) : Nat → Option NwR
  | 0 => some x
  | k + 1 => (redK e x k).bind (redN e)
theorem redK_succ {e : Nat} {x y z : NwR} {k : Nat} (h : redK e x k = some y) (h2 : redN e y = some z) : redK e x (k + 1) = some z := by
  simp [redK, h, h2]
theorem redK_none {e : Nat} {x y : NwR} {k : Nat} (h : redK e x k = some y) (h2 : redN e y = none) : ∀ d, redK e x (k + 1 + d) = none
  | 0 => by simp [redK, h, h2]
  | d + 1 => by
    have := redK_none h h2 d
    rw [show k + 1 + (d + 1) = (k + 1 + d) + 1 by omega]
    simp [redK, this]
theorem redK_one {e : Nat} {x y z : NwR} {k j : Nat} (h : redK e x k = some y) (h2 : redN e y = none) (h' : redK e x j = some z) (h2' : redN e z = none) : k = j ∧ y = z := by
  have : k = j := by
    rcases Nat.lt_trichotomy k j with hl | hl | hl
    · have := redK_none h h2 (j - (k + 1))
      rw [show k + 1 + (j - (k + 1)) = j by omega, h'] at this
      cases this
    · exact hl
    · have := redK_none h' h2' (k - (j + 1))
      rw [show j + 1 + (k - (j + 1)) = k by omega, h] at this
      cases this
  subst this
  rw [h] at h'
  exact ⟨rfl, by simpa using h'⟩
theorem redV_bd {e : Nat} {x : NwR} (h : ¬ redV e x < 0) : ∃ v c : Nat, redV e x = v ∧ (redV e x).toNat = v ∧ e ≤ v ∧ v < x.n ∧ (nearX x.l.length (flatW x.l) v x.n).length = c ∧ 1 ≤ c ∧ c ≤ 2 := by
  have h1 := firstN_bd x.n e x.l.length (flatW x.l) 1
  have h2 := firstN_bd x.n e x.l.length (flatW x.l) 2
  unfold redV at *
  split at h
  · rename_i hlt
    rw [if_pos hlt]
    rcases h2 with h2 | ⟨a, b, v, hv, hc⟩
    · omega
    · exact ⟨v, 2, hv, by omega, by omega, by omega, hc, by omega, by omega⟩
  · rename_i hlt
    rw [if_neg hlt]
    rcases h1 with h1 | ⟨a, b, v, hv, hc⟩
    · omega
    · exact ⟨v, 1, hv, by omega, by omega, by omega, hc, by omega, by omega⟩
end Go.Proofs.Ytenfkpdbfmeebaa

namespace Go.Proofs.Ytenfkpdbfmeebaa
set_option maxRecDepth 100000
open Go.ChangeShapes Go.WideShapes Go.ChangeAt Go.RowKit Go.Joins

/-- The table while row i is turned up to j. -/
def starR (T : Nat → Nat → Int) (s : Int) (v i j a b : Nat) : Int := if (a < i ∨ a = i ∧ b < j) ∧ ¬ a = v ∧ ¬ b = v ∧ ¬ a = b then T a b * s + T a v * T v b else T a b
theorem starR_zero (T : Nat → Nat → Int) (s : Int) (v n : Nat) : ∀ a b, a < n → b < n → T a b = starR T s v 0 0 a b := fun a b _ _ => by simp [starR]
theorem starR_step (T : Nat → Nat → Int) (s : Int) {v i j : Nat} (n : Nat) (h1 : ¬ i = v) (h2 : ¬ j = v) (h3 : ¬ i = j) : ∀ a b, a < n → b < n → (if a = i ∧ b = j then T i j * s + T i v * T v j else starR T s v i j a b) = starR T s v i (j + 1) a b := fun a b _ _ => by
  unfold starR
  by_cases e : a = i ∧ b = j
  · obtain ⟨rfl, rfl⟩ := e
    simp [h1, h2, h3]
  · rw [if_neg e]
    by_cases c : (a < i ∨ a = i ∧ b < j) ∧ ¬ a = v ∧ ¬ b = v ∧ ¬ a = b
    · rw [if_pos c, if_pos ⟨by omega, c.2⟩]
    · rw [if_neg c, if_neg (fun c' => c ⟨by omega, c'.2⟩)]
theorem starR_skip (T : Nat → Nat → Int) (s : Int) {v i j : Nat} (n : Nat) (h : i = v ∨ j = v ∨ i = j) : ∀ a b, a < n → b < n → starR T s v i j a b = starR T s v i (j + 1) a b := fun a b _ _ => by
  unfold starR
  by_cases c : (a < i ∨ a = i ∧ b < j) ∧ ¬ a = v ∧ ¬ b = v ∧ ¬ a = b
  · rw [if_pos c, if_pos ⟨by omega, c.2⟩]
  · rw [if_neg c, if_neg (fun c' => c ⟨by omega, c'.2⟩)]
theorem starR_next (T : Nat → Nat → Int) (s : Int) (v i n : Nat) : ∀ a b, a < n → b < n → starR T s v i n a b = starR T s v (i + 1) 0 a b := fun a b _ hb => by
  unfold starR
  by_cases c : (a < i ∨ a = i ∧ b < n) ∧ ¬ a = v ∧ ¬ b = v ∧ ¬ a = b
  · rw [if_pos c, if_pos ⟨by omega, c.2⟩]
  · rw [if_neg c, if_neg (fun c' => c ⟨by omega, c'.2⟩)]
theorem starR_at (T : Nat → Nat → Int) (s : Int) (v i j : Nat) : starR T s v i j i j = T i j ∧ starR T s v i j i v = T i v ∧ starR T s v i j v j = T v j := by simp [starR]
theorem starR_bd {T : Nat → Nat → Int} {s : Int} (hT : ∀ a b, 0 ≤ T a b ∧ T a b ≤ 200) (hs : 0 ≤ s ∧ s ≤ 2000) (v i j a b : Nat) : 0 ≤ starR T s v i j a b ∧ starR T s v i j a b ≤ 440000 := by
  have h1 := hT a b
  have h2 := hT a v
  have h3 := hT v b
  have m1 : 0 ≤ T a b * s := Int.mul_nonneg h1.1 hs.1
  have m2 : T a b * s ≤ 200 * 2000 := Int.mul_le_mul h1.2 hs.2 hs.1 (by omega)
  have m3 : 0 ≤ T a v * T v b := Int.mul_nonneg h2.1 h3.1
  have m4 : T a v * T v b ≤ 200 * 200 := Int.mul_le_mul h2.2 h3.2 h3.1 (by omega)
  unfold starR
  split <;> omega
theorem star_tab {n v : Nat} {L : List Wr} {s : Int} (hL : Ord n L) (hv : v < n) :
    tabC (fun (i j : Nat) => starR (fun a b => wbet (flatW L) L.length (a : Int) (b : Int)) s v n 0 (upI v i) (upI v j)) (n - 1) (n - 1) = tabC (meshF L v s) (n - 1) (n - 1) := by
  refine tabC_congr (fun i j hij hj => ?_)
  have u1 := up_ne v i
  have u2 := up_ne v j
  have u3 : upI v i < n := by unfold upI; split <;> omega
  have u4 : ¬ upI v i = upI v j := by unfold upI; split <;> split <;> omega
  unfold starR meshF
  rw [if_pos ⟨.inl u3, u1, u2, u4⟩]
  simp only [wbet_wbL hL]

/-- A network's block of four cells. -/
def NetIn (w : World) (B : Nat) (n e S : Int) (v : Value) : Prop := w.cell? ⟨B, 0, none⟩ = some (.int .i64 n) ∧ w.cell? ⟨B, 1, none⟩ = some (.int .i64 e) ∧ w.cell? ⟨B, 2, none⟩ = some (.int .i64 S) ∧ w.cell? ⟨B, 3, none⟩ = some v
theorem NetIn.ge {w w' : World} {B : Nat} {n e S : Int} {v : Value} (h : NetIn w B n e S v) (hg : Ge w w') : NetIn w' B n e S v := ⟨hg.keep h.1, hg.keep h.2.1, hg.keep h.2.2.1, hg.keep h.2.2.2⟩
theorem NetIn.new (w : World) (n e S : Int) (v : Value) : NetIn (w.alloc (.cells #[.int .i64 n, .int .i64 e, .int .i64 S, v] 35)) w.heap.size n e S v :=
  ⟨cell_new rfl rfl, cell_new rfl rfl, cell_new rfl rfl, cell_new rfl rfl⟩
theorem in_res (w : World) (n e S : Int) (v : Value) : NetIn ((w.alloc (.cells #[.int .i64 n, .int .i64 e, .int .i64 S, v] 35)).alloc (.cells #[.int .i64 0, .int .i64 0, .int .i64 0, .slice none 0 0] 35)) w.heap.size n e S v ∧
    ResD ((w.alloc (.cells #[.int .i64 n, .int .i64 e, .int .i64 S, v] 35)).alloc (.cells #[.int .i64 0, .int .i64 0, .int .i64 0, .slice none 0 0] 35)) (w.heap.size + 1) := by
  refine ⟨(NetIn.new w n e S v).ge (Ge.alloc (Ge.refl _) _), ?_⟩
  have := ResD.new (w.alloc (.cells #[.int .i64 n, .int .i64 e, .int .i64 S, v] 35)) (.int .i64 0) (.int .i64 0) (.int .i64 0) (.slice none 0 0) 35
  simp at this
  exact this
/-- The table's wires behind the turn. -/
def starM (n m : Nat) (xs : List Int) (v : Nat) : List Wr := tabC (fun (i j : Nat) => starR (fun a b => wbet xs m (a : Int) (b : Int)) (wat xs v m) v n 0 (upI v i) (upI v j)) (n - 1) (n - 1)

theorem starM_red {n v e : Nat} {S : Int} {L : List Wr} (hB : netB n e S L.length (flatW L) = true) (hv : v < n) : starM n L.length (flatW L) v = redM n L v := by
  obtain ⟨_, _, _, hok, _⟩ := netP_of hB
  exact star_tab (ord_of_good hok).1 hv
end Go.Proofs.Ytenfkpdbfmeebaa

namespace Go.Proofs.Ytenfkpdbfmeebaa
set_option maxRecDepth 100000
open Go.ChangeShapes Go.WideShapes Go.ChangeAt Go.RowKit Go.Joins

set_option maxHeartbeats 800000 in
theorem iSides (v : Value) (n : Nat) (xs : List Int) (w : World) (hv : SlF w v n 3 xs) (hn : n ≤ 12) (hok : ∀ k, k < n → okSq xs k) :
    Calls Try.prog 25 #[v] w fun e w' => e = .returned (.tuple #[.int .i64 (rightSq xs n), .int .i64 (lowSq xs n)]) ∧ Ge w w' := by
  obtain ⟨p, cap, rfl, hc⟩ := hv.open
  have HC := Lib.hid hc
  have HK := Lib.hid hok
  clear hv hc hok
  go_enter Try.func25, Try.ntmps25
  go_wp2_with fail
  go_loopw [4, 5, 10] (fun a b i wr => ∃ k : Nat, k ≤ n ∧ i = .int .i64 k ∧ a = .int .i64 (rightSq xs k) ∧ b = .int .i64 (lowSq xs k) ∧ Ge w wr) (fun _ _ i _ => n - (intOf i).toNat)
  case atStart => exact ⟨0, Nat.zero_le _, rfl, rfl, rfl, Ge.refl _⟩
  case round =>
    obtain ⟨k, hk, rfl, rfl, rfl, hg⟩ := hrel
    by_cases hlt : k < n
    · obtain ⟨b, o, rfl, x0, x1, x2⟩ := three_cells HC.out hlt
      have y0 := hg.keep x0
      have y1 := hg.keep x1
      have y2 := hg.keep x2
      clear x0 x1 x2
      obtain ⟨q0, q1, q2, q3, q4, q5⟩ := HK.out k hlt
      obtain ⟨r0, r1⟩ := right_bd k (fun j hj => HK.out j (by omega))
      obtain ⟨s0, s1⟩ := low_bd k (fun j hj => HK.out j (by omega))
      have H1 : Hid (rightSq xs (k + 1) = max (rightSq xs k) (sx xs k + ss xs k)) := rfl
      have H2 : Hid (lowSq xs (k + 1) = max (lowSq xs k) (sy xs k + ss xs k)) := rfl
      change wr.cell? _ = some (.int .i64 (sx xs k)) at y0
      change wr.cell? _ = some (.int .i64 (sy xs k)) at y1
      change wr.cell? _ = some (.int .i64 (ss xs k)) at y2
      generalize sx xs k = X at *
      generalize sy xs k = Y at *
      generalize ss xs k = Z at *
      go_wp2_with fail
      go_roundw
      case rel => exact ⟨k + 1, by omega, by go_num, congrArg _ (by rw [H1.out] <;> (split <;> omega)), congrArg _ (by rw [H2.out] <;> (split <;> omega)), by (repeat (first | with_reducible exact Ge.refl _ | assumption | with_reducible refine Ge.drew ?_ | with_reducible refine Ge.drewN ?_ _ | with_reducible refine Ge.alloc ?_ _ | (with_reducible refine Ge.setCell ?_ (by first | (simp; done) | omega | (simp; omega)) _) | with_reducible refine Ge.trans ?_ (by assumption)))⟩
      case measure => simp [intOf]; omega
    · have hkn : k = n := by omega
      subst hkn
      go_wp2_with fail
      exact bodyPost_ret (v := .tuple #[.int .i64 (rightSq xs k), .int .i64 (lowSq xs k)]) (by simp [results, Try.results25, go_sem, *]) rfl ⟨rfl, by (repeat (first | with_reducible exact Ge.refl _ | assumption | with_reducible refine Ge.drew ?_ | with_reducible refine Ge.drewN ?_ _ | with_reducible refine Ge.alloc ?_ _ | (with_reducible refine Ge.setCell ?_ (by first | (simp; done) | omega | (simp; omega)) _) | with_reducible refine Ge.trans ?_ (by assumption)))⟩

end Go.Proofs.Ytenfkpdbfmeebaa

namespace Go.Proofs.Ytenfkpdbfmeebaa
set_option maxRecDepth 100000
open Go.ChangeShapes Go.WideShapes Go.ChangeAt Go.RowKit Go.Joins

theorem no_step {xs : List Int} {k j : Nat} (h : Hid (∀ i, i < j → ¬ overSq xs k i)) (hj : ¬ overSq xs k j) : Hid (∀ i, i < j + 1 → ¬ overSq xs k i) := fun i hi => by
  by_cases e : i = j
  · subst e; exact hj
  · exact h.out i (by omega)
theorem good_next {xs : List Int} {k : Nat} (h : Hid (∀ i, i < k → goodSq xs i)) (hk : goodSq xs k) : Hid (∀ i, i < k + 1 → goodSq xs i) := fun i hi => by
  by_cases e : i = k
  · subst e; exact hk
  · exact h.out i (by omega)
set_option maxHeartbeats 3200000 in
theorem iTilingOk (v : Value) (n : Nat) (xs : List Int) (w : World) (hv : SlF w v n 3 xs) (hm : n ≤ 9223372036854775807) (hb : ∀ j, -9223372036854775808 ≤ nth xs j ∧ nth xs j ≤ 9223372036854775807) (hcap : ∀ p c, v = .slice p n c → n ≤ c) :
    Calls Try.prog 24 #[v] w fun e w' => e = .returned (.bool (tileB n xs)) ∧ Ge w w' := by
  obtain ⟨p, cap, rfl, hc⟩ := hv.open
  have HV := Lib.hid hv
  have HC := Lib.hid hc
  have HBd := Lib.hid hb
  have hnc := hcap _ _ rfl
  have HCap := Lib.hid hcap
  clear hv hc hb hcap
  by_cases h1 : n < 1
  · have HF : Hid (tileB n xs = false) := tileB_false (fun h => by have := h.1; omega)
    go_enter Try.func24, Try.ntmps24
    go_wp2_with fail
    go_ret
    exact ⟨ret_bool HF.out.symm, Ge.refl _⟩
  by_cases h12 : 12 < n
  · have HF : Hid (tileB n xs = false) := tileB_false (fun h => by have := h.2.1; omega)
    go_enter Try.func24, Try.ntmps24
    go_wp2_with fail
    go_ret
    exact ⟨ret_bool HF.out.symm, Ge.refl _⟩
  go_enter Try.func24, Try.ntmps24
  go_wp2_with fail
  go_loopw [3, 4, 5, 22] (fun a b c i wr => ∃ k : Nat, k ≤ n ∧ i = .int .i64 k ∧ a = .int .i64 (minX xs k) ∧ b = .int .i64 (minY xs k) ∧ c = .int .i64 (areaSq xs k) ∧ Hid (∀ j, j < k → goodSq xs j) ∧ Ge w wr) (fun _ _ _ i _ => n - (intOf i).toNat)
  case atStart => exact ⟨0, Nat.zero_le _, rfl, rfl, rfl, rfl, fun j hj => by omega, Ge.refl _⟩
  case round =>
    obtain ⟨k, hk, rfl, rfl, rfl, rfl, HK, hg⟩ := hrel
    by_cases hlt : k < n
    · obtain ⟨b, o, rfl, x0, x1, x2⟩ := three_cells HC.out hlt
      have y0 := hg.keep x0
      have y1 := hg.keep x1
      have y2 := hg.keep x2
      clear x0 x1 x2
      change wr.cell? _ = some (.int .i64 (sx xs k)) at y0
      change wr.cell? _ = some (.int .i64 (sy xs k)) at y1
      change wr.cell? _ = some (.int .i64 (ss xs k)) at y2
      have HB0 := HBd.out (k * 3)
      have HB1 := HBd.out (k * 3 + 1)
      have HB2 := HBd.out (k * 3 + 2)
      change _ ≤ sx xs k ∧ sx xs k ≤ _ at HB0
      change _ ≤ sy xs k ∧ sy xs k ≤ _ at HB1
      change _ ≤ ss xs k ∧ ss xs k ≤ _ at HB2
      by_cases t1 : sx xs k < 0
      · have HF : Hid (tileB n xs = false) := tileB_false (fun h => by have := (h.2.2.1 k hlt).1.1; omega)
        go_upto_region 7 with (fail)
        go_quiet (fail)
        go_wp2_with fail
        go_ret
        exact ⟨ret_bool HF.out.symm, by (repeat (first | with_reducible exact Ge.refl _ | assumption | with_reducible refine Ge.drew ?_ | with_reducible refine Ge.drewN ?_ _ | with_reducible refine Ge.alloc ?_ _ | (with_reducible refine Ge.setCell ?_ (by first | (simp; done) | omega | (simp; omega)) _) | with_reducible refine Ge.trans ?_ (by assumption)))⟩
      by_cases t2 : 200 < sx xs k
      · have HF : Hid (tileB n xs = false) := tileB_false (fun h => by have := (h.2.2.1 k hlt).1.2.1; omega)
        go_upto_region 7 with (fail)
        go_quiet (fail)
        go_wp2_with fail
        go_ret
        exact ⟨ret_bool HF.out.symm, by (repeat (first | with_reducible exact Ge.refl _ | assumption | with_reducible refine Ge.drew ?_ | with_reducible refine Ge.drewN ?_ _ | with_reducible refine Ge.alloc ?_ _ | (with_reducible refine Ge.setCell ?_ (by first | (simp; done) | omega | (simp; omega)) _) | with_reducible refine Ge.trans ?_ (by assumption)))⟩
      by_cases t3 : sy xs k < 0
      · have HF : Hid (tileB n xs = false) := tileB_false (fun h => by have := (h.2.2.1 k hlt).1.2.2.1; omega)
        go_upto_region 7 with (fail)
        go_quiet (fail)
        go_wp2_with fail
        go_ret
        exact ⟨ret_bool HF.out.symm, by (repeat (first | with_reducible exact Ge.refl _ | assumption | with_reducible refine Ge.drew ?_ | with_reducible refine Ge.drewN ?_ _ | with_reducible refine Ge.alloc ?_ _ | (with_reducible refine Ge.setCell ?_ (by first | (simp; done) | omega | (simp; omega)) _) | with_reducible refine Ge.trans ?_ (by assumption)))⟩
      by_cases t4 : 200 < sy xs k
      · have HF : Hid (tileB n xs = false) := tileB_false (fun h => by have := (h.2.2.1 k hlt).1.2.2.2.1; omega)
        go_upto_region 7 with (fail)
        go_quiet (fail)
        go_wp2_with fail
        go_ret
        exact ⟨ret_bool HF.out.symm, by (repeat (first | with_reducible exact Ge.refl _ | assumption | with_reducible refine Ge.drew ?_ | with_reducible refine Ge.drewN ?_ _ | with_reducible refine Ge.alloc ?_ _ | (with_reducible refine Ge.setCell ?_ (by first | (simp; done) | omega | (simp; omega)) _) | with_reducible refine Ge.trans ?_ (by assumption)))⟩
      by_cases t5 : ss xs k < 1
      · have HF : Hid (tileB n xs = false) := tileB_false (fun h => by have := (h.2.2.1 k hlt).1.2.2.2.2.1; omega)
        go_upto_region 7 with (fail)
        go_quiet (fail)
        go_wp2_with fail
        go_ret
        exact ⟨ret_bool HF.out.symm, by (repeat (first | with_reducible exact Ge.refl _ | assumption | with_reducible refine Ge.drew ?_ | with_reducible refine Ge.drewN ?_ _ | with_reducible refine Ge.alloc ?_ _ | (with_reducible refine Ge.setCell ?_ (by first | (simp; done) | omega | (simp; omega)) _) | with_reducible refine Ge.trans ?_ (by assumption)))⟩
      by_cases t6 : 200 < ss xs k
      · have HF : Hid (tileB n xs = false) := tileB_false (fun h => by have := (h.2.2.1 k hlt).1.2.2.2.2.2; omega)
        go_upto_region 7 with (fail)
        go_quiet (fail)
        go_wp2_with fail
        go_ret
        exact ⟨ret_bool HF.out.symm, by (repeat (first | with_reducible exact Ge.refl _ | assumption | with_reducible refine Ge.drew ?_ | with_reducible refine Ge.drewN ?_ _ | with_reducible refine Ge.alloc ?_ _ | (with_reducible refine Ge.setCell ?_ (by first | (simp; done) | omega | (simp; omega)) _) | with_reducible refine Ge.trans ?_ (by assumption)))⟩
      have OK : Hid (okSq xs k) := ⟨by omega, by omega, by omega, by omega, by omega, by omega⟩
      obtain ⟨bad, hbad⟩ : ∃ bad : Bool, bad = true ↔ (0 < k ∧ ¬ ordSq xs (k - 1) k) := ⟨@decide (0 < k ∧ ¬ ordSq xs (k - 1) k) (Classical.propDecidable _), by simp⟩
      have HBad := Lib.hid hbad
      clear hbad
      go_upto_region 7 with (fail)
      go_cut [68] (fun s wx => s = .bool bad ∧ wx.cell? ⟨wr.heap.size, 0, none⟩ = some (.int .i64 (sx xs k)) ∧ wx.cell? ⟨wr.heap.size, 1, none⟩ = some (.int .i64 (sy xs k)) ∧ wx.cell? ⟨wr.heap.size, 2, none⟩ = some (.int .i64 (ss xs k)) ∧ Ge wr wx)
      case first =>
        by_cases hp : 0 < k
        · obtain ⟨j, rfl⟩ : ∃ j, k = j + 1 := ⟨k - 1, by omega⟩
          obtain ⟨b', o', e', x0, x1, x2⟩ := three_cells HC.out (show j < n by omega)
          simp only [Option.some.injEq, Addr.mk.injEq, and_true] at e'
          obtain ⟨rfl, rfl⟩ := e'
          have z0 := hg.keep x0
          have z1 := hg.keep x1
          have z2 := hg.keep x2
          clear x0 x1 x2
          change wr.cell? _ = some (.int .i64 (sx xs j)) at z0
          change wr.cell? _ = some (.int .i64 (sy xs j)) at z1
          change wr.cell? _ = some (.int .i64 (ss xs j)) at z2
          have w1 : IntKind.i64.wrap (((j + 1 : Nat) : Int) - 1) = (j : Int) := IntWalk.i64_in _ (by omega) |>.trans (by omega)
          have w2 : IntKind.i64.wrap (j : Int) = (j : Int) := IntWalk.i64_in _ (by omega)
          have j0 : (0 : Int) ≤ (j : Int) := by omega
          have j1 : (j : Int) < (n : Int) := by omega
          have w3 : ((j : Int) + 1 - 1) = (j : Int) := by omega
          have lb := World.block_lt_of_cell? wr _ z0
          simp at lb
          have c0 : decide (0 ≤ cmpSq (sx xs j) (sy xs j) (sx xs (j + 1)) (sy xs (j + 1))) = bad := by
            have h1 := HBad.out
            have h2 := @cmpSq_lt (sx xs j) (sy xs j) (sx xs (j + 1)) (sy xs (j + 1))
            have h3 : ordSq xs j (j + 1) ↔ cmpSq (sx xs j) (sy xs j) (sx xs (j + 1)) (sy xs (j + 1)) < 0 := h2.symm
            simp only [Nat.add_sub_cancel, h3] at h1
            cases bad with
            | true => have := h1.1 rfl; simp; omega
            | false =>
              simp
              by_cases h4 : cmpSq (sx xs j) (sy xs j) (sx xs (j + 1)) (sy xs (j + 1)) < 0
              · exact h4
              · exact absurd (h1.2 ⟨by omega, h4⟩) (by simp)
          have hS : ∀ w', Ge (wr.alloc (.cells #[.int .i64 (sx xs (j + 1)), .int .i64 (sy xs (j + 1)), .int .i64 (ss xs (j + 1))] 45)) w' → (w'.cell? ⟨wr.heap.size, 0, none⟩ = some (.int .i64 (sx xs (j + 1))) ∧ w'.cell? ⟨wr.heap.size, 1, none⟩ = some (.int .i64 (sy xs (j + 1))) ∧ w'.cell? ⟨wr.heap.size, 2, none⟩ = some (.int .i64 (ss xs (j + 1))) ∧ w'.cell? ⟨b, o + j * 3, none⟩ = some (.int .i64 (sx xs j)) ∧ w'.cell? ⟨b, o + j * 3 + 1, none⟩ = some (.int .i64 (sy xs j)) ∧ w'.cell? ⟨b, o + j * 3 + 2, none⟩ = some (.int .i64 (ss xs j)) ∧ Ge wr w') := fun w' g => ⟨g.keep (by (repeat (first | assumption | with_reducible exact Ge.refl _ | with_reducible refine cv_drew ?_ | with_reducible refine cv_alloc ?_ | with_reducible refine cv_set ?_ | (with_reducible apply cv_some; assumption) | with_reducible refine cell_drew ?_ | with_reducible refine cell_drewN ?_ | ((with_reducible refine cell_new ?_ ?_); (focus (simp; done)); rfl) | with_reducible refine cell_alloc ?_ | with_reducible refine cell_same2 ?_ | ((with_reducible refine cell_set2 ?_ ?_); focus (first | (simp; done) | (intro hE; simp at hE; done) | (intro hE; simp at hE; omega))) | with_reducible refine Ge.drew ?_ | with_reducible refine Ge.drewN ?_ _ | with_reducible refine Ge.alloc ?_ _ | ((with_reducible refine Ge.setCell ?_ ?_ _); rotate_left; focus (first | (simp; done) | omega | (simp; omega))) | with_reducible refine Ge.trans ?_ (by assumption) | with_reducible refine Ge.keep (by assumption) ?_))), g.keep (by (repeat (first | assumption | with_reducible exact Ge.refl _ | with_reducible refine cv_drew ?_ | with_reducible refine cv_alloc ?_ | with_reducible refine cv_set ?_ | (with_reducible apply cv_some; assumption) | with_reducible refine cell_drew ?_ | with_reducible refine cell_drewN ?_ | ((with_reducible refine cell_new ?_ ?_); (focus (simp; done)); rfl) | with_reducible refine cell_alloc ?_ | with_reducible refine cell_same2 ?_ | ((with_reducible refine cell_set2 ?_ ?_); focus (first | (simp; done) | (intro hE; simp at hE; done) | (intro hE; simp at hE; omega))) | with_reducible refine Ge.drew ?_ | with_reducible refine Ge.drewN ?_ _ | with_reducible refine Ge.alloc ?_ _ | ((with_reducible refine Ge.setCell ?_ ?_ _); rotate_left; focus (first | (simp; done) | omega | (simp; omega))) | with_reducible refine Ge.trans ?_ (by assumption) | with_reducible refine Ge.keep (by assumption) ?_))), g.keep (by (repeat (first | assumption | with_reducible exact Ge.refl _ | with_reducible refine cv_drew ?_ | with_reducible refine cv_alloc ?_ | with_reducible refine cv_set ?_ | (with_reducible apply cv_some; assumption) | with_reducible refine cell_drew ?_ | with_reducible refine cell_drewN ?_ | ((with_reducible refine cell_new ?_ ?_); (focus (simp; done)); rfl) | with_reducible refine cell_alloc ?_ | with_reducible refine cell_same2 ?_ | ((with_reducible refine cell_set2 ?_ ?_); focus (first | (simp; done) | (intro hE; simp at hE; done) | (intro hE; simp at hE; omega))) | with_reducible refine Ge.drew ?_ | with_reducible refine Ge.drewN ?_ _ | with_reducible refine Ge.alloc ?_ _ | ((with_reducible refine Ge.setCell ?_ ?_ _); rotate_left; focus (first | (simp; done) | omega | (simp; omega))) | with_reducible refine Ge.trans ?_ (by assumption) | with_reducible refine Ge.keep (by assumption) ?_))), g.keep (by (repeat (first | assumption | with_reducible exact Ge.refl _ | with_reducible refine cv_drew ?_ | with_reducible refine cv_alloc ?_ | with_reducible refine cv_set ?_ | (with_reducible apply cv_some; assumption) | with_reducible refine cell_drew ?_ | with_reducible refine cell_drewN ?_ | ((with_reducible refine cell_new ?_ ?_); (focus (simp; done)); rfl) | with_reducible refine cell_alloc ?_ | with_reducible refine cell_same2 ?_ | ((with_reducible refine cell_set2 ?_ ?_); focus (first | (simp; done) | (intro hE; simp at hE; done) | (intro hE; simp at hE; omega))) | with_reducible refine Ge.drew ?_ | with_reducible refine Ge.drewN ?_ _ | with_reducible refine Ge.alloc ?_ _ | ((with_reducible refine Ge.setCell ?_ ?_ _); rotate_left; focus (first | (simp; done) | omega | (simp; omega))) | with_reducible refine Ge.trans ?_ (by assumption) | with_reducible refine Ge.keep (by assumption) ?_))), g.keep (by (repeat (first | assumption | with_reducible exact Ge.refl _ | with_reducible refine cv_drew ?_ | with_reducible refine cv_alloc ?_ | with_reducible refine cv_set ?_ | (with_reducible apply cv_some; assumption) | with_reducible refine cell_drew ?_ | with_reducible refine cell_drewN ?_ | ((with_reducible refine cell_new ?_ ?_); (focus (simp; done)); rfl) | with_reducible refine cell_alloc ?_ | with_reducible refine cell_same2 ?_ | ((with_reducible refine cell_set2 ?_ ?_); focus (first | (simp; done) | (intro hE; simp at hE; done) | (intro hE; simp at hE; omega))) | with_reducible refine Ge.drew ?_ | with_reducible refine Ge.drewN ?_ _ | with_reducible refine Ge.alloc ?_ _ | ((with_reducible refine Ge.setCell ?_ ?_ _); rotate_left; focus (first | (simp; done) | omega | (simp; omega))) | with_reducible refine Ge.trans ?_ (by assumption) | with_reducible refine Ge.keep (by assumption) ?_))), g.keep (by (repeat (first | assumption | with_reducible exact Ge.refl _ | with_reducible refine cv_drew ?_ | with_reducible refine cv_alloc ?_ | with_reducible refine cv_set ?_ | (with_reducible apply cv_some; assumption) | with_reducible refine cell_drew ?_ | with_reducible refine cell_drewN ?_ | ((with_reducible refine cell_new ?_ ?_); (focus (simp; done)); rfl) | with_reducible refine cell_alloc ?_ | with_reducible refine cell_same2 ?_ | ((with_reducible refine cell_set2 ?_ ?_); focus (first | (simp; done) | (intro hE; simp at hE; done) | (intro hE; simp at hE; omega))) | with_reducible refine Ge.drew ?_ | with_reducible refine Ge.drewN ?_ _ | with_reducible refine Ge.alloc ?_ _ | ((with_reducible refine Ge.setCell ?_ ?_ _); rotate_left; focus (first | (simp; done) | omega | (simp; omega))) | with_reducible refine Ge.trans ?_ (by assumption) | with_reducible refine Ge.keep (by assumption) ?_))), Ge.trans (by (repeat (first | assumption | with_reducible exact Ge.refl _ | with_reducible refine cv_drew ?_ | with_reducible refine cv_alloc ?_ | with_reducible refine cv_set ?_ | (with_reducible apply cv_some; assumption) | with_reducible refine cell_drew ?_ | with_reducible refine cell_drewN ?_ | ((with_reducible refine cell_new ?_ ?_); (focus (simp; done)); rfl) | with_reducible refine cell_alloc ?_ | with_reducible refine cell_same2 ?_ | ((with_reducible refine cell_set2 ?_ ?_); focus (first | (simp; done) | (intro hE; simp at hE; done) | (intro hE; simp at hE; omega))) | with_reducible refine Ge.drew ?_ | with_reducible refine Ge.drewN ?_ _ | with_reducible refine Ge.alloc ?_ _ | ((with_reducible refine Ge.setCell ?_ ?_ _); rotate_left; focus (first | (simp; done) | omega | (simp; omega))) | with_reducible refine Ge.trans ?_ (by assumption) | with_reducible refine Ge.keep (by assumption) ?_))) g⟩
          go_region_held3 (fun w' => w'.cell? ⟨wr.heap.size, 0, none⟩ = some (.int .i64 (sx xs (j + 1))) ∧ w'.cell? ⟨wr.heap.size, 1, none⟩ = some (.int .i64 (sy xs (j + 1))) ∧ w'.cell? ⟨wr.heap.size, 2, none⟩ = some (.int .i64 (ss xs (j + 1))) ∧ w'.cell? ⟨b, o + j * 3, none⟩ = some (.int .i64 (sx xs j)) ∧ w'.cell? ⟨b, o + j * 3 + 1, none⟩ = some (.int .i64 (sy xs j)) ∧ w'.cell? ⟨b, o + j * 3 + 2, none⟩ = some (.int .i64 (ss xs j)) ∧ Ge wr w') (first | ((with_reducible refine hS _ ?_); (repeat (first | assumption | with_reducible exact Ge.refl _ | with_reducible refine cv_drew ?_ | with_reducible refine cv_alloc ?_ | with_reducible refine cv_set ?_ | (with_reducible apply cv_some; assumption) | with_reducible refine cell_drew ?_ | with_reducible refine cell_drewN ?_ | ((with_reducible refine cell_new ?_ ?_); (focus (simp; done)); rfl) | with_reducible refine cell_alloc ?_ | with_reducible refine cell_same2 ?_ | ((with_reducible refine cell_set2 ?_ ?_); focus (first | (simp; done) | (intro hE; simp at hE; done) | (intro hE; simp at hE; omega))) | with_reducible refine Ge.drew ?_ | with_reducible refine Ge.drewN ?_ _ | with_reducible refine Ge.alloc ?_ _ | ((with_reducible refine Ge.setCell ?_ ?_ _); rotate_left; focus (first | (simp; done) | omega | (simp; omega))) | with_reducible refine Ge.trans ?_ (by assumption) | with_reducible refine Ge.keep (by assumption) ?_)); done) | fail) (first | (go_at_call 44; ((with_reducible refine (iByPlace _ _ _ _ _ _ _).mono ?_); rintro e w' ⟨rfl, hb⟩); have hz := Ge.size hb; (try simp at hz)) | fail)
          rename_i hHeldX
          obtain ⟨q0, q1, q2, q3, q4, q5, G7⟩ := hHeldX
          clear hS
          go_wp2_with fail
          go_meet
          exact ⟨rfl, q0, q1, q2, G7⟩
        · have hk0 : k = 0 := by omega
          subst hk0
          have hb0 : bad = false := by
            cases bad with
            | true => have := (HBad.out.1 rfl).1; omega
            | false => rfl
          subst hb0
          go_quiet (fail)
          go_wp2_with fail
          go_meet
          exact ⟨rfl, cell_drewN (cell_new rfl rfl), cell_drewN (cell_new rfl rfl), cell_drewN (cell_new rfl rfl), by (repeat (first | with_reducible exact Ge.refl _ | assumption | with_reducible refine Ge.drew ?_ | with_reducible refine Ge.drewN ?_ _ | with_reducible refine Ge.alloc ?_ _ | (with_reducible refine Ge.setCell ?_ (by first | (simp; done) | omega | (simp; omega)) _) | with_reducible refine Ge.trans ?_ (by assumption)))⟩
      case rest =>
        obtain ⟨rfl, q0, q1, q2, G7⟩ := hcut
        cases bad with
        | true =>
          have HF : Hid (tileB n xs = false) := tileB_false (fun h => by
            obtain ⟨e1, e2⟩ := HBad.out.1 rfl
            exact e2 ((h.2.2.1 k hlt).2.1 e1))
          go_wp2_with fail
          go_ret
          exact ⟨ret_bool HF.out.symm, by (repeat (first | with_reducible exact Ge.refl _ | assumption | with_reducible refine Ge.drew ?_ | with_reducible refine Ge.drewN ?_ _ | with_reducible refine Ge.alloc ?_ _ | (with_reducible refine Ge.setCell ?_ (by first | (simp; done) | omega | (simp; omega)) _) | with_reducible refine Ge.trans ?_ (by assumption)))⟩
        | false =>
          have hkc : k ≤ cap := by omega
          have hkn : k ≤ n := by omega
          go_wp2_with fail
          go_loopw [73] (fun i wi => ∃ j : Nat, j ≤ k ∧ i = .int .i64 j ∧ Hid (∀ i, i < j → ¬ overSq xs k i) ∧ Ge wc wi) (fun i _ => k - (intOf i).toNat)
          case atStart => exact ⟨0, Nat.zero_le _, rfl, fun i hi => by omega, Ge.refl _⟩
          case round =>
            obtain ⟨j, hj, rfl, HN, hgi⟩ := hrel
            by_cases hjk : j < k
            · obtain ⟨b', o', e', x0, x1, x2⟩ := three_cells HC.out (show j < n by omega)
              simp only [Option.some.injEq, Addr.mk.injEq, and_true] at e'
              obtain ⟨rfl, rfl⟩ := e'
              have z0 := hgi.keep (G7.keep (hg.keep x0))
              have z1 := hgi.keep (G7.keep (hg.keep x1))
              have z2 := hgi.keep (G7.keep (hg.keep x2))
              clear x0 x1 x2
              have p0 := hgi.keep q0
              have p1 := hgi.keep q1
              have p2 := hgi.keep q2
              have lz := World.block_lt_of_cell? _ _ p0
              simp at lz
              obtain ⟨r0, r1, r2, r3, r4, r5⟩ := (HK.out j hjk).1
              change wr.cell? _ = some (.int .i64 (sx xs j)) at z0
              change wr.cell? _ = some (.int .i64 (sy xs j)) at z1
              change wr.cell? _ = some (.int .i64 (ss xs j)) at z2
              by_cases c1 : sx xs k < sx xs j + ss xs j
              · by_cases c2 : sx xs j < sx xs k + ss xs k
                · by_cases c3 : sy xs k < sy xs j + ss xs j
                  · by_cases c4 : sy xs j < sy xs k + ss xs k
                    · have HF : Hid (tileB n xs = false) := tileB_false (fun h => (h.2.2.1 k hlt).2.2 j hjk ⟨c1, c2, c3, c4⟩)
                      go_wp2_with fail
                      go_ret
                      exact ⟨ret_bool HF.out.symm, by (repeat (first | with_reducible exact Ge.refl _ | assumption | with_reducible refine Ge.drew ?_ | with_reducible refine Ge.drewN ?_ _ | with_reducible refine Ge.alloc ?_ _ | (with_reducible refine Ge.setCell ?_ (by first | (simp; done) | omega | (simp; omega)) _) | with_reducible refine Ge.trans ?_ (by assumption)))⟩
                    · have HN2 : Hid (∀ i, i < j + 1 → ¬ overSq xs k i) := no_step HN (fun h => by unfold overSq at h; omega)
                      go_wp2_with fail
                      go_roundw
                      case rel => exact ⟨j + 1, by omega, by go_num, HN2, by (repeat (first | with_reducible exact Ge.refl _ | assumption | with_reducible refine Ge.drew ?_ | with_reducible refine Ge.drewN ?_ _ | with_reducible refine Ge.alloc ?_ _ | (with_reducible refine Ge.setCell ?_ (by first | (simp; done) | omega | (simp; omega)) _) | with_reducible refine Ge.trans ?_ (by assumption)))⟩
                      case measure => simp [intOf]; omega
                  · have HN2 : Hid (∀ i, i < j + 1 → ¬ overSq xs k i) := no_step HN (fun h => by unfold overSq at h; omega)
                    go_wp2_with fail
                    go_roundw
                    case rel => exact ⟨j + 1, by omega, by go_num, HN2, by (repeat (first | with_reducible exact Ge.refl _ | assumption | with_reducible refine Ge.drew ?_ | with_reducible refine Ge.drewN ?_ _ | with_reducible refine Ge.alloc ?_ _ | (with_reducible refine Ge.setCell ?_ (by first | (simp; done) | omega | (simp; omega)) _) | with_reducible refine Ge.trans ?_ (by assumption)))⟩
                    case measure => simp [intOf]; omega
                · have HN2 : Hid (∀ i, i < j + 1 → ¬ overSq xs k i) := no_step HN (fun h => by unfold overSq at h; omega)
                  go_wp2_with fail
                  go_roundw
                  case rel => exact ⟨j + 1, by omega, by go_num, HN2, by (repeat (first | with_reducible exact Ge.refl _ | assumption | with_reducible refine Ge.drew ?_ | with_reducible refine Ge.drewN ?_ _ | with_reducible refine Ge.alloc ?_ _ | (with_reducible refine Ge.setCell ?_ (by first | (simp; done) | omega | (simp; omega)) _) | with_reducible refine Ge.trans ?_ (by assumption)))⟩
                  case measure => simp [intOf]; omega
              · have HN2 : Hid (∀ i, i < j + 1 → ¬ overSq xs k i) := no_step HN (fun h => by unfold overSq at h; omega)
                go_wp2_with fail
                go_roundw
                case rel => exact ⟨j + 1, by omega, by go_num, HN2, by (repeat (first | with_reducible exact Ge.refl _ | assumption | with_reducible refine Ge.drew ?_ | with_reducible refine Ge.drewN ?_ _ | with_reducible refine Ge.alloc ?_ _ | (with_reducible refine Ge.setCell ?_ (by first | (simp; done) | omega | (simp; omega)) _) | with_reducible refine Ge.trans ?_ (by assumption)))⟩
                case measure => simp [intOf]; omega
            · have hjk2 : j = k := by omega
              subst hjk2
              have HG : Hid (∀ i, i < j + 1 → goodSq xs i) := good_next HK ⟨OK.out, fun h0 => Classical.byContradiction fun h => by have := HBad.out.2 ⟨h0, h⟩; simp at this, HN.out⟩
              have p0 := hgi.keep q0
              have p1 := hgi.keep q1
              have p2 := hgi.keep q2
              have HX : Hid (minX xs (j + 1) = min (minX xs j) (sx xs j)) := rfl
              have HY : Hid (minY xs (j + 1) = min (minY xs j) (sy xs j)) := rfl
              have HA : Hid (areaSq xs (j + 1) = areaSq xs j + ss xs j * ss xs j) := rfl
              obtain ⟨m0, m1⟩ := minX_bd j (fun i hi => (HK.out i hi).1)
              obtain ⟨m2, m3⟩ := minY_bd j (fun i hi => (HK.out i hi).1)
              obtain ⟨m4, m5⟩ := area_bd j (fun i hi => (HK.out i hi).1)
              have m6 : ss xs j * ss xs j ≤ 200 * 200 := Int.mul_le_mul (by omega) (by omega) (by omega) (by omega)
              have m7 : 0 ≤ ss xs j * ss xs j := Int.mul_nonneg (by omega) (by omega)
              generalize hq : ss xs j * ss xs j = q at *
              go_wp2_with fail
              go_roundw
              case rel => exact ⟨j + 1, by omega, by go_num, congrArg _ (by rw [HX.out] <;> (split <;> omega)), congrArg _ (by rw [HY.out] <;> (split <;> omega)), congrArg _ (by rw [HA.out]), HG, by (repeat (first | with_reducible exact Ge.refl _ | assumption | with_reducible refine Ge.drew ?_ | with_reducible refine Ge.drewN ?_ _ | with_reducible refine Ge.alloc ?_ _ | (with_reducible refine Ge.setCell ?_ (by first | (simp; done) | omega | (simp; omega)) _) | with_reducible refine Ge.trans ?_ (by assumption)))⟩
              case measure => simp [intOf]; omega
    · have hkn : k = n := by omega
      subst hkn
      have hn12 : k ≤ 12 := by omega
      obtain ⟨m0, m1⟩ := minX_bd k (fun i hi => (HK.out i hi).1)
      obtain ⟨m2, m3⟩ := minY_bd k (fun i hi => (HK.out i hi).1)
      obtain ⟨m4, m5⟩ := area_bd k (fun i hi => (HK.out i hi).1)
      obtain ⟨r0, r1⟩ := right_bd k (fun i hi => (HK.out i hi).1)
      obtain ⟨l0, l1⟩ := low_bd k (fun i hi => (HK.out i hi).1)
      have m6 : rightSq xs k * lowSq xs k ≤ 400 * 400 := Int.mul_le_mul (by omega) (by omega) (by omega) (by omega)
      have m7 : 0 ≤ rightSq xs k * lowSq xs k := Int.mul_nonneg (by omega) (by omega)
      have HS : ∀ w', Ge w w' → SlF w' (.slice p k cap) k 3 xs := fun w' g => HV.out.ge g
      have HOK : Hid (∀ i, i < k → okSq xs i) := fun i hi => (HK.out i hi).1
      by_cases e1 : minX xs k = 0
      · have e1b : (minX xs k == 0) = true := by simp [e1]
        by_cases e2 : minY xs k = 0
        · have e2b : (minY xs k == 0) = true := by simp [e2]
          by_cases e3 : areaSq xs k = rightSq xs k * lowSq xs k
          · have e3b : (areaSq xs k == rightSq xs k * lowSq xs k) = true := by simp [e3]
            have HF : Hid (tileB k xs = true) := tileB_true ⟨by omega, by omega, HK.out, e1, e2, e3⟩
            go_wp2_with (go_at_call 25; ((with_reducible refine (iSides _ _ _ _ (HS _ hg) hn12 HOK.out).mono ?_); rintro e w' ⟨rfl, hb⟩))
            go_ret
            exact ⟨ret_bool HF.out.symm, by (repeat (first | with_reducible exact Ge.refl _ | assumption | with_reducible refine Ge.drew ?_ | with_reducible refine Ge.drewN ?_ _ | with_reducible refine Ge.alloc ?_ _ | (with_reducible refine Ge.setCell ?_ (by first | (simp; done) | omega | (simp; omega)) _) | with_reducible refine Ge.trans ?_ (by assumption)))⟩
          · have e3b : (areaSq xs k == rightSq xs k * lowSq xs k) = false := by simp [e3]
            have HF : Hid (tileB k xs = false) := tileB_false (fun h => e3 h.2.2.2.2.2)
            go_wp2_with (go_at_call 25; ((with_reducible refine (iSides _ _ _ _ (HS _ hg) hn12 HOK.out).mono ?_); rintro e w' ⟨rfl, hb⟩))
            go_ret
            exact ⟨ret_bool HF.out.symm, by (repeat (first | with_reducible exact Ge.refl _ | assumption | with_reducible refine Ge.drew ?_ | with_reducible refine Ge.drewN ?_ _ | with_reducible refine Ge.alloc ?_ _ | (with_reducible refine Ge.setCell ?_ (by first | (simp; done) | omega | (simp; omega)) _) | with_reducible refine Ge.trans ?_ (by assumption)))⟩
        · have e2b : (minY xs k == 0) = false := by simp [e2]
          have HF : Hid (tileB k xs = false) := tileB_false (fun h => e2 h.2.2.2.2.1)
          go_wp2_with (go_at_call 25; ((with_reducible refine (iSides _ _ _ _ (HS _ hg) hn12 HOK.out).mono ?_); rintro e w' ⟨rfl, hb⟩))
          go_ret
          exact ⟨ret_bool HF.out.symm, by (repeat (first | with_reducible exact Ge.refl _ | assumption | with_reducible refine Ge.drew ?_ | with_reducible refine Ge.drewN ?_ _ | with_reducible refine Ge.alloc ?_ _ | (with_reducible refine Ge.setCell ?_ (by first | (simp; done) | omega | (simp; omega)) _) | with_reducible refine Ge.trans ?_ (by assumption)))⟩
      · have e1b : (minX xs k == 0) = false := by simp [e1]
        have HF : Hid (tileB k xs = false) := tileB_false (fun h => e1 h.2.2.2.1)
        go_wp2_with (go_at_call 25; ((with_reducible refine (iSides _ _ _ _ (HS _ hg) hn12 HOK.out).mono ?_); rintro e w' ⟨rfl, hb⟩))
        go_ret
        exact ⟨ret_bool HF.out.symm, by (repeat (first | with_reducible exact Ge.refl _ | assumption | with_reducible refine Ge.drew ?_ | with_reducible refine Ge.drewN ?_ _ | with_reducible refine Ge.alloc ?_ _ | (with_reducible refine Ge.setCell ?_ (by first | (simp; done) | omega | (simp; omega)) _) | with_reducible refine Ge.trans ?_ (by assumption)))⟩
end Go.Proofs.Ytenfkpdbfmeebaa
