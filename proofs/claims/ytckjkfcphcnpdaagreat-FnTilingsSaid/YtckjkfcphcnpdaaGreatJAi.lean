/- The first node that is no terminal and has a number of neighbors. No condition. Plain law: a node taken out of a valid network; steps of it. No program in sight. StarMesh of impl. No condition. DropNode of impl. No condition. NetOfTiling of impl. No condition. FormatSquare. TilingLine of impl and of spec. No condition. -/
import Derived.Test.YtckjkfcphcnpdaaGreatJAh
import Derived.Test.YtckjkfcphcnpdaaGreatJAg
import Derived.Test.YtckjkfcphcnpdaaGreatJAb
import Derived.Test.YtckjkfcphcnpdaaGreatJAd
import Derived.Test.YtckjkfcphcnpdaaGreatJAa
import Derived.Test.YtckjkfcphcnpdaaGreatWNode
import Derived.Test.YtckjkfcphcnpdaaGreatJAf
import Derived.Test.YtckjkfcphcnpdaaGreatWTile5
namespace Go.Proofs.YtckjkfcphcnpdaaGreat
set_option maxRecDepth 100000
open Go.ChangeShapes Go.WideShapes Go.ChangeAt Go.RowKit Go.Joins

/-- The first number from a on, of c, with q; -1 if there is none. -/
def firstQ (q : Nat → Bool) (a : Nat) : Nat → Int
  | 0 => -1
  | c + 1 => if q a = true then (a : Int) else firstQ q (a + 1) c
theorem firstQ_none {q : Nat → Bool} : ∀ {c a : Nat}, (∀ t, t < c → q (a + t) = false) → firstQ q a c = -1
  | 0, a, _ => rfl
  | c + 1, a, h => by
    have h0 := h 0 (by omega)
    rw [Nat.add_zero] at h0
    simp only [firstQ, h0]
    exact firstQ_none (fun t ht => by have := h (t + 1) (by omega); rwa [show a + 1 + t = a + (t + 1) by omega])
theorem firstQ_some {q : Nat → Bool} : ∀ {c a k : Nat}, (∀ t, t < k → q (a + t) = false) → k < c → q (a + k) = true → firstQ q a c = ((a + k : Nat) : Int)
  | 0, a, k, _, h, _ => by omega
  | c + 1, a, 0, _, _, h => by rw [Nat.add_zero] at h; simp [firstQ, h]
  | c + 1, a, k + 1, hn, hk, h => by
    have h0 := hn 0 (by omega)
    rw [Nat.add_zero] at h0
    simp only [firstQ, h0]
    have := firstQ_some (q := q) (c := c) (a := a + 1) (k := k) (fun t ht => by have := hn (t + 1) (by omega); rwa [show a + 1 + t = a + (t + 1) by omega]) (by omega) (by rwa [show a + 1 + k = a + (k + 1) by omega])
    rw [show a + (k + 1) = a + 1 + k by omega]
    exact this
def nodeQ (n m : Nat) (xs : List Int) (c : Nat) (v : Nat) : Bool := decide ((nearX m xs v n).length = c)
def firstN (n e m : Nat) (xs : List Int) (c : Nat) : Int := firstQ (nodeQ n m xs c) e (n - e)
theorem firstN_bd (n e m : Nat) (xs : List Int) (c : Nat) : firstN n e m xs c = -1 ∨ ((e : Int) ≤ firstN n e m xs c ∧ firstN n e m xs c < n ∧ ∃ v : Nat, firstN n e m xs c = v ∧ (nearX m xs v n).length = c) := by
  unfold firstN
  have key : ∀ (c' a : Nat), firstQ (nodeQ n m xs c) a c' = -1 ∨ ((a : Int) ≤ firstQ (nodeQ n m xs c) a c' ∧ firstQ (nodeQ n m xs c) a c' < ((a + c' : Nat) : Int) ∧ ∃ v : Nat, firstQ (nodeQ n m xs c) a c' = v ∧ (nearX m xs v n).length = c) := by
    intro c'
    induction c' with
    | zero => intro a; exact .inl rfl
    | succ c' ih =>
      intro a
      simp only [firstQ]
      by_cases h : nodeQ n m xs c a = true
      · rw [if_pos h]
        exact .inr ⟨by omega, by omega, a, rfl, by simpa [nodeQ] using h⟩
      · rw [if_neg h]
        rcases ih (a + 1) with h | ⟨h1, h2, h3⟩
        · exact .inl h
        · exact .inr ⟨by omega, by omega, h3⟩
  rcases key (n - e) e with h | ⟨h1, h2, h3⟩
  · exact .inl h
  · by_cases he : e ≤ n
    · exact .inr ⟨h1, by omega, h3⟩
    · omega

end Go.Proofs.YtckjkfcphcnpdaaGreat

namespace Go.Proofs.YtckjkfcphcnpdaaGreat

theorem ord_of_good {n : Nat} {L : List Wr} (h : ∀ k, k < L.length → goodW n (flatW L) k) : Ord n L ∧ ∀ e ∈ L, e.w ≤ 200 := by
  have key : ∀ k, (hk : k < L.length) → 0 ≤ L[k].a ∧ L[k].a < L[k].b ∧ L[k].b < n ∧ 1 ≤ L[k].w ∧ L[k].w ≤ 200 := fun k hk => by
    obtain ⟨q1, q2, q3, q4, q5⟩ := (h k hk).1
    obtain ⟨f1, f2, f3⟩ := flat_wire hk
    rw [nthW_eq L k hk] at f1 f2 f3
    rw [f1] at q1 q2
    rw [f2] at q2 q3
    rw [f3] at q4 q5
    exact ⟨q1, q2, q3, q4, q5⟩
  have nxt : ∀ k, (hk : k + 1 < L.length) → ltW (L[k]'(by omega)) L[k + 1] := fun k hk => by
    have h1 := (h (k + 1) hk).2 (by omega)
    obtain ⟨f1, f2, _⟩ := flat_wire (L := L) (k := k) (by omega)
    obtain ⟨g1, g2, _⟩ := flat_wire hk
    rw [nthW_eq L k (by omega)] at f1 f2
    rw [nthW_eq L (k + 1) hk] at g1 g2
    rw [Nat.add_sub_cancel] at h1
    unfold ordW at h1
    rw [f1, f2, g1, g2] at h1
    exact h1
  have far : ∀ d i, (hd : i + d + 1 < L.length) → ltW (L[i]'(by omega)) L[i + d + 1] := by
    intro d
    induction d with
    | zero => intro i hd; exact nxt i hd
    | succ d ih => intro i hd; exact ltW_trans (ih i (by omega)) (nxt (i + d + 1) hd)
  refine ⟨⟨List.pairwise_iff_getElem.2 (fun i j hi hj hij => ?_), fun e he => ?_⟩, fun e he => ?_⟩
  · have := far (j - i - 1) i (by omega)
    have e : i + (j - i - 1) + 1 = j := by omega
    simp only [e] at this
    exact this
  · obtain ⟨k, hk, rfl⟩ := List.getElem_of_mem he
    have := key k hk
    omega
  · obtain ⟨k, hk, rfl⟩ := List.getElem_of_mem he
    exact (key k hk).2.2.2.2
theorem near_nearL {n : Nat} {L : List Wr} (h : Ord n L) (v : Nat) : nearX L.length (flatW L) v n = (nearL n L v).map (fun (i : Nat) => (i : Int)) := by
  unfold nearX nearL
  rw [List.filter_map]
  congr 1
  refine List.filter_congr (fun x _ => ?_)
  show decide (0 < wbet (flatW L) L.length (v : Int) (x : Int)) = _
  rw [wbet_wbL h]
theorem wat_le {N : Int} {xs : List Int} (v : Int) {k : Nat} : ∀ {m : Nat}, (∀ k, k < m → goodW N xs k) → k < m → (wa xs k = v ∨ wb xs k = v) → ww xs k ≤ wat xs v m
  | 0, _, h, _ => by omega
  | m + 1, h, hk, hv => by
    have h0 := wat_bd v (m := m) (fun k hk => h k (by omega))
    obtain ⟨_, _, _, q1, q2⟩ := (h m (by omega)).1
    simp only [wat]
    by_cases e : k = m
    · subst e; rw [if_pos hv]; omega
    · have := wat_le v (m := m) (fun k hk => h k (by omega)) (by omega) hv
      split <;> omega
theorem wat_pos {n : Nat} {L : List Wr} (h : ∀ k, k < L.length → goodW n (flatW L) k) {v c : Nat} (hc : (nearX L.length (flatW L) v n).length = c) (h1 : 1 ≤ c) : 0 < wat (flatW L) v L.length := by
  obtain ⟨x, hx⟩ : ∃ x, x ∈ nearX L.length (flatW L) v n := List.exists_mem_of_length_pos (by omega)
  have hw : 0 < wbet (flatW L) L.length v x := by
    unfold nearX at hx
    have := (List.mem_filter.1 hx).2
    simpa using this
  cases e : wfind (flatW L) v x L.length with
  | none => rw [wbet_none e] at hw; omega
  | some k =>
    obtain ⟨hk, hi⟩ := wfind_lt e
    obtain ⟨_, _, _, q1, _⟩ := (h k hk).1
    unfold isW at hi
    have := wat_le (v : Int) h hk (by omega)
    omega
/-- What replaces a node. -/
def redM (n : Nat) (L : List Wr) (v : Nat) : List Wr := tabC (meshF L v (wat (flatW L) v L.length)) (n - 1) (n - 1)
def redG (n : Nat) (S : Int) (L : List Wr) (v : Nat) : Int := gcdF (S * wat (flatW L) v L.length) (redM n L v)
def redS (n : Nat) (S : Int) (L : List Wr) (v : Nat) : Int := (S * wat (flatW L) v L.length).tdiv (redG n S L v)
def redL (n : Nat) (S : Int) (L : List Wr) (v : Nat) : List Wr := cutW (redG n S L v) (redM n L v)
noncomputable def redB (n : Nat) (E S : Int) (L : List Wr) (v : Nat) : Bool := netB ((n - 1 : Nat) : Int) E (redS n S L v) (redL n S L v).length (flatW (redL n S L v))
/-- A network: nodes, scale, wires. -/
structure NwR where
  n : Nat
  s : Int
  l : List Wr
/-- The node that is taken out. -/
def redV (e : Nat) (x : NwR) : Int := if firstN x.n e x.l.length (flatW x.l) 1 < 0 then firstN x.n e x.l.length (flatW x.l) 2 else firstN x.n e x.l.length (flatW x.l) 1
noncomputable def redN (e : Nat) (x : NwR) : Option NwR :=
  if redV e x < 0 then none else if redB x.n e x.s x.l (redV e x).toNat = true then some ⟨x.n - 1, redS x.n x.s x.l (redV e x).toNat, redL x.n x.s x.l (redV e x).toNat⟩ else none
noncomputable def redK (e : Nat) (x : NwR) : Nat → Option NwR
  | 0 => some x
  | k + 1 => (redK e x k).bind (redN e)
theorem redK_succ {e : Nat} {x y z : NwR} {k : Nat} (h : redK e x k = some y) (h2 : redN e y = some z) : redK e x (k + 1) = some z := by
  simp [redK, h, h2]
theorem redK_none {e : Nat} {x y : NwR} {k : Nat} (h : redK e x k = some y) (h2 : redN e y = none) : ∀ d, redK e x (k + 1 + d) = none
  | 0 => by simp [redK, h, h2]
  | d + 1 => by
    have := redK_none h h2 d
    rw [show k + 1 + (d + 1) = (k + 1 + d) + 1 by omega]
    simp [redK, this]
theorem redK_one {e : Nat} {x y z : NwR} {k j : Nat} (h : redK e x k = some y) (h2 : redN e y = none) (h' : redK e x j = some z) (h2' : redN e z = none) : k = j ∧ y = z := by
  have : k = j := by
    rcases Nat.lt_trichotomy k j with hl | hl | hl
    · have := redK_none h h2 (j - (k + 1))
      rw [show k + 1 + (j - (k + 1)) = j by omega, h'] at this
      cases this
    · exact hl
    · have := redK_none h' h2' (k - (j + 1))
      rw [show j + 1 + (k - (j + 1)) = k by omega, h] at this
      cases this
  subst this
  rw [h] at h'
  exact ⟨rfl, by simpa using h'⟩
theorem redV_bd {e : Nat} {x : NwR} (h : ¬ redV e x < 0) : ∃ v c : Nat, redV e x = v ∧ (redV e x).toNat = v ∧ e ≤ v ∧ v < x.n ∧ (nearX x.l.length (flatW x.l) v x.n).length = c ∧ 1 ≤ c ∧ c ≤ 2 := by
  have h1 := firstN_bd x.n e x.l.length (flatW x.l) 1
  have h2 := firstN_bd x.n e x.l.length (flatW x.l) 2
  unfold redV at *
  split at h
  · rename_i hlt
    rw [if_pos hlt]
    rcases h2 with h2 | ⟨a, b, v, hv, hc⟩
    · omega
    · exact ⟨v, 2, hv, by omega, by omega, by omega, hc, by omega, by omega⟩
  · rename_i hlt
    rw [if_neg hlt]
    rcases h1 with h1 | ⟨a, b, v, hv, hc⟩
    · omega
    · exact ⟨v, 1, hv, by omega, by omega, by omega, hc, by omega, by omega⟩
end Go.Proofs.YtckjkfcphcnpdaaGreat

namespace Go.Proofs.YtckjkfcphcnpdaaGreat
set_option maxRecDepth 100000
open Go.ChangeShapes Go.WideShapes Go.ChangeAt Go.RowKit Go.Joins

/-- The table while row i is turned up to j. -/
def starR (T : Nat → Nat → Int) (s : Int) (v i j a b : Nat) : Int := if (a < i ∨ a = i ∧ b < j) ∧ ¬ a = v ∧ ¬ b = v ∧ ¬ a = b then T a b * s + T a v * T v b else T a b
theorem starR_zero (T : Nat → Nat → Int) (s : Int) (v n : Nat) : ∀ a b, a < n → b < n → T a b = starR T s v 0 0 a b := fun a b _ _ => by simp [starR]
theorem starR_step (T : Nat → Nat → Int) (s : Int) {v i j : Nat} (n : Nat) (h1 : ¬ i = v) (h2 : ¬ j = v) (h3 : ¬ i = j) : ∀ a b, a < n → b < n → (if a = i ∧ b = j then T i j * s + T i v * T v j else starR T s v i j a b) = starR T s v i (j + 1) a b := fun a b _ _ => by
  unfold starR
  by_cases e : a = i ∧ b = j
  · obtain ⟨rfl, rfl⟩ := e
    simp [h1, h2, h3]
  · rw [if_neg e]
    by_cases c : (a < i ∨ a = i ∧ b < j) ∧ ¬ a = v ∧ ¬ b = v ∧ ¬ a = b
    · rw [if_pos c, if_pos ⟨by omega, c.2⟩]
    · rw [if_neg c, if_neg (fun c' => c ⟨by omega, c'.2⟩)]
theorem starR_skip (T : Nat → Nat → Int) (s : Int) {v i j : Nat} (n : Nat) (h : i = v ∨ j = v ∨ i = j) : ∀ a b, a < n → b < n → starR T s v i j a b = starR T s v i (j + 1) a b := fun a b _ _ => by
  unfold starR
  by_cases c : (a < i ∨ a = i ∧ b < j) ∧ ¬ a = v ∧ ¬ b = v ∧ ¬ a = b
  · rw [if_pos c, if_pos ⟨by omega, c.2⟩]
  · rw [if_neg c, if_neg (fun c' => c ⟨by omega, c'.2⟩)]
theorem starR_next (T : Nat → Nat → Int) (s : Int) (v i n : Nat) : ∀ a b, a < n → b < n → starR T s v i n a b = starR T s v (i + 1) 0 a b := fun a b _ hb => by
  unfold starR
  by_cases c : (a < i ∨ a = i ∧ b < n) ∧ ¬ a = v ∧ ¬ b = v ∧ ¬ a = b
  · rw [if_pos c, if_pos ⟨by omega, c.2⟩]
  · rw [if_neg c, if_neg (fun c' => c ⟨by omega, c'.2⟩)]
theorem starR_at (T : Nat → Nat → Int) (s : Int) (v i j : Nat) : starR T s v i j i j = T i j ∧ starR T s v i j i v = T i v ∧ starR T s v i j v j = T v j := by simp [starR]
theorem starR_bd {T : Nat → Nat → Int} {s : Int} (hT : ∀ a b, 0 ≤ T a b ∧ T a b ≤ 200) (hs : 0 ≤ s ∧ s ≤ 2000) (v i j a b : Nat) : 0 ≤ starR T s v i j a b ∧ starR T s v i j a b ≤ 440000 := by
  have h1 := hT a b
  have h2 := hT a v
  have h3 := hT v b
  have m1 : 0 ≤ T a b * s := Int.mul_nonneg h1.1 hs.1
  have m2 : T a b * s ≤ 200 * 2000 := Int.mul_le_mul h1.2 hs.2 hs.1 (by omega)
  have m3 : 0 ≤ T a v * T v b := Int.mul_nonneg h2.1 h3.1
  have m4 : T a v * T v b ≤ 200 * 200 := Int.mul_le_mul h2.2 h3.2 h3.1 (by omega)
  unfold starR
  split <;> omega
theorem star_tab {n v : Nat} {L : List Wr} {s : Int} (hL : Ord n L) (hv : v < n) :
    tabC (fun (i j : Nat) => starR (fun a b => wbet (flatW L) L.length (a : Int) (b : Int)) s v n 0 (upI v i) (upI v j)) (n - 1) (n - 1) = tabC (meshF L v s) (n - 1) (n - 1) := by
  refine tabC_congr (fun i j hij hj => ?_)
  have u1 := up_ne v i
  have u2 := up_ne v j
  have u3 : upI v i < n := by unfold upI; split <;> omega
  have u4 : ¬ upI v i = upI v j := by unfold upI; split <;> split <;> omega
  unfold starR meshF
  rw [if_pos ⟨.inl u3, u1, u2, u4⟩]
  simp only [wbet_wbL hL]

/-- A network's block of four cells. -/
def NetIn (w : World) (B : Nat) (n e S : Int) (v : Value) : Prop := w.cell? ⟨B, 0, none⟩ = some (.int .i64 n) ∧ w.cell? ⟨B, 1, none⟩ = some (.int .i64 e) ∧ w.cell? ⟨B, 2, none⟩ = some (.int .i64 S) ∧ w.cell? ⟨B, 3, none⟩ = some v
theorem NetIn.ge {w w' : World} {B : Nat} {n e S : Int} {v : Value} (h : NetIn w B n e S v) (hg : Ge w w') : NetIn w' B n e S v := ⟨hg.keep h.1, hg.keep h.2.1, hg.keep h.2.2.1, hg.keep h.2.2.2⟩
theorem NetIn.new (w : World) (n e S : Int) (v : Value) : NetIn (w.alloc (.cells #[.int .i64 n, .int .i64 e, .int .i64 S, v] 30)) w.heap.size n e S v :=
  ⟨cell_new rfl rfl, cell_new rfl rfl, cell_new rfl rfl, cell_new rfl rfl⟩
theorem in_res (w : World) (n e S : Int) (v : Value) : NetIn ((w.alloc (.cells #[.int .i64 n, .int .i64 e, .int .i64 S, v] 30)).alloc (.cells #[.int .i64 0, .int .i64 0, .int .i64 0, .slice none 0 0] 30)) w.heap.size n e S v ∧
    ResD ((w.alloc (.cells #[.int .i64 n, .int .i64 e, .int .i64 S, v] 30)).alloc (.cells #[.int .i64 0, .int .i64 0, .int .i64 0, .slice none 0 0] 30)) (w.heap.size + 1) := by
  refine ⟨(NetIn.new w n e S v).ge (Ge.alloc (Ge.refl _) _), ?_⟩
  have := ResD.new (w.alloc (.cells #[.int .i64 n, .int .i64 e, .int .i64 S, v] 30)) (.int .i64 0) (.int .i64 0) (.int .i64 0) (.slice none 0 0) 30
  simp at this
  exact this
/-- The table's wires behind the turn. -/
def starM (n m : Nat) (xs : List Int) (v : Nat) : List Wr := tabC (fun (i j : Nat) => starR (fun a b => wbet xs m (a : Int) (b : Int)) (wat xs v m) v n 0 (upI v i) (upI v j)) (n - 1) (n - 1)

theorem starM_red {n v e : Nat} {S : Int} {L : List Wr} (hB : netB n e S L.length (flatW L) = true) (hv : v < n) : starM n L.length (flatW L) v = redM n L v := by
  obtain ⟨_, _, _, hok, _⟩ := netP_of hB
  exact star_tab (ord_of_good hok).1 hv
end Go.Proofs.YtckjkfcphcnpdaaGreat

namespace Go.Proofs.YtckjkfcphcnpdaaGreat
set_option maxRecDepth 100000
open Go.ChangeShapes Go.WideShapes Go.ChangeAt Go.RowKit Go.Joins

theorem GivesO.tt {w w' : World} {N E S : Int} {L : List Wr} {r : Ending} (h : GivesO w true N E S L r w') : ∃ u, r = .returned (.tuple #[.agg #[.int .i64 N, .int .i64 E, .int .i64 S, u], .bool true]) ∧ w'.ownsRow w.heap.size 79 3 u L.length (icells (flatW L)) ∧ Ge w w' := by
  rcases h.2 with ⟨_, u, h1, h2⟩ | ⟨h1, _⟩
  · exact ⟨u, h1, h2, h.1⟩
  · cases h1
theorem GivesO.ff {w w' : World} {N E S : Int} {L : List Wr} {r : Ending} (h : GivesO w false N E S L r w') : r = .returned (.tuple #[.agg #[.int .i64 0, .int .i64 0, .int .i64 0, .slice none 0 0], .bool false]) ∧ Ge w w' := by
  rcases h.2 with ⟨h1, _⟩ | ⟨_, h1⟩
  · cases h1
  · exact ⟨h1, h.1⟩

end Go.Proofs.YtckjkfcphcnpdaaGreat

namespace Go.Proofs.YtckjkfcphcnpdaaGreat
set_option maxRecDepth 100000
open Go.ChangeShapes Go.WideShapes Go.ChangeAt Go.RowKit Go.Joins

theorem OutL.ownL {w : World} {base B f : Nat} {v : Value} {L : List (List Int)} (h : OutL w base B f v L) : OwnL w base v L := by
  obtain ⟨cs, q, cq, h1, h2, _⟩ := h
  exact ⟨cs, h1, fun i hi => ⟨_, _, (h2 i hi).1, owns_mono (h2 i hi).2 (Nat.zero_le _)⟩⟩
theorem netB_big {N E S : Int} {m : Nat} {xs : List Int} (h : 5 < N) : netB N E S m xs = false := by
  cases hb : netB N E S m xs with
  | false => rfl
  | true => have := (netP_of hb).1; omega

set_option maxHeartbeats 6400000 in
theorem iNotT (v : Value) (n : Nat) (xs : List Int) (w : World) (hv : SlF w v n 3 xs) (hm : n ≤ 9223372036854775807) (hb : ∀ j, -9223372036854775808 ≤ nth xs j ∧ nth xs j ≤ 9223372036854775807) (hcap : ∀ p c, v = .slice p n c → n ≤ c) (hB : tileB n xs = true) :
    Calls Tryz.prog 8 #[v] w (GivesO w (netB (notN n xs) 2 1 (notW n xs).length (flatW (notW n xs))) (notN n xs) 2 1 (notW n xs)) := by
  obtain ⟨p, cap, rfl, hc⟩ := hv.open
  have HV := Lib.hid hv
  have HC := Lib.hid hc
  have HBd := Lib.hid hb
  have HCap := Lib.hid hcap
  clear hv hc hb hcap
  have HLv := Lib.hid (fun w' (g : Ge w w') => iLevelsOf (.slice p n cap) n xs w' (HV.out.ge g) hm HBd.out HCap.out)
  obtain ⟨h0, h12, hsq, _⟩ : tileP n xs := by
    unfold tileB at hB
    split at hB
    · assumption
    · cases hB
  have hok : ∀ i, i < n → okSq xs i := fun i hi => (hsq i hi).1
  have HOK := Lib.hid hok
  have hr := right_bd n hok
  have hl := low_bd n hok
  obtain ⟨W, hW⟩ : ∃ W : Nat, rightSq xs n = W := ⟨(rightSq xs n).toNat, by omega⟩
  obtain ⟨H, hH⟩ : ∃ H : Nat, lowSq xs n = H := ⟨(lowSq xs n).toNat, by omega⟩
  have hQ : levQ n xs = levU xs n W (H + 1) := by rw [levQ_t hB]; unfold levT; rw [hW, hH]; simp
  have hN3 := levQ_three n xs
  have hNl := levQ_len n xs
  have HNF := Lib.hid (fun k (hk : k < n) => nod_facts hok hW hH hQ rfl (k := k) hk)
  have hTab : notW n xs = tabC (fun i j => tabT xs (levQ n xs) (notN n xs) n i j) (notN n xs) (notN n xs) := wirT_tab hok hW hH hQ rfl
  have HTb := Lib.hid (fun (k : Nat) (i j : Int) => tab_bd xs (levQ n xs) (notN n xs) i j k)
  have HT0 : Hid (∀ i j : Int, tabT xs (levQ n xs) (notN n xs) 0 i j = 0) := fun i j => rfl
  have HT1 : Hid (∀ k (i j : Int), tabT xs (levQ n xs) (notN n xs) (k + 1) i j = tabT xs (levQ n xs) (notN n xs) k i j + (if i = min (nodA xs (levQ n xs) (notN n xs) k) (nodB xs (levQ n xs) (notN n xs) k) ∧ j = max (nodA xs (levQ n xs) (notN n xs) k) (nodB xs (levQ n xs) (notN n xs) k) then 1 else 0)) := fun k i j => rfl
  have HND : Hid (∀ k, nodA xs (levQ n xs) (notN n xs) k = nodeF (notN n xs) (idxF (hitImp (levQ n xs) (sy xs k) (sx xs k) (ss xs k)) (notN n xs)) ∧ nodB xs (levQ n xs) (notN n xs) k = nodeF (notN n xs) (idxF (hitImp (levQ n xs) (sy xs k + ss xs k) (sx xs k) (ss xs k)) (notN n xs))) := fun k => ⟨rfl, rfl⟩
  have hNN : (levQ n xs).length = notN n xs := rfl
  have h2N := (HNF.out 0 (by omega)).1
  rw [hNN] at HNF hNl h2N
  generalize notW n xs = LW at *
  generalize notN n xs = N at *
  have H3 : Hid (∀ i, i < N → (rowL (levQ n xs) i).length = 3) := fun i hi => hN3 _ (rowL_mem (by omega))
  have HLN := Lib.hid hNN
  generalize levQ n xs = L at *
  have HLW := Lib.hid hTab
  clear hQ hN3 hNN hsq hW hH hB hTab hok hr hl h0
  go_enter Tryz.func8, Tryz.ntmps8
  go_upto_region 1 with (fail)
  have HNU := Lib.hid (fun (k : Nat) (hk5 : k ≤ 5) (T : Int → Int → Int) (hT : ∀ i j : Nat, i < k → j < k → 0 ≤ T i j ∧ T i j ≤ 1000000000) (vm : Value) (w' : World) (h : SlMM w' vm k T) => iNetOfU k 2 1 T vm w' h hk5 (by omega) (by omega) hT)
  have R0 := ResD.new w (.int .i64 0) (.int .i64 0) (.int .i64 0) (.slice none 0 0) 30
  have gR := Ge.alloc (Ge.refl w) (.cells #[.int .i64 0, .int .i64 0, .int .i64 0, .slice none 0 0] 30)
  have zR : w.heap.size < (w.alloc (.cells #[.int .i64 0, .int .i64 0, .int .i64 0, .slice none 0 0] 30)).heap.size := by simp
  generalize w.alloc (.cells #[.int .i64 0, .int .i64 0, .int .i64 0, .slice none 0 0] 30) = wR at *
  have t1 : decide ((N : Int) < 2) = false := by simp; omega
  go_upto_region 3 with ((go_at_call 9; ((with_reducible refine (HLv.out _ gR).mono ?_); rintro e w1 ⟨u1, rfl, o1, g1⟩)); have O1 := Lib.hid o1.ownL; have hform := OwnL.read O1.out HLN.out; obtain ⟨pl, cl, hfe, _⟩ := hform; subst hfe; have G1 := Lib.hid (gR.trans g1); have R1 := Lib.hid (R0.ge g1); have z1 := g1.size; clear o1 g1)
  by_cases h5 : (5 : Int) < N
  · have t2 : decide ((5 : Int) < N) = true := by simpa using h5
    have HTF := Lib.hid (fun w' g => GivesO.f (w := w) (w' := w') (b := netB N 2 1 LW.length (flatW LW)) (N := N) (E := 2) (S := 1) (L := LW) (netB_big h5) g)
    obtain ⟨r0, q0, f0⟩ := R1.out 0 (by omega)
    obtain ⟨r1, q1, f1⟩ := R1.out 1 (by omega)
    obtain ⟨r2, q2, f2⟩ := R1.out 2 (by omega)
    obtain ⟨r3, q3, f3⟩ := R1.out 3 (by omega)
    have gw := G1.out
    have zz : w.heap.size < w1.heap.size := by omega
    clear HND HT0 HT1 HTb HNF HLv HOK
    go_wp2_with fail
    exact bodyPost_ret (v := .tuple #[.agg #[.int .i64 0, .int .i64 0, .int .i64 0, .slice none 0 0], .bool false]) (by simp [results, Tryz.results8, go_sem, *]) rfl (HTF.out _ (by repeat (first | exact gw | refine Ge.alloc ?_ _ | refine Ge.setCell ?_ (Nat.le_refl _) _)))
  have h5' : N ≤ 5 := by omega
  have t2 : decide ((5 : Int) < N) = false := by simpa using h5
  go_upto_region 6 with fail
  have LV : ((w1.alloc (.cells #[.slice pl N cl] 33)).alloc (.cells #[.int .i64 (N : Int)] 3)).cell? ⟨w1.heap.size, 0, none⟩ = some (.slice pl N cl) := by simp
  have CT : ((w1.alloc (.cells #[.slice pl N cl] 33)).alloc (.cells #[.int .i64 (N : Int)] 3)).cell? ⟨w1.heap.size + 1, 0, none⟩ = some (.int .i64 (N : Int)) := by simp
  have G12 := Lib.hid (Ge.alloc (Ge.alloc (Ge.refl w1) (.cells #[.slice pl N cl] 33)) (.cells #[.int .i64 (N : Int)] 3))
  have z2 : ((w1.alloc (.cells #[.slice pl N cl] 33)).alloc (.cells #[.int .i64 (N : Int)] 3)).heap.size = w1.heap.size + 2 := by simp
  generalize ((w1.alloc (.cells #[.slice pl N cl] 33)).alloc (.cells #[.int .i64 (N : Int)] 3)) = W2 at *
  have HLV := Lib.hid LV
  have HCT := Lib.hid CT
  have zG : w1.heap.size < W2.heap.size ∧ w.heap.size < w1.heap.size := by omega
  clear z2
  have HN := Lib.hid (fun (y X Y Z : Int) (hX : 0 ≤ X ∧ X ≤ 200) (hZ : 0 ≤ Z ∧ Z ≤ 200) (w' : World) (g : Ge W2 w') => iNode (.slice pl N cl) L N wR.heap.size w1.heap.size (w1.heap.size + 1) y X Y Z w' ((O1.out.ge G12.out).ge g) HLN.out (by omega) H3.out (g.keep HLV.out) (g.keep HCT.out) hX hZ)
  clear O1 LV
  go_wp2_with (at_make; refine mk1 rfl _ _ _ rfl 35 _ 1 24 Tryz.underlying33 inf_rowI (by decide) N rfl rfl (by omega) ?_; intro w3 own3 g3)
  have HO1 : Hid (∃ f cs, OMat w3 W2.heap.size W2.heap.size N f cs 0 (fun _ _ => 0)) := ⟨fun _ => 0, _, own3, fun i hi => by omega⟩
  have HG3 := Lib.hid g3
  clear own3 g3
  go_loopw [29] (fun i wr => ∃ k : Nat, k ≤ N ∧ i = .int .i64 (k : Int) ∧ Hid (∃ f cs, OMat wr W2.heap.size W2.heap.size N f cs k (fun _ _ => 0)) ∧ Hid (Ge W2 wr)) (fun i _ => N - (intOf i).toNat)
  case atStart => exact ⟨0, Nat.zero_le _, rfl, HO1.out, HG3.out⟩
  case round =>
    clear HO1 HG3
    obtain ⟨i, hi, rfl, ⟨f, cs, HO⟩, hg⟩ := hrel
    have HOh := Lib.hid HO
    by_cases hlt : i < N
    · obtain ⟨lg1, lg2, lg3⟩ := HO.lt
      clear lg3 HO
      obtain ⟨u, hu⟩ : ∃ u, wr.cell? ⟨W2.heap.size, i, none⟩ = some u := by
        rw [HOh.out.1.cellAt i (by omega)]
        exact ⟨_, List.getElem?_eq_getElem (by have := HOh.out.1.1; omega)⟩
      have hf := HOh.out.1.frozenAt i
      have hct := hg.out.keep HCT.out
      go_wp2_with (at_make; refine mk1 rfl _ _ _ rfl 3 _ 1 8 Tryz.underlying35 inf_int (by decide) N rfl rfl (by omega) ?_; intro w5 own5 g5; rw [made_ints, mapR_zero] at own5; have hu5 := g5.keep hu; have hf5 := g5.keepF hu hf; have zr := g5.size)
      have HN5 := Lib.hid (OMat.newRow HOh.out hlt g5 own5 rfl)
      have HN6 := Lib.hid (HN5.out.1.congr (M' := fun _ _ => 0) (fun a b _ _ => by simp))
      have hg6 := (Ge.trans hg.out g5).grown HN5.out.2 (fun q hq => by simp at hq; subst hq; omega)
      clear own5
      go_roundw
      case rel => exact ⟨i + 1, by omega, by go_num, ⟨_, _, HN6.out⟩, hg6⟩
      case measure => simp [intOf]; omega
    · have hin : i = N := by omega
      subst hin
      go_wp2_with fail
      clear HO
      go_loopw [40] (fun kv wr => ∃ k : Nat, k ≤ n ∧ kv = .int .i64 (k : Int) ∧ Hid (∃ f cs, OMat wr W2.heap.size W2.heap.size i f cs i (fun a b => tabT xs L i k (a : Int) (b : Int))) ∧ Hid (Ge W2 wr)) (fun kv _ => n - (intOf kv).toNat)
      case atStart => exact ⟨0, Nat.zero_le _, rfl, ⟨f, cs, HOh.out.congr (fun a b _ _ => by rw [HT0.out])⟩, hg.out⟩
      case round =>
        clear HOh hg
        obtain ⟨k, hk, rfl, ⟨f, cs, HO⟩, hg⟩ := hrel
        have HOh := Lib.hid HO
        clear HO
        by_cases hlt2 : k < n
        · obtain ⟨b, o, rfl, x0, x1, x2⟩ := three_cells HC.out hlt2
          have gw := G1.out.trans (G12.out.trans hg.out)
          have y0 := gw.keep x0
          have y1 := gw.keep x1
          have y2 := gw.keep x2
          clear x0 x1 x2 gw
          obtain ⟨_, ⟨a1, a2⟩, ⟨b1, b2⟩, hne, _, _⟩ := HNF.out k hlt2
          obtain ⟨c1, c2, c3, c4, c5, c6⟩ := HOK.out k hlt2
          have HA := Lib.hid (fun (Y' : Int) w' g => HN.out (sy xs k) (sx xs k) Y' (ss xs k) ⟨c1, c2⟩ ⟨by omega, c6⟩ w' g)
          have HB := Lib.hid (fun (Y' : Int) w' g => HN.out (sy xs k + ss xs k) (sx xs k) Y' (ss xs k) ⟨c1, c2⟩ ⟨by omega, c6⟩ w' g)
          rw [← (HND.out k).1] at HA
          rw [← (HND.out k).2] at HB
          have HTk := Lib.hid (HT1.out k)
          have HTbk := Lib.hid (HTb.out k)
          change wr.cell? ⟨b, o + k * 3, none⟩ = some (.int .i64 (sx xs k)) at y0
          change wr.cell? ⟨b, o + k * 3 + 1, none⟩ = some (.int .i64 (sy xs k)) at y1
          change wr.cell? ⟨b, o + k * 3 + 2, none⟩ = some (.int .i64 (ss xs k)) at y2
          generalize nodA xs L i k = A at *
          generalize nodB xs L i k = B at *
          generalize sx xs k = X at *
          generalize sy xs k = Y at *
          generalize ss xs k = Z at *
          have tw : wrap64 (Y + Z) = Y + Z := IntWalk.wrap64_in _ ⟨by omega, by omega⟩
          obtain ⟨a, rfl⟩ := Int.eq_ofNat_of_zero_le a1
          obtain ⟨bb, rfl⟩ := Int.eq_ofNat_of_zero_le b1
          obtain ⟨lo, hi, hlo, hhi, mn, mx⟩ : ∃ lo hi : Nat, lo < i ∧ hi < i ∧ min (a : Int) (bb : Int) = (lo : Int) ∧ max (a : Int) (bb : Int) = (hi : Int) := by
            by_cases hab : a < bb
            · exact ⟨a, bb, by omega, by omega, by omega, by omega⟩
            · exact ⟨bb, a, by omega, by omega, by omega, by omega⟩
          rw [mn, mx] at HTk
          have u0 := HOh.out.row hlo hlo
          have u1 := HOh.out.entry hlo hhi
          have uf := HOh.out.froz hlo hi
          have ub := HTbk.out lo hi
          have ul := (HOh.out.lt.2.2 lo hlo).1
          obtain ⟨τ, hτ⟩ : ∃ τ, tabT xs L i k (lo : Int) (hi : Int) = τ := ⟨_, rfl⟩
          rw [hτ] at u1 ub
          have Hτ := Lib.hid hτ
          have tw2 : wrap64 (τ + 1) = τ + 1 := IntWalk.wrap64_in _ ⟨by omega, by omega⟩
          clear hτ
          have gB := Lib.hid (hg.out.trans (Ge.alloc (Ge.refl wr) (.cells #[.int .i64 X, .int .i64 Y, .int .i64 Z] 27)))
          go_wp2_with (first
            | (go_at_call 23; ((with_reducible refine (HA.out _ _ gB.out).mono ?_); rintro e w5 ⟨rfl, g5⟩); have gB5 := Lib.hid (gB.out.trans g5); have e0 := g5.keep (cell_new (w := wr) (t := 27) (cs := #[.int .i64 X, .int .i64 Y, .int .i64 Z]) (i := 0) rfl rfl); have e1 := g5.keep (cell_new (w := wr) (t := 27) (cs := #[.int .i64 X, .int .i64 Y, .int .i64 Z]) (i := 1) rfl rfl); have e2 := g5.keep (cell_new (w := wr) (t := 27) (cs := #[.int .i64 X, .int .i64 Y, .int .i64 Z]) (i := 2) rfl rfl); have g5a := (Ge.alloc (Ge.refl wr) (.cells #[.int .i64 X, .int .i64 Y, .int .i64 Z] 27)).trans g5; clear HA)
            | (go_at_call 23; ((with_reducible refine (HB.out _ _ gB5.out).mono ?_); rintro e w6 ⟨rfl, g6⟩); have gB6 := Lib.hid (gB5.out.trans g6); have g6a := g5a.trans g6; have v0 := g6a.keep u0; have v1 := g6a.keep u1; have vf := g6a.keepF u1 uf))
          have HE := Lib.hid ((HOh.out.ge g6a).setE hlo hhi (τ + 1))
          have HE2 := Lib.hid (HE.out.1.congr (M' := fun (x y : Nat) => tabT xs L i (k + 1) (x : Int) (y : Int)) (fun x y _ _ => by
            rw [HTk.out]
            by_cases e : x = lo ∧ y = hi
            · obtain ⟨rfl, rfl⟩ := e
              simp [Hτ.out]
            · have e2 : ¬ ((x : Int) = (lo : Int) ∧ (y : Int) = (hi : Int)) := by omega
              rw [if_neg e, if_neg e2]; simp))
          have hgE := (Ge.trans hg.out g6a).grown HE.out.2 (fun q hq => by simp at hq; subst hq; exact ul)
          go_roundw
          case rel => exact ⟨k + 1, by omega, by go_num, ⟨_, _, HE2.out⟩, hgE⟩
          case measure => simp [intOf]; omega
        · have hkn : k = n := by omega
          subst hkn
          have HMM := Lib.hid (HOh.out.slMM (Z := fun (a b : Int) => tabT xs L i k a b) (fun a b _ _ => rfl))
          have gw := G1.out.trans (G12.out.trans hg.out)
          have HNO := Lib.hid (HNU.out i (by omega) (fun (a b : Int) => tabT xs L i k a b) (fun a b _ _ => by have := HTb.out k a b; omega) (.slice (some ⟨W2.heap.size, 0, none⟩) i i) wr HMM.out)
          rw [← HLW.out] at HNO
          have hgR := G12.out.trans hg.out
          obtain ⟨r0, p0, f0⟩ := (R1.out.ge hgR) 0 (by omega)
          obtain ⟨r1, p1, f1⟩ := (R1.out.ge hgR) 1 (by omega)
          obtain ⟨r2, p2, f2⟩ := (R1.out.ge hgR) 2 (by omega)
          obtain ⟨r3, p3, f3⟩ := (R1.out.ge hgR) 3 (by omega)
          have zz : W2.heap.size ≤ wr.heap.size := hg.out.size
          clear HMM HLW HTb HNU HT0 HT1 HND HNF HN
          cases hB : netB i 2 1 LW.length (flatW LW) with
          | true =>
            rw [hB] at HNO
            have HT1 := Lib.hid (fun u w' ho g => GivesO.t (w := w) (w' := w') (N := i) (E := 2) (S := 1) (L := LW) (u := u) hB ho g)
            have HNt := Lib.hid (HNO.out.mono (fun e w' h => h.tt))
            go_wp2_with ((go_at_call 26; ((with_reducible refine (HNt.out).mono ?_); rintro r w9 ⟨u9, rfl, o9, g9⟩)); obtain ⟨pu, cu, rfl⟩ := owns_form o9; have q0 := g9.keep p0; have q1 := g9.keep p1; have q2 := g9.keep p2; have q3 := g9.keep p3; have h0 := g9.keepF p0 f0; have h1 := g9.keepF p1 f1; have h2 := g9.keepF p2 f2; have h3 := g9.keepF p3 f3; have gw9 := gw.trans g9; have O9 := Lib.hid o9; clear o9)
            exact bodyPost_ret (v := .tuple #[.agg #[.int .i64 (i : Int), .int .i64 2, .int .i64 1, .slice pu LW.length cu], .bool true]) (by simp [results, Tryz.results8, go_sem, *]) rfl (HT1.out _ _ (by refine owns_mono (base := wr.heap.size) ?_ (by omega); repeat (first | exact O9.out | refine own_setD ?_ (by omega))) (by repeat (first | exact gw9 | refine Ge.setCell ?_ (Nat.le_refl _) _)))
          | false =>
            rw [hB] at HNO
            have HT1 := Lib.hid (fun w' g => GivesO.f (w := w) (w' := w') (N := i) (E := 2) (S := 1) (L := LW) hB g)
            have HNt := Lib.hid (HNO.out.mono (fun e w' h => h.ff))
            go_wp2_with ((go_at_call 26; ((with_reducible refine (HNt.out).mono ?_); rintro r w9 ⟨rfl, g9⟩)); have q0 := g9.keep p0; have q1 := g9.keep p1; have q2 := g9.keep p2; have q3 := g9.keep p3; have h0 := g9.keepF p0 f0; have h1 := g9.keepF p1 f1; have h2 := g9.keepF p2 f2; have h3 := g9.keepF p3 f3; have gw9 := gw.trans g9)
            exact bodyPost_ret (v := .tuple #[.agg #[.int .i64 0, .int .i64 0, .int .i64 0, .slice none 0 0], .bool false]) (by simp [results, Tryz.results8, go_sem, *]) rfl (HT1.out _ (by repeat (first | exact gw9 | refine Ge.setCell ?_ (Nat.le_refl _) _)))

set_option maxHeartbeats 800000 in
theorem iNetOfTiling (v : Value) (n : Nat) (xs : List Int) (w : World) (hv : SlF w v n 3 xs) (hm : n ≤ 9223372036854775807) (hb : ∀ j, -9223372036854775808 ≤ nth xs j ∧ nth xs j ≤ 9223372036854775807) (hcap : ∀ p c, v = .slice p n c → n ≤ c) :
    Calls Tryz.prog 8 #[v] w (GivesO w (netB (notN n xs) 2 1 (notW n xs).length (flatW (notW n xs))) (notN n xs) 2 1 (notW n xs)) := by
  cases hB : tileB n xs with
  | true => exact iNotT v n xs w hv hm hb hcap hB
  | false =>
    obtain ⟨p, cap, rfl, hc⟩ := hv.open
    have HV := Lib.hid hv
    have HBd := Lib.hid hb
    have HCap := Lib.hid hcap
    clear hv hc hb hcap
    rw [netW_nil n xs hB]
    have HT1 := Lib.hid (fun w' g => GivesO.f (w := w) (w' := w') (b := false) (N := notN n xs) (E := 2) (S := 1) (L := notW n xs) rfl g)
    have HLv := Lib.hid (fun w' (g : Ge w w') => iLevelsOf (.slice p n cap) n xs w' (HV.out.ge g) hm HBd.out HCap.out)
    rw [levQ_f hB] at HLv
    clear hB
    generalize notW n xs = LW at *
    generalize notN n xs = NN at *
    go_enter Tryz.func8, Tryz.ntmps8
    go_upto_region 1 with (fail)
    have R0 := ResD.new w (.int .i64 0) (.int .i64 0) (.int .i64 0) (.slice none 0 0) 30
    have gR := Ge.alloc (Ge.refl w) (.cells #[.int .i64 0, .int .i64 0, .int .i64 0, .slice none 0 0] 30)
    have zR : w.heap.size < (w.alloc (.cells #[.int .i64 0, .int .i64 0, .int .i64 0, .slice none 0 0] 30)).heap.size := by simp
    generalize w.alloc (.cells #[.int .i64 0, .int .i64 0, .int .i64 0, .slice none 0 0] 30) = wR at *
    go_wp2_with ((go_at_call 9; ((with_reducible refine (HLv.out _ gR).mono ?_); rintro e w1 ⟨u1, rfl, o1, g1⟩)); have hform := OwnL.read o1.ownL rfl; obtain ⟨pl, cl, hfe, _⟩ := hform; subst hfe; have gw9 := gR.trans g1; have zz : w.heap.size < w1.heap.size := (by have := g1.size; omega); have R1 := R0.ge g1; obtain ⟨r0, q0, h0⟩ := R1 0 (by omega); obtain ⟨r1, q1, h1⟩ := R1 1 (by omega); obtain ⟨r2, q2, h2⟩ := R1 2 (by omega); obtain ⟨r3, q3, h3⟩ := R1 3 (by omega); clear o1)
    exact bodyPost_ret (v := .tuple #[.agg #[.int .i64 0, .int .i64 0, .int .i64 0, .slice none 0 0], .bool false]) (by simp [results, Tryz.results8, go_sem, *]) rfl (HT1.out _ (by repeat (first | with_reducible exact gw9 | with_reducible refine Ge.alloc ?_ _ | with_reducible refine Ge.setCell ?_ (Nat.le_refl _) _)))
end Go.Proofs.YtckjkfcphcnpdaaGreat

namespace Go.Proofs.YtckjkfcphcnpdaaGreat

open Go.RowKit

def squareTxt (x y z : Int) : List UInt8 := fmtInt z ++ [64] ++ fmtInt x ++ [44] ++ fmtInt y

theorem squareTxt_eq (x y z : Int) : bstr (fmtInt z) ++ (⟨#[64]⟩ : ByteArray) ++ bstr (fmtInt x) ++ (⟨#[44]⟩ : ByteArray) ++ bstr (fmtInt y) = bstr (squareTxt x y z) := by
  show bstr (fmtInt z) ++ bstr [64] ++ bstr (fmtInt x) ++ bstr [44] ++ bstr (fmtInt y) = _
  rw [bstr_append, bstr_append, bstr_append, bstr_append]; rfl

theorem square_z (x y z : Int) : (¬ 9223372036854775807 < (bstr (fmtInt z)).size + 1) ∧ (¬ 9223372036854775807 < (bstr (fmtInt z)).size + 1 + (bstr (fmtInt x)).size) ∧
    (¬ 9223372036854775807 < (bstr (fmtInt z)).size + 1 + (bstr (fmtInt x)).size + 1) ∧ (¬ 9223372036854775807 < (bstr (fmtInt z)).size + 1 + (bstr (fmtInt x)).size + 1 + (bstr (fmtInt y)).size) := by
  have := fmtInt_length x; have := fmtInt_length y; have := fmtInt_length z; rw [bstr_size, bstr_size, bstr_size]; omega

set_option maxHeartbeats 400000 in
theorem iFormatSquare (x y z : Int) (w : World) (hx : -9223372036854775808 ≤ x ∧ x ≤ 9223372036854775807) (hy : -9223372036854775808 ≤ y ∧ y ≤ 9223372036854775807) (hz : -9223372036854775808 ≤ z ∧ z ≤ 9223372036854775807) :
    Calls Tryz.prog 33 #[.agg #[.int .i64 x, .int .i64 y, .int .i64 z]] w fun e w' => e = .returned (.string (bstr (squareTxt x y z))) ∧ Ge w w' := by
  obtain ⟨x0, x1⟩ := hx
  obtain ⟨y0, y1⟩ := hy
  obtain ⟨z0, z1⟩ := hz
  obtain ⟨u1, u2, u3, u4⟩ := square_z x y z
  go_enter Tryz.func33, Tryz.ntmps33
  go_wp2_with fail
  go_region_held3 (fun w' => w'.cell? ⟨w.heap.size, 0, none⟩ = some (.int .i64 x) ∧ w'.cell? ⟨w.heap.size, 1, none⟩ = some (.int .i64 y) ∧ w'.cell? ⟨w.heap.size, 2, none⟩ = some (.int .i64 z) ∧ Ge w w') (exact ⟨by simp, by simp, by simp, by (repeat (first | with_reducible exact Ge.refl _ | assumption | with_reducible refine Ge.drew ?_ | with_reducible refine Ge.drewN ?_ _ | with_reducible refine Ge.alloc ?_ _ | (with_reducible refine Ge.setCell ?_ (by first | (simp; done) | omega | (simp; omega)) _) | with_reducible refine Ge.trans ?_ (by assumption)))⟩)
    (first | (go_at_call 32; ((with_reducible refine (iFormatInt _ _ (by assumption) (by assumption)).mono ?_); rintro e w' ⟨rfl, rfl⟩)) | fail)
  go_wp2_with fail
  go_ret
  exact ⟨ret_str (squareTxt_eq _ _ _), by (repeat (first | with_reducible exact Ge.refl _ | assumption | with_reducible refine Ge.drew ?_ | with_reducible refine Ge.drewN ?_ _ | with_reducible refine Ge.alloc ?_ _ | (with_reducible refine Ge.setCell ?_ (by first | (simp; done) | omega | (simp; omega)) _) | with_reducible refine Ge.trans ?_ (by assumption)))⟩

end Go.Proofs.YtckjkfcphcnpdaaGreat

namespace Go.Proofs.YtckjkfcphcnpdaaGreat
set_option maxRecDepth 100000
open Go.ChangeShapes Go.WideShapes Go.ChangeAt Go.RowKit Go.Joins

def sqTxt (xs : List Int) (j : Nat) : List UInt8 := squareTxt (sx xs j) (sy xs j) (ss xs j)
def sqTxts (xs : List Int) (k : Nat) : List (List UInt8) := (List.range k).map (sqTxt xs)
theorem sqTxts_succ (xs : List Int) (k : Nat) : sqTxts xs (k + 1) = sqTxts xs k ++ [sqTxt xs k] := by simp [sqTxts, List.range_succ]
theorem sqTxts_length (xs : List Int) (k : Nat) : (sqTxts xs k).length = k := by simp [sqTxts]
theorem squareTxt_le (x y z : Int) : (squareTxt x y z).length ≤ 68 := by
  have := fmtInt_length x; have := fmtInt_length y; have := fmtInt_length z
  simp [squareTxt]; omega
/-- The line up to the k-th square. -/
def tilePart (n : Nat) (xs : List Int) (k : Nat) : List UInt8 := fmtInt (rightSq xs n) ++ [32, 120, 32] ++ fmtInt (lowSq xs n) ++ Lib.joinTail [32] (sqTxts xs k)
theorem tilePart_succ (n : Nat) (xs : List Int) (k : Nat) : tilePart n xs (k + 1) = tilePart n xs k ++ [32] ++ sqTxt xs k := by
  simp [tilePart, sqTxts_succ, joinTail_snoc]
theorem tilePart_le (n : Nat) (xs : List Int) (k : Nat) : (tilePart n xs k).length ≤ 47 + 69 * k := by
  have h1 := fmtInt_length (rightSq xs n)
  have h2 := fmtInt_length (lowSq xs n)
  have h3 := joinTail_le [32] (sqTxts xs k) 68 (fun x hx => by
    simp only [sqTxts, List.mem_map] at hx
    obtain ⟨j, _, rfl⟩ := hx
    exact squareTxt_le _ _ _)
  rw [sqTxts_length] at h3
  simp [tilePart] at h3 ⊢
  omega
theorem tile_join (n : Nat) (xs : List Int) (k : Nat) : Lib.join ([fmtInt (rightSq xs n), [120], fmtInt (lowSq xs n)] ++ sqTxts xs k) [32] = tilePart n xs k := by
  simp [Lib.join_cons, Lib.joinTail, tilePart]
noncomputable def tileLine (n : Nat) (xs : List Int) : List UInt8 := if tileB n xs = true then tilePart n xs n else []
theorem tileLine_t {n : Nat} {xs : List Int} (h : tileB n xs = true) : bstr (tileLine n xs) = bstr (tilePart n xs n) := by simp [tileLine, h]
theorem tileLine_f {n : Nat} {xs : List Int} (h : tileB n xs = false) : bstr (tileLine n xs) = ⟨#[]⟩ := by simp [tileLine, h, bstr]

set_option maxHeartbeats 1600000 in
theorem iTilingLine (v : Value) (n : Nat) (xs : List Int) (w : World) (hv : SlF w v n 3 xs) (hm : n ≤ 9223372036854775807) (hb : ∀ j, -9223372036854775808 ≤ nth xs j ∧ nth xs j ≤ 9223372036854775807) (hcap : ∀ p c, v = .slice p n c → n ≤ c) :
    Calls Tryz.prog 13 #[v] w fun e w' => e = .returned (.string (bstr (tileLine n xs))) ∧ Ge w w' := by
  obtain ⟨p, cap, rfl, hc⟩ := hv.open
  have HV := Lib.hid hv
  have HC := Lib.hid hc
  have HBd := Lib.hid hb
  have HCap := Lib.hid hcap
  clear hv hc hb hcap
  by_cases hB : tileB n xs = true
  · obtain ⟨h0, h12, hsq, _⟩ : tileP n xs := by
      unfold tileB at hB
      split at hB
      · assumption
      · cases hB
    have HOK : Hid (∀ i, i < n → okSq xs i) := fun i hi => (hsq i hi).1
    obtain ⟨r0, r1⟩ := right_bd n (fun i hi => HOK.out i hi)
    obtain ⟨l0, l1⟩ := low_bd n (fun i hi => HOK.out i hi)
    have HF := Lib.hid (tileLine_t hB)
    have HW := widthQ_t hB
    have HH := heightQ_t hB
    clear hsq
    go_enter Tryz.func13, Tryz.ntmps13
    go_wp2_with (first
      | (go_at_call 11; ((with_reducible refine (iTilingOk _ n xs _ HV.out hm HBd.out HCap.out).mono ?_); rintro e w1 ⟨rfl, g1⟩))
      | (go_at_call 5; ((with_reducible refine (iWidthOf _ n xs _ (HV.out.ge g1) hm HBd.out HCap.out).mono ?_); rintro e w2 ⟨rfl, g2⟩; rw [HW]))
      | (go_at_call 6; ((with_reducible refine (iHeightOf _ n xs _ (HV.out.ge (g1.trans g2)) hm HBd.out HCap.out).mono ?_); rintro e w3 ⟨rfl, g3⟩; rw [HH]))
      | (go_at_call 32; ((with_reducible refine (iFormatInt _ _ (by omega) (by omega)).mono ?_); rintro e w' ⟨rfl, rfl⟩)))
    go_loopw [3, 18] (fun s i wr => ∃ k : Nat, k ≤ n ∧ i = .int .i64 k ∧ wr.ownsRow w.heap.size 9 1 s ([fmtInt (rightSq xs n), [120], fmtInt (lowSq xs n)] ++ sqTxts xs k).length (scells ([fmtInt (rightSq xs n), [120], fmtInt (lowSq xs n)] ++ sqTxts xs k)) ∧ Ge w wr) (fun _ i _ => n - (intOf i).toNat)
    case atStart => exact ⟨0, Nat.zero_le _, rfl, World.ownsRow_lit w3 _ 3 (by have := (g1.trans (g2.trans g3)).size; omega) (by unfold maxLen; omega) rfl, by (repeat (first | with_reducible exact Ge.refl _ | assumption | with_reducible refine Ge.drew ?_ | with_reducible refine Ge.drewN ?_ _ | with_reducible refine Ge.alloc ?_ _ | (with_reducible refine Ge.setCell ?_ (by first | (simp; done) | omega | (simp; omega)) _) | with_reducible refine Ge.trans ?_ (by assumption)))⟩
    case round =>
      obtain ⟨k, hk, rfl, hown, hg⟩ := hrel
      by_cases hlt : k < n
      · obtain ⟨b, o, rfl, x0, x1, x2⟩ := three_cells HC.out hlt
        have y0 := hg.keep x0
        have y1 := hg.keep x1
        have y2 := hg.keep x2
        clear x0 x1 x2
        change wr.cell? _ = some (.int .i64 (sx xs k)) at y0
        change wr.cell? _ = some (.int .i64 (sy xs k)) at y1
        change wr.cell? _ = some (.int .i64 (ss xs k)) at y2
        obtain ⟨q0, q1, q2, q3, q4, q5⟩ := HOK.out k hlt
        have HL : Hid (([fmtInt (rightSq xs n), [120], fmtInt (lowSq xs n)] ++ sqTxts xs k).length < 1099511627776) := by
          show _ < _
          rw [List.length_append, sqTxts_length]; simp; omega
        have HS : Hid (([fmtInt (rightSq xs n), [120], fmtInt (lowSq xs n)] ++ sqTxts xs k) ++ [squareTxt (sx xs k) (sy xs k) (ss xs k)] = [fmtInt (rightSq xs n), [120], fmtInt (lowSq xs n)] ++ sqTxts xs (k + 1)) := by
          show _ = _
          rw [sqTxts_succ, List.append_assoc]; rfl
        generalize [fmtInt (rightSq xs n), [120], fmtInt (lowSq xs n)] ++ sqTxts xs k = L at *
        generalize sx xs k = X at *
        generalize sy xs k = Y at *
        generalize ss xs k = Z at *
        go_wp2_with (first
          | (go_at_call 33; ((with_reducible refine (iFormatSquare _ _ _ _ (by omega) (by omega) (by omega)).mono ?_); rintro e w5 ⟨rfl, g5⟩; have own2 := Ge.owns g5 (hown.alloc _); have G5 : Ge w w5 := Ge.trans (Ge.alloc hg _) g5; have Z5 := G5.size))
          | (at_builtin; refine ap_str rfl _ _ rfl w.heap.size u3 L rfl own2 _ rfl HL.out Z5 ?_; intro v' w6 own6 hm6))
        go_roundw
        case rel => exact ⟨k + 1, by omega, by go_num, by have := own6; rwa [HS.out] at this, G5.mine own2 (Nat.le_refl _) hm6⟩
        case measure => simp [intOf]; omega
      · have hkn : k = n := by omega
        subst hkn
        have hj := tile_join k xs k
        have hl := tilePart_le k xs k
        have HJ := Lib.hid hj
        have H1 : Hid (([fmtInt (rightSq xs k), [120], fmtInt (lowSq xs k)] ++ sqTxts xs k).length ≤ 140737488355328) := by
          show _ ≤ _
          rw [List.length_append, sqTxts_length]; simp; omega
        have H2 : Hid ((Lib.join ([fmtInt (rightSq xs k), [120], fmtInt (lowSq xs k)] ++ sqTxts xs k) [32]).length ≤ 140737488355328) := by
          show _ ≤ _
          rw [hj]; omega
        clear hj hl
        obtain ⟨p3, c3, rfl⟩ := owns_form hown
        generalize [fmtInt (rightSq xs k), [120], fmtInt (lowSq xs k)] ++ sqTxts xs k = L at *
        have hJ : Calls Tryz.prog 34 #[.slice p3 L.length c3, .string ⟨#[32]⟩] wr fun en w' => en = .returned (.string (bstr (Lib.join L [32]))) ∧ Ge wr w' := iJoin w.heap.size 9 _ L [32] _ hown H1.out H2.out
        go_wp2_with ((go_at_call 34; ((with_reducible refine (hJ).mono ?_); rintro e w5 ⟨rfl, g5⟩)))
        go_ret
        exact ⟨ret_str (by rw [HF.out, HJ.out]), by (repeat (first | with_reducible exact Ge.refl _ | assumption | with_reducible refine Ge.drew ?_ | with_reducible refine Ge.drewN ?_ _ | with_reducible refine Ge.alloc ?_ _ | (with_reducible refine Ge.setCell ?_ (by first | (simp; done) | omega | (simp; omega)) _) | with_reducible refine Ge.trans ?_ (by assumption)))⟩
  · have hB : tileB n xs = false := by simpa using hB
    have HF := Lib.hid (tileLine_f hB)
    go_enter Tryz.func13, Tryz.ntmps13
    go_wp2_with ((go_at_call 11; ((with_reducible refine (iTilingOk _ n xs _ HV.out hm HBd.out HCap.out).mono ?_); rintro e w1 ⟨rfl, g1⟩)))
    go_ret
    exact ⟨ret_str (by rw [HF.out]), by (repeat (first | with_reducible exact Ge.refl _ | assumption | with_reducible refine Ge.drew ?_ | with_reducible refine Ge.drewN ?_ _ | with_reducible refine Ge.alloc ?_ _ | (with_reducible refine Ge.setCell ?_ (by first | (simp; done) | omega | (simp; omega)) _) | with_reducible refine Ge.trans ?_ (by assumption)))⟩

end Go.Proofs.YtckjkfcphcnpdaaGreat
