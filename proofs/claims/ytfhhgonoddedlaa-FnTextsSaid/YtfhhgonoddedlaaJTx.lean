/- Plain law: networks, fractions and rows of two fractions are read back from their texts. No program in sight but in the imports. ParseNet of impl: the walk. No condition. Plain Lean: sums, inverses and ladders of fractions. Plain Lean: sums and products of small fractions are exact. FnTexts, walked. No condition. The law FnTexts returns true for all arguments. No condition. -/
import Derived.Test.YtfhhgonoddedlaaWPNet0
import Derived.Test.YtfhhgonoddedlaaWParseRow
import Derived.Test.YtfhhgonoddedlaaWFormatRow
import Derived.Test.YtfhhgonoddedlaaWTail
import Derived.Test.YtfhhgonoddedlaaPlRatio
import Derived.Test.YtfhhgonoddedlaaJDrw
import Derived.Test.YtfhhgonoddedlaaWNetOkI2
import Derived.Test.YtfhhgonoddedlaaRBase
import Derived.Test.YtfhhgonoddedlaaRBytes
namespace Go.Proofs.Ytfhhgonoddedlaa

open Go.RowKit

theorem fmt_dig {n : Int} (h0 : 0 ≤ n) (hn : in64 n) : ∀ c ∈ fmtInt n, isDig c := fun c hc => by
  unfold in64 at hn
  obtain ⟨h1, _, _, _⟩ := fmtNat_facts 19 n.natAbs (by omega) (by omega) (by omega)
  unfold fmtInt at hc
  rw [if_neg (by omega)] at hc
  exact h1 c hc
theorem dig_free {n : Int} (h0 : 0 ≤ n) (hn : in64 n) (b : List UInt8) (hb : ∀ c ∈ b, ¬ isDig c) : ∀ z ∈ fmtInt n, ¬ z ∈ b := fun z hz hzb => hb z hzb (fmt_dig h0 hn z hz)
theorem first_sep (b : List UInt8) : ∀ x : List UInt8, (∀ z ∈ x, ¬ z ∈ b) ∨ ∃ u d v, x = u ++ d :: v ∧ (∀ z ∈ u, ¬ z ∈ b) ∧ d ∈ b
  | [] => Or.inl (by simp)
  | c :: x => by
    by_cases hc : c ∈ b
    · exact Or.inr ⟨[], c, x, rfl, by simp, hc⟩
    · rcases first_sep b x with h | ⟨u, d, v, rfl, hu, hd⟩
      · left
        intro z hz
        rcases List.mem_cons.1 hz with rfl | hz
        · exact hc
        · exact h z hz
      · refine Or.inr ⟨c :: u, d, v, rfl, fun z hz => ?_, hd⟩
        rcases List.mem_cons.1 hz with rfl | hz
        · exact hc
        · exact hu z hz
theorem pieces_app {b y : List UInt8} {c : UInt8} (hc : c ∈ b) : ∀ (k : Nat) (x : List UInt8), x.length ≤ k → pieces b (x ++ c :: y) = pieces b x ++ pieces b y
  | 0, x, hk => by
    have : x = [] := List.eq_nil_of_length_eq_zero (by omega)
    subst this
    rw [pieces_cons (x := []) (by simp) hc, pieces_none (x := []) (by simp)]; rfl
  | k + 1, x, hk => by
    rcases first_sep b x with h | ⟨u, d, v, rfl, hu, hd⟩
    · rw [pieces_cons h hc, pieces_none h]; rfl
    · have hv : v.length ≤ k := by simp at hk; omega
      rw [List.append_assoc, List.cons_append, pieces_cons hu hd, pieces_cons hu hd, pieces_app hc k v hv]; rfl
theorem pieces_snoc {b x y : List UInt8} {c : UInt8} (hc : c ∈ b) (hy : ∀ z ∈ y, ¬ z ∈ b) : pieces b (x ++ c :: y) = pieces b x ++ [y] := by
  rw [pieces_app hc x.length x (Nat.le_refl _), pieces_none hy]
theorem seps2_ok : (∀ c ∈ [(45 : UInt8), 61], ¬ isDig c) ∧ (∀ c ∈ [(32 : UInt8)], ¬ isDig c) := by
  unfold isDig
  simp
/-! ### networks -/
def wireT (xs : List Int) (k : Nat) : List UInt8 := fmtInt (wa xs k) ++ 45 :: (fmtInt (wb xs k) ++ 61 :: fmtInt (ww xs k))
theorem wireTxt_eq (xs : List Int) (k : Nat) : wireTxt xs k = 32 :: wireT xs k := by simp [wireTxt, wireT]
theorem good_in {N : Int} {xs : List Int} {k : Nat} (h5 : N ≤ 5) (h : goodW N xs k) : (0 ≤ wa xs k ∧ in64 (wa xs k)) ∧ (0 ≤ wb xs k ∧ in64 (wb xs k)) ∧ (0 ≤ ww xs k ∧ in64 (ww xs k)) := by
  obtain ⟨q0, q1, q2, q3, q4⟩ := h.1
  unfold in64
  omega
theorem wireT_pieces {N : Int} {xs : List Int} {k : Nat} (h5 : N ≤ 5) (h : goodW N xs k) : pieces [45, 61] (wireT xs k) = [fmtInt (wa xs k), fmtInt (wb xs k), fmtInt (ww xs k)] := by
  obtain ⟨⟨a0, a1⟩, ⟨b0, b1⟩, ⟨c0, c1⟩⟩ := good_in h5 h
  unfold wireT
  rw [pieces_cons (dig_free a0 a1 _ seps2_ok.1) (by simp), pieces_cons (dig_free b0 b1 _ seps2_ok.1) (by simp), pieces_none (dig_free c0 c1 _ seps2_ok.1)]
theorem wireT_free {N : Int} {xs : List Int} {k : Nat} (h5 : N ≤ 5) (h : goodW N xs k) : ∀ z ∈ wireT xs k, ¬ z ∈ [(32 : UInt8)] := fun z hz h32 => by
  obtain ⟨⟨a0, a1⟩, ⟨b0, b1⟩, ⟨c0, c1⟩⟩ := good_in h5 h
  have e : z = 32 := by simpa using h32
  subst e
  simp only [wireT, List.mem_append, List.mem_cons] at hz
  rcases hz with h | h | h | h | h
  · exact dig_free a0 a1 _ seps2_ok.2 _ h (by simp)
  · exact absurd h (by decide)
  · exact dig_free b0 b1 _ seps2_ok.2 _ h (by simp)
  · exact absurd h (by decide)
  · exact dig_free c0 c1 _ seps2_ok.2 _ h (by simp)
theorem part_pieces {N E S : Int} {xs : List Int} (h5 : N ≤ 5) (hN : in64 N) (hE : in64 E) (hS : in64 S) : ∀ {m : Nat}, (∀ k, k < m → goodW N xs k) → pieces [32] (netPart N E S xs m) = netHead N E S :: (List.range m).map (wireT xs)
  | 0, _ => by simp only [netPart]; rw [pieces_none (head_no32 hN hE hS)]; rfl
  | m + 1, h => by
    simp only [netPart, wireTxt_eq]
    rw [pieces_snoc (by simp) (wireT_free h5 (h m (by omega))), part_pieces h5 hN hE hS (m := m) (fun k hk => h k (by omega)), List.range_succ, List.map_append]
    rfl
theorem hdOk_three {x y z : Int} (hx : in64 x) (hy : in64 y) (hz : in64 z) : hdOk [fmtInt x, fmtInt y, fmtInt z] = true := by
  have h : allB [fmtInt x, fmtInt y, fmtInt z] = true := (all_t (fun i hi => by
    have : i = 0 ∨ i = 1 ∨ i = 2 := by simp at hi; omega
    rcases this with rfl | rfl | rfl
    · exact (p_some hx rfl).2
    · exact (p_some hy rfl).2
    · exact (p_some hz rfl).2)).1
  unfold hdOk
  rw [h]; rfl
/-- The numbers of the first k wires. -/
def flat3 (xs : List Int) : Nat → List Int
  | 0 => []
  | k + 1 => flat3 xs k ++ [wa xs k, wb xs k, ww xs k]
theorem flat3_take (xs : List Int) : ∀ k, k * 3 ≤ xs.length → flat3 xs k = xs.take (k * 3)
  | 0, _ => by simp [flat3]
  | k + 1, h => by
    have e : xs.take ((k + 1) * 3) = xs.take (k * 3) ++ [nth xs (k * 3), nth xs (k * 3 + 1), nth xs (k * 3 + 2)] := by
      rw [show (k + 1) * 3 = k * 3 + 1 + 1 + 1 by omega, List.take_succ_eq_append_getElem (by omega), List.take_succ_eq_append_getElem (by omega), List.take_succ_eq_append_getElem (by omega)]
      rw [nth_eq xs (k * 3) (by omega), nth_eq xs (k * 3 + 1) (by omega), nth_eq xs (k * 3 + 2) (by omega)]
      simp only [List.append_assoc, List.cons_append, List.nil_append]
    simp only [flat3]
    rw [flat3_take xs k (by omega), e]
    rfl
theorem tnth_map {m j : Nat} (f : Nat → List UInt8) (h : List UInt8) (hj : j < m) : tnth (h :: (List.range m).map f) (j + 1) = f j := by
  unfold tnth
  rw [List.getD_cons_succ]
  simp [List.getD_eq_getElem?_getD, hj]
theorem texts_net {N E S : Int} {m : Nat} {xs : List Int} (h : netB N E S m xs = true) (hl : xs.length = m * 3) :
    pnB (hdI (netTxt N E S m xs)) (netTxt N E S m xs) = true ∧ pnV (netTxt N E S m xs) 0 = N ∧ pnV (netTxt N E S m xs) 1 = E ∧ pnV (netTxt N E S m xs) 2 = S ∧ pnM (netTxt N E S m xs) = m ∧ pnX (netTxt N E S m xs) = xs := by
  obtain ⟨⟨n1, n2⟩, _, _, hK, _⟩ := netP_of h
  obtain ⟨hN, hE, hS⟩ := net_in h
  have e : netTxt N E S m xs = netPart N E S xs m := by unfold netTxt; rw [if_pos h]
  have hp := part_pieces (E := E) (S := S) n2 hN hE hS hK
  have hw := first_word hN hE hS xs m
  have hlen : (pieces [32] (netPart N E S xs m)).length - 1 = m := by rw [hp]; simp
  have hd : hdI (netPart N E S xs m) = [fmtInt N, fmtInt E, fmtInt S] := by unfold hdI; rw [hw]; exact head_i hN hE hS
  have hX : ∀ k, k ≤ m → wX (pieces [32] (netPart N E S xs m)) k = flat3 xs k := fun k => by
    induction k with
    | zero => intro _; rfl
    | succ k ih =>
      intro hk
      obtain ⟨⟨a0, a1⟩, ⟨b0, b1⟩, ⟨c0, c1⟩⟩ := good_in n2 (hK k (by omega))
      simp only [wX, flat3]
      rw [ih (by omega), hp, tnth_map _ _ (by omega), wireT_pieces n2 (hK k (by omega))]
      have t0 : tnth [fmtInt (wa xs k), fmtInt (wb xs k), fmtInt (ww xs k)] 0 = fmtInt (wa xs k) := rfl
      have t1 : tnth [fmtInt (wa xs k), fmtInt (wb xs k), fmtInt (ww xs k)] 1 = fmtInt (wb xs k) := rfl
      have t2 : tnth [fmtInt (wa xs k), fmtInt (wb xs k), fmtInt (ww xs k)] 2 = fmtInt (ww xs k) := rfl
      rw [t0, t1, t2, (p_some a1 rfl).1, (p_some b1 rfl).1, (p_some c1 rfl).1]
  have hXm : wX (pieces [32] (netPart N E S xs m)) m = xs := by
    rw [hX m (Nat.le_refl _), flat3_take xs m (by omega), List.take_of_length_le (by omega)]
  have v0 : pv (tnth [fmtInt N, fmtInt E, fmtInt S] 0) = N := (p_some hN rfl).1
  have v1 : pv (tnth [fmtInt N, fmtInt E, fmtInt S] 1) = E := (p_some hE rfl).1
  have v2 : pv (tnth [fmtInt N, fmtInt E, fmtInt S] 2) = S := (p_some hS rfl).1
  have hB : pnB (hdI (netPart N E S xs m)) (netPart N E S xs m) = true := by
    unfold pnB
    rw [hd, hdOk_three hN hE hS, hlen, hXm, v0, v1, v2]
    have hwk : wiresOk (pieces [32] (netPart N E S xs m)) m = true := wiresOk_t (fun j hj => by
      obtain ⟨⟨a0, a1⟩, ⟨b0, b1⟩, ⟨c0, c1⟩⟩ := good_in n2 (hK j hj)
      rw [hp, tnth_map _ _ hj, wireT_pieces n2 (hK j hj)]
      exact hdOk_three a1 b1 c1)
    rw [hwk, e]
    simp
  rw [e]
  obtain ⟨p1, p2, p3⟩ := pn_t hB
  refine ⟨hB, ?_, ?_, ?_, ?_, ?_⟩
  · rw [p1, hd, v0]
  · rw [p1, hd, v1]
  · rw [p1, hd, v2]
  · rw [p2, hlen]
  · rw [p3, hlen, hXm]
/-! ### fractions -/
theorem ratio_in {n d : Int} (h : ratioOk n d = true) : in64 n ∧ in64 d ∧ 0 ≤ d := by
  rw [ratioOk_iff] at h
  unfold in64
  omega
theorem texts_rat {n d : Int} (h : ratioOk n d = true) : rGood (ratioTxt n d) = true ∧ ratN (ratioTxt n d) = n ∧ ratD (ratioTxt n d) = d := by
  obtain ⟨hn, hd, d0⟩ := ratio_in h
  have f47 : ∀ z ∈ fmtInt n, ¬ z ∈ [(47 : UInt8)] := fmt_not hn _ seps_ok.2.1
  by_cases h1 : d = 1
  · have e : ratioTxt n d = fmtInt n := by unfold ratioTxt; rw [if_pos h, if_pos h1]
    have hp : rpts (fmtInt n) = [fmtInt n] := by unfold rpts; rw [pieces_none f47]
    have r0 : pb (tnth (rpts (fmtInt n)) 0) = true := by rw [hp]; exact (p_some hn rfl).2
    have rn : rN (fmtInt n) = n := by unfold rN; rw [hp]; exact (p_some hn rfl).1
    have rd : rD (fmtInt n) = 1 := rD_1 (by rw [hp]; simp)
    have g := (ok_t1 (s := fmtInt n) (by rw [hp]; simp) (by rw [hp]; simp) r0 (by rw [rn, rd, ← h1]; exact e)).1
    obtain ⟨g1, g2, _⟩ := rat_t g
    rw [e]
    exact ⟨g, by rw [g1, rn], by rw [g2, rd, h1]⟩
  · have e : ratioTxt n d = fmtInt n ++ 47 :: fmtInt d := by unfold ratioTxt; rw [if_pos h, if_neg h1]; simp
    have hp : rpts (fmtInt n ++ 47 :: fmtInt d) = [fmtInt n, fmtInt d] := by unfold rpts; rw [pieces_cons f47 (by simp), pieces_none (fmt_not hd _ seps_ok.2.1)]
    have h2 : (rpts (fmtInt n ++ 47 :: fmtInt d)).length = 2 := by rw [hp]; rfl
    have r0 : pb (tnth (rpts (fmtInt n ++ 47 :: fmtInt d)) 0) = true := by rw [hp]; exact (p_some hn rfl).2
    have r1 : pb (tnth (rpts (fmtInt n ++ 47 :: fmtInt d)) 1) = true := by rw [hp]; exact (p_some hd rfl).2
    have rn : rN (fmtInt n ++ 47 :: fmtInt d) = n := by unfold rN; rw [hp]; exact (p_some hn rfl).1
    have rd : rD (fmtInt n ++ 47 :: fmtInt d) = d := by rw [rD_2 h2, hp]; exact (p_some hd rfl).1
    have g := (ok_t2 h2 r0 r1 (by rw [rn, rd]; exact e)).1
    obtain ⟨g1, g2, _⟩ := rat_t g
    rw [e]
    exact ⟨g, by rw [g1, rn], by rw [g2, rd]⟩
theorem ratT_free {n d : Int} (h : ratioOk n d = true) : ∀ z ∈ ratioTxt n d, ¬ z ∈ [(32 : UInt8)] := fun z hz h32 => by
  obtain ⟨hn, hd, d0⟩ := ratio_in h
  unfold ratioTxt at hz
  rw [if_pos h] at hz
  split at hz
  · exact fmt_not hn _ seps_ok.1 z hz h32
  · simp only [List.mem_append, List.mem_cons, List.not_mem_nil, or_false] at hz
    rcases hz with (hz | hz) | hz
    · exact fmt_not hn _ seps_ok.1 z hz h32
    · subst hz; exact absurd h32 (by decide)
    · exact fmt_not hd _ seps_ok.1 z hz h32
theorem texts_row {n d n' d' : Int} (h : ratioOk n d = true) (h' : ratioOk n' d' = true) :
    rowB (rowLine 2 [n, d, n', d']) = true ∧ rowC (rowLine 2 [n, d, n', d']) = 2 ∧ rowX (rowLine 2 [n, d, n', d']) = [n, d, n', d'] := by
  have hok : rowOk 2 [n, d, n', d'] = true := rowOk_t (fun j hj => by
    have : j = 0 ∨ j = 1 := by omega
    rcases this with rfl | rfl
    · exact h
    · exact h')
  have e : rowLine 2 [n, d, n', d'] = ratioTxt n d ++ 32 :: ratioTxt n' d' := by
    unfold rowLine
    rw [if_pos hok, if_neg (by decide)]
    show Lib.join [ratioTxt n d, ratioTxt n' d'] [32] = _
    simp [Lib.join, List.intercalate]
  have hp : pieces [32] (ratioTxt n d ++ 32 :: ratioTxt n' d') = [ratioTxt n d, ratioTxt n' d'] := by
    rw [pieces_cons (ratT_free h) (by simp), pieces_none (ratT_free h')]
  obtain ⟨g, gn, gd⟩ := texts_rat h
  obtain ⟨g', gn', gd'⟩ := texts_rat h'
  have hne : ¬ ratioTxt n d ++ 32 :: ratioTxt n' d' = noneT := fun c => by
    have h32 : (32 : UInt8) ∈ noneT := by rw [← c]; simp
    exact absurd h32 (by decide)
  have hall : allR (pieces [32] (ratioTxt n d ++ 32 :: ratioTxt n' d')) = true := allR_t (fun i hi => by
    rw [hp] at hi ⊢
    have : i = 0 ∨ i = 1 := by simp at hi; omega
    rcases this with rfl | rfl
    · exact g
    · exact g')
  obtain ⟨r1, r2, r3⟩ := row_ok hne hall
  rw [e]
  refine ⟨r1, by rw [r2, hp]; rfl, ?_⟩
  rw [r3, hp]
  show [] ++ [ratN (ratioTxt n d), ratD (ratioTxt n d)] ++ [ratN (ratioTxt n' d'), ratD (ratioTxt n' d')] = _
  rw [gn, gd, gn', gd']
  rfl
end Go.Proofs.Ytfhhgonoddedlaa

namespace Go.Proofs.Ytfhhgonoddedlaa
set_option maxRecDepth 100000
open Go.ChangeShapes Go.WideShapes Go.ChangeAt Go.RowKit Go.Joins

/-- The result's block is there and may be written. -/
def ResB (w : World) (b : Nat) : Prop := w.cell? ⟨b, 0, none⟩ = some (cv w ⟨b, 0, none⟩) ∧ w.cell? ⟨b, 1, none⟩ = some (cv w ⟨b, 1, none⟩) ∧ w.cell? ⟨b, 2, none⟩ = some (cv w ⟨b, 2, none⟩) ∧ w.cell? ⟨b, 3, none⟩ = some (cv w ⟨b, 3, none⟩) ∧
  w.frozen? ⟨b, 0, none⟩ = false ∧ w.frozen? ⟨b, 1, none⟩ = false ∧ w.frozen? ⟨b, 2, none⟩ = false ∧ w.frozen? ⟨b, 3, none⟩ = false
theorem ResB.new (w : World) (cs : Array Value) (t : TypeId) (h : cs.size = 4) : ResB (w.alloc (.cells cs t)) w.heap.size := by
  have k : ∀ i, i < 4 → ∃ v, cs[i]? = some v := fun i hi => ⟨_, Array.getElem?_eq_getElem (by omega)⟩
  obtain ⟨v0, h0⟩ := k 0 (by omega)
  obtain ⟨v1, h1⟩ := k 1 (by omega)
  obtain ⟨v2, h2⟩ := k 2 (by omega)
  obtain ⟨v3, h3⟩ := k 3 (by omega)
  exact ⟨cv_some (cell_new rfl h0), cv_some (cell_new rfl h1), cv_some (cell_new rfl h2), cv_some (cell_new rfl h3), froz_new rfl h0, froz_new rfl h1, froz_new rfl h2, froz_new rfl h3⟩
theorem ResB.ge {w w' : World} {b : Nat} (h : ResB w b) (hg : Ge w w') : ResB w' b := by
  obtain ⟨b0, b1, b2, b3, b4, b5, b6, b7⟩ := h
  exact ⟨cv_some (hg.keep b0), cv_some (hg.keep b1), cv_some (hg.keep b2), cv_some (hg.keep b3), hg.keepF b0 b4, hg.keepF b1 b5, hg.keepF b2 b6, hg.keepF b3 b7⟩

theorem inf_WireP : (Try.prog.info? 81).map (fun i => (i.zero, i.size, i.bytes)) = some (some (Value.agg #[.int .i64 0, .int .i64 0, .int .i64 0]), 3, 24) := by kernel_rfl
theorem ap_wireK {w : World} {o : Oper} {a : Act} {K : Act → World → Prop} {Q : Exit → Act → World → Prop} (s x : Operand)
    (ho : o.op = .call { callee := .builtin .append, args := #[s, x], argTypes := #[34, 34] })
    (base : Nat) (v : Value) (n : Nat) (l : List Int) (hs : a.eval s = v) (hown : w.ownsRow base 81 3 v n (icells l)) (hb : base ≤ w.heap.size)
    (y1 y2 y3 : Int) {b0 : Nat} (hx : a.eval x = .slice (some ⟨b0, 0, none⟩) 1 1) (hb0 : b0 = w.heap.size) (hn : n < 1099511627776)
    (h : ∀ v' w', w'.ownsRow base 81 3 v' (n + 1) (icells (l ++ [y1, y2, y3])) → Mine (w.alloc (.cells #[.int .i64 y1, .int .i64 y2, .int .i64 y3] 81)) w' v → K (a.put o.dst v') w') :
    o.wp Try.prog a (w.alloc (.cells #[.int .i64 y1, .int .i64 y2, .int .i64 y3] 81)) K Q := by
  subst hb0
  obtain ⟨i, hi1, hi2, hi3, hi4⟩ := info_parts inf_WireP
  refine wp_append_own _ s x 34 ho base 81 i _ 3 24 Try.underlying34 hi1 hi2 hi3 hi4 rfl (by decide) v n (icells l) hs (hown.alloc _) ⟨w.heap.size, 0, none⟩ 1 1 [.int .i64 y1, .int .i64 y2, .int .i64 y3] hx rfl ?_ (by simp [Value.oneCell']) (by unfold maxLen; omega) ?_ (by simp; omega) ?_
  · intro j u hu
    have hadd : (⟨w.heap.size, 0, none⟩ : Addr).add j = ⟨w.heap.size, j, none⟩ := by unfold Addr.add; split <;> simp_all
    rw [hadd, cell_of_row (w.alloc (.cells #[.int .i64 y1, .int .i64 y2, .int .i64 y3] 81)) w.heap.size j _ _ (0, 0) (heap_alloc_new w _)]
    simpa using hu
  · have : (n + 1) * 24 ≤ (n + 1) * 100 := Nat.mul_le_mul_left _ (by decide)
    omega
  · intro v' w' h2 h3 _
    exact h v' w' (by simpa [icells] using h2) h3
theorem run_wire {w : World} (base : Nat) (v : Value) (n : Nat) (l : List Int) (hown : w.ownsRow base 81 3 v n (icells l)) (hb : base ≤ w.heap.size) (y1 y2 y3 : Int) (hn : n < 1099511627776) :
    ∃ v' w', (Builtin.append_ #[34, 34] 34 #[v, .slice (some ⟨w.heap.size, 0, none⟩) 1 1]).run Try.prog (w.alloc (.cells #[.int .i64 y1, .int .i64 y2, .int .i64 y3] 81)) = .ok v' w' ∧
      w'.ownsRow base 81 3 v' (n + 1) (icells (l ++ [y1, y2, y3])) ∧ Mine (w.alloc (.cells #[.int .i64 y1, .int .i64 y2, .int .i64 y3] 81)) w' v := by
  obtain ⟨i, hi1, hi2, hi3, hi4⟩ := info_parts inf_WireP
  obtain ⟨v', w', h1, h2, h3, _⟩ := run_append_own (P := Try.prog) (w := w.alloc (.cells #[.int .i64 y1, .int .i64 y2, .int .i64 y3] 81)) base 34 34 81 i _ 3 24 Try.underlying34 hi1 hi2 hi3 hi4 rfl (by decide) v n (icells l) (hown.alloc _) ⟨w.heap.size, 0, none⟩ 1 1 [.int .i64 y1, .int .i64 y2, .int .i64 y3] rfl (fun j u hu => by
      have hadd : (⟨w.heap.size, 0, none⟩ : Addr).add j = ⟨w.heap.size, j, none⟩ := by unfold Addr.add; split <;> simp_all
      rw [hadd, cell_of_row (w.alloc (.cells #[.int .i64 y1, .int .i64 y2, .int .i64 y3] 81)) w.heap.size j _ _ (0, 0) (heap_alloc_new w _)]
      simpa using hu) (by simp [Value.oneCell']) (by unfold maxLen; omega) (by
      have : (n + 1) * 24 ≤ (n + 1) * 100 := Nat.mul_le_mul_left _ (by decide)
      omega) (by simp; omega)
  exact ⟨v', w', h1, by simpa [icells] using h2, h3⟩
theorem step_run {W W' : World} {o : Oper} {a : Act} {K : Act → World → Prop} {Q : Exit → Act → World → Prop} {v y v8 : Value} (s x : Operand)
    (ho : o.op = .call { callee := .builtin .append, args := #[s, x], argTypes := #[34, 34] }) (hty : o.type = 34) (hs : a.eval s = v) (hx : a.eval x = y)
    (hr : (Builtin.append_ #[34, 34] 34 #[v, y]).run Try.prog W = .ok v8 W') (h : K (a.put o.dst v8) W') : o.wp Try.prog a W K Q := by
  unfold Oper.wp execOp
  simp only [ho, resolve, invoke, builtin, Sem.run_bind, Sem.run_pure, Result.andThen_ok, List.map_toArray, List.map_cons, List.map_nil, hs, hx, hty, hr]
  exact h
theorem grown_set (w : World) (b o : Nat) (x : Value) : w.grownBy (w.setCell ⟨b, o, none⟩ x) (some b) := by
  refine ⟨rfl, rfl, rfl, by simp, fun k _ hne => ?_⟩
  have : b ≠ k := fun e => hne (by rw [e])
  simp [World.setCell, Array.getElem?_modify, this]
theorem owns_set {w : World} {base e sz n b o : Nat} {v : Value} {xs : List Value} (h : w.ownsRow base e sz v n xs) (hb : b < base) (x : Value) : (w.setCell ⟨b, o, none⟩ x).ownsRow base e sz v n xs := by
  refine h.kept (grown_set w b o x) ?_
  cases hv : v.ownBlock with
  | none => exact .inl rfl
  | some k =>
    right
    intro e
    have := (h.lt k hv).1
    simp at e
    omega
theorem mine_froz {w w' : World} {v : Value} (hm : Mine w w' v) {a : Addr} {u : Value} (h : w.cell? a = some u) (hf : w.frozen? a = false) (hne : ∀ k, v.ownBlock = some k → a.block ≠ k) : w'.frozen? a = false := by
  rw [World.frozen?_of_block (World.grownBy.block hm a.block (World.block_lt_of_cell? _ _ h) (fun e => hne _ e.symm rfl))]
  exact hf
theorem pnB_n {s : List UInt8} {h : List (List UInt8)} (k : ¬ netTxt (pv (tnth h 0)) (pv (tnth h 1)) (pv (tnth h 2)) ((pieces [32] s).length - 1) (wX (pieces [32] s) ((pieces [32] s).length - 1)) = s) : pnB h s = false := by
  unfold pnB; rw [decide_eq_false k]; simp
theorem gives_t {w w' : World} {s : List UInt8} {v : Value} (h : hdOk (hdI s) = true) (h1 : wiresOk (pieces [32] s) ((pieces [32] s).length - 1) = true)
    (h2 : netTxt (pv (tnth (hdI s) 0)) (pv (tnth (hdI s) 1)) (pv (tnth (hdI s) 2)) ((pieces [32] s).length - 1) (wX (pieces [32] s) ((pieces [32] s).length - 1)) = s)
    (ho : w'.ownsRow w.heap.size 81 3 v ((pieces [32] s).length - 1) (icells (wX (pieces [32] s) ((pieces [32] s).length - 1)))) (hg : Ge w w') :
    GivesP w s (.returned (.tuple #[.agg #[.int .i64 (pv (tnth (hdI s) 0)), .int .i64 (pv (tnth (hdI s) 1)), .int .i64 (pv (tnth (hdI s) 2)), v], .bool true])) w' := by
  have hb : pnB (hdI s) s = true := by unfold pnB; rw [h, h1, decide_eq_true h2]; rfl
  obtain ⟨k1, k2, k3⟩ := pn_t hb
  exact ⟨v, by rw [k1, k1, k1, hb], by rw [k2, k3]; exact ho, hg⟩
theorem ResB.gex {w w' : World} {b g : Nat} (h : ResB w b) (hx : GeX ⟨g, 3, none⟩ w w') (hne : b ≠ g) : ResB w' b := by
  obtain ⟨b0, b1, b2, b3, b4, b5, b6, b7⟩ := h
  have n : ∀ i, (⟨b, i, none⟩ : Addr) ≠ ⟨g, 3, none⟩ := fun i e => hne (congrArg Addr.block e)
  exact ⟨cv_some (hx.1 _ _ (n 0) b0), cv_some (hx.1 _ _ (n 1) b1), cv_some (hx.1 _ _ (n 2) b2), cv_some (hx.1 _ _ (n 3) b3), hx.2.1 _ _ b0 b4, hx.2.1 _ _ b1 b5, hx.2.1 _ _ b2 b6, hx.2.1 _ _ b3 b7⟩

set_option maxHeartbeats 3200000 in
theorem iParseNetA (s : List UInt8) (w : World) (hm : s.length ≤ 1048576) (hbad : hdOk (hdI s) = false) : Calls Try.prog 19 #[.string (bstr s)] w (GivesP w s) := by
  have GF := Lib.hid (fun w' (g : Ge w w') => gives_f (pnB_hd (s := s) hbad) g)
  have HS : Hid (∀ w, Calls Try.prog 54 #[.string (bstr s), .string ⟨#[32]⟩] w (GivesS w (pieces [32] s))) := fun w => iSplitAny s [32] w hm
  have hpos : 0 < (pieces [32] s).length := by unfold pieces; simp
  have hle0 : (tnth (pieces [32] s) 0).length ≤ 1048576 := by
    rw [tnth_eq _ _ hpos]; exact Nat.le_trans (pieces_le _ (List.getElem_mem hpos)) hm
  have hle1 := Nat.le_trans (trimS_le (tnth (pieces [32] s) 0)) hle0
  have HTr := Lib.hid (fun w => trimS (tnth (pieces [32] s) 0) w hle0)
  have HH : Hid (∀ w, Calls Try.prog 54 #[.string (bstr (Lib.trimSuffix (tnth (pieces [32] s) 0) [58])), .string ⟨#[47]⟩] w (GivesS w (hdI s))) := fun w => iSplitAny (Lib.trimSuffix (tnth (pieces [32] s) 0) [58]) [47] w hle1
  have hlH := pieces_len [47] (Lib.trimSuffix (tnth (pieces [32] s) 0) [58])
  have HIn := Lib.hid (fun v w h => iInts v (hdI s) w h (by unfold hdI; omega) (fun x hx => Nat.le_trans (pieces_le x hx) hle1))
  obtain ⟨n, hn⟩ : ∃ n, (pieces [32] s).length = n := ⟨_, rfl⟩
  have HN := Lib.hid hn
  have hn0 : 0 < n := by omega
  have hR : (numsR (hdI s)).length ≤ 1048577 := by
    unfold numsR
    split
    · rw [nums_length]; unfold hdI; omega
    · simp
  have FR0 : ∀ w', Ge (w.alloc (.cells #[.int .i64 0, .int .i64 0, .int .i64 0, .slice none 0 0] 36)) w' → ResB w' w.heap.size := fun w' g => (ResB.new w _ _ rfl).ge g
  unfold hdOk at hbad
  clear hle0 hle1 hlH hpos hn
  generalize pieces [32] s = l at *
  generalize hL0 : tnth l 0 = L0 at *
  generalize Lib.trimSuffix L0 [58] = L1 at *
  generalize hdI s = H at *
  generalize hRR : numsR H = R at *
  cases hA : allB H with
  | false =>
    unfold GivesN at HIn
    rw [hA, hRR] at HIn
    go_enter Try.func19, Try.ntmps19
    go_wp2_with (first
    | (go_at_call 54; ((with_reducible refine (HS.out _).mono ?_); rintro e w1 ⟨v1, rfl, o1, g1⟩); rw [HN.out] at o1; obtain ⟨gl, cl, rfl⟩ := Go.Joins.ownsRow_form o1 hn0; have y0 := own_strP o1 hn0; have RB := FR0 _ g1; have gw1 : Ge w w1 := Ge.trans (Ge.alloc (Ge.refl w) _) g1)
    | (go_at_call 56; ((with_reducible refine (HTr.out _).mono ?_); rintro e w' ⟨rfl, rfl⟩))
    | (go_at_call 54; ((with_reducible refine (HH.out _).mono ?_); rintro e w2 ⟨v2, rfl, o2, g2⟩); replace RB := RB.ge g2)
    | (go_at_call 55; ((with_reducible refine (HIn.out _ _ (SlS.of_owns o2)).mono ?_); rintro e w3 ⟨v3, rfl, o3, g3⟩); obtain ⟨p3, c3, rfl⟩ := owns_form o3; replace RB := RB.ge g3; obtain ⟨b0, b1, b2, b3, b4, b5, b6, b7⟩ := RB))
    exact bodyPost_ret (v := .tuple #[.agg #[.int .i64 0, .int .i64 0, .int .i64 0, .slice none 0 0], .bool false]) (by simp [results, Try.results19, go_sem, *]) rfl (GF.out _ (by (repeat (first | with_reducible exact Ge.refl _ | assumption | with_reducible refine Ge.drew ?_ | with_reducible refine Ge.drewN ?_ _ | with_reducible refine Ge.alloc ?_ _ | (with_reducible refine Ge.setCell ?_ (by first | (simp; done) | omega | (simp; omega)) _) | with_reducible refine Ge.trans ?_ (by assumption)))))
  | true =>
    have hRl : R.length = H.length := by rw [← hRR]; unfold numsR; rw [if_pos hA, nums_length]
    have hk : ¬ H.length = 3 := by rw [hA] at hbad; simpa using hbad
    have tk : ((R.length : Int) != 3) = true := by simp; omega
    unfold GivesN at HIn
    rw [hA, hRR] at HIn
    clear hRl hk hRR
    go_enter Try.func19, Try.ntmps19
    go_wp2_with (first
    | (go_at_call 54; ((with_reducible refine (HS.out _).mono ?_); rintro e w1 ⟨v1, rfl, o1, g1⟩); rw [HN.out] at o1; obtain ⟨gl, cl, rfl⟩ := Go.Joins.ownsRow_form o1 hn0; have y0 := own_strP o1 hn0; have RB := FR0 _ g1; have gw1 : Ge w w1 := Ge.trans (Ge.alloc (Ge.refl w) _) g1)
    | (go_at_call 56; ((with_reducible refine (HTr.out _).mono ?_); rintro e w' ⟨rfl, rfl⟩))
    | (go_at_call 54; ((with_reducible refine (HH.out _).mono ?_); rintro e w2 ⟨v2, rfl, o2, g2⟩); replace RB := RB.ge g2)
    | (go_at_call 55; ((with_reducible refine (HIn.out _ _ (SlS.of_owns o2)).mono ?_); rintro e w3 ⟨v3, rfl, o3, g3⟩); obtain ⟨p3, c3, rfl⟩ := owns_form o3; replace RB := RB.ge g3; obtain ⟨b0, b1, b2, b3, b4, b5, b6, b7⟩ := RB))
    exact bodyPost_ret (v := .tuple #[.agg #[.int .i64 0, .int .i64 0, .int .i64 0, .slice none 0 0], .bool false]) (by simp [results, Try.results19, go_sem, *]) rfl (GF.out _ (by (repeat (first | with_reducible exact Ge.refl _ | assumption | with_reducible refine Ge.drew ?_ | with_reducible refine Ge.drewN ?_ _ | with_reducible refine Ge.alloc ?_ _ | (with_reducible refine Ge.setCell ?_ (by first | (simp; done) | omega | (simp; omega)) _) | with_reducible refine Ge.trans ?_ (by assumption)))))

set_option maxHeartbeats 6400000 in
theorem iParseNetB (s : List UInt8) (w : World) (hm : s.length ≤ 1048576) (hok : hdOk (hdI s) = true) : Calls Try.prog 19 #[.string (bstr s)] w (GivesP w s) := by
  have HS : Hid (∀ w, Calls Try.prog 54 #[.string (bstr s), .string ⟨#[32]⟩] w (GivesS w (pieces [32] s))) := fun w => iSplitAny s [32] w hm
  have hpos : 0 < (pieces [32] s).length := by unfold pieces; simp
  have hle0 : (tnth (pieces [32] s) 0).length ≤ 1048576 := by
    rw [tnth_eq _ _ hpos]; exact Nat.le_trans (pieces_le _ (List.getElem_mem hpos)) hm
  have hle1 := Nat.le_trans (trimS_le (tnth (pieces [32] s) 0)) hle0
  have HTr := Lib.hid (fun w => trimS (tnth (pieces [32] s) 0) w hle0)
  have HH : Hid (∀ w, Calls Try.prog 54 #[.string (bstr (Lib.trimSuffix (tnth (pieces [32] s) 0) [58])), .string ⟨#[47]⟩] w (GivesS w (hdI s))) := fun w => iSplitAny (Lib.trimSuffix (tnth (pieces [32] s) 0) [58]) [47] w hle1
  have hlH := pieces_len [47] (Lib.trimSuffix (tnth (pieces [32] s) 0) [58])
  have HIn := Lib.hid (fun v w h => iInts v (hdI s) w h (by unfold hdI; omega) (fun x hx => Nat.le_trans (pieces_le x hx) hle1))
  have HPW := Lib.hid (fun j (hj : j < (pieces [32] s).length - 1) (c : hdOk (pieces [45, 61] (tnth (pieces [32] s) (j + 1))) = false) w' (g : Ge w w') => gives_f (w := w) (pnB_w (wiresOk_f hj c)) g)
  have HGt := Lib.hid (fun (h1 : wiresOk (pieces [32] s) ((pieces [32] s).length - 1) = true) (h2 : netTxt (pv (tnth (hdI s) 0)) (pv (tnth (hdI s) 1)) (pv (tnth (hdI s) 2)) ((pieces [32] s).length - 1) (wX (pieces [32] s) ((pieces [32] s).length - 1)) = s) v w' ho (g : Ge w w') => gives_t (w := w) (v := v) hok h1 h2 ho g)
  have HGf := Lib.hid (fun (h2 : ¬ netTxt (pv (tnth (hdI s) 0)) (pv (tnth (hdI s) 1)) (pv (tnth (hdI s) 2)) ((pieces [32] s).length - 1) (wX (pieces [32] s) ((pieces [32] s).length - 1)) = s) w' (g : Ge w w') => gives_f (w := w) (pnB_n h2) g)
  have HLe := Lib.hid (fun i (hi : i < (pieces [32] s).length) => (by rw [tnth_eq _ _ hi]; exact Nat.le_trans (pieces_le _ (List.getElem_mem hi)) hm : (tnth (pieces [32] s) i).length ≤ 1048576))
  obtain ⟨n, hn⟩ : ∃ n, (pieces [32] s).length = n := ⟨_, rfl⟩
  rw [hn] at HPW HLe HGt HGf
  have HN := Lib.hid hn
  obtain ⟨m, rfl⟩ : ∃ m, n = m + 1 := ⟨n - 1, by omega⟩
  have hn0 : 0 < m + 1 := by omega
  simp only [Nat.add_sub_cancel] at HPW HGt HGf
  have FR0 : ∀ w', Ge (w.alloc (.cells #[.int .i64 0, .int .i64 0, .int .i64 0, .slice none 0 0] 36)) w' → ResB w' w.heap.size := fun w' g => (ResB.new w _ _ rfl).ge g
  simp only [hdOk, Bool.and_eq_true, decide_eq_true_eq] at hok
  obtain ⟨hA, h3⟩ := hok
  have hRR : numsR (hdI s) = [pv (tnth (hdI s) 0), pv (tnth (hdI s) 1), pv (tnth (hdI s) 2)] := by unfold numsR; rw [if_pos hA, h3]; rfl
  have hnB : m ≤ 1048577 := by have := pieces_len [32] s; omega
  clear hle0 hle1 hlH hpos hn
  generalize pieces [32] s = l at *
  generalize hL0 : tnth l 0 = L0 at *
  generalize Lib.trimSuffix L0 [58] = L1 at *
  unfold GivesN at HIn
  rw [hA, hRR] at HIn
  generalize hdI s = H at *
  generalize hNN : pv (tnth H 0) = N at *
  generalize hEE : pv (tnth H 1) = E at *
  generalize hSS : pv (tnth H 2) = S at *
  go_enter Try.func19, Try.ntmps19
  go_upto_region 5 with (first
    | (go_at_call 54; ((with_reducible refine (HS.out _).mono ?_); rintro e w1 ⟨v1, rfl, o1, g1⟩); rw [HN.out] at o1; obtain ⟨gl, cl, rfl⟩ := Go.Joins.ownsRow_form o1 hn0; have y0 := own_strP o1 hn0; have RB := FR0 _ g1; have gw1 : Ge w w1 := Ge.trans (Ge.alloc (Ge.refl w) _) g1)
    | (go_at_call 56; ((with_reducible refine (HTr.out _).mono ?_); rintro e w' ⟨rfl, rfl⟩))
    | (go_at_call 54; ((with_reducible refine (HH.out _).mono ?_); rintro e w2 ⟨v2, rfl, o2, g2⟩); replace RB := RB.ge g2)
    | (go_at_call 55; ((with_reducible refine (HIn.out _ _ (SlS.of_owns o2)).mono ?_); rintro e w3 ⟨v3, rfl, o3, g3⟩); obtain ⟨gr, cr, rfl⟩ := Go.Joins.ownsRow_form (n := 3) o3 (by omega); replace RB := RB.ge g3; obtain ⟨b0, b1, b2, b3, b4, b5, b6, b7⟩ := RB))
  have x0 : w3.cell? ⟨gr, 0, none⟩ = some (.int .i64 N) := o3.cellAt 0 (by omega)
  have x1 : w3.cell? ⟨gr, 1, none⟩ = some (.int .i64 E) := o3.cellAt 1 (by omega)
  have x2 : w3.cell? ⟨gr, 2, none⟩ = some (.int .i64 S) := o3.cellAt 2 (by omega)
  go_cut [7] (fun sx wx => sx = .pointer (some ⟨w3.heap.size, 0, none⟩) ∧ wx.cell? ⟨w3.heap.size, 0, none⟩ = some (.int .i64 N) ∧ wx.cell? ⟨w3.heap.size, 1, none⟩ = some (.int .i64 E) ∧ wx.cell? ⟨w3.heap.size, 2, none⟩ = some (.int .i64 S) ∧ wx.cell? ⟨w3.heap.size, 3, none⟩ = some (.slice none 0 0) ∧ wx.frozen? ⟨w3.heap.size, 3, none⟩ = false ∧ Ge w3 wx)
  case first =>
    have hS : ∀ w', Ge w3 w' → (w'.cell? ⟨gr, 0, none⟩ = some (.int .i64 N) ∧ w'.cell? ⟨gr, 1, none⟩ = some (.int .i64 E) ∧ w'.cell? ⟨gr, 2, none⟩ = some (.int .i64 S) ∧ Ge w3 w') := fun w' g => ⟨g.keep x0, g.keep x1, g.keep x2, g⟩
    go_region_held3 (fun w' => w'.cell? ⟨gr, 0, none⟩ = some (.int .i64 N) ∧ w'.cell? ⟨gr, 1, none⟩ = some (.int .i64 E) ∧ w'.cell? ⟨gr, 2, none⟩ = some (.int .i64 S) ∧ Ge w3 w') (first | ((with_reducible refine hS _ ?_); (repeat (first | assumption | with_reducible exact Ge.refl _ | with_reducible refine cv_drew ?_ | with_reducible refine cv_alloc ?_ | with_reducible refine cv_set ?_ | (with_reducible apply cv_some; assumption) | with_reducible refine cell_drew ?_ | with_reducible refine cell_drewN ?_ | ((with_reducible refine cell_new ?_ ?_); (focus (simp; done)); rfl) | with_reducible refine cell_alloc ?_ | with_reducible refine cell_same2 ?_ | ((with_reducible refine cell_set2 ?_ ?_); focus (first | (simp; done) | (intro hE; simp at hE; done) | (intro hE; simp at hE; omega))) | with_reducible refine Ge.drew ?_ | with_reducible refine Ge.drewN ?_ _ | with_reducible refine Ge.alloc ?_ _ | ((with_reducible refine Ge.setCell ?_ ?_ _); rotate_left; focus (first | (simp; done) | omega | (simp; omega))) | with_reducible refine Ge.trans ?_ (by assumption) | with_reducible refine Ge.keep (by assumption) ?_)); done) | fail) (fail)
    all_goals
      go_wp2_with fail
      go_meet
      exact ⟨rfl, cell_drew (cell_new rfl rfl), cell_drew (cell_new rfl rfl), cell_drew (cell_new rfl rfl), cell_drew (cell_new rfl rfl), froz_drew (froz_new rfl (v := .slice none 0 0) rfl), Ge.drew (Ge.alloc (Ge.refl _) _)⟩
  obtain ⟨rfl, k0, k1, k2, k3, kf, gB⟩ := hcut
  have ow := Ge.owns ((g2.trans g3).trans gB) o1
  have OW := Lib.hid ow
  have HW : ∀ (a : Addr) (q : Nat), (cl = 1 ∧ a = ⟨gl, 0, none⟩ ∨ a = ⟨gl, 1, none⟩) → ∀ j, j < m → ∃ b o, a = ⟨b, o, none⟩ ∧ wc.cell? ⟨b, o + j, none⟩ = some (.string (bstr (tnth l (j + 1)))) := fun a q ha j hj => by
    rcases ha with ⟨h1, rfl⟩ | rfl
    · exfalso
      rcases OW.out.2 with ⟨h', _⟩ | ⟨g', cap', cur, h', _, _, hnc, _⟩
      · simp at h'
      · simp at h'
        omega
    · exact ⟨gl, 1, rfl, by rw [Nat.add_comm 1 j]; exact own_strP OW.out (by omega)⟩
  clear ow
  go_upto_region 6 with (fail)
  go_cut [42, 43, 44] (fun v k i wx => ∃ (a : Addr) (q : Nat), v = .slice (some a) m q ∧ k = .int .i64 (m : Int) ∧ i = .int .i64 ((0 : Nat) : Int) ∧ wc = wx ∧ Hid (∀ j, j < m → ∃ b o, a = ⟨b, o, none⟩ ∧ wc.cell? ⟨b, o + j, none⟩ = some (.string (bstr (tnth l (j + 1))))))
  case first =>
    by_cases hcl : cl = 1
    · have hc1 : (cl = 1) = True := eq_true hcl
      go_wp2_with fail
      go_meet
      exact ⟨⟨gl, 0, none⟩, 0, rfl, rfl, rfl, rfl, HW _ 0 (Or.inl ⟨hcl, rfl⟩)⟩
    · have hc1 : (cl = 1) = False := eq_false hcl
      go_wp2_with fail
      go_meet
      exact ⟨⟨gl, 1, none⟩, cl - 1, rfl, rfl, rfl, rfl, HW _ 0 (Or.inr rfl)⟩
  obtain ⟨ad, qd, rfl, rfl, rfl, rfl, HWd⟩ := hcut
  clear HW
  have RBc := Lib.hid (ResB.ge (⟨b0, b1, b2, b3, b4, b5, b6, b7⟩ : ResB w3 w.heap.size) gB)
  have gwc : Ge w wc := Ge.trans gw1 (Ge.trans (Ge.trans g2 g3) gB)
  have zgb := World.block_lt_of_cell? _ _ k0
  simp at zgb
  have zrb : w.heap.size < w3.heap.size := World.block_lt_of_cell? _ _ b0
  clear b0 b1 b2 b3 b4 b5 b6 b7 x0 x1 x2 o3 y0 o2
  generalize w3.heap.size = G at *
  go_wp2_with fail
  go_loopw [44] (fun i wr => ∃ (j : Nat) (u : Value), j ≤ m ∧ i = .int .i64 j ∧ Hid (∀ e, e < j → hdOk (pieces [45, 61] (tnth l (e + 1))) = true) ∧ wr.cell? ⟨G, 3, none⟩ = some u ∧ wr.frozen? ⟨G, 3, none⟩ = false ∧ wr.ownsRow wc.heap.size 81 3 u j (icells (wX l j)) ∧ GeX ⟨G, 3, none⟩ wc wr ∧ Ge w wr) (fun i _ => m - (intOf i).toNat)
  case atStart => exact ⟨0, _, Nat.zero_le _, rfl, fun e he => by omega, k3, kf, owns_nil3 _ _ _, GeX.refl _ _, by (repeat (first | with_reducible exact Ge.refl _ | assumption | with_reducible refine Ge.drew ?_ | with_reducible refine Ge.drewN ?_ _ | with_reducible refine Ge.alloc ?_ _ | (with_reducible refine Ge.setCell ?_ (by first | (simp; done) | omega | (simp; omega)) _) | with_reducible refine Ge.trans ?_ (by assumption)))⟩
  case round =>
    obtain ⟨j, u, hj, rfl, HOk, c3, cf, hown, hx, hg⟩ := hrel
    have RBr := RBc.out.gex hx (by omega)
    have d0 := hx.1 ⟨G, 0, none⟩ _ (by simp) k0
    have d1 := hx.1 ⟨G, 1, none⟩ _ (by simp) k1
    have d2 := hx.1 ⟨G, 2, none⟩ _ (by simp) k2
    by_cases hlt : j < m
    · obtain ⟨b, o, rfl, z0⟩ := HWd.out j hlt
      have zw := hx.1 ⟨b, o + j, none⟩ _ (fun e => by rw [e, k3] at z0; cases z0) z0
      have hT : (tnth l (j + 1)).length ≤ 1048576 := HLe.out (j + 1) (by omega)
      have HSw : Hid (∀ w, Calls Try.prog 54 #[.string (bstr (tnth l (j + 1))), .string ⟨#[45, 61]⟩] w (GivesS w (pieces [45, 61] (tnth l (j + 1))))) := fun w => iSplitAny (tnth l (j + 1)) [45, 61] w hT
      have hpl := pieces_len [45, 61] (tnth l (j + 1))
      have HIw := Lib.hid (fun v w h => iInts v (pieces [45, 61] (tnth l (j + 1))) w h (by omega) (fun x hx => Nat.le_trans (pieces_le x hx) hT))
      have hRl : (numsR (pieces [45, 61] (tnth l (j + 1)))).length ≤ 1048577 := by
        unfold numsR
        split
        · rw [nums_length]; omega
        · simp
      have HBad := Lib.hid (fun c w' g => HPW.out j hlt c w' g)
      have HSt : Hid (wX l j ++ [pv (tnth (pieces [45, 61] (tnth l (j + 1))) 0), pv (tnth (pieces [45, 61] (tnth l (j + 1))) 1), pv (tnth (pieces [45, 61] (tnth l (j + 1))) 2)] = wX l (j + 1)) := rfl
      unfold GivesN at HIw
      generalize hTj : tnth l (j + 1) = T at *
      have HTj := Lib.hid hTj
      clear hTj
      generalize hP : pieces [45, 61] T = P at *
      clear hpl hT
      by_cases hA2 : allB P = true
      · by_cases hP3 : P.length = 3
        · have hRX : numsR P = [pv (tnth P 0), pv (tnth P 1), pv (tnth P 2)] := by unfold numsR; rw [if_pos hA2, hP3]; rfl
          have hok2 : hdOk P = true := by unfold hdOk; rw [hA2, hP3]; rfl
          have HOk2 : Hid (∀ e, e < j + 1 → hdOk (pieces [45, 61] (tnth l (e + 1))) = true) := fun e he => by
            by_cases ee : e = j
            · rw [ee, HTj.out, hP]; exact hok2
            · exact HOk.out e (by omega)
          rw [hA2, hRX] at HIw
          generalize pv (tnth P 0) = X at *
          generalize pv (tnth P 1) = Y at *
          generalize pv (tnth P 2) = Z at *
          generalize wX l j = L at *
          clear HBad hRX hok2 hP3 hRl HOk
          go_wp2_with (first
            | (go_at_call 54; ((with_reducible refine (HSw.out _).mono ?_); rintro e w5 ⟨v5, rfl, o5, g5⟩))
            | (go_at_call 55; ((with_reducible refine (HIw.out _ _ (SlS.of_owns o5)).mono ?_); rintro e w6 ⟨v6, rfl, o6, g6⟩); obtain ⟨gr2, cr2, rfl⟩ := Go.Joins.ownsRow_form (n := 3) o6 (by omega)))
          have g56 := Ge.trans g5 g6
          have r0 : w6.cell? ⟨gr2, 0, none⟩ = some (.int .i64 X) := o6.cellAt 0 (by omega)
          have r1 : w6.cell? ⟨gr2, 1, none⟩ = some (.int .i64 Y) := o6.cellAt 1 (by omega)
          have r2 : w6.cell? ⟨gr2, 2, none⟩ = some (.int .i64 Z) := o6.cellAt 2 (by omega)
          have s3 := g56.keep c3
          have s4 := g56.keepF c3 cf
          have own6 := Ge.owns g56 hown
          have hx6 := hx.ge ⟨_, c3⟩ g56
          have hgr := (o6.lt gr2 rfl).1
          have zz := g5.size
          have bu : ∀ k, u.ownBlock = some k → gr2 ≠ k := fun k hk e => by have := (hown.lt k hk).2; omega
          have bG : ∀ k, u.ownBlock = some k → G ≠ k := fun k hk e => by have := (hown.lt k hk).1; omega
          clear c3 cf
          have hx6e : ∃ z, w6.cell? ⟨G, 3, none⟩ = some z := ⟨_, s3⟩
          have zG6 : G < w6.heap.size := World.block_lt_of_cell? _ _ s3
          have zr6 : gr2 < w6.heap.size := World.block_lt_of_cell? _ _ r0
          have HOwn := Lib.hid (Ge.owns (Ge.drew (Ge.refl w6)) own6)
          have HZ6 : Hid (wc.heap.size ≤ w6.drew.heap.size) := hx6.2.2
          have hjn : j < 1099511627776 := by omega
          have k3' : (w6.drew.alloc (.cells #[.int .i64 X, .int .i64 Y, .int .i64 Z] 81)).cell? ⟨G, 3, none⟩ = some u := cell_alloc s3
          have k4' : (w6.drew.alloc (.cells #[.int .i64 X, .int .i64 Y, .int .i64 Z] 81)).frozen? ⟨G, 3, none⟩ = false := Ge.keepF (Ge.alloc (Ge.drew (Ge.refl w6)) _) s3 s4
          have K3 := Lib.hid k3'
          have K4 := Lib.hid k4'
          clear k3' k4'
          obtain ⟨v8, w8, hr8, own8, m8⟩ := run_wire wc.heap.size u j L HOwn.out HZ6.out X Y Z hjn
          obtain ⟨p8, c8, rfl⟩ := owns_form own8
          have HR8 := Lib.hid hr8
          have t3 := mine_cell m8 K3.out bG
          have t4 := mine_froz m8 K3.out K4.out bG
          have q0 := mine_cell m8 (cell_alloc (o := .cells #[.int .i64 X, .int .i64 Y, .int .i64 Z] 81) (cell_drew r0)) bu
          have q1 := mine_cell m8 (cell_alloc (o := .cells #[.int .i64 X, .int .i64 Y, .int .i64 Z] 81) (cell_drew r1)) bu
          have q2 := mine_cell m8 (cell_alloc (o := .cells #[.int .i64 X, .int .i64 Y, .int .i64 Z] 81) (cell_drew r2)) bu
          have gA : Ge w (w6.drew.alloc (.cells #[.int .i64 X, .int .i64 Y, .int .i64 Z] 81)) := Ge.alloc (Ge.drew (Ge.trans hg g56)) _
          have G8 : Ge w w8 := gA.mine (HOwn.out.alloc _) (by omega) m8
          have hx8 : GeX ⟨G, 3, none⟩ wc w8 := GeX.mine (hx6.ge hx6e (Ge.alloc (Ge.drew (Ge.refl _)) _)) (HOwn.out.alloc _) (Nat.le_refl _) m8
          have fin0 := cell_same2 (u := .slice p8 (j + 1) c8) (cv_some t3)
          have HFin := Lib.hid (And.intro fin0 (And.intro (froz_set (b := ⟨G, 3, none⟩) (u := .slice p8 (j + 1) c8) t4) (And.intro (owns_set (o := 3) own8 zgb (.slice p8 (j + 1) c8)) (And.intro (hx8.set (.slice p8 (j + 1) c8)) (Ge.setCell G8 (p := ⟨G, 3, none⟩) (by show w.heap.size ≤ G; omega) (.slice p8 (j + 1) c8))))))
          rw [HSt.out] at HFin
          clear fin0 hx8 G8 gA own8 m8 hr8
          refine wp_region_head (S := fun w' => w'.cell? ⟨G, 3, none⟩ = some u ∧ w'.cell? ⟨gr2, 0, none⟩ = some (.int .i64 X) ∧ w'.cell? ⟨gr2, 1, none⟩ = some (.int .i64 Y) ∧ w'.cell? ⟨gr2, 2, none⟩ = some (.int .i64 Z)) 15 (by kernel_rfl) (by kernel_rfl) (⟨cell_drew s3, cell_drew r0, cell_drew r1, cell_drew r2⟩) (fun hHeld => ?_)
          refine head_take 0 (v := ?_) rfl (by kernel_rfl) (by kernel_rfl) (fun _ _ _ h => h) (by assumption) (yields_if (by rfl) ?_) ?_
          rotate_left
          focus (intro w' hSw; (try dsimp only at hSw); go_simp; (try with_reducible rfl))
          (try simp only [Act.put, List.setIfInBounds_toArray, List.set_cons_zero, List.set_cons_succ])
          refine head_take 1 (v := ?_) rfl (by kernel_rfl) (by kernel_rfl) (fun _ _ _ h => h) (by assumption) (yields_if (by rfl) ?_) ?_
          rotate_left
          focus (intro w' hSw; (try dsimp only at hSw); go_simp; (try with_reducible rfl))
          (try simp only [Act.put, List.setIfInBounds_toArray, List.set_cons_zero, List.set_cons_succ])
          refine head_take 2 (v := ?_) rfl (by kernel_rfl) (by kernel_rfl) (fun _ _ _ h => h) (by assumption) (yields_if (by rfl) ?_) ?_
          rotate_left
          focus (intro w' hSw; (try dsimp only at hSw); go_simp; (try with_reducible rfl))
          (try simp only [Act.put, List.setIfInBounds_toArray, List.set_cons_zero, List.set_cons_succ])
          refine head_take 3 (v := ?_) rfl (by kernel_rfl) (by kernel_rfl) (fun _ _ _ h => h) (by assumption) (yields_if (by rfl) ?_) ?_
          rotate_left
          focus (intro w' hSw; (try dsimp only at hSw); go_simp; (try with_reducible rfl))
          (try simp only [Act.put, List.setIfInBounds_toArray, List.set_cons_zero, List.set_cons_succ])
          refine head_take 4 (v := ?_) rfl (by kernel_rfl) (by kernel_rfl) (fun _ _ _ h => h) (by assumption) (yields_if (by rfl) ?_) ?_
          rotate_left
          focus (intro w' hSw; (try dsimp only at hSw); go_simp; (try with_reducible rfl))
          (try simp only [Act.put, List.setIfInBounds_toArray, List.set_cons_zero, List.set_cons_succ])
          refine head_take 5 (v := ?_) rfl (by kernel_rfl) (by kernel_rfl) (fun _ _ _ h => h) (by assumption) (yields_if (by rfl) ?_) ?_
          rotate_left
          focus (intro w' hSw; (try dsimp only at hSw); go_simp; (try with_reducible rfl))
          (try simp only [Act.put, List.setIfInBounds_toArray, List.set_cons_zero, List.set_cons_succ])
          refine head_take 6 (v := ?_) rfl (by kernel_rfl) (by kernel_rfl) (fun _ _ _ h => h) (by assumption) (yields_if (by rfl) ?_) ?_
          rotate_left
          focus (intro w' hSw; (try dsimp only at hSw); go_simp; (try with_reducible rfl))
          (try simp only [Act.put, List.setIfInBounds_toArray, List.set_cons_zero, List.set_cons_succ])
          refine head_take 7 (v := ?_) rfl (by kernel_rfl) (by kernel_rfl) (fun _ _ _ h => h) (by assumption) (yields_if (by rfl) ?_) ?_
          rotate_left
          focus (intro w' hSw; (try dsimp only at hSw); go_simp; (try with_reducible rfl))
          (try simp only [Act.put, List.setIfInBounds_toArray, List.set_cons_zero, List.set_cons_succ])
          refine head_take 8 (v := ?_) rfl (by kernel_rfl) (by kernel_rfl) (fun _ _ _ h => h) (by assumption) (yields_if (by rfl) ?_) ?_
          rotate_left
          focus (intro w' hSw; (try dsimp only at hSw); go_simp; (try with_reducible rfl))
          (try simp only [Act.put, List.setIfInBounds_toArray, List.set_cons_zero, List.set_cons_succ])
          refine head_take 9 (v := ?_) rfl (by kernel_rfl) (by kernel_rfl) (fun _ _ _ h => h) (by assumption) (yields_if (by rfl) ?_) ?_
          rotate_left
          focus (intro w' hSw; (try dsimp only at hSw); go_simp; (try with_reducible rfl))
          (try simp only [Act.put, List.setIfInBounds_toArray, List.set_cons_zero, List.set_cons_succ])
          refine head_take 10 (v := ?_) rfl (by kernel_rfl) (by kernel_rfl) (fun _ _ _ h => h) (by assumption) (yields_if (by rfl) ?_) ?_
          rotate_left
          focus (intro w' hSw; (try dsimp only at hSw); go_simp; (try with_reducible rfl))
          (try simp only [Act.put, List.setIfInBounds_toArray, List.set_cons_zero, List.set_cons_succ])
          refine head_take 11 (v := ?_) rfl (by kernel_rfl) (by kernel_rfl) (fun _ _ _ h => h) (by assumption) (yields_if (by rfl) ?_) ?_
          rotate_left
          focus (intro w' hSw; (try dsimp only at hSw); go_simp; (try with_reducible rfl))
          (try simp only [Act.put, List.setIfInBounds_toArray, List.set_cons_zero, List.set_cons_succ])
          refine head_one 12 rfl (by kernel_rfl) (fun K hK => ?_)
          go_simp
          refine hK.out _ _ ⟨cell_alloc (cell_drew s3), cell_alloc (cell_drew r0), cell_alloc (cell_drew r1), cell_alloc (cell_drew r2)⟩ (fun hHeld => ?_)
          clear hK K
          (try simp only [Act.put, List.setIfInBounds_toArray, List.set_cons_zero, List.set_cons_succ])
          refine head_one 13 rfl (by kernel_rfl) (fun K hK => ?_)
          rw [if_pos (by rfl)]
          refine step_run _ _ rfl rfl (v := u) rfl rfl HR8.out ?_
          refine hK.out _ _ ⟨t3, q0, q1, q2⟩ (fun hHeld => ?_)
          clear hK K
          (try simp only [Act.put, List.setIfInBounds_toArray, List.set_cons_zero, List.set_cons_succ])
          refine head_take 14 (v := ?_) rfl (by kernel_rfl) (by kernel_rfl) (fun _ _ _ h => h) (by assumption) (yields_if (by rfl) ?_) ?_
          rotate_left
          focus (intro w' hSw; (try dsimp only at hSw); go_simp; (try with_reducible rfl))
          (try simp only [Act.put, List.setIfInBounds_toArray, List.set_cons_zero, List.set_cons_succ])
          refine head_done (by kernel_rfl) ?_
          go_wp2_with fail
          go_roundw
          case rel => exact ⟨j + 1, .slice p8 (j + 1) c8, by omega, by go_num, HOk2.out, HFin.out.1, HFin.out.2.1, HFin.out.2.2.1, HFin.out.2.2.2.1, HFin.out.2.2.2.2⟩
          case measure => simp [intOf]; omega
        · have hbad2 : hdOk P = false := by unfold hdOk; rw [decide_eq_false hP3, Bool.and_false]
          have GF2 := Lib.hid (fun w' g => HBad.out hbad2 w' g)
          have hRk : (numsR P).length = P.length := by unfold numsR; rw [if_pos hA2, nums_length]
          have tk : (((numsR P).length : Int) != 3) = true := by simp; omega
          rw [hA2] at HIw
          generalize numsR P = R2 at *
          clear HBad hRk hP3
          go_wp2_with (first
            | (go_at_call 54; ((with_reducible refine (HSw.out _).mono ?_); rintro e w5 ⟨v5, rfl, o5, g5⟩); replace RBr := RBr.ge g5)
            | (go_at_call 55; ((with_reducible refine (HIw.out _ _ (SlS.of_owns o5)).mono ?_); rintro e w6 ⟨v6, rfl, o6, g6⟩); obtain ⟨p6, c6, rfl⟩ := owns_form o6; replace RBr := RBr.ge g6; obtain ⟨b0, b1, b2, b3, b4, b5, b6, b7⟩ := RBr))
          exact bodyPost_ret (v := .tuple #[.agg #[.int .i64 0, .int .i64 0, .int .i64 0, .slice none 0 0], .bool false]) (by simp [results, Try.results19, go_sem, *]) rfl (GF2.out _ (by (repeat (first | with_reducible exact Ge.refl _ | assumption | with_reducible refine Ge.drew ?_ | with_reducible refine Ge.drewN ?_ _ | with_reducible refine Ge.alloc ?_ _ | (with_reducible refine Ge.setCell ?_ (by first | (simp; done) | omega | (simp; omega)) _) | with_reducible refine Ge.trans ?_ (by assumption)))))
      · have hA3 : allB P = false := by simpa using hA2
        have hbad2 : hdOk P = false := by unfold hdOk; rw [hA3]; rfl
        have GF2 := Lib.hid (fun w' g => HBad.out hbad2 w' g)
        rw [hA3] at HIw
        generalize numsR P = R2 at *
        clear HBad
        go_wp2_with (first
          | (go_at_call 54; ((with_reducible refine (HSw.out _).mono ?_); rintro e w5 ⟨v5, rfl, o5, g5⟩); replace RBr := RBr.ge g5)
          | (go_at_call 55; ((with_reducible refine (HIw.out _ _ (SlS.of_owns o5)).mono ?_); rintro e w6 ⟨v6, rfl, o6, g6⟩); obtain ⟨p6, c6, rfl⟩ := owns_form o6; replace RBr := RBr.ge g6; obtain ⟨b0, b1, b2, b3, b4, b5, b6, b7⟩ := RBr))
        exact bodyPost_ret (v := .tuple #[.agg #[.int .i64 0, .int .i64 0, .int .i64 0, .slice none 0 0], .bool false]) (by simp [results, Try.results19, go_sem, *]) rfl (GF2.out _ (by (repeat (first | with_reducible exact Ge.refl _ | assumption | with_reducible refine Ge.drew ?_ | with_reducible refine Ge.drewN ?_ _ | with_reducible refine Ge.alloc ?_ _ | (with_reducible refine Ge.setCell ?_ (by first | (simp; done) | omega | (simp; omega)) _) | with_reducible refine Ge.trans ?_ (by assumption)))))
    · have hjm : m = j := by omega
      subst hjm
      have HFm := Lib.hid (iFormatNet N E S u m (wX l m) wr (SlF.of_owns hown) (by omega))
      have hwk := wiresOk_t HOk.out
      have HG2 := Lib.hid (fun h2 w' ho g => HGt.out hwk h2 u w' ho g)
      clear hwk HGt
      generalize wX l m = L at *
      obtain ⟨pu, cu, rfl⟩ := owns_form hown
      have zwc : w.heap.size < wc.heap.size := by omega
      by_cases hT : netTxt N E S m L = s
      · have HG3 := Lib.hid (fun w' ho g => HG2.out hT w' ho g)
        rw [hT] at HFm
        clear hT HG2 HGf
        go_wp2_with (go_at_call 20; ((with_reducible refine (HFm.out).mono ?_); rintro e w9 ⟨rfl, g9⟩); have e0 := g9.keep d0; have e1 := g9.keep d1; have e2 := g9.keep d2; have e3 := g9.keep c3; replace RBr := RBr.ge g9; obtain ⟨b0, b1, b2, b3, b4, b5, b6, b7⟩ := RBr; have own9 := Ge.owns g9 hown)
        exact bodyPost_ret (v := .tuple #[.agg #[.int .i64 N, .int .i64 E, .int .i64 S, .slice pu m cu], .bool true]) (by simp [results, Try.results19, go_sem, *]) rfl (HG3.out _ (by refine owns_mono (base := wc.heap.size) ?_ (by omega); repeat (first | exact own9 | refine owns_set ?_ zwc _)) (by (repeat (first | with_reducible exact Ge.refl _ | assumption | with_reducible refine Ge.drew ?_ | with_reducible refine Ge.drewN ?_ _ | with_reducible refine Ge.alloc ?_ _ | (with_reducible refine Ge.setCell ?_ (by first | (simp; done) | omega | (simp; omega)) _) | with_reducible refine Ge.trans ?_ (by assumption)))))
      · have GF3 := Lib.hid (fun w' g => HGf.out hT w' g)
        have tn := bstr_neq hT
        clear HG2 HGf
        generalize netTxt N E S m L = TX at *
        go_wp2_with (go_at_call 20; ((with_reducible refine (HFm.out).mono ?_); rintro e w9 ⟨rfl, g9⟩); have e0 := g9.keep d0; have e1 := g9.keep d1; have e2 := g9.keep d2; have e3 := g9.keep c3; replace RBr := RBr.ge g9; obtain ⟨b0, b1, b2, b3, b4, b5, b6, b7⟩ := RBr; have own9 := Ge.owns g9 hown)
        exact bodyPost_ret (v := .tuple #[.agg #[.int .i64 0, .int .i64 0, .int .i64 0, .slice none 0 0], .bool false]) (by simp [results, Try.results19, go_sem, *]) rfl (GF3.out _ (by (repeat (first | with_reducible exact Ge.refl _ | assumption | with_reducible refine Ge.drew ?_ | with_reducible refine Ge.drewN ?_ _ | with_reducible refine Ge.alloc ?_ _ | (with_reducible refine Ge.setCell ?_ (by first | (simp; done) | omega | (simp; omega)) _) | with_reducible refine Ge.trans ?_ (by assumption)))))

end Go.Proofs.Ytfhhgonoddedlaa

namespace Go.Proofs.Ytfhhgonoddedlaa

/-- The magnitude of a product is small enough. -/
def fitsB (a b : Int) : Bool := decide ((a * b).natAbs ≤ 1000000000000000000)
def calcB (r s : Rt) : Bool := ratioOk r.n r.d && ratioOk s.n s.d && fitsB r.n s.d && fitsB s.n r.d && fitsB r.d s.d && fitsB r.n s.n
def ratioSum (r s : Rt) : Rt := if calcB r s = true then ratioOf (r.n * s.d + s.n * r.d) (r.d * s.d) else zeroR
def ratioDiff (r s : Rt) : Rt := if calcB r s = true then ratioOf (r.n * s.d - s.n * r.d) (r.d * s.d) else zeroR
def ratioTimes (r s : Rt) : Rt := if calcB r s = true then ratioOf (r.n * s.n) (r.d * s.d) else zeroR
def ratioInv (r : Rt) : Rt := if ratioOk r.n r.d = true then ratioOf r.d r.n else zeroR
def posB (r : Rt) : Bool := ratioOk r.n r.d && decide (0 < r.n)
def seriesR (r s : Rt) : Rt := if posB r = true ∧ posB s = true then ratioSum r s else zeroR
def parallelR (r s : Rt) : Rt := if posB r = true ∧ posB s = true then ratioInv (ratioSum (ratioInv r) (ratioInv s)) else zeroR

theorem fitsB_iff {a b : Int} : fitsB a b = true ↔ -1000000000000000000 ≤ a * b ∧ a * b ≤ 1000000000000000000 := by
  simp [fitsB]; omega

theorem calcB_iff {r s : Rt} : calcB r s = true ↔ ratioOk r.n r.d = true ∧ ratioOk s.n s.d = true ∧ fitsB r.n s.d = true ∧ fitsB s.n r.d = true ∧ fitsB r.d s.d = true ∧ fitsB r.n s.n = true := by
  simp [calcB, and_assoc]

/-- How the program asks whether a product fits. -/
theorem fits_div (a b : Int) (hb : b ≠ 0) (ha : a ≠ 0) : fitsB a b = decide (a.natAbs ≤ 1000000000000000000 / b.natAbs) := by
  unfold fitsB
  rw [Int.natAbs_mul]
  congr 1
  rw [Nat.le_div_iff_mul_le (by omega)]
theorem fits_zero_left (b : Int) : fitsB 0 b = true := by simp [fitsB]
theorem fits_zero_right (a : Int) : fitsB a 0 = true := by simp [fitsB]

/-- A product that fits; else 0. -/
def prodOr (a b : Int) : Int := if fitsB a b = true then a * b else 0

theorem ratioOk_zero : ratioOk 0 0 = false := by decide

theorem ratioOf_cases (n d : Int) : (ratioOf n d).n = 0 ∧ (ratioOf n d).d = 0 ∨ ratioOk (ratioOf n d).n (ratioOf n d).d = true := by
  rcases ratioOf_ok n d with h | h
  · left; rw [h]; exact ⟨rfl, rfl⟩
  · exact .inr h

/-- A fraction that came out of RatioOf lies within the bounds. -/
theorem ratioOf_bd (n d : Int) : -1000000000000000000 ≤ (ratioOf n d).n ∧ (ratioOf n d).n ≤ 1000000000000000000 ∧ 0 ≤ (ratioOf n d).d ∧ (ratioOf n d).d ≤ 1000000000000000 := by
  rcases ratioOf_cases n d with ⟨h1, h2⟩ | h
  · rw [h1, h2]; omega
  · rw [ratioOk_iff] at h; omega

def zeroOrOk (r : Rt) : Prop := r = zeroR ∨ ratioOk r.n r.d = true
theorem ratioOf_zok (n d : Int) : zeroOrOk (ratioOf n d) := ratioOf_ok n d
theorem zok_zero : zeroOrOk zeroR := .inl rfl

/-- RatioOfTerms: q and p of the ladder. -/
def ladder : List Int → Int × Int
  | [] => (1, 0)
  | x :: l => (x * (ladder l).1 + (ladder l).2, (ladder l).1)

def termsB (l : List Int) : Bool :=
  decide (1 ≤ l.length) && decide (l.length ≤ 40) && (l.all fun x => decide (0 ≤ x) && decide (x ≤ 40)) && (l.tail.all fun x => decide (x ≠ 0)) &&
    decide (1 ≤ l.foldr (· + ·) 0) && decide (l.foldr (· + ·) 0 ≤ 40)

def ratioOfTerms (l : List Int) : Rt := if termsB l = true then ratioOf (ladder l).1 (ladder l).2 else zeroR

end Go.Proofs.Ytfhhgonoddedlaa

namespace Go.Proofs.Ytfhhgonoddedlaa

theorem ratioOf_mul {k : Nat} (hk : 0 < k) (a b : Int) : ratioOf ((k : Int) * a) ((k : Int) * b) = ratioOf a b := by
  unfold ratioOf
  by_cases h0 : b = 0
  · rw [if_pos h0, if_pos (by rw [h0]; simp)]
  · have h1 : ¬ (k : Int) * b = 0 := by
      intro h
      rcases Int.mul_eq_zero.1 h with h | h
      · omega
      · exact h0 h
    rw [if_neg h0, if_neg h1]
    have e : gcdN ((k : Int) * a) ((k : Int) * b) = k * gcdN a b := by
      unfold gcdN
      rw [Int.natAbs_mul, Int.natAbs_mul, Int.natAbs_natCast, Nat.gcd_mul_left]
    have e1 : ((k : Int) * a).natAbs / (k * gcdN a b) = a.natAbs / gcdN a b := by rw [Int.natAbs_mul, Int.natAbs_natCast, Nat.mul_div_mul_left _ _ hk]
    have e2 : ((k : Int) * b).natAbs / (k * gcdN a b) = b.natAbs / gcdN a b := by rw [Int.natAbs_mul, Int.natAbs_natCast, Nat.mul_div_mul_left _ _ hk]
    have hk' : (0 : Int) < k := by omega
    have s1 : ((k : Int) * a < 0) ↔ a < 0 := ⟨fun h => by
      rcases Int.lt_or_le a 0 with h2 | h2
      · exact h2
      · have := Int.mul_nonneg (Int.le_of_lt hk') h2; omega, fun h => Int.mul_neg_of_pos_of_neg hk' h⟩
    have s2 : ((k : Int) * b < 0) ↔ b < 0 := ⟨fun h => by
      rcases Int.lt_or_le b 0 with h2 | h2
      · exact h2
      · have := Int.mul_nonneg (Int.le_of_lt hk') h2; omega, fun h => Int.mul_neg_of_pos_of_neg hk' h⟩
    simp only [e, e1, e2, s1, s2]
theorem ratioOf_eq {a b c d : Int} (hb : 0 < b) (hd : 0 < d) (h : a * d = c * b) : ratioOf a b = ratioOf c d := by
  obtain ⟨p, rfl⟩ : ∃ p : Nat, b = p := ⟨b.toNat, by omega⟩
  obtain ⟨q, rfl⟩ : ∃ q : Nat, d = q := ⟨d.toNat, by omega⟩
  rw [← ratioOf_mul (k := q) (by omega) a p, ← ratioOf_mul (k := p) (by omega) c q]
  rw [Int.mul_comm (q : Int) a, h, Int.mul_comm c, Int.mul_comm (q : Int) p]
/-- A small fraction in its lowest terms. -/
theorem rat_form {a b : Int} (h1 : 0 < b) (h2 : b ≤ 1000000000000000) (h3 : -1000000000000000000 ≤ a) (h4 : a ≤ 1000000000000000000) :
    ∃ g : Nat, 0 < g ∧ a = g * (ratioOf a b).n ∧ b = g * (ratioOf a b).d ∧ ratioOk (ratioOf a b).n (ratioOf a b).d = true := by
  have hb : b ≠ 0 := by omega
  have hg := gcdN_pos (n := a) hb
  obtain ⟨x, hx⟩ := gcdN_dvd_left a b
  obtain ⟨y, hy⟩ := gcdN_dvd_right a b
  have ex : a.natAbs / gcdN a b = x := by rw [hx]; exact Nat.mul_div_cancel_left x hg
  have ey : b.natAbs / gcdN a b = y := by rw [hy]; exact Nat.mul_div_cancel_left y hg
  have lx : x ≤ a.natAbs := by rw [← ex]; exact Nat.div_le_self _ _
  have ly : y ≤ b.natAbs := by rw [← ey]; exact Nat.div_le_self _ _
  have y0 : y ≠ 0 := fun e => by rw [e] at hy; omega
  have hr : ratioOf a b = ⟨if a < 0 then -(x : Int) else (x : Int), (y : Int)⟩ := by
    unfold ratioOf
    rw [if_neg hb]
    simp only [ex, ey]
    rw [if_neg (by omega)]
    congr 1
    by_cases c : a < 0
    · rw [if_pos c, if_neg (by simp [c]; omega)]
    · rw [if_neg c, if_pos (by simp [c]; omega)]
  refine ⟨gcdN a b, hg, ?_, ?_, ?_⟩
  · rw [hr]
    have : ((gcdN a b * x : Nat) : Int) = (gcdN a b : Int) * (x : Int) := Int.natCast_mul _ _
    simp only
    split
    · rw [Int.mul_neg]; omega
    · omega
  · rw [hr]
    have : ((gcdN a b * y : Nat) : Int) = (gcdN a b : Int) * (y : Int) := Int.natCast_mul _ _
    simp only
    omega
  · rcases ratioOf_ok a b with h | h
    · rw [hr] at h
      have := congrArg Rt.d h
      simp only [zeroR] at this
      omega
    · exact h
theorem natAbs_le_mul {g : Nat} (hg : 0 < g) (x : Int) : x.natAbs ≤ (g * x).natAbs := by
  rw [Int.natAbs_mul, Int.natAbs_natCast]
  exact Nat.le_mul_of_pos_left _ hg
theorem fits_of {a b c d : Int} (h : (c * d).natAbs ≤ 1000000000000000000) (h1 : a.natAbs ≤ c.natAbs) (h2 : b.natAbs ≤ d.natAbs) : fitsB a b = true := by
  unfold fitsB
  rw [decide_eq_true_eq]
  refine Nat.le_trans ?_ h
  rw [Int.natAbs_mul, Int.natAbs_mul]
  exact Nat.mul_le_mul h1 h2
/-- a / b with |a| up to A and b up to B. -/
def smallQ (a b A B : Int) : Prop := -A ≤ a ∧ a ≤ A ∧ 0 < b ∧ b ≤ B
theorem na_mul_le {a b A B : Int} (ha : -A ≤ a) (ha2 : a ≤ A) (hb : -B ≤ b) (hb2 : b ≤ B) : (a * b).natAbs ≤ (A * B).natAbs := by
  rw [Int.natAbs_mul, Int.natAbs_mul]
  exact Nat.mul_le_mul (by omega) (by omega)
theorem calc_of {a b c d A B C D : Int} (h1 : smallQ a b A B) (h2 : smallQ c d C D) (q1 : (A * D).natAbs ≤ 1000000000000000000) (q2 : (C * B).natAbs ≤ 1000000000000000000) (q3 : (B * D).natAbs ≤ 1000000000000000000) (q4 : (A * C).natAbs ≤ 1000000000000000000)
    (hA : A ≤ 1000000000000000000) (hB : B ≤ 1000000000000000) (hC : C ≤ 1000000000000000000) (hD : D ≤ 1000000000000000) :
    ∃ g k : Nat, 0 < g ∧ 0 < k ∧ a = g * (ratioOf a b).n ∧ b = g * (ratioOf a b).d ∧ c = k * (ratioOf c d).n ∧ d = k * (ratioOf c d).d ∧ calcB (ratioOf a b) (ratioOf c d) = true := by
  obtain ⟨a1, a2, b1, b2⟩ := h1
  obtain ⟨c1, c2, d1, d2⟩ := h2
  obtain ⟨g, g0, ga, gb, gok⟩ := rat_form (a := a) b1 (by omega) (by omega) (by omega)
  obtain ⟨k, k0, kc, kd, kok⟩ := rat_form (a := c) d1 (by omega) (by omega) (by omega)
  refine ⟨g, k, g0, k0, ga, gb, kc, kd, ?_⟩
  have na := natAbs_le_mul g0 (ratioOf a b).n
  have nb := natAbs_le_mul g0 (ratioOf a b).d
  have nc := natAbs_le_mul k0 (ratioOf c d).n
  have nd := natAbs_le_mul k0 (ratioOf c d).d
  rw [← ga] at na
  rw [← gb] at nb
  rw [← kc] at nc
  rw [← kd] at nd
  rw [calcB_iff]
  refine ⟨gok, kok, fits_of (Nat.le_trans (na_mul_le a1 a2 (by omega) d2) q1) na nd, fits_of (Nat.le_trans (na_mul_le c1 c2 (by omega) b2) q2) nc nb, fits_of (Nat.le_trans (na_mul_le (by omega) b2 (by omega) d2) q3) nb nd, fits_of (Nat.le_trans (na_mul_le a1 a2 c1 c2) q4) na nc⟩
theorem sum_q {a b c d A B C D : Int} (h1 : smallQ a b A B) (h2 : smallQ c d C D) (q1 : (A * D).natAbs ≤ 1000000000000000000) (q2 : (C * B).natAbs ≤ 1000000000000000000) (q3 : (B * D).natAbs ≤ 1000000000000000000) (q4 : (A * C).natAbs ≤ 1000000000000000000)
    (hA : A ≤ 1000000000000000000) (hB : B ≤ 1000000000000000) (hC : C ≤ 1000000000000000000) (hD : D ≤ 1000000000000000) :
    ratioSum (ratioOf a b) (ratioOf c d) = ratioOf (a * d + c * b) (b * d) := by
  obtain ⟨g, k, g0, k0, ga, gb, kc, kd, hc⟩ := calc_of h1 h2 q1 q2 q3 q4 hA hB hC hD
  unfold ratioSum
  rw [if_pos hc]
  generalize ratioOf a b = r at *
  generalize ratioOf c d = s at *
  rw [← ratioOf_mul (k := g * k) (Nat.mul_pos g0 k0)]
  rw [ga, gb, kc, kd, Int.natCast_mul]
  congr 1
  · grind
  · grind
theorem times_q {a b c d A B C D : Int} (h1 : smallQ a b A B) (h2 : smallQ c d C D) (q1 : (A * D).natAbs ≤ 1000000000000000000) (q2 : (C * B).natAbs ≤ 1000000000000000000) (q3 : (B * D).natAbs ≤ 1000000000000000000) (q4 : (A * C).natAbs ≤ 1000000000000000000)
    (hA : A ≤ 1000000000000000000) (hB : B ≤ 1000000000000000) (hC : C ≤ 1000000000000000000) (hD : D ≤ 1000000000000000) :
    ratioTimes (ratioOf a b) (ratioOf c d) = ratioOf (a * c) (b * d) := by
  obtain ⟨g, k, g0, k0, ga, gb, kc, kd, hc⟩ := calc_of h1 h2 q1 q2 q3 q4 hA hB hC hD
  unfold ratioTimes
  rw [if_pos hc]
  generalize ratioOf a b = r at *
  generalize ratioOf c d = s at *
  rw [← ratioOf_mul (k := g * k) (Nat.mul_pos g0 k0)]
  rw [ga, gb, kc, kd, Int.natCast_mul]
  congr 1
  · grind
  · grind
/-- Fractions over one denominator. -/
theorem sum_same {a c b A C B : Int} (h1 : smallQ a b A B) (h2 : smallQ c b C B) (q1 : (A * B).natAbs ≤ 1000000000000000000) (q2 : (C * B).natAbs ≤ 1000000000000000000) (q3 : (B * B).natAbs ≤ 1000000000000000000) (q4 : (A * C).natAbs ≤ 1000000000000000000)
    (hA : A ≤ 1000000000000000000) (hC : C ≤ 1000000000000000000) (hB : B ≤ 1000000000000000) : ratioSum (ratioOf a b) (ratioOf c b) = ratioOf (a + c) b := by
  rw [sum_q h1 h2 q1 q2 q3 q4 hA hB hC hB]
  have h0 := h1.2.2.1
  refine ratioOf_eq (Int.mul_pos h0 h0) h0 ?_
  rw [← Int.add_mul, Int.mul_assoc]
theorem ratioOf_int {a b k : Int} (hb : 0 < b) (h : a = k * b) (h1 : -1000000000000000000 ≤ k) (h2 : k ≤ 1000000000000000000) : ratioOf a b = ⟨k, 1⟩ := by
  rw [ratioOf_eq hb (d := 1) (c := k) (by decide) (by rw [Int.mul_one]; exact h)]
  unfold ratioOf gcdN
  simp only [Int.natAbs_one, Nat.gcd_one_right, Nat.div_one]
  rw [if_neg (by decide), if_neg (by omega)]
  congr 1
  by_cases c : k < 0
  · rw [if_neg (by simp [c])]; omega
  · rw [if_pos (by constructor <;> (intro; omega))]; omega
theorem ratioOf_nn {a b : Int} (hb : 0 < b) (ha : 0 ≤ a) : 0 ≤ (ratioOf a b).n := by
  unfold ratioOf
  rw [if_neg (by omega)]
  simp only
  split
  · simp [zeroR]
  · rw [if_pos (by constructor <;> (intro; omega))]; exact Int.natCast_nonneg _
theorem ratioOf_pos {a b : Int} (hb : 0 < b) (hb2 : b ≤ 1000000000000000) (ha : 0 < a) (ha2 : a ≤ 1000000000000000000) : 1 ≤ (ratioOf a b).n := by
  obtain ⟨g, g0, ga, _, _⟩ := rat_form (a := a) hb hb2 (by omega) ha2
  have := ratioOf_nn (a := a) hb (by omega)
  rcases Int.lt_or_le 0 (ratioOf a b).n with h | h
  · omega
  · have : (ratioOf a b).n = 0 := by omega
    rw [this] at ga
    simp at ga
    omega
end Go.Proofs.Ytfhhgonoddedlaa

namespace Go.Proofs.Ytfhhgonoddedlaa
set_option maxRecDepth 100000
open Go.ChangeShapes Go.WideShapes Go.ChangeAt Go.RowKit Go.Joins

set_option maxHeartbeats 1600000 in
theorem equalWires (v1 v2 : Value) (n : Nat) (xs : List Int) (w : World) (h1 : SlF w v1 n 3 xs) (h2 : SlF w v2 n 3 xs) (hm : n ≤ 1000000) :
    Calls Try.prog 62 #[v1, v2] w fun e w' => e = .returned (.bool true) ∧ Ge w w' := by
  obtain ⟨p1, c1, rfl, k1⟩ := h1.open
  obtain ⟨p2, c2, rfl, k2⟩ := h2.open
  have K1 := Lib.hid k1
  have K2 := Lib.hid k2
  have tn : ((n : Int) != (n : Int)) = false := by simp
  clear h1 h2 k1 k2
  go_enter Try.func62, Try.ntmps62
  go_wp2_with fail
  go_loopw [13] (fun i wr => ∃ k : Nat, k ≤ n ∧ i = .int .i64 k ∧ Ge w wr) (fun i _ => n - (intOf i).toNat)
  case atStart => exact ⟨0, Nat.zero_le _, rfl, Ge.refl _⟩
  case round =>
    obtain ⟨k, hk, rfl, hg⟩ := hrel
    by_cases hlt : k < n
    · obtain ⟨b, o, rfl, x0, x1, x2⟩ := three_cells K1.out hlt
      obtain ⟨b', o', rfl, y0, y1, y2⟩ := three_cells K2.out hlt
      replace x0 := hg.keep x0
      replace x1 := hg.keep x1
      replace x2 := hg.keep x2
      replace y0 := hg.keep y0
      replace y1 := hg.keep y1
      replace y2 := hg.keep y2
      have i0 : (0 : Int) ≤ (k : Int) := by omega
      have i1 : (k : Int) < (n : Int) := by omega
      go_wp2_with fail
      go_quiet (fail)
      go_wp2_with fail
      go_roundw
      case rel => exact ⟨k + 1, by omega, by go_num, by (repeat (first | with_reducible exact Ge.refl _ | assumption | with_reducible refine Ge.drew ?_ | with_reducible refine Ge.drewN ?_ _ | with_reducible refine Ge.alloc ?_ _ | (with_reducible refine Ge.setCell ?_ (by first | (simp; done) | omega | (simp; omega)) _) | with_reducible refine Ge.trans ?_ (by assumption)))⟩
      case measure => simp [intOf]; omega
    · go_wp2_with fail
      go_ret
      exact ⟨rfl, hg⟩

set_option maxHeartbeats 1600000 in
theorem sameNetI (N E S : Int) (v1 v2 : Value) (n : Nat) (xs : List Int) (w : World) (h1 : SlF w v1 n 3 xs) (h2 : SlF w v2 n 3 xs) (hm : n ≤ 1000000) :
    Calls Try.prog 26 #[.agg #[.int .i64 N, .int .i64 E, .int .i64 S, v1], .agg #[.int .i64 N, .int .i64 E, .int .i64 S, v2]] w fun e w' => e = .returned (.bool true) ∧ Ge w w' := by
  obtain ⟨p1, c1, rfl, k1⟩ := h1.open
  obtain ⟨p2, c2, rfl, k2⟩ := h2.open
  have H1 := Lib.hid h1
  have H2 := Lib.hid h2
  clear h1 h2 k1 k2
  go_enter Try.func26, Try.ntmps26
  go_wp2_with (go_at_call 62; ((with_reducible refine (equalWires _ _ n xs _ (H1.out.ge (Ge.alloc (Ge.alloc (Ge.refl _) _) _)) (H2.out.ge (Ge.alloc (Ge.alloc (Ge.refl _) _) _)) hm).mono ?_); rintro e w' ⟨rfl, g⟩))
  go_ret
  exact ⟨rfl, by (repeat (first | with_reducible exact Ge.refl _ | assumption | with_reducible refine Ge.drew ?_ | with_reducible refine Ge.drewN ?_ _ | with_reducible refine Ge.alloc ?_ _ | (with_reducible refine Ge.setCell ?_ (by first | (simp; done) | omega | (simp; omega)) _) | with_reducible refine Ge.trans ?_ (by assumption)))⟩

set_option maxHeartbeats 1600000 in
theorem sMakeRatio (p : Option Addr) (n cap : Nat) (k : Int) (w : World) (hb : SlB w p n) (hn : n ≤ 1048576) (hk : k ≤ 9223372036854775807) :
    Calls Try.prog 18 #[.slice p n cap, .int .i64 k] w fun e w' => ∃ r : Rt, e = .returned (.agg #[.int .i64 r.n, .int .i64 r.d]) ∧ ratioOk r.n r.d = true ∧ Ge w w' := by
  have HB := Lib.hid (hb.ge (Ge.alloc (Ge.refl w) (.cells #[.int .i64 0, .int .i64 0] 39)))
  have R0 : Hid ((w.alloc (.cells #[.int .i64 0, .int .i64 0] 39)).cell? ⟨w.heap.size, 0, none⟩ = some (.int .i64 0)) := cell_new rfl rfl
  have R1 : Hid ((w.alloc (.cells #[.int .i64 0, .int .i64 0] 39)).cell? ⟨w.heap.size, 1, none⟩ = some (.int .i64 0)) := cell_new rfl rfl
  have F0 : Hid ((w.alloc (.cells #[.int .i64 0, .int .i64 0] 39)).frozen? ⟨w.heap.size, 0, none⟩ = false) := froz_new rfl (v := .int .i64 0) rfl
  have F1 : Hid ((w.alloc (.cells #[.int .i64 0, .int .i64 0] 39)).frozen? ⟨w.heap.size, 1, none⟩ = false) := froz_new rfl (v := .int .i64 0) rfl
  clear hb
  go_enter Try.func18, Try.ntmps18
  go_wp2_with (first
    | ((go_at_call 44; ((with_reducible refine (sL18New _ _ _ _ _ HB.out hn hk).mono ?_); rintro e w1 ⟨g, rfl, hc1, hg, g1⟩)); have HC := Lib.hid (Drew.self hc1); have lg : w.heap.size < g := (by simp at hg; omega); have G1 := Lib.hid (Ge.trans (Ge.alloc (Ge.refl w) _) g1); have lgg : w.heap.size ≠ g := (by omega); clear hc1)
    | ((go_at_call 53; ((with_reducible refine (sL01Below _ _ _ HC.out.cur (by omega) (by omega)).mono ?_); rintro e w2 ⟨x, rfl, x0, x1, hd2⟩)); have HD2 := Lib.hid hd2; clear HC hd2)
    | ((go_at_call 53; ((with_reducible refine (sL01Below _ _ _ HD2.out.cur (by omega) (by omega)).mono ?_); rintro e w3 ⟨y, rfl, y0, y1, hd3⟩)); have HD3 := Lib.hid (HD2.out.trans hd3); clear HD2 hd3; have M1 := (mid (n := x - 30) (by omega) (by omega)); have M2 := (mid (n := 1 + y) (by omega) (by omega)))
    | ((go_at_call 52; ((with_reducible refine (sRatioOf _ _ _ M1 M2).mono ?_); rintro e w4 ⟨rfl, g4⟩)); have a0 := g4.keep (HD3.out.cellN (g1.keep R0.out) lgg); have a1 := g4.keep (HD3.out.cellN (g1.keep R1.out) lgg); have b0 := g4.keepF (HD3.out.cellN (g1.keep R0.out) lgg) (HD3.out.frozN (g1.keep R0.out) lgg (g1.keepF R0.out F0.out)); have b1 := g4.keepF (HD3.out.cellN (g1.keep R1.out) lgg) (HD3.out.frozN (g1.keep R1.out) lgg (g1.keepF R1.out F1.out))))
  exact bodyPost_ret (v := .agg #[.int .i64 (ratioOf (x - 30) (1 + y)).n, .int .i64 (ratioOf (x - 30) (1 + y)).d]) (by simp [results, Try.results18, go_sem, *]) rfl
    ⟨ratioOf (x - 30) (1 + y), rfl, by obtain ⟨_, _, _, _, h⟩ := rat_form (a := x - 30) (b := 1 + y) (by omega) (by omega) (by omega) (by omega); exact h, Ge.setCell (Ge.setCell ((HD3.out.ge G1.out (by omega)).trans g4) (Nat.le_refl _) _) (Nat.le_refl _) _⟩
theorem rat_range {r s : Rt} (hr : ratioOk r.n r.d = true) (hs : ratioOk s.n s.d = true) : ∀ j, -9223372036854775808 ≤ nth [r.n, r.d, s.n, s.d] j ∧ nth [r.n, r.d, s.n, s.d] j ≤ 9223372036854775807 := fun j => by
  rw [ratioOk_iff] at hr hs
  have : j = 0 ∨ j = 1 ∨ j = 2 ∨ j = 3 ∨ 4 ≤ j := by omega
  rcases this with rfl | rfl | rfl | rfl | h
  · show _ ≤ r.n ∧ r.n ≤ _; omega
  · show _ ≤ r.d ∧ r.d ≤ _; omega
  · show _ ≤ s.n ∧ s.n ≤ _; omega
  · show _ ≤ s.d ∧ s.d ≤ _; omega
  · have : nth [r.n, r.d, s.n, s.d] j = 0 := by
      unfold nth
      rw [List.getD_eq_getElem?_getD, List.getElem?_eq_none (by simpa using h)]; rfl
    omega
theorem netTxt_le (N E S : Int) (m : Nat) (xs : List Int) (hm : m ≤ 10) : (netTxt N E S m xs).length ≤ 1048576 := by
  unfold netTxt
  split
  · have := netPart_le N E S xs m; omega
  · simp
theorem rowLine_le2 (n : Nat) (xs : List Int) (hn : n ≤ 10) : (rowLine n xs).length ≤ 1048576 := by
  have := rowLine_le n xs
  omega

set_option maxHeartbeats 6400000 in
theorem lFnTexts (p : Option Addr) (n0 cap : Nat) (w : World) (hb : SlB w p n0) (hm0 : n0 ≤ 9223372036854775807) : Calls Try.prog 5 #[.slice p n0 cap] w fun e w' => e = .returned (.bool true) ∧ Ge w w' := by
  by_cases hbig : 1048576 < n0
  · clear hb
    go_enter Try.func5, Try.ntmps5
    go_wp2_with fail
    go_ret
    exact ⟨rfl, Ge.refl _⟩
  have hn0 : n0 ≤ 1048576 := by omega
  have HB := Lib.hid hb
  clear hb hm0
  go_enter Try.func5, Try.ntmps5
  go_wp2_with ((go_at_call 17; ((with_reducible refine (sMakeNet _ _ _ _ HB.out hn0).mono ?_); rintro e w1 ⟨n, E, S, l, s0, rfl, hsl, hdr, hE, hS, g1⟩)); obtain ⟨q, c, rfl, hcq⟩ := hsl.open; clear hcq)
  have hnet := drn_net hdr (E := E) (S := S) (by omega) (by omega)
  obtain ⟨m, hm⟩ : ∃ m, l.length = m := ⟨_, rfl⟩
  rw [hm] at hsl hdr hnet
  have hm10 : m ≤ 10 := prs_len (N := n) (by have := hdr.five; omega) hdr.good
  have hxl : (flatW l).length = m * 3 := by rw [flatW_length, hm]
  generalize flatW l = xs at *
  rw [hm]
  clear hm
  obtain ⟨t1, t2, t3, t4, t5, t6⟩ := texts_net hnet hxl
  have HF := Lib.hid (fun (w' : World) (h : SlF w' (.slice q m c) m 3 xs) => iFormatNet n E S (.slice q m c) m xs w' h (by omega))
  have HPn := Lib.hid (fun (w' : World) => iParseNetB (netTxt n E S m xs) w' (netTxt_le _ _ _ _ _ hm10) (by
    have := t1
    unfold pnB at this
    simp only [Bool.and_eq_true] at this
    exact this.1))
  unfold GivesP at HPn
  rw [t1, t2, t3, t4, t5, t6] at HPn
  clear t1 t2 t3 t4 t5 t6
  generalize netTxt n E S m xs = T at *
  have N0 : (w1.alloc (.cells #[.int .i64 (n : Int), .int .i64 E, .int .i64 S, .slice q m c] 36)).cell? ⟨w1.heap.size, 0, none⟩ = some (.int .i64 (n : Int)) := cell_new rfl rfl
  have N1 : (w1.alloc (.cells #[.int .i64 (n : Int), .int .i64 E, .int .i64 S, .slice q m c] 36)).cell? ⟨w1.heap.size, 1, none⟩ = some (.int .i64 E) := cell_new rfl rfl
  have N2 : (w1.alloc (.cells #[.int .i64 (n : Int), .int .i64 E, .int .i64 S, .slice q m c] 36)).cell? ⟨w1.heap.size, 2, none⟩ = some (.int .i64 S) := cell_new rfl rfl
  have N3 : (w1.alloc (.cells #[.int .i64 (n : Int), .int .i64 E, .int .i64 S, .slice q m c] 36)).cell? ⟨w1.heap.size, 3, none⟩ = some (.slice q m c) := cell_new rfl rfl
  have HSl := Lib.hid (hsl.ge (Ge.alloc (Ge.refl w1) (.cells #[.int .i64 (n : Int), .int .i64 E, .int .i64 S, .slice q m c] 36)))
  have gW : Ge w (w1.alloc (.cells #[.int .i64 (n : Int), .int .i64 E, .int .i64 S, .slice q m c] 36)) := Ge.alloc g1 _
  have HBw := Lib.hid (HB.out.ge gW)
  clear hsl hdr g1 HB
  generalize w1.heap.size = B at *
  generalize (w1.alloc (.cells #[.int .i64 (n : Int), .int .i64 E, .int .i64 S, .slice q m c] 36)) = W1 at *
  have zB := World.block_lt_of_cell? _ _ N0
  simp only at zB
  go_wp2_with (first
    | ((go_at_call 18; ((with_reducible refine (sMakeRatio _ _ _ _ _ HBw.out hn0 (by omega)).mono ?_); rintro e w2 ⟨r, rfl, rok, g2⟩)); have HB2 := Lib.hid (HBw.out.ge g2); clear HBw)
    | ((go_at_call 18; ((with_reducible refine (sMakeRatio _ _ _ _ _ HB2.out hn0 (by omega)).mono ?_); rintro e w3 ⟨s, rfl, sok, g3⟩)); have G3 : Ge W1 w3 := (g2.trans g3); have m0 := G3.keep N0; have m1 := G3.keep N1; have m2 := G3.keep N2; have m3 := G3.keep N3; have zB3 : B < w3.heap.size := (Nat.lt_of_lt_of_le zB G3.size)))
  have HFr := Lib.hid (fun (w' : World) (v : Value) (h : SlF w' v 2 2 [r.n, r.d, s.n, s.d]) => iFormatRow v 2 [r.n, r.d, s.n, s.d] w' h (by omega) (rat_range rok sok))
  have HPr := Lib.hid (fun (w' : World) => iParseRow (rowLine 2 [r.n, r.d, s.n, s.d]) w' (rowLine_le2 _ _ (by omega)))
  obtain ⟨u1, u2, u3⟩ := texts_row rok sok
  unfold GivesR at HPr
  rw [u1, u2, u3] at HPr
  generalize rowLine 2 [r.n, r.d, s.n, s.d] = T2 at *
  obtain ⟨x1, x2, x3⟩ := texts_rat rok
  have HFq := Lib.hid (fun (w' : World) => iFormatRatio r.n r.d w')
  have HPq := Lib.hid (fun (w' : World) => iParseRatio (ratioTxt r.n r.d) w' (by have := ratioTxt_le r.n r.d; omega))
  rw [x1, x2, x3] at HPq
  generalize ratioTxt r.n r.d = T3 at *
  clear u1 u2 u3 x1 x2 x3 rok sok
  have ORow : Hid ((w3.alloc (.cells #[.int .i64 r.n, .int .i64 r.d, .int .i64 s.n, .int .i64 s.d] 39)).ownsRow w3.heap.size 39 2 (.slice (some ⟨w3.heap.size, 0, none⟩) 2 2) 2 (icells [r.n, r.d, s.n, s.d])) :=
    World.ownsRow_lit w3 #[.int .i64 r.n, .int .i64 r.d, .int .i64 s.n, .int .i64 s.d] 2 (Nat.le_refl _) (by unfold maxLen; omega) (by simp)
  go_wp2_with ((go_at_call 20; ((with_reducible refine (HF.out _ (HSl.out.ge (Ge.alloc G3 _))).mono ?_); rintro e w4 ⟨rfl, g4⟩)))
  go_wp2_with ((go_at_call 19; ((with_reducible refine (HPn.out _).mono ?_); rintro e w5 ⟨v5, rfl, o5, g5⟩)); obtain ⟨p5, c5, rfl⟩ := owns_form o5)
  have G5 : Ge (w3.alloc (.cells #[.int .i64 r.n, .int .i64 r.d, .int .i64 s.n, .int .i64 s.d] 39)) w5 := g4.trans g5
  have OR5 := Lib.hid (G5.owns ORow.out)
  go_wp2_with ((go_at_call 22; ((with_reducible refine (HFr.out _ _ (SlF.of_owns ((Ge.alloc (Ge.refl w5) _).owns OR5.out))).mono ?_); rintro e w6 ⟨rfl, g6a⟩)))
  go_wp2_with ((go_at_call 21; ((with_reducible refine (HPr.out _).mono ?_); rintro e w7 ⟨v7, rfl, o7, g7⟩)); obtain ⟨g6, c6, rfl⟩ := Go.Joins.ownsRow_form (n := 2) o7 (by omega); have G7 : Ge w5 w7 := (Ge.trans (Ge.alloc (Ge.refl _) _) (g6a.trans g7)); have OR7 := (G7.owns OR5.out); have r0 : w7.cell? ⟨w3.heap.size, 0, none⟩ = some (.int .i64 r.n) := OR7.cellAt 0 (by omega); have r1 : w7.cell? ⟨w3.heap.size, 1, none⟩ = some (.int .i64 r.d) := OR7.cellAt 1 (by omega); have zr : w3.heap.size < w7.heap.size := World.block_lt_of_cell? _ _ r0)
  go_wp2_with ((go_at_call 24; ((with_reducible refine (HFq.out _).mono ?_); rintro e w8 ⟨rfl, g8⟩)))
  go_wp2_with ((go_at_call 23; ((with_reducible refine (HPq.out _).mono ?_); rintro e w9 ⟨rfl, g9⟩)))
  have G9 : Ge w7 w9 := g8.trans g9
  have GA : Ge w3 w9 := Ge.trans (Ge.alloc (Ge.refl _) _) (G5.trans (G7.trans G9))
  have n0' := GA.keep m0
  have n1' := GA.keep m1
  have n2' := GA.keep m2
  have n3' := GA.keep m3
  have x0' : w9.cell? ⟨w5.heap.size, 0, none⟩ = some (.int .i64 (n : Int)) := G9.keep ((g6a.trans g7).keep (cell_new rfl rfl))
  have x1' : w9.cell? ⟨w5.heap.size, 1, none⟩ = some (.int .i64 E) := G9.keep ((g6a.trans g7).keep (cell_new rfl rfl))
  have x2' : w9.cell? ⟨w5.heap.size, 2, none⟩ = some (.int .i64 S) := G9.keep ((g6a.trans g7).keep (cell_new rfl rfl))
  have x3' : w9.cell? ⟨w5.heap.size, 3, none⟩ = some (.slice p5 m c5) := G9.keep ((g6a.trans g7).keep (cell_new rfl rfl))
  have y0' : w9.cell? ⟨g6, 0, none⟩ = some (.int .i64 r.n) := G9.keep (o7.cellAt 0 (by omega))
  have y1' : w9.cell? ⟨g6, 1, none⟩ = some (.int .i64 r.d) := G9.keep (o7.cellAt 1 (by omega))
  have y2' : w9.cell? ⟨g6, 2, none⟩ = some (.int .i64 s.n) := G9.keep (o7.cellAt 2 (by omega))
  have y3' : w9.cell? ⟨g6, 3, none⟩ = some (.int .i64 s.d) := G9.keep (o7.cellAt 3 (by omega))
  have r0' : w9.cell? ⟨w3.heap.size, 0, none⟩ = some (.int .i64 r.n) := G9.keep (OR7.cellAt 0 (by omega))
  have r1' : w9.cell? ⟨w3.heap.size, 1, none⟩ = some (.int .i64 r.d) := G9.keep (OR7.cellAt 1 (by omega))
  have r2' : w9.cell? ⟨w3.heap.size, 2, none⟩ = some (.int .i64 s.n) := G9.keep (OR7.cellAt 2 (by omega))
  have r3' : w9.cell? ⟨w3.heap.size, 3, none⟩ = some (.int .i64 s.d) := G9.keep (OR7.cellAt 3 (by omega))
  have S1 := HSl.out.ge (G3.trans GA)
  have S2 := SlF.of_owns ((G7.trans G9).owns o5)
  have HNk := Lib.hid (fun (w' : World) (g : Ge w9 w') => (by have h := iNetOk n E S (.slice q m c) m xs w' (S1.ge g) (by omega); rw [hnet] at h; exact h : Calls Try.prog 25 #[.agg #[.int .i64 (n : Int), .int .i64 E, .int .i64 S, .slice q m c]] w' fun e w'' => e = .returned (.bool true) ∧ Ge w' w''))
  have HSm := Lib.hid (fun (w' : World) (g : Ge w9 w') => sameNetI n E S (.slice p5 m c5) (.slice q m c) m xs w' (S2.ge g) (S1.ge g) (by omega))
  clear S1 S2 o5 o7 r0 r1 OR7 m0 m1 m2 m3 N0 N1 N2 N3
  have hS : ∀ w', Ge (w9.alloc (.cells #[.int .i64 r.n, .int .i64 r.d] 39)) w' → (w'.cell? ⟨B, 0, none⟩ = some (.int .i64 (n : Int)) ∧ w'.cell? ⟨B, 1, none⟩ = some (.int .i64 E) ∧ w'.cell? ⟨B, 2, none⟩ = some (.int .i64 S) ∧ w'.cell? ⟨B, 3, none⟩ = some (.slice q m c) ∧ w'.cell? ⟨w5.heap.size, 0, none⟩ = some (.int .i64 (n : Int)) ∧ w'.cell? ⟨w5.heap.size, 1, none⟩ = some (.int .i64 E) ∧ w'.cell? ⟨w5.heap.size, 2, none⟩ = some (.int .i64 S) ∧ w'.cell? ⟨w5.heap.size, 3, none⟩ = some (.slice p5 m c5) ∧ w'.cell? ⟨g6, 0, none⟩ = some (.int .i64 r.n) ∧ w'.cell? ⟨g6, 1, none⟩ = some (.int .i64 r.d) ∧ w'.cell? ⟨g6, 2, none⟩ = some (.int .i64 s.n) ∧ w'.cell? ⟨g6, 3, none⟩ = some (.int .i64 s.d) ∧ w'.cell? ⟨w3.heap.size, 0, none⟩ = some (.int .i64 r.n) ∧ w'.cell? ⟨w3.heap.size, 1, none⟩ = some (.int .i64 r.d) ∧ w'.cell? ⟨w3.heap.size, 2, none⟩ = some (.int .i64 s.n) ∧ w'.cell? ⟨w3.heap.size, 3, none⟩ = some (.int .i64 s.d) ∧ w'.cell? ⟨w9.heap.size, 0, none⟩ = some (.int .i64 r.n) ∧ w'.cell? ⟨w9.heap.size, 1, none⟩ = some (.int .i64 r.d) ∧ Ge w9 w') := fun w' g => ⟨g.keep (by (repeat (first | assumption | with_reducible exact Ge.refl _ | with_reducible refine cv_drew ?_ | with_reducible refine cv_alloc ?_ | with_reducible refine cv_set ?_ | (with_reducible apply cv_some; assumption) | with_reducible refine cell_drew ?_ | with_reducible refine cell_drewN ?_ | ((with_reducible refine cell_new ?_ ?_); (focus (simp; done)); rfl) | with_reducible refine cell_alloc ?_ | with_reducible refine cell_same2 ?_ | ((with_reducible refine cell_set2 ?_ ?_); focus (first | (simp; done) | (intro hE; simp at hE; done) | (intro hE; simp at hE; omega))) | with_reducible refine Ge.drew ?_ | with_reducible refine Ge.drewN ?_ _ | with_reducible refine Ge.alloc ?_ _ | ((with_reducible refine Ge.setCell ?_ ?_ _); rotate_left; focus (first | (simp; done) | omega | (simp; omega))) | with_reducible refine Ge.trans ?_ (by assumption) | with_reducible refine Ge.keep (by assumption) ?_))), g.keep (by (repeat (first | assumption | with_reducible exact Ge.refl _ | with_reducible refine cv_drew ?_ | with_reducible refine cv_alloc ?_ | with_reducible refine cv_set ?_ | (with_reducible apply cv_some; assumption) | with_reducible refine cell_drew ?_ | with_reducible refine cell_drewN ?_ | ((with_reducible refine cell_new ?_ ?_); (focus (simp; done)); rfl) | with_reducible refine cell_alloc ?_ | with_reducible refine cell_same2 ?_ | ((with_reducible refine cell_set2 ?_ ?_); focus (first | (simp; done) | (intro hE; simp at hE; done) | (intro hE; simp at hE; omega))) | with_reducible refine Ge.drew ?_ | with_reducible refine Ge.drewN ?_ _ | with_reducible refine Ge.alloc ?_ _ | ((with_reducible refine Ge.setCell ?_ ?_ _); rotate_left; focus (first | (simp; done) | omega | (simp; omega))) | with_reducible refine Ge.trans ?_ (by assumption) | with_reducible refine Ge.keep (by assumption) ?_))), g.keep (by (repeat (first | assumption | with_reducible exact Ge.refl _ | with_reducible refine cv_drew ?_ | with_reducible refine cv_alloc ?_ | with_reducible refine cv_set ?_ | (with_reducible apply cv_some; assumption) | with_reducible refine cell_drew ?_ | with_reducible refine cell_drewN ?_ | ((with_reducible refine cell_new ?_ ?_); (focus (simp; done)); rfl) | with_reducible refine cell_alloc ?_ | with_reducible refine cell_same2 ?_ | ((with_reducible refine cell_set2 ?_ ?_); focus (first | (simp; done) | (intro hE; simp at hE; done) | (intro hE; simp at hE; omega))) | with_reducible refine Ge.drew ?_ | with_reducible refine Ge.drewN ?_ _ | with_reducible refine Ge.alloc ?_ _ | ((with_reducible refine Ge.setCell ?_ ?_ _); rotate_left; focus (first | (simp; done) | omega | (simp; omega))) | with_reducible refine Ge.trans ?_ (by assumption) | with_reducible refine Ge.keep (by assumption) ?_))), g.keep (by (repeat (first | assumption | with_reducible exact Ge.refl _ | with_reducible refine cv_drew ?_ | with_reducible refine cv_alloc ?_ | with_reducible refine cv_set ?_ | (with_reducible apply cv_some; assumption) | with_reducible refine cell_drew ?_ | with_reducible refine cell_drewN ?_ | ((with_reducible refine cell_new ?_ ?_); (focus (simp; done)); rfl) | with_reducible refine cell_alloc ?_ | with_reducible refine cell_same2 ?_ | ((with_reducible refine cell_set2 ?_ ?_); focus (first | (simp; done) | (intro hE; simp at hE; done) | (intro hE; simp at hE; omega))) | with_reducible refine Ge.drew ?_ | with_reducible refine Ge.drewN ?_ _ | with_reducible refine Ge.alloc ?_ _ | ((with_reducible refine Ge.setCell ?_ ?_ _); rotate_left; focus (first | (simp; done) | omega | (simp; omega))) | with_reducible refine Ge.trans ?_ (by assumption) | with_reducible refine Ge.keep (by assumption) ?_))), g.keep (by (repeat (first | assumption | with_reducible exact Ge.refl _ | with_reducible refine cv_drew ?_ | with_reducible refine cv_alloc ?_ | with_reducible refine cv_set ?_ | (with_reducible apply cv_some; assumption) | with_reducible refine cell_drew ?_ | with_reducible refine cell_drewN ?_ | ((with_reducible refine cell_new ?_ ?_); (focus (simp; done)); rfl) | with_reducible refine cell_alloc ?_ | with_reducible refine cell_same2 ?_ | ((with_reducible refine cell_set2 ?_ ?_); focus (first | (simp; done) | (intro hE; simp at hE; done) | (intro hE; simp at hE; omega))) | with_reducible refine Ge.drew ?_ | with_reducible refine Ge.drewN ?_ _ | with_reducible refine Ge.alloc ?_ _ | ((with_reducible refine Ge.setCell ?_ ?_ _); rotate_left; focus (first | (simp; done) | omega | (simp; omega))) | with_reducible refine Ge.trans ?_ (by assumption) | with_reducible refine Ge.keep (by assumption) ?_))), g.keep (by (repeat (first | assumption | with_reducible exact Ge.refl _ | with_reducible refine cv_drew ?_ | with_reducible refine cv_alloc ?_ | with_reducible refine cv_set ?_ | (with_reducible apply cv_some; assumption) | with_reducible refine cell_drew ?_ | with_reducible refine cell_drewN ?_ | ((with_reducible refine cell_new ?_ ?_); (focus (simp; done)); rfl) | with_reducible refine cell_alloc ?_ | with_reducible refine cell_same2 ?_ | ((with_reducible refine cell_set2 ?_ ?_); focus (first | (simp; done) | (intro hE; simp at hE; done) | (intro hE; simp at hE; omega))) | with_reducible refine Ge.drew ?_ | with_reducible refine Ge.drewN ?_ _ | with_reducible refine Ge.alloc ?_ _ | ((with_reducible refine Ge.setCell ?_ ?_ _); rotate_left; focus (first | (simp; done) | omega | (simp; omega))) | with_reducible refine Ge.trans ?_ (by assumption) | with_reducible refine Ge.keep (by assumption) ?_))), g.keep (by (repeat (first | assumption | with_reducible exact Ge.refl _ | with_reducible refine cv_drew ?_ | with_reducible refine cv_alloc ?_ | with_reducible refine cv_set ?_ | (with_reducible apply cv_some; assumption) | with_reducible refine cell_drew ?_ | with_reducible refine cell_drewN ?_ | ((with_reducible refine cell_new ?_ ?_); (focus (simp; done)); rfl) | with_reducible refine cell_alloc ?_ | with_reducible refine cell_same2 ?_ | ((with_reducible refine cell_set2 ?_ ?_); focus (first | (simp; done) | (intro hE; simp at hE; done) | (intro hE; simp at hE; omega))) | with_reducible refine Ge.drew ?_ | with_reducible refine Ge.drewN ?_ _ | with_reducible refine Ge.alloc ?_ _ | ((with_reducible refine Ge.setCell ?_ ?_ _); rotate_left; focus (first | (simp; done) | omega | (simp; omega))) | with_reducible refine Ge.trans ?_ (by assumption) | with_reducible refine Ge.keep (by assumption) ?_))), g.keep (by (repeat (first | assumption | with_reducible exact Ge.refl _ | with_reducible refine cv_drew ?_ | with_reducible refine cv_alloc ?_ | with_reducible refine cv_set ?_ | (with_reducible apply cv_some; assumption) | with_reducible refine cell_drew ?_ | with_reducible refine cell_drewN ?_ | ((with_reducible refine cell_new ?_ ?_); (focus (simp; done)); rfl) | with_reducible refine cell_alloc ?_ | with_reducible refine cell_same2 ?_ | ((with_reducible refine cell_set2 ?_ ?_); focus (first | (simp; done) | (intro hE; simp at hE; done) | (intro hE; simp at hE; omega))) | with_reducible refine Ge.drew ?_ | with_reducible refine Ge.drewN ?_ _ | with_reducible refine Ge.alloc ?_ _ | ((with_reducible refine Ge.setCell ?_ ?_ _); rotate_left; focus (first | (simp; done) | omega | (simp; omega))) | with_reducible refine Ge.trans ?_ (by assumption) | with_reducible refine Ge.keep (by assumption) ?_))), g.keep (by (repeat (first | assumption | with_reducible exact Ge.refl _ | with_reducible refine cv_drew ?_ | with_reducible refine cv_alloc ?_ | with_reducible refine cv_set ?_ | (with_reducible apply cv_some; assumption) | with_reducible refine cell_drew ?_ | with_reducible refine cell_drewN ?_ | ((with_reducible refine cell_new ?_ ?_); (focus (simp; done)); rfl) | with_reducible refine cell_alloc ?_ | with_reducible refine cell_same2 ?_ | ((with_reducible refine cell_set2 ?_ ?_); focus (first | (simp; done) | (intro hE; simp at hE; done) | (intro hE; simp at hE; omega))) | with_reducible refine Ge.drew ?_ | with_reducible refine Ge.drewN ?_ _ | with_reducible refine Ge.alloc ?_ _ | ((with_reducible refine Ge.setCell ?_ ?_ _); rotate_left; focus (first | (simp; done) | omega | (simp; omega))) | with_reducible refine Ge.trans ?_ (by assumption) | with_reducible refine Ge.keep (by assumption) ?_))), g.keep (by (repeat (first | assumption | with_reducible exact Ge.refl _ | with_reducible refine cv_drew ?_ | with_reducible refine cv_alloc ?_ | with_reducible refine cv_set ?_ | (with_reducible apply cv_some; assumption) | with_reducible refine cell_drew ?_ | with_reducible refine cell_drewN ?_ | ((with_reducible refine cell_new ?_ ?_); (focus (simp; done)); rfl) | with_reducible refine cell_alloc ?_ | with_reducible refine cell_same2 ?_ | ((with_reducible refine cell_set2 ?_ ?_); focus (first | (simp; done) | (intro hE; simp at hE; done) | (intro hE; simp at hE; omega))) | with_reducible refine Ge.drew ?_ | with_reducible refine Ge.drewN ?_ _ | with_reducible refine Ge.alloc ?_ _ | ((with_reducible refine Ge.setCell ?_ ?_ _); rotate_left; focus (first | (simp; done) | omega | (simp; omega))) | with_reducible refine Ge.trans ?_ (by assumption) | with_reducible refine Ge.keep (by assumption) ?_))), g.keep (by (repeat (first | assumption | with_reducible exact Ge.refl _ | with_reducible refine cv_drew ?_ | with_reducible refine cv_alloc ?_ | with_reducible refine cv_set ?_ | (with_reducible apply cv_some; assumption) | with_reducible refine cell_drew ?_ | with_reducible refine cell_drewN ?_ | ((with_reducible refine cell_new ?_ ?_); (focus (simp; done)); rfl) | with_reducible refine cell_alloc ?_ | with_reducible refine cell_same2 ?_ | ((with_reducible refine cell_set2 ?_ ?_); focus (first | (simp; done) | (intro hE; simp at hE; done) | (intro hE; simp at hE; omega))) | with_reducible refine Ge.drew ?_ | with_reducible refine Ge.drewN ?_ _ | with_reducible refine Ge.alloc ?_ _ | ((with_reducible refine Ge.setCell ?_ ?_ _); rotate_left; focus (first | (simp; done) | omega | (simp; omega))) | with_reducible refine Ge.trans ?_ (by assumption) | with_reducible refine Ge.keep (by assumption) ?_))), g.keep (by (repeat (first | assumption | with_reducible exact Ge.refl _ | with_reducible refine cv_drew ?_ | with_reducible refine cv_alloc ?_ | with_reducible refine cv_set ?_ | (with_reducible apply cv_some; assumption) | with_reducible refine cell_drew ?_ | with_reducible refine cell_drewN ?_ | ((with_reducible refine cell_new ?_ ?_); (focus (simp; done)); rfl) | with_reducible refine cell_alloc ?_ | with_reducible refine cell_same2 ?_ | ((with_reducible refine cell_set2 ?_ ?_); focus (first | (simp; done) | (intro hE; simp at hE; done) | (intro hE; simp at hE; omega))) | with_reducible refine Ge.drew ?_ | with_reducible refine Ge.drewN ?_ _ | with_reducible refine Ge.alloc ?_ _ | ((with_reducible refine Ge.setCell ?_ ?_ _); rotate_left; focus (first | (simp; done) | omega | (simp; omega))) | with_reducible refine Ge.trans ?_ (by assumption) | with_reducible refine Ge.keep (by assumption) ?_))), g.keep (by (repeat (first | assumption | with_reducible exact Ge.refl _ | with_reducible refine cv_drew ?_ | with_reducible refine cv_alloc ?_ | with_reducible refine cv_set ?_ | (with_reducible apply cv_some; assumption) | with_reducible refine cell_drew ?_ | with_reducible refine cell_drewN ?_ | ((with_reducible refine cell_new ?_ ?_); (focus (simp; done)); rfl) | with_reducible refine cell_alloc ?_ | with_reducible refine cell_same2 ?_ | ((with_reducible refine cell_set2 ?_ ?_); focus (first | (simp; done) | (intro hE; simp at hE; done) | (intro hE; simp at hE; omega))) | with_reducible refine Ge.drew ?_ | with_reducible refine Ge.drewN ?_ _ | with_reducible refine Ge.alloc ?_ _ | ((with_reducible refine Ge.setCell ?_ ?_ _); rotate_left; focus (first | (simp; done) | omega | (simp; omega))) | with_reducible refine Ge.trans ?_ (by assumption) | with_reducible refine Ge.keep (by assumption) ?_))), g.keep (by (repeat (first | assumption | with_reducible exact Ge.refl _ | with_reducible refine cv_drew ?_ | with_reducible refine cv_alloc ?_ | with_reducible refine cv_set ?_ | (with_reducible apply cv_some; assumption) | with_reducible refine cell_drew ?_ | with_reducible refine cell_drewN ?_ | ((with_reducible refine cell_new ?_ ?_); (focus (simp; done)); rfl) | with_reducible refine cell_alloc ?_ | with_reducible refine cell_same2 ?_ | ((with_reducible refine cell_set2 ?_ ?_); focus (first | (simp; done) | (intro hE; simp at hE; done) | (intro hE; simp at hE; omega))) | with_reducible refine Ge.drew ?_ | with_reducible refine Ge.drewN ?_ _ | with_reducible refine Ge.alloc ?_ _ | ((with_reducible refine Ge.setCell ?_ ?_ _); rotate_left; focus (first | (simp; done) | omega | (simp; omega))) | with_reducible refine Ge.trans ?_ (by assumption) | with_reducible refine Ge.keep (by assumption) ?_))), g.keep (by (repeat (first | assumption | with_reducible exact Ge.refl _ | with_reducible refine cv_drew ?_ | with_reducible refine cv_alloc ?_ | with_reducible refine cv_set ?_ | (with_reducible apply cv_some; assumption) | with_reducible refine cell_drew ?_ | with_reducible refine cell_drewN ?_ | ((with_reducible refine cell_new ?_ ?_); (focus (simp; done)); rfl) | with_reducible refine cell_alloc ?_ | with_reducible refine cell_same2 ?_ | ((with_reducible refine cell_set2 ?_ ?_); focus (first | (simp; done) | (intro hE; simp at hE; done) | (intro hE; simp at hE; omega))) | with_reducible refine Ge.drew ?_ | with_reducible refine Ge.drewN ?_ _ | with_reducible refine Ge.alloc ?_ _ | ((with_reducible refine Ge.setCell ?_ ?_ _); rotate_left; focus (first | (simp; done) | omega | (simp; omega))) | with_reducible refine Ge.trans ?_ (by assumption) | with_reducible refine Ge.keep (by assumption) ?_))), g.keep (by (repeat (first | assumption | with_reducible exact Ge.refl _ | with_reducible refine cv_drew ?_ | with_reducible refine cv_alloc ?_ | with_reducible refine cv_set ?_ | (with_reducible apply cv_some; assumption) | with_reducible refine cell_drew ?_ | with_reducible refine cell_drewN ?_ | ((with_reducible refine cell_new ?_ ?_); (focus (simp; done)); rfl) | with_reducible refine cell_alloc ?_ | with_reducible refine cell_same2 ?_ | ((with_reducible refine cell_set2 ?_ ?_); focus (first | (simp; done) | (intro hE; simp at hE; done) | (intro hE; simp at hE; omega))) | with_reducible refine Ge.drew ?_ | with_reducible refine Ge.drewN ?_ _ | with_reducible refine Ge.alloc ?_ _ | ((with_reducible refine Ge.setCell ?_ ?_ _); rotate_left; focus (first | (simp; done) | omega | (simp; omega))) | with_reducible refine Ge.trans ?_ (by assumption) | with_reducible refine Ge.keep (by assumption) ?_))), g.keep (by (repeat (first | assumption | with_reducible exact Ge.refl _ | with_reducible refine cv_drew ?_ | with_reducible refine cv_alloc ?_ | with_reducible refine cv_set ?_ | (with_reducible apply cv_some; assumption) | with_reducible refine cell_drew ?_ | with_reducible refine cell_drewN ?_ | ((with_reducible refine cell_new ?_ ?_); (focus (simp; done)); rfl) | with_reducible refine cell_alloc ?_ | with_reducible refine cell_same2 ?_ | ((with_reducible refine cell_set2 ?_ ?_); focus (first | (simp; done) | (intro hE; simp at hE; done) | (intro hE; simp at hE; omega))) | with_reducible refine Ge.drew ?_ | with_reducible refine Ge.drewN ?_ _ | with_reducible refine Ge.alloc ?_ _ | ((with_reducible refine Ge.setCell ?_ ?_ _); rotate_left; focus (first | (simp; done) | omega | (simp; omega))) | with_reducible refine Ge.trans ?_ (by assumption) | with_reducible refine Ge.keep (by assumption) ?_))), g.keep (by (repeat (first | assumption | with_reducible exact Ge.refl _ | with_reducible refine cv_drew ?_ | with_reducible refine cv_alloc ?_ | with_reducible refine cv_set ?_ | (with_reducible apply cv_some; assumption) | with_reducible refine cell_drew ?_ | with_reducible refine cell_drewN ?_ | ((with_reducible refine cell_new ?_ ?_); (focus (simp; done)); rfl) | with_reducible refine cell_alloc ?_ | with_reducible refine cell_same2 ?_ | ((with_reducible refine cell_set2 ?_ ?_); focus (first | (simp; done) | (intro hE; simp at hE; done) | (intro hE; simp at hE; omega))) | with_reducible refine Ge.drew ?_ | with_reducible refine Ge.drewN ?_ _ | with_reducible refine Ge.alloc ?_ _ | ((with_reducible refine Ge.setCell ?_ ?_ _); rotate_left; focus (first | (simp; done) | omega | (simp; omega))) | with_reducible refine Ge.trans ?_ (by assumption) | with_reducible refine Ge.keep (by assumption) ?_))), Ge.trans (by (repeat (first | assumption | with_reducible exact Ge.refl _ | with_reducible refine cv_drew ?_ | with_reducible refine cv_alloc ?_ | with_reducible refine cv_set ?_ | (with_reducible apply cv_some; assumption) | with_reducible refine cell_drew ?_ | with_reducible refine cell_drewN ?_ | ((with_reducible refine cell_new ?_ ?_); (focus (simp; done)); rfl) | with_reducible refine cell_alloc ?_ | with_reducible refine cell_same2 ?_ | ((with_reducible refine cell_set2 ?_ ?_); focus (first | (simp; done) | (intro hE; simp at hE; done) | (intro hE; simp at hE; omega))) | with_reducible refine Ge.drew ?_ | with_reducible refine Ge.drewN ?_ _ | with_reducible refine Ge.alloc ?_ _ | ((with_reducible refine Ge.setCell ?_ ?_ _); rotate_left; focus (first | (simp; done) | omega | (simp; omega))) | with_reducible refine Ge.trans ?_ (by assumption) | with_reducible refine Ge.keep (by assumption) ?_))) g⟩
  go_region_held3 (fun w' => w'.cell? ⟨B, 0, none⟩ = some (.int .i64 (n : Int)) ∧ w'.cell? ⟨B, 1, none⟩ = some (.int .i64 E) ∧ w'.cell? ⟨B, 2, none⟩ = some (.int .i64 S) ∧ w'.cell? ⟨B, 3, none⟩ = some (.slice q m c) ∧ w'.cell? ⟨w5.heap.size, 0, none⟩ = some (.int .i64 (n : Int)) ∧ w'.cell? ⟨w5.heap.size, 1, none⟩ = some (.int .i64 E) ∧ w'.cell? ⟨w5.heap.size, 2, none⟩ = some (.int .i64 S) ∧ w'.cell? ⟨w5.heap.size, 3, none⟩ = some (.slice p5 m c5) ∧ w'.cell? ⟨g6, 0, none⟩ = some (.int .i64 r.n) ∧ w'.cell? ⟨g6, 1, none⟩ = some (.int .i64 r.d) ∧ w'.cell? ⟨g6, 2, none⟩ = some (.int .i64 s.n) ∧ w'.cell? ⟨g6, 3, none⟩ = some (.int .i64 s.d) ∧ w'.cell? ⟨w3.heap.size, 0, none⟩ = some (.int .i64 r.n) ∧ w'.cell? ⟨w3.heap.size, 1, none⟩ = some (.int .i64 r.d) ∧ w'.cell? ⟨w3.heap.size, 2, none⟩ = some (.int .i64 s.n) ∧ w'.cell? ⟨w3.heap.size, 3, none⟩ = some (.int .i64 s.d) ∧ w'.cell? ⟨w9.heap.size, 0, none⟩ = some (.int .i64 r.n) ∧ w'.cell? ⟨w9.heap.size, 1, none⟩ = some (.int .i64 r.d) ∧ Ge w9 w') (first | ((with_reducible refine hS _ ?_); (repeat (first | assumption | with_reducible exact Ge.refl _ | with_reducible refine cv_drew ?_ | with_reducible refine cv_alloc ?_ | with_reducible refine cv_set ?_ | (with_reducible apply cv_some; assumption) | with_reducible refine cell_drew ?_ | with_reducible refine cell_drewN ?_ | ((with_reducible refine cell_new ?_ ?_); (focus (simp; done)); rfl) | with_reducible refine cell_alloc ?_ | with_reducible refine cell_same2 ?_ | ((with_reducible refine cell_set2 ?_ ?_); focus (first | (simp; done) | (intro hE; simp at hE; done) | (intro hE; simp at hE; omega))) | with_reducible refine Ge.drew ?_ | with_reducible refine Ge.drewN ?_ _ | with_reducible refine Ge.alloc ?_ _ | ((with_reducible refine Ge.setCell ?_ ?_ _); rotate_left; focus (first | (simp; done) | omega | (simp; omega))) | with_reducible refine Ge.trans ?_ (by assumption) | with_reducible refine Ge.keep (by assumption) ?_)); done) | fail) (first | (go_at_call 25; ((with_reducible refine (HNk.out _ (‹_ ∧ _ ∧ _ ∧ _ ∧ _ ∧ _ ∧ _ ∧ _ ∧ _ ∧ _ ∧ _ ∧ _ ∧ _ ∧ _ ∧ _ ∧ _ ∧ _ ∧ _ ∧ Ge w9 _›.2.2.2.2.2.2.2.2.2.2.2.2.2.2.2.2.2.2)).mono ?_); rintro e w' ⟨rfl, hb⟩)) | (go_at_call 26; ((with_reducible refine (HSm.out _ (‹_ ∧ _ ∧ _ ∧ _ ∧ _ ∧ _ ∧ _ ∧ _ ∧ _ ∧ _ ∧ _ ∧ _ ∧ _ ∧ _ ∧ _ ∧ _ ∧ _ ∧ _ ∧ Ge w9 _›.2.2.2.2.2.2.2.2.2.2.2.2.2.2.2.2.2.2)).mono ?_); rintro e w' ⟨rfl, hb⟩)) | fail)
  rename_i hHeldX
  obtain ⟨q0, q1, q2, q3, q4, q5, q6, q7, q8, q9, q10, q11, q12, q13, q14, q15, q16, q17, G10⟩ := hHeldX
  clear hS
  go_wp2_with fail
  go_ret
  exact ⟨rfl, ((gW.trans G3).trans GA).trans G10⟩
end Go.Proofs.Ytfhhgonoddedlaa

namespace Go.Proofs.Ytfhhgonoddedlaa

open Go.ChangeShapes Go.WideShapes Go.ChangeAt Go.RowKit Go.Joins

theorem fnTexts_cells_byte : Try.prog.cellsOf 5 = 1 := by kernel_rfl

set_option maxRecDepth 100000 in
theorem fnTexts_lifted (os : Os) (started : os.Started) (H : Type) (enc : TypeId × Value → H) :
    ReturnsInHanded {} Try.checked os 5 .any (Rows.fnTextsSpec.pre6 enc Try.prog Try.f5 Rows.fnTextsRow.domain false) (Rows.fnTextsSpec.post enc Try.prog Try.f5 false true false false) := by
  refine returnsInHanded_of_change (C := Try.checked) own_knob started (by kernel_rfl) Try.func5
    (ChangeSpec.witness6 (enc := enc) (C := Try.checked) false ⟨#[], #[.slice none 0 0], []⟩ 8 (by kernel_rfl) (by kernel_rfl) (by kernel_rfl) (by kernel_rfl)) ?_
  intro W base args ds gs before hval0 hW hcnd _
  have hval : ∀ (j : Nat) t v, Try.f5.params[j]? = some t → args[j]? = some v → Value.okWide Try.prog W .any base t v := hval0
  have hW' := hW
  obtain ⟨p, q, hA0, hV, rfl, hfz, hnd⟩ := hW
  have hA : DataW.TrodAll enc Try.prog W 0 (fun _ => true) true Try.f5.params.toList args.toList ds p := hA0
  rw [Try.params5] at hA hval
  obtain ⟨v0, d0, rfl, rfl, h0⟩ := trodAll_one hA
  obtain ⟨rfl, rfl⟩ := trodVars_none hV
  obtain ⟨pa, na, ca, rfl, sa, ma⟩ := arg_bytes Try.underlying28 Try.underlying5 fnTexts_cells_byte (hval 0 28 v0 rfl rfl) h0
  clear hA0 hval0
  exact (lFnTexts pa na ca W sa ma).mono fun e W' ⟨he, hg⟩ =>
    law_done (B := 4) he laid_out (by kernel_rfl) Try.underlying4 (by kernel_rfl) hW' rfl rfl hg

theorem fnTexts_holds : Rows.FnTextsSaid :=
  OpenClaim.holds_of_wide 5 Try.f5 rfl rfl rfl rfl rfl rfl rfl ⟨rfl, rfl, rfl, rfl, rfl⟩ rfl rfl rfl rfl rfl (by kernel_rfl) Try.func5 (by kernel_rfl)
    (of_decide_eq_true (by kernel_rfl)) (by unfold Func.isWrapper; first | (rw [if_pos (by decide +kernel)]; kernel_rfl) | (rw [if_neg (by decide +kernel)]; exact ⟨rfl, rfl⟩))
    (fun os started H enc _ => fnTexts_lifted os started H enc)
#print axioms fnTexts_holds

end Go.Proofs.Ytfhhgonoddedlaa
