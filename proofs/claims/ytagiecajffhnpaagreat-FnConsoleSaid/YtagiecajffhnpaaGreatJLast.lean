/- Plain law: networks are read back from their texts. No program in sight but in the imports. The lines of a session: plain law. No program in sight but in the imports. Whether a network is valid, as a test that runs. No program in sight but in the imports. FnConsole, walked: both ways run the same lines. No condition. What all rows of this seat share: a law that returns true and leaves old memory alone meets its row's post. A slice of bytes as a law's argument. The law FnConsole returns true for all arguments. No condition. -/
import Derived.Test.YtagiecajffhnpaaGreatJAt
import Derived.Test.YtagiecajffhnpaaGreatJBb
import Derived.Test.YtagiecajffhnpaaGreatJAa
import Derived.Test.YtagiecajffhnpaaGreatWBase
import Derived.Test.YtagiecajffhnpaaGreatWCur
import Derived.ProofKit
import Derived.Lib.SmallJoins
namespace Go.Proofs.YtagiecajffhnpaaGreat

open Go.RowKit

theorem fmt_dig {n : Int} (h0 : 0 ≤ n) (hn : in64 n) : ∀ c ∈ fmtInt n, isDig c := fun c hc => by
  unfold in64 at hn
  obtain ⟨h1, _, _, _⟩ := fmtNat_facts 19 n.natAbs (by omega) (by omega) (by omega)
  unfold fmtInt at hc
  rw [if_neg (by omega)] at hc
  exact h1 c hc
theorem dig_free {n : Int} (h0 : 0 ≤ n) (hn : in64 n) (b : List UInt8) (hb : ∀ c ∈ b, ¬ isDig c) : ∀ z ∈ fmtInt n, ¬ z ∈ b := fun z hz hzb => hb z hzb (fmt_dig h0 hn z hz)
theorem first_sep (b : List UInt8) : ∀ x : List UInt8, (∀ z ∈ x, ¬ z ∈ b) ∨ ∃ u d v, x = u ++ d :: v ∧ (∀ z ∈ u, ¬ z ∈ b) ∧ d ∈ b
  | [] => Or.inl (by simp)
  | c :: x => by
    by_cases hc : c ∈ b
    · exact Or.inr ⟨[], c, x, rfl, by simp, hc⟩
    · rcases first_sep b x with h | ⟨u, d, v, rfl, hu, hd⟩
      · left
        intro z hz
        rcases List.mem_cons.1 hz with rfl | hz
        · exact hc
        · exact h z hz
      · refine Or.inr ⟨c :: u, d, v, rfl, fun z hz => ?_, hd⟩
        rcases List.mem_cons.1 hz with rfl | hz
        · exact hc
        · exact hu z hz
theorem pieces_app {b y : List UInt8} {c : UInt8} (hc : c ∈ b) : ∀ (k : Nat) (x : List UInt8), x.length ≤ k → pieces b (x ++ c :: y) = pieces b x ++ pieces b y
  | 0, x, hk => by
    have : x = [] := List.eq_nil_of_length_eq_zero (by omega)
    subst this
    rw [pieces_cons (x := []) (by simp) hc, pieces_none (x := []) (by simp)]; rfl
  | k + 1, x, hk => by
    rcases first_sep b x with h | ⟨u, d, v, rfl, hu, hd⟩
    · rw [pieces_cons h hc, pieces_none h]; rfl
    · have hv : v.length ≤ k := by simp at hk; omega
      rw [List.append_assoc, List.cons_append, pieces_cons hu hd, pieces_cons hu hd, pieces_app hc k v hv]; rfl
theorem pieces_snoc {b x y : List UInt8} {c : UInt8} (hc : c ∈ b) (hy : ∀ z ∈ y, ¬ z ∈ b) : pieces b (x ++ c :: y) = pieces b x ++ [y] := by
  rw [pieces_app hc x.length x (Nat.le_refl _), pieces_none hy]
theorem seps2_ok : (∀ c ∈ [(45 : UInt8), 61], ¬ isDig c) ∧ (∀ c ∈ [(32 : UInt8)], ¬ isDig c) := by
  unfold isDig
  simp
/-! ### networks -/
def wireT (xs : List Int) (k : Nat) : List UInt8 := fmtInt (wa xs k) ++ 45 :: (fmtInt (wb xs k) ++ 61 :: fmtInt (ww xs k))
theorem wireTxt_eq (xs : List Int) (k : Nat) : wireTxt xs k = 32 :: wireT xs k := by simp [wireTxt, wireT]
theorem good_in {N : Int} {xs : List Int} {k : Nat} (h5 : N ≤ 5) (h : goodW N xs k) : (0 ≤ wa xs k ∧ in64 (wa xs k)) ∧ (0 ≤ wb xs k ∧ in64 (wb xs k)) ∧ (0 ≤ ww xs k ∧ in64 (ww xs k)) := by
  obtain ⟨q0, q1, q2, q3, q4⟩ := h.1
  unfold in64
  omega
theorem wireT_pieces {N : Int} {xs : List Int} {k : Nat} (h5 : N ≤ 5) (h : goodW N xs k) : pieces [45, 61] (wireT xs k) = [fmtInt (wa xs k), fmtInt (wb xs k), fmtInt (ww xs k)] := by
  obtain ⟨⟨a0, a1⟩, ⟨b0, b1⟩, ⟨c0, c1⟩⟩ := good_in h5 h
  unfold wireT
  rw [pieces_cons (dig_free a0 a1 _ seps2_ok.1) (by simp), pieces_cons (dig_free b0 b1 _ seps2_ok.1) (by simp), pieces_none (dig_free c0 c1 _ seps2_ok.1)]
theorem wireT_free {N : Int} {xs : List Int} {k : Nat} (h5 : N ≤ 5) (h : goodW N xs k) : ∀ z ∈ wireT xs k, ¬ z ∈ [(32 : UInt8)] := fun z hz h32 => by
  obtain ⟨⟨a0, a1⟩, ⟨b0, b1⟩, ⟨c0, c1⟩⟩ := good_in h5 h
  have e : z = 32 := by simpa using h32
  subst e
  simp only [wireT, List.mem_append, List.mem_cons] at hz
  rcases hz with h | h | h | h | h
  · exact dig_free a0 a1 _ seps2_ok.2 _ h (by simp)
  · exact absurd h (by decide)
  · exact dig_free b0 b1 _ seps2_ok.2 _ h (by simp)
  · exact absurd h (by decide)
  · exact dig_free c0 c1 _ seps2_ok.2 _ h (by simp)
theorem part_pieces {N E S : Int} {xs : List Int} (h5 : N ≤ 5) (hN : in64 N) (hE : in64 E) (hS : in64 S) : ∀ {m : Nat}, (∀ k, k < m → goodW N xs k) → pieces [32] (netPart N E S xs m) = netHead N E S :: (List.range m).map (wireT xs)
  | 0, _ => by simp only [netPart]; rw [pieces_none (head_no32 hN hE hS)]; rfl
  | m + 1, h => by
    simp only [netPart, wireTxt_eq]
    rw [pieces_snoc (by simp) (wireT_free h5 (h m (by omega))), part_pieces h5 hN hE hS (m := m) (fun k hk => h k (by omega)), List.range_succ, List.map_append]
    rfl
theorem hdOk_three {x y z : Int} (hx : in64 x) (hy : in64 y) (hz : in64 z) : hdOk [fmtInt x, fmtInt y, fmtInt z] = true := by
  have h : allB [fmtInt x, fmtInt y, fmtInt z] = true := (all_t (fun i hi => by
    have : i = 0 ∨ i = 1 ∨ i = 2 := by simp at hi; omega
    rcases this with rfl | rfl | rfl
    · exact (p_some hx rfl).2
    · exact (p_some hy rfl).2
    · exact (p_some hz rfl).2)).1
  unfold hdOk
  rw [h]; rfl
/-- The numbers of the first k wires. -/
def flat3 (xs : List Int) : Nat → List Int
  | 0 => []
  | k + 1 => flat3 xs k ++ [wa xs k, wb xs k, ww xs k]
theorem flat3_take (xs : List Int) : ∀ k, k * 3 ≤ xs.length → flat3 xs k = xs.take (k * 3)
  | 0, _ => by simp [flat3]
  | k + 1, h => by
    have e : xs.take ((k + 1) * 3) = xs.take (k * 3) ++ [nth xs (k * 3), nth xs (k * 3 + 1), nth xs (k * 3 + 2)] := by
      rw [show (k + 1) * 3 = k * 3 + 1 + 1 + 1 by omega, List.take_succ_eq_append_getElem (by omega), List.take_succ_eq_append_getElem (by omega), List.take_succ_eq_append_getElem (by omega)]
      rw [nth_eq xs (k * 3) (by omega), nth_eq xs (k * 3 + 1) (by omega), nth_eq xs (k * 3 + 2) (by omega)]
      simp only [List.append_assoc, List.cons_append, List.nil_append]
    simp only [flat3]
    rw [flat3_take xs k (by omega), e]
    rfl
theorem tnth_map {m j : Nat} (f : Nat → List UInt8) (h : List UInt8) (hj : j < m) : tnth (h :: (List.range m).map f) (j + 1) = f j := by
  unfold tnth
  rw [List.getD_cons_succ]
  simp [List.getD_eq_getElem?_getD, hj]
theorem texts_net {N E S : Int} {m : Nat} {xs : List Int} (h : netB N E S m xs = true) (hl : xs.length = m * 3) :
    pnB (hdI (netTxt N E S m xs)) (netTxt N E S m xs) = true ∧ pnV (netTxt N E S m xs) 0 = N ∧ pnV (netTxt N E S m xs) 1 = E ∧ pnV (netTxt N E S m xs) 2 = S ∧ pnM (netTxt N E S m xs) = m ∧ pnX (netTxt N E S m xs) = xs := by
  obtain ⟨⟨n1, n2⟩, _, _, hK, _⟩ := netP_of h
  obtain ⟨hN, hE, hS⟩ := net_in h
  have e : netTxt N E S m xs = netPart N E S xs m := by unfold netTxt; rw [if_pos h]
  have hp := part_pieces (E := E) (S := S) n2 hN hE hS hK
  have hw := first_word hN hE hS xs m
  have hlen : (pieces [32] (netPart N E S xs m)).length - 1 = m := by rw [hp]; simp
  have hd : hdI (netPart N E S xs m) = [fmtInt N, fmtInt E, fmtInt S] := by unfold hdI; rw [hw]; exact head_i hN hE hS
  have hX : ∀ k, k ≤ m → wX (pieces [32] (netPart N E S xs m)) k = flat3 xs k := fun k => by
    induction k with
    | zero => intro _; rfl
    | succ k ih =>
      intro hk
      obtain ⟨⟨a0, a1⟩, ⟨b0, b1⟩, ⟨c0, c1⟩⟩ := good_in n2 (hK k (by omega))
      simp only [wX, flat3]
      rw [ih (by omega), hp, tnth_map _ _ (by omega), wireT_pieces n2 (hK k (by omega))]
      have t0 : tnth [fmtInt (wa xs k), fmtInt (wb xs k), fmtInt (ww xs k)] 0 = fmtInt (wa xs k) := rfl
      have t1 : tnth [fmtInt (wa xs k), fmtInt (wb xs k), fmtInt (ww xs k)] 1 = fmtInt (wb xs k) := rfl
      have t2 : tnth [fmtInt (wa xs k), fmtInt (wb xs k), fmtInt (ww xs k)] 2 = fmtInt (ww xs k) := rfl
      rw [t0, t1, t2, (p_some a1 rfl).1, (p_some b1 rfl).1, (p_some c1 rfl).1]
  have hXm : wX (pieces [32] (netPart N E S xs m)) m = xs := by
    rw [hX m (Nat.le_refl _), flat3_take xs m (by omega), List.take_of_length_le (by omega)]
  have v0 : pv (tnth [fmtInt N, fmtInt E, fmtInt S] 0) = N := (p_some hN rfl).1
  have v1 : pv (tnth [fmtInt N, fmtInt E, fmtInt S] 1) = E := (p_some hE rfl).1
  have v2 : pv (tnth [fmtInt N, fmtInt E, fmtInt S] 2) = S := (p_some hS rfl).1
  have hB : pnB (hdI (netPart N E S xs m)) (netPart N E S xs m) = true := by
    unfold pnB
    rw [hd, hdOk_three hN hE hS, hlen, hXm, v0, v1, v2]
    have hwk : wiresOk (pieces [32] (netPart N E S xs m)) m = true := wiresOk_t (fun j hj => by
      obtain ⟨⟨a0, a1⟩, ⟨b0, b1⟩, ⟨c0, c1⟩⟩ := good_in n2 (hK j hj)
      rw [hp, tnth_map _ _ hj, wireT_pieces n2 (hK j hj)]
      exact hdOk_three a1 b1 c1)
    rw [hwk, e]
    simp
  rw [e]
  obtain ⟨p1, p2, p3⟩ := pn_t hB
  refine ⟨hB, ?_, ?_, ?_, ?_, ?_⟩
  · rw [p1, hd, v0]
  · rw [p1, hd, v1]
  · rw [p1, hd, v2]
  · rw [p2, hlen]
  · rw [p3, hlen, hXm]
end Go.Proofs.YtagiecajffhnpaaGreat

namespace Go.Proofs.YtagiecajffhnpaaGreat

open Go.RowKit

theorem join_snoc (sep : List UInt8) (y : List UInt8) : ∀ l : List (List UInt8), l ≠ [] → Lib.join (l ++ [y]) sep = Lib.join l sep ++ (sep ++ y)
  | [], h => absurd rfl h
  | x :: l, _ => by
    rw [List.cons_append, Lib.join_cons, Lib.join_cons, List.append_assoc]
    congr 1
    simp [Lib.joinTail]
theorem pieces_join : ∀ (l : List (List UInt8)) (n : Nat), l.length = n + 1 → (∀ x ∈ l, ∀ z ∈ x, ¬ z ∈ [(10 : UInt8)]) → pieces [10] (Lib.join l [10]) = l := by
  intro l n
  induction n generalizing l with
  | zero =>
    intro hl h
    obtain ⟨x, rfl⟩ : ∃ x, l = [x] := by
      cases l with
      | nil => simp at hl
      | cons x l => cases l with
        | nil => exact ⟨x, rfl⟩
        | cons => simp at hl
    have e : Lib.join [x] [10] = x := by rw [Lib.join_cons]; simp [Lib.joinTail]
    rw [e]
    exact pieces_none (h x (by simp))
  | succ n ih =>
    intro hl h
    have hne : l ≠ [] := by intro h0; rw [h0] at hl; simp at hl
    obtain ⟨l', y, rfl⟩ : ∃ l' y, l = l' ++ [y] := ⟨l.dropLast, l.getLast hne, (List.dropLast_concat_getLast hne).symm⟩
    have hl' : l'.length = n + 1 := by simp at hl; omega
    have hne' : l' ≠ [] := by intro h0; rw [h0] at hl'; simp at hl'
    rw [join_snoc _ _ _ hne', show ([10] : List UInt8) ++ y = 10 :: y from rfl, pieces_snoc (by simp) (h y (by simp)), ih l' hl' (fun x hx => h x (by simp [hx]))]
theorem linesOf_join {l : List (List UInt8)} (h0 : 0 < l.length) (h : ∀ x ∈ l, ∀ z ∈ x, ¬ z ∈ [(10 : UInt8)]) : linesOf (Lib.join l [10]) = if tnth l (l.length - 1) = [] then l.dropLast else l := by
  unfold linesOf
  rw [pieces_join l (l.length - 1) (by omega) h]
theorem sesK_congr {l l' : List (List UInt8)} : ∀ k, (∀ i, i < k → tnth l i = tnth l' i) → sesK l k = sesK l' k
  | 0, _ => rfl
  | k + 1, h => by
    simp only [sesK]
    rw [sesK_congr k (fun i hi => h i (by omega)), h k (by omega)]
theorem runL_nil (y : Nt) : runL y [] = (y, []) := by unfold runL; rw [if_pos (Or.inl rfl)]
/-- The session on the joined lines shows what the lines show one by one. -/
theorem ses_join {l : List (List UInt8)} (h0 : 0 < l.length) (h : ∀ x ∈ l, ∀ z ∈ x, ¬ z ∈ [(10 : UInt8)]) :
    (sesK (linesOf (Lib.join l [10])) (linesOf (Lib.join l [10])).length).2 = (sesK l l.length).2 ∧ (linesOf (Lib.join l [10])).length ≤ l.length ∧ l.length ≤ (linesOf (Lib.join l [10])).length + 1 ∧ ∀ x ∈ linesOf (Lib.join l [10]), x ∈ l := by
  rw [linesOf_join h0 h]
  split
  · next hl =>
    have hlen : l.dropLast.length = l.length - 1 := List.length_dropLast ..
    refine ⟨?_, by omega, by omega, fun x hx => (List.dropLast_sublist l).subset hx⟩
    rw [hlen]
    obtain ⟨m, hm⟩ : ∃ m, l.length = m + 1 := ⟨l.length - 1, by omega⟩
    rw [hm, Nat.add_sub_cancel]
    rw [hm, Nat.add_sub_cancel] at hl
    have e1 : sesK l.dropLast m = sesK l m := sesK_congr m (fun i hi => by
      rw [tnth_eq _ _ (by omega), tnth_eq _ _ (by omega), List.getElem_dropLast])
    simp only [sesK]
    rw [e1, hl, runL_nil]
    simp
  · exact ⟨rfl, Nat.le_refl _, by omega, fun x hx => hx⟩
theorem ses_pos {l : List (List UInt8)} (h1 : ¬ (runL newN (tnth l 0)).2 = []) : ∀ k, 0 < k → ¬ (sesK l k).2 = []
  | 0, h => absurd h (by omega)
  | k + 1, _ => by
    simp only [sesK]
    by_cases hk : k = 0
    · subst hk
      rw [if_neg (by simpa [sesK] using h1)]
      simp
    · split
      · exact ses_pos h1 k (by omega)
      · simp
/-- A text that names a valid network is answered. -/
theorem runL_net {y : Nt} {N E S : Int} {m : Nat} {xs : List Int} (hB : netB N E S m xs = true) (hl : xs.length = m * 3) : (runL y (netW ++ netTxt N E S m xs)).2 = [111, 107] ∧ (runL y (netW ++ netTxt N E S m xs)).1 = pnN (netTxt N E S m xs) := by
  have h1 := (texts_net hB hl).1
  have hp : Lib.hasPrefix (netW ++ netTxt N E S m xs) netW = true := by unfold Lib.hasPrefix; rw [List.isPrefixOf_iff_prefix]; exact List.prefix_append _ _
  have ht : Lib.trimPrefix (netW ++ netTxt N E S m xs) netW = netTxt N E S m xs := by unfold Lib.trimPrefix; rw [if_pos hp]; simp
  have h35 : ¬ (netW ++ netTxt N E S m xs = [] ∨ bnth (netW ++ netTxt N E S m xs) 0 = 35) := by
    intro h
    rcases h with h | h
    · simp [netW] at h
    · have : bnth (netW ++ netTxt N E S m xs) 0 = 110 := rfl
      rw [this] at h
      exact absurd h (by decide)
  unfold runL
  rw [if_neg h35, if_pos hp, ht, if_pos h1]
  exact ⟨rfl, rfl⟩
theorem fd_small {e : Nat} {l : List Int} (h : ∀ x ∈ l, -8 ≤ x ∧ x ≤ 8) : fdOk e l := fun j _ => by
  have hj : -8 ≤ nth l j ∧ nth l j ≤ 8 := by
    by_cases c : j < l.length
    · rw [nth_eq l j c]; exact h _ (List.getElem_mem _)
    · have : nth l j = 0 := by simp [nth, List.getD_eq_getElem?_getD, List.getElem?_eq_none (by omega : l.length ≤ j)]
      omega
  exact ⟨by omega, fun _ => hj⟩
theorem nums_mem {l : List (List UInt8)} {x : Int} (h : x ∈ numsR l) : ∃ t ∈ l, x = pv t := by
  unfold numsR at h
  split at h
  · simp only [nums, List.mem_map, List.mem_range] at h
    obtain ⟨i, hi, rfl⟩ := h
    exact ⟨tnth l i, by rw [tnth_eq l i hi]; exact List.getElem_mem _, rfl⟩
  · simp at h
def smallT : List (List UInt8) := [[48], [49], [50], [45, 49]]
theorem small_pv {t : List UInt8} (h : t ∈ smallT) : -8 ≤ pv t ∧ pv t ≤ 8 := by
  simp only [smallT, List.mem_cons, List.not_mem_nil, or_false] at h
  rcases h with rfl | rfl | rfl | rfl
  · rw [(p_some (n := 0) (s := [48]) (by unfold in64; omega) rfl).1]; omega
  · rw [(p_some (n := 1) (s := [49]) (by unfold in64; omega) rfl).1]; omega
  · rw [(p_some (n := 2) (s := [50]) (by unfold in64; omega) rfl).1]; omega
  · rw [(p_some (n := -1) (s := [45, 49]) (by unfold in64; omega) rfl).1]; omega
/-- Whether a line may stand in a session: what it feeds is small. -/
def lineOk (s : List UInt8) : Bool := decide (s.length ≤ 1000) && (!s.contains 10 && (!decide (tnth (pieces [32] s) 0 = wFeed) || (pieces [32] s).tail.all (fun t => smallT.contains t)))
theorem lineOk_p {s : List UInt8} (h : lineOk s = true) : s.length ≤ 1000 ∧ (∀ z ∈ s, ¬ z ∈ [(10 : UInt8)]) ∧ ∀ e, fdFine s e := by
  simp only [lineOk, Bool.and_eq_true, decide_eq_true_eq, Bool.not_eq_true', Bool.or_eq_true, decide_eq_false_iff_not, List.all_eq_true] at h
  obtain ⟨h1, h2, h3⟩ := h
  refine ⟨h1, fun z hz hz10 => ?_, fun e hw _ => ?_⟩
  · simp only [List.mem_cons, List.not_mem_nil, or_false] at hz10
    subst hz10
    rw [List.contains_eq_mem] at h2
    simp [hz] at h2
  · rcases h3 with h3 | h3
    · exact absurd hw h3
    · exact fd_small (fun x hx => by
        obtain ⟨t, ht, rfl⟩ := nums_mem hx
        have := h3 t ht
        rw [List.contains_eq_mem, decide_eq_true_eq] at this
        exact small_pv this)
end Go.Proofs.YtagiecajffhnpaaGreat

namespace Go.Proofs.YtagiecajffhnpaaGreat

open Go.RowKit

def okWC (N : Int) (xs : List Int) (k : Nat) : Bool := decide (0 ≤ wa xs k) && (decide (wa xs k < wb xs k) && (decide (wb xs k < N) && (decide (1 ≤ ww xs k) && decide (ww xs k ≤ 200))))
def ordWC (xs : List Int) (j k : Nat) : Bool := decide (wa xs j < wa xs k) || (decide (wa xs j = wa xs k) && decide (wb xs j < wb xs k))
def netC (N E S : Int) (m : Nat) (xs : List Int) : Bool :=
  decide (1 ≤ N ∧ N ≤ 5) && (decide (1 ≤ E ∧ E ≤ N) && (decide (1 ≤ S ∧ S ≤ 1000) && ((List.range m).all (fun k => okWC N xs k && (decide (k = 0) || ordWC xs (k - 1) k)) && mconn N.toNat (prs xs m))))
theorem netC_p {N E S : Int} {m : Nat} {xs : List Int} : netC N E S m xs = true ↔ netP N E S m xs := by
  unfold netC netP
  simp only [Bool.and_eq_true, decide_eq_true_eq, List.all_eq_true, List.mem_range]
  constructor
  · rintro ⟨h1, h2, h3, h4, h5⟩
    refine ⟨h1, h2, h3, fun k hk => ?_, h5⟩
    obtain ⟨a, b⟩ := h4 k hk
    unfold okWC at a
    simp only [Bool.and_eq_true, decide_eq_true_eq] at a
    refine ⟨a, fun h0 => ?_⟩
    unfold ordWC at b
    simp only [Bool.or_eq_true, Bool.and_eq_true, decide_eq_true_eq] at b
    rcases b with b | b
    · omega
    · exact b
  · rintro ⟨h1, h2, h3, h4, h5⟩
    refine ⟨h1, h2, h3, fun k hk => ?_, h5⟩
    obtain ⟨a, b⟩ := h4 k hk
    unfold okW at a
    unfold okWC ordWC
    simp only [Bool.and_eq_true, Bool.or_eq_true, decide_eq_true_eq]
    refine ⟨a, ?_⟩
    by_cases h0 : k = 0
    · exact Or.inl h0
    · exact Or.inr (b (by omega))
theorem netB_eq (N E S : Int) (m : Nat) (xs : List Int) : netB N E S m xs = netC N E S m xs := by
  cases h : netC N E S m xs with
  | true => exact netB_true (netC_p.1 h)
  | false => exact netB_false (fun hp => by rw [netC_p.2 hp] at h; cases h)
end Go.Proofs.YtagiecajffhnpaaGreat

namespace Go.Proofs.YtagiecajffhnpaaGreat
set_option maxRecDepth 100000
open Go.ChangeShapes Go.WideShapes Go.ChangeAt Go.RowKit Go.Joins

theorem lines_ok : lineSet.all lineOk = true := by decide +kernel
theorem nets_ok : netsL.all lineOk = true := by decide +kernel
theorem line_ok {s : List UInt8} (h : s ∈ netsL ∨ s ∈ lineSet) : lineOk s = true := by
  rcases h with h | h
  · exact List.all_eq_true.1 nets_ok s h
  · exact List.all_eq_true.1 lines_ok s h
theorem net_txt {N E S : Int} {m : Nat} {xs : List Int} {f : List UInt8} (hB : netB N E S m xs = true) (hf : f = netW ++ netPart N E S xs m) : f = netW ++ netTxt N E S m xs := by
  unfold netTxt
  rw [if_pos hB]
  exact hf
theorem nets_run {f : List UInt8} (h : f ∈ netsL) (y : Nt) : ¬ (runL y f).2 = [] := by
  have key : ∃ (N E S : Int) (m : Nat) (xs : List Int), netB N E S m xs = true ∧ xs.length = m * 3 ∧ f = netW ++ netPart N E S xs m := by
    simp only [netsL, List.mem_cons, List.not_mem_nil, or_false] at h
    rcases h with rfl | rfl | rfl | rfl
    · exact ⟨3, 2, 1, 2, [0, 2, 1, 1, 2, 2], by rw [netB_eq]; decide +kernel, rfl, by decide +kernel⟩
    · exact ⟨4, 3, 1, 3, [0, 3, 1, 1, 3, 2, 2, 3, 3], by rw [netB_eq]; decide +kernel, rfl, by decide +kernel⟩
    · exact ⟨3, 3, 1, 3, [0, 1, 1, 0, 2, 2, 1, 2, 3], by rw [netB_eq]; decide +kernel, rfl, by decide +kernel⟩
    · exact ⟨4, 2, 1, 5, [0, 2, 1, 0, 3, 1, 1, 2, 1, 1, 3, 2, 2, 3, 1], by rw [netB_eq]; decide +kernel, rfl, by decide +kernel⟩
  obtain ⟨N, E, S, m, xs, hB, hl, hf⟩ := key
  rw [net_txt hB hf, (runL_net hB hl).1]
  simp
set_option maxHeartbeats 800000 in
theorem sMakeLines (p : Option Addr) (n cap : Nat) (w : World) (hb : SlB w p n) (hn : n ≤ 1048576) : Calls Tryz.prog 9 #[.slice p n cap] w fun r w' => ∃ (v : Value) (f : List UInt8) (ts : List (List UInt8)), r = .returned v ∧ f ∈ netsL ∧ (1 ≤ ts.length ∧ ts.length ≤ 8) ∧ (∀ s ∈ ts, s ∈ lineSet) ∧
    w'.ownsRow w.heap.size 9 1 v (f :: ts).length (scells (f :: ts)) ∧ Ge w w' := by
  have HB := Lib.hid hb
  clear hb
  go_enter Tryz.func9, Tryz.ntmps9
  go_wp2_with (first
    | ((go_at_call 17; ((with_reducible refine (sL01New _ _ _ _ HB.out hn).mono ?_); rintro e w1 ⟨g, rfl, hc1, hg, g1⟩)); have HC := Lib.hid hc1; clear hc1)
    | ((go_at_call 16; ((with_reducible refine (sL17Script g _ HC.out).mono ?_); rintro r w2 ⟨v, f, ts, rfl, hf, ht, hs, ho, hge⟩))))
  go_ret
  exact ⟨v, f, ts, rfl, hf, ht, hs, owns_mono ho g1.size, hge w g1 hg⟩
/-- What is known of the lines that are made. -/
structure MadeL (l : List (List UInt8)) : Prop where
  two : 2 ≤ l.length
  nine : l.length ≤ 9
  ok : ∀ s ∈ l, lineOk s = true
  first : ∀ y, ¬ (runL y (tnth l 0)).2 = []
theorem madeL {f : List UInt8} {ts : List (List UInt8)} (hf : f ∈ netsL) (ht : 1 ≤ ts.length ∧ ts.length ≤ 8) (hs : ∀ s ∈ ts, s ∈ lineSet) : MadeL (f :: ts) :=
  ⟨by simp; omega, by simp; omega, fun s h => by
    rcases List.mem_cons.1 h with rfl | h
    · exact line_ok (.inl hf)
    · exact line_ok (.inr (hs s h)), fun y => nets_run hf y⟩
set_option maxHeartbeats 3200000 in
theorem lFnConsole (p : Option Addr) (n0 cap : Nat) (w : World) (hb : SlB w p n0) (hm0 : n0 ≤ 9223372036854775807) : Calls Tryz.prog 4 #[.slice p n0 cap] w fun e w' => e = .returned (.bool true) ∧ Ge w w' := by
  by_cases hbig : 1048576 < n0
  · clear hb
    go_enter Tryz.func4, Tryz.ntmps4
    go_wp2_with fail
    go_ret
    exact ⟨rfl, Ge.refl _⟩
  have hn0 : n0 ≤ 1048576 := by omega
  have HB := Lib.hid hb
  clear hb hm0
  go_enter Tryz.func4, Tryz.ntmps4
  go_upto_region 4 with ((go_at_call 9; ((with_reducible refine (sMakeLines _ _ _ _ HB.out hn0).mono ?_); rintro r w1 ⟨v1, f, ts, rfl, hf, ht, hs, o1, g1⟩)))
  obtain ⟨l, hl⟩ : ∃ l, l = f :: ts := ⟨_, rfl⟩
  have hML := madeL hf ht hs
  rw [← hl] at hML o1
  clear hf ht hs hl HB
  obtain ⟨N, hN⟩ : ∃ N, l.length = N := ⟨_, rfl⟩
  have HN := Lib.hid hN
  have HO1 := Lib.hid o1
  have hN2 := hML.two
  have hN9 := hML.nine
  rw [hN] at hN2 hN9
  have HG : Hid (∀ k, k < N → (tnth l k).length ≤ 1000 ∧ ∀ e, fdFine (tnth l k) e) := fun k hk => by
    rw [tnth_eq l k (by omega)]
    obtain ⟨h1, _, h3⟩ := lineOk_p (hML.ok _ (List.getElem_mem (show k < l.length by omega)))
    exact ⟨h1, h3⟩
  have hx1 := SlS.of_owns o1
  obtain ⟨p1, c1, rfl, hy1⟩ := hx1.openN hN
  have HX1 := Lib.hid hy1
  have HJn : Hid (∀ w', Ge w1 w' → Calls Tryz.prog 12 #[.slice p1 N c1, .string ⟨#[10]⟩] w' (fun en w'' => en = .returned (.string (bstr (Lib.join l [10]))) ∧ Ge w' w'')) := fun w' g => iJoin w.heap.size 9 (.slice p1 N c1) l [10] w' (g.owns HO1.out) (by omega) (by
    have h := join_le [10] l 1000 (fun x hx => (lineOk_p (hML.ok x hx)).1)
    rw [hN] at h
    have h2 : ([10].length + 1000) * N ≤ ([10].length + 1000) * 9 := Nat.mul_le_mul_left _ hN9
    simp only [List.length_cons, List.length_nil] at h h2
    omega)
  obtain ⟨j1, j2, j3, j4⟩ := ses_join (l := l) (by omega) (fun x hx => (lineOk_p (hML.ok x hx)).2.1)
  have HRs : Hid (∀ w', Calls Tryz.prog 7 #[.string (bstr (Lib.join l [10]))] w' (fun r w'' => r = .returned (.tuple #[.string (bstr (sesK l N).2), .int .i64 ((linesOf (Lib.join l [10])).length : Int)]) ∧ Ge w' w'')) := fun w' => by
    have h := iRunSession (Lib.join l [10]) w' (by
      have h := join_le [10] l 1000 (fun x hx => (lineOk_p (hML.ok x hx)).1)
      rw [hN] at h
      have h2 : ([10].length + 1000) * N ≤ ([10].length + 1000) * 9 := Nat.mul_le_mul_left _ hN9
      simp only [List.length_cons, List.length_nil] at h h2
      omega) (by omega) (fun x hx => by
        obtain ⟨h1, _, h3⟩ := lineOk_p (hML.ok x (j4 x hx))
        exact ⟨h1, h3⟩)
    rw [j1, hN] at h
    exact h
  rw [hN] at j2 j3
  have HE : Hid ((bstr (sesK l N).2).toList.isEmpty = false) := empty_f (ses_pos (hML.first newN) N (by omega))
  clear j1 j4 hML hx1 hy1 o1 hN
  generalize (linesOf (Lib.join l [10])).length = KK at *
  generalize Lib.join l [10] = JT at *
  go_wp2_with ((go_at_call 10; ((with_reducible refine (iNewCon _).mono ?_); rintro r w2 ⟨gb, cb, rfl, o2, hg1, hg2, g2⟩)); have HS0 := Lib.hid (SesAt.start o2 hg2))
  have g12 := g1.trans g2
  have hz2 := g2.size
  go_loopw [5, 20] (fun o i wr => ∃ (k : Nat) (p : Option Addr) (c : Nat), k ≤ N ∧ i = .int .i64 k ∧ o = .string (bstr (sesK l k).2) ∧ Hid (SesAt w2 wr w2.heap.size (sesK l k).1 p c)) (fun _ i _ => N - (intOf i).toNat)
  case atStart => exact ⟨0, _, _, Nat.zero_le _, rfl, rfl, HS0.out⟩
  case round =>
    clear HS0 o2
    obtain ⟨k, p, c, hk, rfl, rfl, HSt⟩ := hrel
    by_cases hlt : k < N
    · have hlen := sesK_len l k
      have hok := sesK_ok l k
      have HK : Hid (sesK l (k + 1) = ((runL (sesK l k).1 (tnth l k)).1, if (runL (sesK l k).1 (tnth l k)).2 = [] then (sesK l k).2 else (sesK l k).2 ++ ((runL (sesK l k).1 (tnth l k)).2 ++ [10]))) := rfl
      obtain ⟨⟨b0, b1, b2, b3⟩, RS, hSl, _, hg⟩ := HSt.out
      have HRn := Lib.hid (iRunLineN (sesK l k).1 (.slice p (sesK l k).1.wires.length c) (tnth l k) wr hok hSl (HG.out k hlt).1 (HG.out k hlt).2)
      have hrl := runL_len hok (tnth l k)
      obtain ⟨bx, ox, hpx, x0⟩ := HX1.out k hlt
      subst hpx
      have x0 := hg.keep (g2.keep x0)
      have zB := World.block_lt_of_cell? _ _ b0
      generalize (sesK l k).2 = T at *
      generalize (sesK l k).1 = y at *
      generalize tnth l k = ln at *
      generalize runL y ln = R at *
      have HRS := Lib.hid RS
      have s1 : (bstr T).size ≤ 1000001 * k := by rw [bstr_size]; exact hlen
      have s2 : (bstr R.2).size ≤ 1000000 := by rw [bstr_size]; exact hrl
      have s3 : (bstr T ++ bstr R.2).size ≤ 1000001 * k + 1000000 := by rw [bstr_append, bstr_size, List.length_append]; omega
      clear hok hSl RS hlen hrl hg
      by_cases hR : R.2 = []
      · have q0 : (bstr R.2).toList.isEmpty = true := by rw [hR]; exact empty_t
        have HKn : Hid (sesK l (k + 1) = (R.1, T)) := by show _ = _; rw [HK.out, if_pos hR]
        clear HK hR
        go_wp2_with ((go_at_call 11; ((with_reducible refine HRn.out.mono ?_); rintro r w9 ⟨u9, rfl, o9, g9⟩)); obtain ⟨p9, c9, rfl⟩ := owns_form o9; have R9 := HRS.out.ge g9; obtain ⟨r4, p4, f4⟩ := R9 0 (by omega); obtain ⟨r5, p5, f5⟩ := R9 1 (by omega); obtain ⟨r6, p6, f6⟩ := R9 2 (by omega); obtain ⟨r7, p7, f7⟩ := R9 3 (by omega); have z9 := g9.size; have z10 : w2.heap.size < w9.heap.size := (by omega); have HO9 := Lib.hid o9; clear o9 R9)
        go_roundw
        case rel => exact ⟨k + 1, p9, c9, by omega, by go_num, by rw [HKn.out], by rw [HKn.out]; exact HSt.out.next (Nat.le_refl _) g9 HO9.out⟩
        case measure => simp [intOf]; omega
      · have q0 : (bstr R.2).toList.isEmpty = false := empty_f hR
        have HKn : Hid (sesK l (k + 1) = (R.1, T ++ (R.2 ++ [10]))) := by show _ = _; rw [HK.out, if_neg hR]
        clear HK hR
        go_wp2_with ((go_at_call 11; ((with_reducible refine HRn.out.mono ?_); rintro r w9 ⟨u9, rfl, o9, g9⟩)); obtain ⟨p9, c9, rfl⟩ := owns_form o9; have R9 := HRS.out.ge g9; obtain ⟨r4, p4, f4⟩ := R9 0 (by omega); obtain ⟨r5, p5, f5⟩ := R9 1 (by omega); obtain ⟨r6, p6, f6⟩ := R9 2 (by omega); obtain ⟨r7, p7, f7⟩ := R9 3 (by omega); have z9 := g9.size; have z10 : w2.heap.size < w9.heap.size := (by omega); have HO9 := Lib.hid o9; clear o9 R9)
        go_roundw
        case rel => exact ⟨k + 1, p9, c9, by omega, by go_num, by rw [HKn.out, ses_txt2], by rw [HKn.out]; exact HSt.out.next (Nat.le_refl _) g9 HO9.out⟩
        case measure => simp [intOf]; omega
    · have hkN : k = N := by omega
      subst hkN
      obtain ⟨_, _, _, _, hg⟩ := HSt.out
      have q0 := HE.out
      generalize (sesK l k).2 = T at *
      have t1 : decide ((k : Int) - 1 ≤ (KK : Int)) = true := by simp; omega
      have t2 : decide ((KK : Int) ≤ (k : Int)) = true := by simp; omega
      go_wp2_with (first
        | ((go_at_call 12; ((with_reducible refine (HJn.out _ (g2.trans hg)).mono ?_); rintro r w7 ⟨rfl, g7⟩)))
        | ((go_at_call 7; ((with_reducible refine (HRs.out _).mono ?_); rintro r w8 ⟨rfl, g8⟩))))
      go_ret
      exact ⟨rfl, (g12.trans hg).trans (g7.trans g8)⟩
end Go.Proofs.YtagiecajffhnpaaGreat

namespace Go.Proofs.YtagiecajffhnpaaGreat

open Go.ChangeShapes Go.WideShapes Go.ChangeAt Go.RowKit Go.Joins

theorem own_knob : ownKnob Tryz.prog.godebug = none := by kernel_rfl
theorem laid_out : laidOutB Tryz.prog = true := by kernel_rfl
/-- Arguments read as they did. -/
theorem trodAll_stays {H : Type} {enc : TypeId × Value → H} {P : Program} (hl : laidOutB P = true) {W W' : World} (hg : Ge W W') :
    ∀ (ts : List TypeId) (vs : List Value) (ds : List (DataW H)) (p : List MemPlace), (∀ t ∈ ts, P.readableRec t = true ∧ t < P.types.size) →
      DataW.TrodAll enc P W 0 (fun _ => true) true ts vs ds p → (∀ x ∈ p, x.block < W.heap.size) →
      DataW.TrodAll enc P W' 0 (fun b => decide (b < W.heap.size)) true ts vs ds p := by
  intro ts
  induction ts with
  | nil =>
    intro vs ds p _ h _
    cases vs with
    | nil => cases ds with
      | nil => exact h
      | cons => exact h.elim
    | cons => exact h.elim
  | cons t ts ih =>
    intro vs ds p ht h hlt
    cases vs with
    | nil => exact h.elim
    | cons v vs => cases ds with
      | nil => exact h.elim
      | cons d ds =>
        obtain ⟨p1, p2, h1, h2, rfl⟩ := h
        obtain ⟨r1, r2⟩ := ht t (by simp)
        exact ⟨p1, p2, Below.trod hl r1 r2 h1 hg (fun x hx => hlt x (List.mem_append.2 (.inl hx))),
          ih vs ds p2 (fun t' h' => ht t' (List.mem_cons_of_mem _ h')) h2 (fun x hx => hlt x (List.mem_append.2 (.inr hx))), rfl⟩

/-- The end of a law: true came back, nothing that was there has turned. -/
theorem law_done {H : Type} {enc : TypeId × Value → H} {P : Program} {f : Func} {s : ChangeSpec} {W W' : World} {args : Array Value} {ds gs : List (DataW H)} {before : List MemPlace} {B : TypeId} {e : Ending}
    (he : e = .returned (.bool true)) (hl : laidOutB P = true) (hrt : f.resultTypes = #[B]) (hB : P.underlying B = some .bool)
    (hread : f.params.toList.all (fun t => P.readableRec t && decide (t < P.types.size)) = true)
    (hW : DataW.Whole enc P f.params.toList s.vars false W args.toList ds gs before) (hv : s.vars = [])
    (hfn : s.fn H (ds ++ gs) = { results := [.lit (.bool true)], args := ds }) (hg : Ge W W') :
    ∃ v, e = .returned v ∧ s.post enc P f false true false false W args v W' := by
  subst he
  refine ⟨.bool true, rfl, ?_⟩
  have hlt := fun x hx => hW.lt x hx
  have hW' := hW
  obtain ⟨p, q, hA, hV, rfl, hfz, hnd⟩ := hW'
  have hq : q = [] ∧ gs = [] := by
    rw [hv] at hV
    cases gs with
    | nil => exact ⟨hV, rfl⟩
    | cons => exact hV.elim
  obtain ⟨rfl, rfl⟩ := hq
  rw [List.all_eq_true] at hread
  have hread' : ∀ t ∈ f.params.toList, P.readableRec t = true ∧ t < P.types.size := by
    intro t ht
    have := hread t ht
    simp at this
    exact this
  refine ⟨ds, [], p ++ [], [], p, [], hW, ?_, ?_, ?_, Below.frame hg _, fun h => by cases h⟩
  · rw [hfn, hrt]
    exact trodAll_mk1 (shut_bool hB true)
  · rw [hfn]
    exact trodAll_stays hl hg _ _ _ _ hread' hA (fun x hx => hlt x (List.mem_append.2 (.inl hx)))
  · rw [hv, hfn]
    exact rfl
end Go.Proofs.YtagiecajffhnpaaGreat

namespace Go.Proofs.YtagiecajffhnpaaGreat

open Go.ChangeShapes Go.WideShapes Go.ChangeAt Go.RowKit Go.Joins

theorem u8_of_wf {x : Int} (h : (Lit.int .u8 x).wf = true) : 0 ≤ x ∧ x ≤ 255 := by
  simp [Lit.wf, IntKind.min, IntKind.max, IntKind.signed, IntKind.bits] at h
  omega

theorem arg_bytes {H : Type} {enc : TypeId × Value → H} {P : Program} {W : World} {r : Reach} {b0 : Nat} {t e : TypeId} {v : Value} {d : DataW H} {ps : List MemPlace}
    (ht : P.underlying t = some (.slice e)) (he : P.underlying e = some (.int .u8)) (hc : P.cellsOf e = 1) (hval : Value.okWide P W r b0 t v)
    (h : DataW.Trod enc P W 0 (fun _ => true) true t v d ps) : ∃ p n cap, v = .slice p n cap ∧ SlB W p n ∧ n ≤ 9223372036854775807 := by
  obtain ⟨a0, len, cap, rfl⟩ := okWide_slice ht hval
  obtain ⟨fuel, hf⟩ := h
  rcases open_ints ht he hc hf with ⟨hcs, hx⟩ | ⟨a, len', cap', zs, hcs, _, hl, hm, hz, hx, hcell, hwz⟩
  · simp [Value.cells] at hcs
    obtain ⟨rfl, rfl, rfl⟩ := hcs
    exact ⟨_, _, _, rfl, fun i hi => by omega, by omega⟩
  · simp [Value.cells] at hcs
    obtain ⟨rfl, rfl, rfl⟩ := hcs
    simp only [if_true] at hz
    unfold maxLen at hm
    refine ⟨_, _, _, rfl, fun i hi => ?_, by omega⟩
    have hc' := hcell i (by omega)
    obtain ⟨b, off, spot⟩ := a
    have hspot : spot = none := World.cell?_spot (by simpa [Addr.add] using hcell 0 (by omega))
    subst hspot
    have hadd : (⟨b, off, none⟩ : Addr).add i = ⟨b, off + i, none⟩ := by unfold Addr.add; split <;> simp_all
    rw [hadd] at hc'
    have hmem : zs.getD i 0 ∈ zs := by
      simp only [List.getD]
      rw [List.getElem?_eq_getElem (by omega)]
      exact List.getElem_mem _
    have hb := u8_of_wf (hwz _ hmem)
    exact ⟨b, off, _, rfl, hc', hb.1, hb.2⟩
end Go.Proofs.YtagiecajffhnpaaGreat

namespace Go.Proofs.YtagiecajffhnpaaGreat

open Go.ChangeShapes Go.WideShapes Go.ChangeAt Go.RowKit Go.Joins

theorem fnConsole_cells_byte : Tryz.prog.cellsOf 5 = 1 := by kernel_rfl

set_option maxRecDepth 100000 in
theorem fnConsole_lifted (os : Os) (started : os.Started) (H : Type) (enc : TypeId × Value → H) :
    ReturnsInHanded {} Tryz.checked os 4 .any (Rows.fnConsoleSpec.pre6 enc Tryz.prog Tryz.f4 Rows.fnConsoleRow.domain false) (Rows.fnConsoleSpec.post enc Tryz.prog Tryz.f4 false true false false) := by
  refine returnsInHanded_of_change (C := Tryz.checked) own_knob started (by kernel_rfl) Tryz.func4
    (ChangeSpec.witness6 (enc := enc) (C := Tryz.checked) false ⟨#[], #[.slice none 0 0], []⟩ 8 (by kernel_rfl) (by kernel_rfl) (by kernel_rfl) (by kernel_rfl)) ?_
  intro W base args ds gs before hval0 hW hcnd _
  have hval : ∀ (j : Nat) t v, Tryz.f4.params[j]? = some t → args[j]? = some v → Value.okWide Tryz.prog W .any base t v := hval0
  have hW' := hW
  obtain ⟨p, q, hA0, hV, rfl, hfz, hnd⟩ := hW
  have hA : DataW.TrodAll enc Tryz.prog W 0 (fun _ => true) true Tryz.f4.params.toList args.toList ds p := hA0
  rw [Tryz.params4] at hA hval
  obtain ⟨v0, d0, rfl, rfl, h0⟩ := trodAll_one hA
  obtain ⟨rfl, rfl⟩ := trodVars_none hV
  obtain ⟨pa, na, ca, rfl, sa, ma⟩ := arg_bytes Tryz.underlying22 Tryz.underlying5 fnConsole_cells_byte (hval 0 22 v0 rfl rfl) h0
  clear hA0 hval0
  exact (lFnConsole pa na ca W sa ma).mono fun e W' ⟨he, hg⟩ =>
    law_done (B := 4) he laid_out (by kernel_rfl) Tryz.underlying4 (by kernel_rfl) hW' rfl rfl hg

theorem fnConsole_holds : Rows.FnConsoleSaid :=
  OpenClaim.holds_of_wide 4 Tryz.f4 rfl rfl rfl rfl rfl rfl rfl ⟨rfl, rfl, rfl, rfl, rfl⟩ rfl rfl rfl rfl rfl (by kernel_rfl) Tryz.func4 (by kernel_rfl)
    (of_decide_eq_true (by kernel_rfl)) (by unfold Func.isWrapper; first | (rw [if_pos (by decide +kernel)]; kernel_rfl) | (rw [if_neg (by decide +kernel)]; exact ⟨rfl, rfl⟩))
    (fun os started H enc _ => fnConsole_lifted os started H enc)
#print axioms fnConsole_holds

end Go.Proofs.YtagiecajffhnpaaGreat
