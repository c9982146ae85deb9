/- Plain law: networks are read back from their texts. No program in sight but in the imports. The lines of a session: plain law. No program in sight but in the imports. Whether a network is valid, as a test that runs. No program in sight but in the imports. A valid tiling, by a test that can be run. No condition. The lines of FnConfirms, run as functions: plain law. No program in sight but in the imports. The cursor of the draws: what l01New makes, and that l01Byte and l01Below keep it and give small numbers. No condition. -/
import Derived.Test.YtagiecajffhnpaaGreatJAt
import Derived.Test.YtagiecajffhnpaaGreatJBb
import Derived.Test.YtagiecajffhnpaaGreatPlNetOk
import Derived.Test.YtagiecajffhnpaaGreatJAb
import Derived.Test.YtagiecajffhnpaaGreatWLaw
import Derived.Test.YtagiecajffhnpaaGreatWSl
import Derived.Test.YtagiecajffhnpaaGreatWEqInt
namespace Go.Proofs.YtagiecajffhnpaaGreat

open Go.RowKit

theorem fmt_dig {n : Int} (h0 : 0 ≤ n) (hn : in64 n) : ∀ c ∈ fmtInt n, isDig c := fun c hc => by
  unfold in64 at hn
  obtain ⟨h1, _, _, _⟩ := fmtNat_facts 19 n.natAbs (by omega) (by omega) (by omega)
  unfold fmtInt at hc
  rw [if_neg (by omega)] at hc
  exact h1 c hc
theorem dig_free {n : Int} (h0 : 0 ≤ n) (hn : in64 n) (b : List UInt8) (hb : ∀ c ∈ b, ¬ isDig c) : ∀ z ∈ fmtInt n, ¬ z ∈ b := fun z hz hzb => hb z hzb (fmt_dig h0 hn z hz)
theorem first_sep (b : List UInt8) : ∀ x : List UInt8, (∀ z ∈ x, ¬ z ∈ b) ∨ ∃ u d v, x = u ++ d :: v ∧ (∀ z ∈ u, ¬ z ∈ b) ∧ d ∈ b
  | [] => Or.inl (by simp)
  | c :: x => by
    by_cases hc : c ∈ b
    · exact Or.inr ⟨[], c, x, rfl, by simp, hc⟩
    · rcases first_sep b x with h | ⟨u, d, v, rfl, hu, hd⟩
      · left
        intro z hz
        rcases List.mem_cons.1 hz with rfl | hz
        · exact hc
        · exact h z hz
      · refine Or.inr ⟨c :: u, d, v, rfl, fun z hz => ?_, hd⟩
        rcases List.mem_cons.1 hz with rfl | hz
        · exact hc
        · exact hu z hz
theorem pieces_app {b y : List UInt8} {c : UInt8} (hc : c ∈ b) : ∀ (k : Nat) (x : List UInt8), x.length ≤ k → pieces b (x ++ c :: y) = pieces b x ++ pieces b y
  | 0, x, hk => by
    have : x = [] := List.eq_nil_of_length_eq_zero (by omega)
    subst this
    rw [pieces_cons (x := []) (by simp) hc, pieces_none (x := []) (by simp)]; rfl
  | k + 1, x, hk => by
    rcases first_sep b x with h | ⟨u, d, v, rfl, hu, hd⟩
    · rw [pieces_cons h hc, pieces_none h]; rfl
    · have hv : v.length ≤ k := by simp at hk; omega
      rw [List.append_assoc, List.cons_append, pieces_cons hu hd, pieces_cons hu hd, pieces_app hc k v hv]; rfl
theorem pieces_snoc {b x y : List UInt8} {c : UInt8} (hc : c ∈ b) (hy : ∀ z ∈ y, ¬ z ∈ b) : pieces b (x ++ c :: y) = pieces b x ++ [y] := by
  rw [pieces_app hc x.length x (Nat.le_refl _), pieces_none hy]
theorem seps2_ok : (∀ c ∈ [(45 : UInt8), 61], ¬ isDig c) ∧ (∀ c ∈ [(32 : UInt8)], ¬ isDig c) := by
  unfold isDig
  simp
/-! ### networks -/
def wireT (xs : List Int) (k : Nat) : List UInt8 := fmtInt (wa xs k) ++ 45 :: (fmtInt (wb xs k) ++ 61 :: fmtInt (ww xs k))
theorem wireTxt_eq (xs : List Int) (k : Nat) : wireTxt xs k = 32 :: wireT xs k := by simp [wireTxt, wireT]
theorem good_in {N : Int} {xs : List Int} {k : Nat} (h5 : N ≤ 5) (h : goodW N xs k) : (0 ≤ wa xs k ∧ in64 (wa xs k)) ∧ (0 ≤ wb xs k ∧ in64 (wb xs k)) ∧ (0 ≤ ww xs k ∧ in64 (ww xs k)) := by
  obtain ⟨q0, q1, q2, q3, q4⟩ := h.1
  unfold in64
  omega
theorem wireT_pieces {N : Int} {xs : List Int} {k : Nat} (h5 : N ≤ 5) (h : goodW N xs k) : pieces [45, 61] (wireT xs k) = [fmtInt (wa xs k), fmtInt (wb xs k), fmtInt (ww xs k)] := by
  obtain ⟨⟨a0, a1⟩, ⟨b0, b1⟩, ⟨c0, c1⟩⟩ := good_in h5 h
  unfold wireT
  rw [pieces_cons (dig_free a0 a1 _ seps2_ok.1) (by simp), pieces_cons (dig_free b0 b1 _ seps2_ok.1) (by simp), pieces_none (dig_free c0 c1 _ seps2_ok.1)]
theorem wireT_free {N : Int} {xs : List Int} {k : Nat} (h5 : N ≤ 5) (h : goodW N xs k) : ∀ z ∈ wireT xs k, ¬ z ∈ [(32 : UInt8)] := fun z hz h32 => by
  obtain ⟨⟨a0, a1⟩, ⟨b0, b1⟩, ⟨c0, c1⟩⟩ := good_in h5 h
  have e : z = 32 := by simpa using h32
  subst e
  simp only [wireT, List.mem_append, List.mem_cons] at hz
  rcases hz with h | h | h | h | h
  · exact dig_free a0 a1 _ seps2_ok.2 _ h (by simp)
  · exact absurd h (by decide)
  · exact dig_free b0 b1 _ seps2_ok.2 _ h (by simp)
  · exact absurd h (by decide)
  · exact dig_free c0 c1 _ seps2_ok.2 _ h (by simp)
theorem part_pieces {N E S : Int} {xs : List Int} (h5 : N ≤ 5) (hN : in64 N) (hE : in64 E) (hS : in64 S) : ∀ {m : Nat}, (∀ k, k < m → goodW N xs k) → pieces [32] (netPart N E S xs m) = netHead N E S :: (List.range m).map (wireT xs)
  | 0, _ => by simp only [netPart]; rw [pieces_none (head_no32 hN hE hS)]; rfl
  | m + 1, h => by
    simp only [netPart, wireTxt_eq]
    rw [pieces_snoc (by simp) (wireT_free h5 (h m (by omega))), part_pieces h5 hN hE hS (m := m) (fun k hk => h k (by omega)), List.range_succ, List.map_append]
    rfl
theorem hdOk_three {x y z : Int} (hx : in64 x) (hy : in64 y) (hz : in64 z) : hdOk [fmtInt x, fmtInt y, fmtInt z] = true := by
  have h : allB [fmtInt x, fmtInt y, fmtInt z] = true := (all_t (fun i hi => by
    have : i = 0 ∨ i = 1 ∨ i = 2 := by simp at hi; omega
    rcases this with rfl | rfl | rfl
    · exact (p_some hx rfl).2
    · exact (p_some hy rfl).2
    · exact (p_some hz rfl).2)).1
  unfold hdOk
  rw [h]; rfl
/-- The numbers of the first k wires. -/
def flat3 (xs : List Int) : Nat → List Int
  | 0 => []
  | k + 1 => flat3 xs k ++ [wa xs k, wb xs k, ww xs k]
theorem flat3_take (xs : List Int) : ∀ k, k * 3 ≤ xs.length → flat3 xs k = xs.take (k * 3)
  | 0, _ => by simp [flat3]
  | k + 1, h => by
    have e : xs.take ((k + 1) * 3) = xs.take (k * 3) ++ [nth xs (k * 3), nth xs (k * 3 + 1), nth xs (k * 3 + 2)] := by
      rw [show (k + 1) * 3 = k * 3 + 1 + 1 + 1 by omega, List.take_succ_eq_append_getElem (by omega), List.take_succ_eq_append_getElem (by omega), List.take_succ_eq_append_getElem (by omega)]
      rw [nth_eq xs (k * 3) (by omega), nth_eq xs (k * 3 + 1) (by omega), nth_eq xs (k * 3 + 2) (by omega)]
      simp only [List.append_assoc, List.cons_append, List.nil_append]
    simp only [flat3]
    rw [flat3_take xs k (by omega), e]
    rfl
theorem tnth_map {m j : Nat} (f : Nat → List UInt8) (h : List UInt8) (hj : j < m) : tnth (h :: (List.range m).map f) (j + 1) = f j := by
  unfold tnth
  rw [List.getD_cons_succ]
  simp [List.getD_eq_getElem?_getD, hj]
theorem texts_net {N E S : Int} {m : Nat} {xs : List Int} (h : netB N E S m xs = true) (hl : xs.length = m * 3) :
    pnB (hdI (netTxt N E S m xs)) (netTxt N E S m xs) = true ∧ pnV (netTxt N E S m xs) 0 = N ∧ pnV (netTxt N E S m xs) 1 = E ∧ pnV (netTxt N E S m xs) 2 = S ∧ pnM (netTxt N E S m xs) = m ∧ pnX (netTxt N E S m xs) = xs := by
  obtain ⟨⟨n1, n2⟩, _, _, hK, _⟩ := netP_of h
  obtain ⟨hN, hE, hS⟩ := net_in h
  have e : netTxt N E S m xs = netPart N E S xs m := by unfold netTxt; rw [if_pos h]
  have hp := part_pieces (E := E) (S := S) n2 hN hE hS hK
  have hw := first_word hN hE hS xs m
  have hlen : (pieces [32] (netPart N E S xs m)).length - 1 = m := by rw [hp]; simp
  have hd : hdI (netPart N E S xs m) = [fmtInt N, fmtInt E, fmtInt S] := by unfold hdI; rw [hw]; exact head_i hN hE hS
  have hX : ∀ k, k ≤ m → wX (pieces [32] (netPart N E S xs m)) k = flat3 xs k := fun k => by
    induction k with
    | zero => intro _; rfl
    | succ k ih =>
      intro hk
      obtain ⟨⟨a0, a1⟩, ⟨b0, b1⟩, ⟨c0, c1⟩⟩ := good_in n2 (hK k (by omega))
      simp only [wX, flat3]
      rw [ih (by omega), hp, tnth_map _ _ (by omega), wireT_pieces n2 (hK k (by omega))]
      have t0 : tnth [fmtInt (wa xs k), fmtInt (wb xs k), fmtInt (ww xs k)] 0 = fmtInt (wa xs k) := rfl
      have t1 : tnth [fmtInt (wa xs k), fmtInt (wb xs k), fmtInt (ww xs k)] 1 = fmtInt (wb xs k) := rfl
      have t2 : tnth [fmtInt (wa xs k), fmtInt (wb xs k), fmtInt (ww xs k)] 2 = fmtInt (ww xs k) := rfl
      rw [t0, t1, t2, (p_some a1 rfl).1, (p_some b1 rfl).1, (p_some c1 rfl).1]
  have hXm : wX (pieces [32] (netPart N E S xs m)) m = xs := by
    rw [hX m (Nat.le_refl _), flat3_take xs m (by omega), List.take_of_length_le (by omega)]
  have v0 : pv (tnth [fmtInt N, fmtInt E, fmtInt S] 0) = N := (p_some hN rfl).1
  have v1 : pv (tnth [fmtInt N, fmtInt E, fmtInt S] 1) = E := (p_some hE rfl).1
  have v2 : pv (tnth [fmtInt N, fmtInt E, fmtInt S] 2) = S := (p_some hS rfl).1
  have hB : pnB (hdI (netPart N E S xs m)) (netPart N E S xs m) = true := by
    unfold pnB
    rw [hd, hdOk_three hN hE hS, hlen, hXm, v0, v1, v2]
    have hwk : wiresOk (pieces [32] (netPart N E S xs m)) m = true := wiresOk_t (fun j hj => by
      obtain ⟨⟨a0, a1⟩, ⟨b0, b1⟩, ⟨c0, c1⟩⟩ := good_in n2 (hK j hj)
      rw [hp, tnth_map _ _ hj, wireT_pieces n2 (hK j hj)]
      exact hdOk_three a1 b1 c1)
    rw [hwk, e]
    simp
  rw [e]
  obtain ⟨p1, p2, p3⟩ := pn_t hB
  refine ⟨hB, ?_, ?_, ?_, ?_, ?_⟩
  · rw [p1, hd, v0]
  · rw [p1, hd, v1]
  · rw [p1, hd, v2]
  · rw [p2, hlen]
  · rw [p3, hlen, hXm]
end Go.Proofs.YtagiecajffhnpaaGreat

namespace Go.Proofs.YtagiecajffhnpaaGreat

open Go.RowKit

theorem join_snoc (sep : List UInt8) (y : List UInt8) : ∀ l : List (List UInt8), l ≠ [] → Lib.join (l ++ [y]) sep = Lib.join l sep ++ (sep ++ y)
  | [], h => absurd rfl h
  | x :: l, _ => by
    rw [List.cons_append, Lib.join_cons, Lib.join_cons, List.append_assoc]
    congr 1
    simp [Lib.joinTail]
theorem pieces_join : ∀ (l : List (List UInt8)) (n : Nat), l.length = n + 1 → (∀ x ∈ l, ∀ z ∈ x, ¬ z ∈ [(10 : UInt8)]) → pieces [10] (Lib.join l [10]) = l := by
  intro l n
  induction n generalizing l with
  | zero =>
    intro hl h
    obtain ⟨x, rfl⟩ : ∃ x, l = [x] := by
      cases l with
      | nil => simp at hl
      | cons x l => cases l with
        | nil => exact ⟨x, rfl⟩
        | cons => simp at hl
    have e : Lib.join [x] [10] = x := by rw [Lib.join_cons]; simp [Lib.joinTail]
    rw [e]
    exact pieces_none (h x (by simp))
  | succ n ih =>
    intro hl h
    have hne : l ≠ [] := by intro h0; rw [h0] at hl; simp at hl
    obtain ⟨l', y, rfl⟩ : ∃ l' y, l = l' ++ [y] := ⟨l.dropLast, l.getLast hne, (List.dropLast_concat_getLast hne).symm⟩
    have hl' : l'.length = n + 1 := by simp at hl; omega
    have hne' : l' ≠ [] := by intro h0; rw [h0] at hl'; simp at hl'
    rw [join_snoc _ _ _ hne', show ([10] : List UInt8) ++ y = 10 :: y from rfl, pieces_snoc (by simp) (h y (by simp)), ih l' hl' (fun x hx => h x (by simp [hx]))]
theorem linesOf_join {l : List (List UInt8)} (h0 : 0 < l.length) (h : ∀ x ∈ l, ∀ z ∈ x, ¬ z ∈ [(10 : UInt8)]) : linesOf (Lib.join l [10]) = if tnth l (l.length - 1) = [] then l.dropLast else l := by
  unfold linesOf
  rw [pieces_join l (l.length - 1) (by omega) h]
/-- A text that names a valid network is answered. -/
theorem runL_net {y : Nt} {N E S : Int} {m : Nat} {xs : List Int} (hB : netB N E S m xs = true) (hl : xs.length = m * 3) : (runL y (netW ++ netTxt N E S m xs)).2 = [111, 107] ∧ (runL y (netW ++ netTxt N E S m xs)).1 = pnN (netTxt N E S m xs) := by
  have h1 := (texts_net hB hl).1
  have hp : Lib.hasPrefix (netW ++ netTxt N E S m xs) netW = true := by unfold Lib.hasPrefix; rw [List.isPrefixOf_iff_prefix]; exact List.prefix_append _ _
  have ht : Lib.trimPrefix (netW ++ netTxt N E S m xs) netW = netTxt N E S m xs := by unfold Lib.trimPrefix; rw [if_pos hp]; simp
  have h35 : ¬ (netW ++ netTxt N E S m xs = [] ∨ bnth (netW ++ netTxt N E S m xs) 0 = 35) := by
    intro h
    rcases h with h | h
    · simp [netW] at h
    · have : bnth (netW ++ netTxt N E S m xs) 0 = 110 := rfl
      rw [this] at h
      exact absurd h (by decide)
  unfold runL
  rw [if_neg h35, if_pos hp, ht, if_pos h1]
  exact ⟨rfl, rfl⟩
end Go.Proofs.YtagiecajffhnpaaGreat

namespace Go.Proofs.YtagiecajffhnpaaGreat

open Go.RowKit

def okWC (N : Int) (xs : List Int) (k : Nat) : Bool := decide (0 ≤ wa xs k) && (decide (wa xs k < wb xs k) && (decide (wb xs k < N) && (decide (1 ≤ ww xs k) && decide (ww xs k ≤ 200))))
def ordWC (xs : List Int) (j k : Nat) : Bool := decide (wa xs j < wa xs k) || (decide (wa xs j = wa xs k) && decide (wb xs j < wb xs k))
def netC (N E S : Int) (m : Nat) (xs : List Int) : Bool :=
  decide (1 ≤ N ∧ N ≤ 5) && (decide (1 ≤ E ∧ E ≤ N) && (decide (1 ≤ S ∧ S ≤ 1000) && ((List.range m).all (fun k => okWC N xs k && (decide (k = 0) || ordWC xs (k - 1) k)) && mconn N.toNat (prs xs m))))
theorem netC_p {N E S : Int} {m : Nat} {xs : List Int} : netC N E S m xs = true ↔ netP N E S m xs := by
  unfold netC netP
  simp only [Bool.and_eq_true, decide_eq_true_eq, List.all_eq_true, List.mem_range]
  constructor
  · rintro ⟨h1, h2, h3, h4, h5⟩
    refine ⟨h1, h2, h3, fun k hk => ?_, h5⟩
    obtain ⟨a, b⟩ := h4 k hk
    unfold okWC at a
    simp only [Bool.and_eq_true, decide_eq_true_eq] at a
    refine ⟨a, fun h0 => ?_⟩
    unfold ordWC at b
    simp only [Bool.or_eq_true, Bool.and_eq_true, decide_eq_true_eq] at b
    rcases b with b | b
    · omega
    · exact b
  · rintro ⟨h1, h2, h3, h4, h5⟩
    refine ⟨h1, h2, h3, fun k hk => ?_, h5⟩
    obtain ⟨a, b⟩ := h4 k hk
    unfold okW at a
    unfold okWC ordWC
    simp only [Bool.and_eq_true, Bool.or_eq_true, decide_eq_true_eq]
    refine ⟨a, ?_⟩
    by_cases h0 : k = 0
    · exact Or.inl h0
    · exact Or.inr (b (by omega))
theorem netB_eq (N E S : Int) (m : Nat) (xs : List Int) : netB N E S m xs = netC N E S m xs := by
  cases h : netC N E S m xs with
  | true => exact netB_true (netC_p.1 h)
  | false => exact netB_false (fun hp => by rw [netC_p.2 hp] at h; cases h)
end Go.Proofs.YtagiecajffhnpaaGreat

namespace Go.Proofs.YtagiecajffhnpaaGreat

open Go.RowKit

def sqCB (xs : List Int) (k : Nat) : Bool := decide (0 ≤ sx xs k) && decide (sx xs k ≤ 200) && decide (0 ≤ sy xs k) && decide (sy xs k ≤ 200) && decide (1 ≤ ss xs k) && decide (ss xs k ≤ 200)
def ordCB (xs : List Int) (j k : Nat) : Bool := decide (sy xs j < sy xs k) || (decide (sy xs j = sy xs k) && decide (sx xs j < sx xs k))
def overCB (xs : List Int) (a b : Nat) : Bool := decide (sx xs a < sx xs b + ss xs b) && decide (sx xs b < sx xs a + ss xs a) && decide (sy xs a < sy xs b + ss xs b) && decide (sy xs b < sy xs a + ss xs a)
def tileCB (n : Nat) (xs : List Int) : Bool :=
  decide (1 ≤ n) && decide (n ≤ 12) && (List.range n).all (fun k => sqCB xs k && (decide (k = 0) || ordCB xs (k - 1) k) && (List.range k).all (fun j => !overCB xs k j)) &&
    decide (minX xs n = 0) && decide (minY xs n = 0) && decide (areaSq xs n = rightSq xs n * lowSq xs n)
theorem tileC_p {n : Nat} {xs : List Int} (h : tileCB n xs = true) : tileP n xs := by
  simp only [tileCB, Bool.and_eq_true, decide_eq_true_eq, List.all_eq_true, List.mem_range, Bool.or_eq_true, Bool.not_eq_true'] at h
  obtain ⟨⟨⟨⟨⟨h1, h2⟩, h3⟩, h4⟩, h5⟩, h6⟩ := h
  refine ⟨h1, h2, fun k hk => ?_, h4, h5, h6⟩
  obtain ⟨⟨g1, g2⟩, g3⟩ := h3 k hk
  simp only [sqCB, Bool.and_eq_true, decide_eq_true_eq] at g1
  obtain ⟨⟨⟨⟨⟨a1, a2⟩, a3⟩, a4⟩, a5⟩, a6⟩ := g1
  refine ⟨⟨a1, a2, a3, a4, a5, a6⟩, fun hk0 => ?_, fun j hj ho => ?_⟩
  · rcases g2 with g2 | g2
    · omega
    · simp only [ordCB, Bool.or_eq_true, Bool.and_eq_true, decide_eq_true_eq] at g2
      exact g2
  · have := g3 j hj
    obtain ⟨o1, o2, o3, o4⟩ := ho
    have e : overCB xs k j = true := by simp only [overCB, Bool.and_eq_true, decide_eq_true_eq]; exact ⟨⟨⟨o1, o2⟩, o3⟩, o4⟩
    rw [e] at this
    cases this
end Go.Proofs.YtagiecajffhnpaaGreat

namespace Go.Proofs.YtagiecajffhnpaaGreat

open Go.RowKit

theorem flatW_one : ∀ {a b : List Wr}, flatW a = flatW b → a = b
  | [], [], _ => rfl
  | [], _ :: _, h => by simp [flatW] at h
  | _ :: _, [], h => by simp [flatW] at h
  | x :: a, y :: b, h => by
    simp only [flatW, List.cons.injEq] at h
    obtain ⟨h1, h2, h3, h4⟩ := h
    rw [flatW_one h4]
    cases x; cases y
    simp only at h1 h2 h3
    subst h1; subst h2; subst h3; rfl
theorem run_net {y : Nt} {N E S : Int} {L : List Wr} {ln : List UInt8} (hB : netC N E S L.length (flatW L) = true) (hl : ln = netW ++ netPart N E S (flatW L) L.length) : runL y ln = (⟨N, E, S, L⟩, [111, 107]) := by
  have hB' : netB N E S L.length (flatW L) = true := by rw [netB_eq]; exact hB
  have e : netTxt N E S L.length (flatW L) = netPart N E S (flatW L) L.length := by unfold netTxt; rw [if_pos hB']
  rw [hl, ← e]
  obtain ⟨h1, h2⟩ := runL_net (y := y) hB' (flatW_length L)
  obtain ⟨hp, p1, p2, p3, p4, p5⟩ := texts_net hB' (flatW_length L)
  generalize netTxt N E S L.length (flatW L) = t at *
  obtain ⟨w1, w2⟩ := pnN_w t
  have hw : (pnN t).wires = L := flatW_one (by rw [w2, p5])
  have hn : pnN t = ⟨N, E, S, L⟩ := by
    have k1 : (pnN t).nodes = N := p1
    have k2 : (pnN t).ends = E := p2
    have k3 : (pnN t).scale = S := p3
    cases hq : pnN t with
    | mk a b c d =>
      rw [hq] at k1 k2 k3 hw
      simp only at k1 k2 k3 hw
      subst k1; subst k2; subst k3; subst hw; rfl
  rw [hn] at h2
  exact Prod.ext h2 h1
theorem nums_map : ∀ (x : List Int), (∀ v ∈ x, in64 v) → allB (x.map fmtInt) = true ∧ numsR (x.map fmtInt) = x := by
  intro x hx
  have hk : ∀ i, i < (x.map fmtInt).length → pb (tnth (x.map fmtInt) i) = true ∧ pv (tnth (x.map fmtInt) i) = nth x i := fun i hi => by
    have hi' : i < x.length := by simpa using hi
    rw [tnth_eq _ _ hi, List.getElem_map, nth_eq _ _ hi']
    exact ⟨(p_some (hx _ (List.getElem_mem _)) rfl).2, (p_some (hx _ (List.getElem_mem _)) rfl).1⟩
  obtain ⟨h1, h2⟩ := all_t (fun i hi => (hk i hi).1)
  refine ⟨h1, ?_⟩
  rw [h2]
  refine nth_ext (by rw [nums_length]; simp) (fun j hj => ?_)
  rw [nums_length] at hj
  rw [nth_eq _ _ (by rw [nums_length]; exact hj)]
  simp only [nums, List.getElem_map, List.getElem_range]
  exact (hk j hj).2
/-- A line of a command and numbers. -/
theorem run_com {n e : Nat} {S : Int} {L : List Wr} {ln wd : List UInt8} (x : List Int) (hs : decide (0 < ln.length) && (!decide (bnth ln 0 = 35) && !Lib.hasPrefix ln netW) = true) (hp : pieces [32] ln = wd :: x.map fmtInt) (hx : ∀ v ∈ x, in64 v) :
    runL ⟨n, e, S, L⟩ ln = (match chR n e S L wd x with
      | some (true, z) => (z, netTxt z.nodes z.ends z.scale z.wires.length (flatW z.wires))
      | some (false, _) => (⟨n, e, S, L⟩, [110, 111, 110, 101])
      | none => (⟨n, e, S, L⟩, shR n e S L wd x)) := by
  simp only [Bool.and_eq_true, decide_eq_true_eq, Bool.not_eq_true', decide_eq_false_iff_not] at hs
  obtain ⟨s1, s2, s3⟩ := hs
  obtain ⟨a1, a2⟩ := nums_map x hx
  unfold runL
  rw [if_neg (fun h => h.elim (fun h0 => by rw [h0] at s1; simp at s1) s2), s3, if_neg (by simp), hp, List.tail_cons, a1, if_pos rfl, a2]
  rfl
theorem run_chg {n e : Nat} {S : Int} {L : List Wr} {ln wd : List UInt8} {x : List Int} {z : Nt} (hs : decide (0 < ln.length) && (!decide (bnth ln 0 = 35) && !Lib.hasPrefix ln netW) = true) (hp : pieces [32] ln = wd :: x.map fmtInt) (hx : ∀ v ∈ x, in64 v) (h : chR n e S L wd x = some (true, z)) (hz : netC z.nodes z.ends z.scale z.wires.length (flatW z.wires) = true) :
    runL ⟨n, e, S, L⟩ ln = (z, netPart z.nodes z.ends z.scale (flatW z.wires) z.wires.length) := by
  rw [run_com x hs hp hx, h]
  simp only
  unfold netTxt
  rw [netB_eq, hz, if_pos rfl]
theorem run_non {n e : Nat} {S : Int} {L : List Wr} {ln wd : List UInt8} {x : List Int} {z : Nt} (hs : decide (0 < ln.length) && (!decide (bnth ln 0 = 35) && !Lib.hasPrefix ln netW) = true) (hp : pieces [32] ln = wd :: x.map fmtInt) (hx : ∀ v ∈ x, in64 v) (h : chR n e S L wd x = some (false, z)) :
    runL ⟨n, e, S, L⟩ ln = (⟨n, e, S, L⟩, [110, 111, 110, 101]) := by
  rw [run_com x hs hp hx, h]
theorem run_shw {n e : Nat} {S : Int} {L : List Wr} {ln wd : List UInt8} {x : List Int} {t : List UInt8} (hs : decide (0 < ln.length) && (!decide (bnth ln 0 = 35) && !Lib.hasPrefix ln netW) = true) (hp : pieces [32] ln = wd :: x.map fmtInt) (hx : ∀ v ∈ x, in64 v) (h : chR n e S L wd x = none) (ht : shR n e S L wd x = t) :
    runL ⟨n, e, S, L⟩ ln = (⟨n, e, S, L⟩, t) := by
  rw [run_com x hs hp hx, h, ht]
/-- Reducing, as a test that runs. -/
def redBC (n : Nat) (E S : Int) (L : List Wr) (v : Nat) : Bool := netC ((n - 1 : Nat) : Int) E (redS n S L v) (redL n S L v).length (flatW (redL n S L v))
theorem redB_eq (n : Nat) (E S : Int) (L : List Wr) (v : Nat) : redB n E S L v = redBC n E S L v := by unfold redB redBC; rw [netB_eq]
def redNC (e : Nat) (x : NwR) : Option NwR :=
  if redV e x < 0 then none else if redBC x.n e x.s x.l (redV e x).toNat = true then some ⟨x.n - 1, redS x.n x.s x.l (redV e x).toNat, redL x.n x.s x.l (redV e x).toNat⟩ else none
theorem redN_eq (e : Nat) (x : NwR) : redN e x = redNC e x := by unfold redN redNC; rw [redB_eq]
def redKC (e : Nat) (x : NwR) : Nat → Option NwR
  | 0 => some x
  | k + 1 => (redKC e x k).bind (redNC e)
theorem redK_eq (e : Nat) (x : NwR) : ∀ k, redK e x k = redKC e x k
  | 0 => rfl
  | k + 1 => by
    simp only [redK, redKC]
    rw [redK_eq e x k]
    congr 1
    exact funext (redN_eq e)
def redFC (e : Nat) (x : NwR) : Nat → NwR
  | 0 => x
  | k + 1 => match redKC e x (k + 1) with
    | some y => y
    | none => redFC e x k
theorem redF_eqC (e : Nat) (x : NwR) : ∀ k, redF e x k = redFC e x k
  | 0 => rfl
  | k + 1 => by
    simp only [redF, redFC]
    rw [redK_eq, redF_eqC e x k]
    rfl
def fltC (n e : Nat) (S : Int) (m : Nat) (xs : List Int) (i : Nat) (x : Int) : Bool :=
  !(x == nth xs (i * 3 + 2)) && (decide (putG n (nth xs (i * 3)) (nth xs (i * 3 + 1)) x) && netC n e S (putM n m xs (nth xs (i * 3)) (nth xs (i * 3 + 1)) x).length (flatW (putM n m xs (nth xs (i * 3)) (nth xs (i * 3 + 1)) x)))
theorem fltB_eq (n e : Nat) (S : Int) (m : Nat) (xs : List Int) : fltB n e S m xs = fltC n e S m xs := by
  funext i x
  unfold fltB fltC putB
  rw [netB_eq]
theorem conf_netA (y : Nt) : runL y [110, 101, 116, 32, 51, 47, 50, 47, 49, 58, 32, 48, 45, 50, 61, 49, 32, 49, 45, 50, 61, 50] = ((⟨3, 2, 1, [⟨0, 2, 1⟩, ⟨1, 2, 2⟩]⟩ : Nt), [111, 107]) := run_net (N := 3) (E := 2) (S := 1) (L := [⟨0, 2, 1⟩, ⟨1, 2, 2⟩]) (by decide +kernel) (by decide +kernel)
theorem conf_netC (y : Nt) : runL y [110, 101, 116, 32, 51, 47, 51, 47, 49, 58, 32, 48, 45, 49, 61, 49, 32, 48, 45, 50, 61, 50, 32, 49, 45, 50, 61, 51] = ((⟨3, 3, 1, [⟨0, 1, 1⟩, ⟨0, 2, 2⟩, ⟨1, 2, 3⟩]⟩ : Nt), [111, 107]) := run_net (N := 3) (E := 3) (S := 1) (L := [⟨0, 1, 1⟩, ⟨0, 2, 2⟩, ⟨1, 2, 3⟩]) (by decide +kernel) (by decide +kernel)
theorem conf_resist : runL (⟨3, 2, 1, [⟨0, 2, 1⟩, ⟨1, 2, 2⟩]⟩ : Nt) [114, 101, 115, 105, 115, 116, 32, 48, 32, 49] = ((⟨3, 2, 1, [⟨0, 2, 1⟩, ⟨1, 2, 2⟩]⟩ : Nt), [114, 101, 115, 105, 115, 116, 97, 110, 99, 101, 32, 51, 47, 50, 32, 116, 114, 101, 101, 115, 32, 50]) :=
  run_shw (wd := wResist) (x := [0, 1]) (by decide +kernel) (by decide +kernel) (by intro v hv; simp only [List.mem_cons, List.not_mem_nil, or_false] at hv; unfold in64; omega) (by
  unfold chR
  rw [if_neg (by decide), if_neg (by decide), if_neg (by decide), if_neg (by decide), if_neg (by decide), if_neg (by decide), if_neg (by decide), if_neg (by decide), if_neg (by decide)]) (by
  unfold shR
  rw [if_neg (by decide), if_neg (by decide), if_pos (by decide)]
  simp only [resLine, node2B, resR, grdR, forV, treeV, netB_eq]
  decide +kernel)
theorem conf_volts : runL (⟨3, 2, 1, [⟨0, 2, 1⟩, ⟨1, 2, 2⟩]⟩ : Nt) [118, 111, 108, 116, 115, 32, 48, 32, 49] = ((⟨3, 2, 1, [⟨0, 2, 1⟩, ⟨1, 2, 2⟩]⟩ : Nt), [51, 47, 50, 32, 48, 32, 49, 47, 50]) :=
  run_shw (wd := wVolts) (x := [0, 1]) (by decide +kernel) (by decide +kernel) (by intro v hv; simp only [List.mem_cons, List.not_mem_nil, or_false] at hv; unfold in64; omega) (by
  unfold chR
  rw [if_neg (by decide), if_neg (by decide), if_neg (by decide), if_neg (by decide), if_neg (by decide), if_neg (by decide), if_neg (by decide), if_neg (by decide), if_neg (by decide)]) (by
  unfold shR
  rw [if_neg (by decide), if_neg (by decide), if_neg (by decide), if_pos (by decide)]
  simp only [potLine, difB, Int.toNat_natCast, potL, potQ, potP, forV, treeV, netB_eq]
  decide +kernel)
theorem conf_reduce : runL (⟨3, 2, 1, [⟨0, 2, 1⟩, ⟨1, 2, 2⟩]⟩ : Nt) [114, 101, 100, 117, 99, 101] = ((⟨2, 2, 3, [⟨0, 1, 2⟩]⟩ : Nt), [50, 47, 50, 47, 51, 58, 32, 48, 45, 49, 61, 50]) := by
  have h := run_chg (n := 3) (e := 2) (S := 1) (L := [⟨0, 2, 1⟩, ⟨1, 2, 2⟩]) (ln := [114, 101, 100, 117, 99, 101]) (wd := wReduce) (x := []) (z := (⟨2, 2, 3, [⟨0, 1, 2⟩]⟩ : Nt)) (by decide +kernel) (by decide +kernel) (by intro v hv; simp at hv) (by
    unfold chR
    rw [if_neg (by decide), if_neg (by decide), if_neg (by decide), if_neg (by decide), if_neg (by decide), if_neg (by decide), if_neg (by decide), if_pos (by decide)]
    rw [redF_eqC]
    decide +kernel) (by decide +kernel)
  refine h.trans (congrArg (Prod.mk _) ?_)
  decide +kernel
theorem conf_ladder : runL (⟨2, 2, 3, [⟨0, 1, 2⟩]⟩ : Nt) [108, 97, 100, 100, 101, 114, 32, 55, 32, 53] = ((⟨2, 2, 3, [⟨0, 1, 2⟩]⟩ : Nt), [49, 32, 50, 32, 50]) :=
  run_shw (wd := wLadder) (x := [7, 5]) (by decide +kernel) (by decide +kernel) (by intro v hv; simp only [List.mem_cons, List.not_mem_nil, or_false] at hv; unfold in64; omega) (by
  unfold chR
  rw [if_neg (by decide), if_neg (by decide), if_neg (by decide), if_neg (by decide), if_neg (by decide), if_neg (by decide), if_neg (by decide), if_neg (by decide), if_neg (by decide)]) (by
  unfold shR
  rw [if_neg (by decide), if_neg (by decide), if_neg (by decide), if_neg (by decide), if_neg (by decide), if_neg (by decide), if_neg (by decide), if_neg (by decide), if_neg (by decide), if_pos (by decide)]
  decide +kernel)
theorem conf_cut : runL (⟨2, 2, 3, [⟨0, 1, 2⟩]⟩ : Nt) [99, 117, 116, 32, 53, 32, 51] = ((⟨2, 2, 3, [⟨0, 1, 2⟩]⟩ : Nt), [53, 32, 120, 32, 51, 32, 51, 64, 48, 44, 48, 32, 50, 64, 51, 44, 48, 32, 49, 64, 51, 44, 50, 32, 49, 64, 52, 44, 50]) :=
  run_shw (wd := wCut) (x := [5, 3]) (by decide +kernel) (by decide +kernel) (by intro v hv; simp only [List.mem_cons, List.not_mem_nil, or_false] at hv; unfold in64; omega) (by
  unfold chR
  rw [if_neg (by decide), if_neg (by decide), if_neg (by decide), if_neg (by decide), if_neg (by decide), if_neg (by decide), if_neg (by decide), if_neg (by decide), if_neg (by decide)]) (by
  unfold shR
  rw [if_neg (by decide), if_neg (by decide), if_neg (by decide), if_neg (by decide), if_neg (by decide), if_neg (by decide), if_neg (by decide), if_neg (by decide), if_neg (by decide), if_neg (by decide), if_pos (by decide)]
  have hc : cutO (nth [5, 3] 0) (nth [5, 3] 1) = some 4 := by decide +kernel
  rw [hc]
  simp only
  have ht : tileB 4 (cutX (nth [5, 3] 0).toNat (nth [5, 3] 1).toNat 4) = true := tileB_true (tileC_p (by decide +kernel))
  unfold tileLine
  rw [ht, if_pos rfl]
  decide +kernel)
theorem conf_star : runL (⟨3, 3, 1, [⟨0, 1, 1⟩, ⟨0, 2, 2⟩, ⟨1, 2, 3⟩]⟩ : Nt) [115, 116, 97, 114, 32, 48, 32, 49, 32, 50] = ((⟨4, 3, 6, [⟨0, 3, 22⟩, ⟨1, 3, 33⟩, ⟨2, 3, 66⟩]⟩ : Nt), [52, 47, 51, 47, 54, 58, 32, 48, 45, 51, 61, 50, 50, 32, 49, 45, 51, 61, 51, 51, 32, 50, 45, 51, 61, 54, 54]) := by
  have h := run_chg (n := 3) (e := 3) (S := 1) (L := [⟨0, 1, 1⟩, ⟨0, 2, 2⟩, ⟨1, 2, 3⟩]) (ln := [115, 116, 97, 114, 32, 48, 32, 49, 32, 50]) (wd := wStar) (x := [0, 1, 2]) (z := (⟨4, 3, 6, [⟨0, 3, 22⟩, ⟨1, 3, 33⟩, ⟨2, 3, 66⟩]⟩ : Nt)) (by decide +kernel) (by decide +kernel) (by intro v hv; simp only [List.mem_cons, List.not_mem_nil, or_false] at hv; unfold in64; omega) (by
    unfold chR
    rw [if_neg (by decide), if_neg (by decide), if_neg (by decide), if_neg (by decide), if_neg (by decide), if_pos (by decide)]
    simp only [trB, netB_eq]
    decide +kernel) (by decide +kernel)
  refine h.trans (congrArg (Prod.mk _) ?_)
  decide +kernel
theorem conf_mesh : runL (⟨4, 3, 6, [⟨0, 3, 22⟩, ⟨1, 3, 33⟩, ⟨2, 3, 66⟩]⟩ : Nt) [109, 101, 115, 104, 32, 51] = ((⟨3, 3, 1, [⟨0, 1, 1⟩, ⟨0, 2, 2⟩, ⟨1, 2, 3⟩]⟩ : Nt), [51, 47, 51, 47, 49, 58, 32, 48, 45, 49, 61, 49, 32, 48, 45, 50, 61, 50, 32, 49, 45, 50, 61, 51]) := by
  have h := run_chg (n := 4) (e := 3) (S := 6) (L := [⟨0, 3, 22⟩, ⟨1, 3, 33⟩, ⟨2, 3, 66⟩]) (ln := [109, 101, 115, 104, 32, 51]) (wd := wMesh) (x := [3]) (z := (⟨3, 3, 1, [⟨0, 1, 1⟩, ⟨0, 2, 2⟩, ⟨1, 2, 3⟩]⟩ : Nt)) (by decide +kernel) (by decide +kernel) (by intro v hv; simp only [List.mem_cons, List.not_mem_nil, or_false] at hv; unfold in64; omega) (by
    unfold chR
    rw [if_neg (by decide), if_neg (by decide), if_neg (by decide), if_neg (by decide), if_pos (by decide)]
    simp only [starB, redB_eq]
    decide +kernel) (by decide +kernel)
  refine h.trans (congrArg (Prod.mk _) ?_)
  decide +kernel
theorem conf_commute : runL (⟨3, 3, 1, [⟨0, 1, 1⟩, ⟨0, 2, 2⟩, ⟨1, 2, 3⟩]⟩ : Nt) [99, 111, 109, 109, 117, 116, 101, 32, 48, 32, 49] = ((⟨3, 3, 1, [⟨0, 1, 1⟩, ⟨0, 2, 2⟩, ⟨1, 2, 3⟩]⟩ : Nt), [54, 48, 47, 49, 49]) :=
  run_shw (wd := wCommute) (x := [0, 1]) (by decide +kernel) (by decide +kernel) (by intro v hv; simp only [List.mem_cons, List.not_mem_nil, or_false] at hv; unfold in64; omega) (by
  unfold chR
  rw [if_neg (by decide), if_neg (by decide), if_neg (by decide), if_neg (by decide), if_neg (by decide), if_neg (by decide), if_neg (by decide), if_neg (by decide), if_neg (by decide)]) (by
  unfold shR
  rw [if_neg (by decide), if_neg (by decide), if_neg (by decide), if_neg (by decide), if_neg (by decide), if_neg (by decide), if_pos (by decide)]
  simp only [comR, node2B, grdR, forV, treeV, netB_eq]
  decide +kernel)
theorem conf_hidden : runL (⟨3, 3, 1, [⟨0, 1, 1⟩, ⟨0, 2, 2⟩, ⟨1, 2, 3⟩]⟩ : Nt) [104, 105, 100, 100, 101, 110] = ((⟨3, 3, 1, [⟨0, 1, 1⟩, ⟨0, 2, 2⟩, ⟨1, 2, 3⟩]⟩ : Nt), [110, 111, 110, 101]) :=
  run_shw (wd := wHidden) (x := []) (by decide +kernel) (by decide +kernel) (by intro v hv; simp at hv) (by
  unfold chR
  rw [if_neg (by decide), if_neg (by decide), if_neg (by decide), if_neg (by decide), if_neg (by decide), if_neg (by decide), if_neg (by decide), if_neg (by decide), if_neg (by decide)]) (by
  unfold shR
  rw [if_neg (by decide), if_neg (by decide), if_neg (by decide), if_neg (by decide), if_neg (by decide), if_neg (by decide), if_neg (by decide), if_pos (by decide)]
  simp only [likeL, fltB_eq]
  decide +kernel)
theorem conf_blind : runL (⟨3, 3, 1, [⟨0, 1, 1⟩, ⟨0, 2, 2⟩, ⟨1, 2, 3⟩]⟩ : Nt) [98, 108, 105, 110, 100] = ((⟨3, 3, 1, [⟨0, 1, 1⟩, ⟨0, 2, 2⟩, ⟨1, 2, 3⟩]⟩ : Nt), [110, 111, 110, 101]) :=
  run_shw (wd := wBlind) (x := []) (by decide +kernel) (by decide +kernel) (by intro v hv; simp at hv) (by
  unfold chR
  rw [if_neg (by decide), if_neg (by decide), if_neg (by decide), if_neg (by decide), if_neg (by decide), if_neg (by decide), if_neg (by decide), if_neg (by decide), if_neg (by decide)]) (by
  unfold shR
  rw [if_neg (by decide), if_neg (by decide), if_neg (by decide), if_neg (by decide), if_neg (by decide), if_neg (by decide), if_neg (by decide), if_neg (by decide), if_pos (by decide)]
  decide +kernel)
theorem conf_put : runL (⟨3, 3, 1, [⟨0, 1, 1⟩, ⟨0, 2, 2⟩, ⟨1, 2, 3⟩]⟩ : Nt) [112, 117, 116, 32, 48, 32, 57, 32, 49] = ((⟨3, 3, 1, [⟨0, 1, 1⟩, ⟨0, 2, 2⟩, ⟨1, 2, 3⟩]⟩ : Nt), [110, 111, 110, 101]) := by
  refine run_non (n := 3) (e := 3) (S := 1) (L := [⟨0, 1, 1⟩, ⟨0, 2, 2⟩, ⟨1, 2, 3⟩]) (wd := wPut) (x := [0, 9, 1]) (by decide +kernel) (by decide +kernel) (by intro v hv; simp only [List.mem_cons, List.not_mem_nil, or_false] at hv; unfold in64; omega) (z := oNet false 3 3 1 (putM 3 3 [0, 1, 1, 0, 2, 2, 1, 2, 3] 0 9 1)) ?_
  unfold chR
  rw [if_pos (by decide)]
  have hb : putB 3 ((3 : Nat) : Int) 1 3 [0, 1, 1, 0, 2, 2, 1, 2, 3] 0 9 1 = false := putB_f (by decide)
  exact congrArg (fun q => some (q, oNet q 3 3 1 (putM 3 3 [0, 1, 1, 0, 2, 2, 1, 2, 3] 0 9 1))) hb
theorem conf_feed1 : runL (⟨3, 2, 1, [⟨0, 2, 1⟩, ⟨1, 2, 2⟩]⟩ : Nt) [102, 101, 101, 100, 32, 51, 32, 48] = ((⟨3, 2, 1, [⟨0, 2, 1⟩, ⟨1, 2, 2⟩]⟩ : Nt), [50, 32, 45, 50]) :=
  run_shw (wd := wFeed) (x := [3, 0]) (by decide +kernel) (by decide +kernel) (by intro v hv; simp only [List.mem_cons, List.not_mem_nil, or_false] at hv; unfold in64; omega) (by
  unfold chR
  rw [if_neg (by decide), if_neg (by decide), if_neg (by decide), if_neg (by decide), if_neg (by decide), if_neg (by decide), if_neg (by decide), if_neg (by decide), if_neg (by decide)]) (by
  unfold shR
  rw [if_pos rfl]
  decide +kernel)
theorem conf_feed2 : runL (⟨3, 2, 1, [⟨0, 2, 1⟩, ⟨1, 2, 2⟩]⟩ : Nt) [102, 101, 101, 100, 32, 54, 32, 48] = ((⟨3, 2, 1, [⟨0, 2, 1⟩, ⟨1, 2, 2⟩]⟩ : Nt), [52, 32, 45, 52]) :=
  run_shw (wd := wFeed) (x := [6, 0]) (by decide +kernel) (by decide +kernel) (by intro v hv; simp only [List.mem_cons, List.not_mem_nil, or_false] at hv; unfold in64; omega) (by
  unfold chR
  rw [if_neg (by decide), if_neg (by decide), if_neg (by decide), if_neg (by decide), if_neg (by decide), if_neg (by decide), if_neg (by decide), if_neg (by decide), if_neg (by decide)]) (by
  unfold shR
  rw [if_pos rfl]
  decide +kernel)
theorem conf_feed3 : runL (⟨3, 2, 1, [⟨0, 2, 1⟩, ⟨1, 2, 2⟩]⟩ : Nt) [102, 101, 101, 100, 32, 57, 32, 48] = ((⟨3, 2, 1, [⟨0, 2, 1⟩, ⟨1, 2, 2⟩]⟩ : Nt), [54, 32, 45, 54]) :=
  run_shw (wd := wFeed) (x := [9, 0]) (by decide +kernel) (by decide +kernel) (by intro v hv; simp only [List.mem_cons, List.not_mem_nil, or_false] at hv; unfold in64; omega) (by
  unfold chR
  rw [if_neg (by decide), if_neg (by decide), if_neg (by decide), if_neg (by decide), if_neg (by decide), if_neg (by decide), if_neg (by decide), if_neg (by decide), if_neg (by decide)]) (by
  unfold shR
  rw [if_pos rfl]
  decide +kernel)
theorem conf_feed4 : runL (⟨3, 2, 1, [⟨0, 2, 1⟩, ⟨1, 2, 2⟩]⟩ : Nt) [102, 101, 101, 100, 32, 49, 50, 32, 48] = ((⟨3, 2, 1, [⟨0, 2, 1⟩, ⟨1, 2, 2⟩]⟩ : Nt), [56, 32, 45, 56]) :=
  run_shw (wd := wFeed) (x := [12, 0]) (by decide +kernel) (by decide +kernel) (by intro v hv; simp only [List.mem_cons, List.not_mem_nil, or_false] at hv; unfold in64; omega) (by
  unfold chR
  rw [if_neg (by decide), if_neg (by decide), if_neg (by decide), if_neg (by decide), if_neg (by decide), if_neg (by decide), if_neg (by decide), if_neg (by decide), if_neg (by decide)]) (by
  unfold shR
  rw [if_pos rfl]
  decide +kernel)
theorem conf_feed5 : runL (⟨3, 2, 1, [⟨0, 2, 1⟩, ⟨1, 2, 2⟩]⟩ : Nt) [102, 101, 101, 100, 32, 49, 53, 32, 48] = ((⟨3, 2, 1, [⟨0, 2, 1⟩, ⟨1, 2, 2⟩]⟩ : Nt), [49, 48, 32, 45, 49, 48]) :=
  run_shw (wd := wFeed) (x := [15, 0]) (by decide +kernel) (by decide +kernel) (by intro v hv; simp only [List.mem_cons, List.not_mem_nil, or_false] at hv; unfold in64; omega) (by
  unfold chR
  rw [if_neg (by decide), if_neg (by decide), if_neg (by decide), if_neg (by decide), if_neg (by decide), if_neg (by decide), if_neg (by decide), if_neg (by decide), if_neg (by decide)]) (by
  unfold shR
  rw [if_pos rfl]
  decide +kernel)
theorem conf_feed6 : runL (⟨3, 2, 1, [⟨0, 2, 1⟩, ⟨1, 2, 2⟩]⟩ : Nt) [102, 101, 101, 100, 32, 49, 56, 32, 48] = ((⟨3, 2, 1, [⟨0, 2, 1⟩, ⟨1, 2, 2⟩]⟩ : Nt), [49, 50, 32, 45, 49, 50]) :=
  run_shw (wd := wFeed) (x := [18, 0]) (by decide +kernel) (by decide +kernel) (by intro v hv; simp only [List.mem_cons, List.not_mem_nil, or_false] at hv; unfold in64; omega) (by
  unfold chR
  rw [if_neg (by decide), if_neg (by decide), if_neg (by decide), if_neg (by decide), if_neg (by decide), if_neg (by decide), if_neg (by decide), if_neg (by decide), if_neg (by decide)]) (by
  unfold shR
  rw [if_pos rfl]
  decide +kernel)
theorem conf_feed7 : runL (⟨3, 2, 1, [⟨0, 2, 1⟩, ⟨1, 2, 2⟩]⟩ : Nt) [102, 101, 101, 100, 32, 50, 49, 32, 48] = ((⟨3, 2, 1, [⟨0, 2, 1⟩, ⟨1, 2, 2⟩]⟩ : Nt), [49, 52, 32, 45, 49, 52]) :=
  run_shw (wd := wFeed) (x := [21, 0]) (by decide +kernel) (by decide +kernel) (by intro v hv; simp only [List.mem_cons, List.not_mem_nil, or_false] at hv; unfold in64; omega) (by
  unfold chR
  rw [if_neg (by decide), if_neg (by decide), if_neg (by decide), if_neg (by decide), if_neg (by decide), if_neg (by decide), if_neg (by decide), if_neg (by decide), if_neg (by decide)]) (by
  unfold shR
  rw [if_pos rfl]
  decide +kernel)
theorem conf_feed8 : runL (⟨3, 2, 1, [⟨0, 2, 1⟩, ⟨1, 2, 2⟩]⟩ : Nt) [102, 101, 101, 100, 32, 50, 52, 32, 48] = ((⟨3, 2, 1, [⟨0, 2, 1⟩, ⟨1, 2, 2⟩]⟩ : Nt), [49, 54, 32, 45, 49, 54]) :=
  run_shw (wd := wFeed) (x := [24, 0]) (by decide +kernel) (by decide +kernel) (by intro v hv; simp only [List.mem_cons, List.not_mem_nil, or_false] at hv; unfold in64; omega) (by
  unfold chR
  rw [if_neg (by decide), if_neg (by decide), if_neg (by decide), if_neg (by decide), if_neg (by decide), if_neg (by decide), if_neg (by decide), if_neg (by decide), if_neg (by decide)]) (by
  unfold shR
  rw [if_pos rfl]
  decide +kernel)
theorem conf_feed9 : runL (⟨3, 2, 1, [⟨0, 2, 1⟩, ⟨1, 2, 2⟩]⟩ : Nt) [102, 101, 101, 100, 32, 50, 55, 32, 48] = ((⟨3, 2, 1, [⟨0, 2, 1⟩, ⟨1, 2, 2⟩]⟩ : Nt), [49, 56, 32, 45, 49, 56]) :=
  run_shw (wd := wFeed) (x := [27, 0]) (by decide +kernel) (by decide +kernel) (by intro v hv; simp only [List.mem_cons, List.not_mem_nil, or_false] at hv; unfold in64; omega) (by
  unfold chR
  rw [if_neg (by decide), if_neg (by decide), if_neg (by decide), if_neg (by decide), if_neg (by decide), if_neg (by decide), if_neg (by decide), if_neg (by decide), if_neg (by decide)]) (by
  unfold shR
  rw [if_pos rfl]
  decide +kernel)
def confP1 : List UInt8 := [110, 101, 116, 32, 51, 47, 50, 47, 49, 58, 32, 48, 45, 50, 61, 49, 32, 49, 45, 50, 61, 50, 10, 114, 101, 115, 105, 115, 116, 32, 48, 32, 49, 10, 118, 111, 108, 116, 115, 32, 48, 32, 49, 10, 102, 101, 101, 100, 32]
def confP2 : List UInt8 := [32, 48, 10, 114, 101, 100, 117, 99, 101, 10, 108, 97, 100, 100, 101, 114, 32, 55, 32, 53, 10, 99, 117, 116, 32, 53, 32, 51, 10, 110, 101, 116, 32, 51, 47, 51, 47, 49, 58, 32, 48, 45, 49, 61, 49, 32, 48, 45, 50, 61, 50, 32, 49, 45, 50, 61, 51, 10, 115, 116, 97, 114, 32, 48, 32, 49, 32, 50, 10, 109, 101, 115, 104, 32, 51, 10, 99, 111, 109, 109, 117, 116, 101, 32, 48, 32, 49, 10, 104, 105, 100, 100, 101, 110, 10, 98, 108, 105, 110, 100, 10, 112, 117, 116, 32, 48, 32, 57, 32, 49]
def confL (k : List UInt8) : List (List UInt8) := [[110, 101, 116, 32, 51, 47, 50, 47, 49, 58, 32, 48, 45, 50, 61, 49, 32, 49, 45, 50, 61, 50], [114, 101, 115, 105, 115, 116, 32, 48, 32, 49], [118, 111, 108, 116, 115, 32, 48, 32, 49], [102, 101, 101, 100, 32] ++ (k ++ [32, 48]), [114, 101, 100, 117, 99, 101], [108, 97, 100, 100, 101, 114, 32, 55, 32, 53], [99, 117, 116, 32, 53, 32, 51], [110, 101, 116, 32, 51, 47, 51, 47, 49, 58, 32, 48, 45, 49, 61, 49, 32, 48, 45, 50, 61, 50, 32, 49, 45, 50, 61, 51], [115, 116, 97, 114, 32, 48, 32, 49, 32, 50], [109, 101, 115, 104, 32, 51], [99, 111, 109, 109, 117, 116, 101, 32, 48, 32, 49], [104, 105, 100, 100, 101, 110], [98, 108, 105, 110, 100], [112, 117, 116, 32, 48, 32, 57, 32, 49]]
def confT (c : List UInt8) : List (List UInt8) := [[111, 107], [114, 101, 115, 105, 115, 116, 97, 110, 99, 101, 32, 51, 47, 50, 32, 116, 114, 101, 101, 115, 32, 50], [51, 47, 50, 32, 48, 32, 49, 47, 50], c ++ ([32, 45] ++ c), [50, 47, 50, 47, 51, 58, 32, 48, 45, 49, 61, 50], [49, 32, 50, 32, 50], [53, 32, 120, 32, 51, 32, 51, 64, 48, 44, 48, 32, 50, 64, 51, 44, 48, 32, 49, 64, 51, 44, 50, 32, 49, 64, 52, 44, 50], [111, 107], [52, 47, 51, 47, 54, 58, 32, 48, 45, 51, 61, 50, 50, 32, 49, 45, 51, 61, 51, 51, 32, 50, 45, 51, 61, 54, 54], [51, 47, 51, 47, 49, 58, 32, 48, 45, 49, 61, 49, 32, 48, 45, 50, 61, 50, 32, 49, 45, 50, 61, 51], [54, 48, 47, 49, 49], [110, 111, 110, 101], [110, 111, 110, 101], [110, 111, 110, 101]]
theorem sesK_step {l : List (List UInt8)} {k : Nat} {y y' : Nt} {T t : List UInt8} (h : sesK l k = (y, T)) (hr : runL y (tnth l k) = (y', t)) (ht : ¬ t = []) : sesK l (k + 1) = (y', T ++ (t ++ [10])) := by
  simp only [sesK]
  rw [h]
  simp only
  rw [hr, if_neg ht]
def noTen (l : List (List UInt8)) : Bool := l.all (fun x => decide (x.length ≤ 1000) && !x.contains 10)
theorem noTen_p {l : List (List UInt8)} (h : noTen l = true) : ∀ x ∈ l, x.length ≤ 1000 ∧ ∀ z ∈ x, ¬ z ∈ [(10 : UInt8)] := fun x hx => by
  unfold noTen at h
  have h2 := List.all_eq_true.1 h x hx
  simp only [Bool.and_eq_true, decide_eq_true_eq, Bool.not_eq_true'] at h2
  refine ⟨h2.1, fun z hz hz10 => ?_⟩
  simp only [List.mem_cons, List.not_mem_nil, or_false] at hz10
  subst hz10
  have := h2.2
  rw [List.contains_eq_mem] at this
  simp [hz] at this
theorem linesOf_full {l : List (List UInt8)} {s : List UInt8} (hs : s = Lib.join l [10]) (h0 : 0 < l.length) (hn : noTen l = true) (hl : ¬ tnth l (l.length - 1) = []) : linesOf s = l := by
  rw [hs, linesOf_join h0 (fun x hx => (noTen_p hn x hx).2), if_neg hl]
theorem linesOf_ended {l : List (List UInt8)} {s : List UInt8} (hs : s = Lib.join (l ++ [[]]) [10]) (hn : noTen (l ++ [[]]) = true) : linesOf s = l := by
  rw [hs, linesOf_join (by simp) (fun x hx => (noTen_p hn x hx).2)]
  have e : tnth (l ++ [[]]) ((l ++ [[]]).length - 1) = [] := by simp [tnth]
  rw [e, if_pos rfl]
  simp
theorem fine_feed {s : List UInt8} {k : Int} (hp : pieces [32] s = wFeed :: [k, 0].map fmtInt) (hk : 0 ≤ k ∧ k ≤ 100) (e : Nat) : fdFine s e := fun _ hl => by
  have hn := (nums_map [k, 0] (fun v hv => by simp only [List.mem_cons, List.not_mem_nil, or_false] at hv; unfold in64; omega)).2
  rw [hp, List.tail_cons, hn] at hl ⊢
  intro j hj
  have he : e = 2 := by simp at hl; omega
  subst he
  have hjj : j = 0 ∨ j = 1 := by omega
  rcases hjj with rfl | rfl
  · have : nth [k, 0] 0 = k := rfl
    omega
  · have : nth [k, 0] 1 = 0 := rfl
    omega
theorem fine_other {s : List UInt8} (h : ¬ tnth (pieces [32] s) 0 = wFeed) (e : Nat) : fdFine s e := fun hw _ => absurd hw h
/-- What is known of the session for one a. -/
structure ConfOk (a : Int) : Prop where
  small : (confP1 ++ (fmtInt (3 * a) ++ confP2)).length ≤ 1048576
  lines : linesOf (confP1 ++ (fmtInt (3 * a) ++ confP2)) = confL (fmtInt (3 * a))
  good : sesGood (confL (fmtInt (3 * a)))
  out : (sesK (confL (fmtInt (3 * a))) 14).2.length ≤ 1048576 ∧ linesOf (sesK (confL (fmtInt (3 * a))) 14).2 = confT (fmtInt (2 * a))
def confS (c : List UInt8) : List UInt8 := (confT c).foldl (fun T t => T ++ (t ++ [10])) []
theorem confOk_of {a : Int} {k c : List UInt8} (hk : fmtInt (3 * a) = k) (hc : fmtInt (2 * a) = c) (h0 : 0 ≤ 3 * a ∧ 3 * a ≤ 100) (hf : runL (⟨3, 2, 1, [⟨0, 2, 1⟩, ⟨1, 2, 2⟩]⟩ : Nt) ([102, 101, 101, 100, 32] ++ (k ++ [32, 48])) = ((⟨3, 2, 1, [⟨0, 2, 1⟩, ⟨1, 2, 2⟩]⟩ : Nt), c ++ ([32, 45] ++ c))) (_ : ¬ c = [])
    (hz : decide (k.length ≤ 100) && decide ((confS c).length ≤ 1000000) && (noTen (confL k) && noTen (confT c ++ [[]])) = true) (hj : confP1 ++ (k ++ confP2) = Lib.join (confL k) [10]) (hJ : confS c = Lib.join (confT c ++ [[]]) [10])
    (hp : pieces [32] ([102, 101, 101, 100, 32] ++ (k ++ [32, 48])) = wFeed :: [3 * a, 0].map fmtInt) : ConfOk a := by
  simp only [Bool.and_eq_true, decide_eq_true_eq] at hz
  obtain ⟨⟨hl, hl2⟩, hn, hn2⟩ := hz
  have s0 : sesK (confL k) 0 = (newN, []) := rfl
  have s1 := sesK_step s0 (conf_netA _) (by decide)
  have s2 := sesK_step s1 (conf_resist) (by decide)
  have s3 := sesK_step s2 (conf_volts) (by decide)
  have s4 := sesK_step s3 (hf) (by simp)
  have s5 := sesK_step s4 (conf_reduce) (by decide)
  have s6 := sesK_step s5 (conf_ladder) (by decide)
  have s7 := sesK_step s6 (conf_cut) (by decide)
  have s8 := sesK_step s7 (conf_netC _) (by decide)
  have s9 := sesK_step s8 (conf_star) (by decide)
  have s10 := sesK_step s9 (conf_mesh) (by decide)
  have s11 := sesK_step s10 (conf_commute) (by decide)
  have s12 := sesK_step s11 (conf_hidden) (by decide)
  have s13 := sesK_step s12 (conf_blind) (by decide)
  have s14 := sesK_step s13 (conf_put) (by decide)
  refine ⟨?_, ?_, ?_, ?_⟩
  · rw [hk]
    have e1 : confP1.length = 49 := rfl
    have e2 : confP2.length = 110 := rfl
    simp only [List.length_append]
    omega
  · rw [hk]; exact linesOf_full hj (by simp [confL]) hn (by simp [confL, tnth])
  · rw [hk]
    intro x hx
    refine ⟨(noTen_p hn x hx).1, fun e => ?_⟩
    simp only [confL, List.mem_cons, List.not_mem_nil, or_false] at hx
    rcases hx with rfl | rfl | rfl | rfl | rfl | rfl | rfl | rfl | rfl | rfl | rfl | rfl | rfl | rfl
    · exact fine_other (by decide +kernel) e
    · exact fine_other (by decide +kernel) e
    · exact fine_other (by decide +kernel) e
    · exact fine_feed hp h0 e
    · exact fine_other (by decide +kernel) e
    · exact fine_other (by decide +kernel) e
    · exact fine_other (by decide +kernel) e
    · exact fine_other (by decide +kernel) e
    · exact fine_other (by decide +kernel) e
    · exact fine_other (by decide +kernel) e
    · exact fine_other (by decide +kernel) e
    · exact fine_other (by decide +kernel) e
    · exact fine_other (by decide +kernel) e
    · exact fine_other (by decide +kernel) e
  · rw [hk, hc, s14]
    exact ⟨Nat.le_trans hl2 (by omega), linesOf_ended hJ hn2⟩
theorem confOk1 : ConfOk 1 := confOk_of (k := [51]) (c := [50]) (by decide +kernel) (by decide +kernel) (by omega) conf_feed1 (by decide) (by decide +kernel) (by decide +kernel) (by decide +kernel) (by decide +kernel)
theorem confOk2 : ConfOk 2 := confOk_of (k := [54]) (c := [52]) (by decide +kernel) (by decide +kernel) (by omega) conf_feed2 (by decide) (by decide +kernel) (by decide +kernel) (by decide +kernel) (by decide +kernel)
theorem confOk3 : ConfOk 3 := confOk_of (k := [57]) (c := [54]) (by decide +kernel) (by decide +kernel) (by omega) conf_feed3 (by decide) (by decide +kernel) (by decide +kernel) (by decide +kernel) (by decide +kernel)
theorem confOk4 : ConfOk 4 := confOk_of (k := [49, 50]) (c := [56]) (by decide +kernel) (by decide +kernel) (by omega) conf_feed4 (by decide) (by decide +kernel) (by decide +kernel) (by decide +kernel) (by decide +kernel)
theorem confOk5 : ConfOk 5 := confOk_of (k := [49, 53]) (c := [49, 48]) (by decide +kernel) (by decide +kernel) (by omega) conf_feed5 (by decide) (by decide +kernel) (by decide +kernel) (by decide +kernel) (by decide +kernel)
theorem confOk6 : ConfOk 6 := confOk_of (k := [49, 56]) (c := [49, 50]) (by decide +kernel) (by decide +kernel) (by omega) conf_feed6 (by decide) (by decide +kernel) (by decide +kernel) (by decide +kernel) (by decide +kernel)
theorem confOk7 : ConfOk 7 := confOk_of (k := [50, 49]) (c := [49, 52]) (by decide +kernel) (by decide +kernel) (by omega) conf_feed7 (by decide) (by decide +kernel) (by decide +kernel) (by decide +kernel) (by decide +kernel)
theorem confOk8 : ConfOk 8 := confOk_of (k := [50, 52]) (c := [49, 54]) (by decide +kernel) (by decide +kernel) (by omega) conf_feed8 (by decide) (by decide +kernel) (by decide +kernel) (by decide +kernel) (by decide +kernel)
theorem confOk9 : ConfOk 9 := confOk_of (k := [50, 55]) (c := [49, 56]) (by decide +kernel) (by decide +kernel) (by omega) conf_feed9 (by decide) (by decide +kernel) (by decide +kernel) (by decide +kernel) (by decide +kernel)
theorem confOk {a : Int} (h1 : 1 ≤ a) (h9 : a ≤ 9) : ConfOk a := by
  have h : a = 1 ∨ a = 2 ∨ a = 3 ∨ a = 4 ∨ a = 5 ∨ a = 6 ∨ a = 7 ∨ a = 8 ∨ a = 9 := by omega
  rcases h with rfl | rfl | rfl | rfl | rfl | rfl | rfl | rfl | rfl
  · exact confOk1
  · exact confOk2
  · exact confOk3
  · exact confOk4
  · exact confOk5
  · exact confOk6
  · exact confOk7
  · exact confOk8
  · exact confOk9
end Go.Proofs.YtagiecajffhnpaaGreat

namespace Go.Proofs.YtagiecajffhnpaaGreat
set_option maxRecDepth 100000
open Go.ChangeShapes Go.WideShapes Go.ChangeAt Go.RowKit Go.Joins

/-- A slice of bytes. -/
def SlB (w : World) (p : Option Addr) (n : Nat) : Prop := ∀ i, i < n → ∃ (b o : Nat) (x : Int), p = some ⟨b, o, none⟩ ∧ w.cell? ⟨b, o + i, none⟩ = some (.int .u8 x) ∧ 0 ≤ x ∧ x ≤ 255
theorem SlB.ge {w w' : World} {p : Option Addr} {n : Nat} (h : SlB w p n) (hg : Ge w w') : SlB w' p n := fun i hi => by
  obtain ⟨b, o, x, hp, hc, h0, h1⟩ := h i hi
  exact ⟨b, o, x, hp, hg.keep hc, h0, h1⟩

/-- A cursor at block g; the bytes lie in blocks below g. -/
def Cur (w : World) (g : Nat) : Prop := ∃ (p : Option Addr) (n cap : Nat) (i h : Int) (c : World), w.cell? ⟨g, 0, none⟩ = some (.slice p n cap) ∧ w.cell? ⟨g, 1, none⟩ = some (.int .i64 i) ∧ w.cell? ⟨g, 2, none⟩ = some (.int .i64 h) ∧
  w.frozen? ⟨g, 0, none⟩ = false ∧ w.frozen? ⟨g, 1, none⟩ = false ∧ w.frozen? ⟨g, 2, none⟩ = false ∧ 0 ≤ i ∧ i ≤ n ∧ n ≤ 1048576 ∧ SlB c p n ∧ c.heap.size ≤ g ∧ Ge c w

theorem mask255 (z : Int) : 0 ≤ bits .and .i64 z 255 ∧ bits .and .i64 z 255 ≤ 255 := by
  have h : (BitVec.ofInt 64 z &&& BitVec.ofInt 64 255).toNat ≤ 255 := by
    rw [BitVec.toNat_and]
    exact Nat.le_trans Nat.and_le_right (by decide)
  have e : bits .and .i64 z 255 = IntKind.i64.wrap ((BitVec.ofInt 64 z &&& BitVec.ofInt 64 255).toNat : Int) := rfl
  rw [e, IntWalk.i64_in _ (by omega)]
  omega

theorem Cur.mk {w : World} {g : Nat} {p : Option Addr} {n cap : Nat} (i : Int) {h : Int} {c : World} (hb : SlB c p n) (hcg : c.heap.size ≤ g) (i0 : 0 ≤ i) (i1 : i ≤ n) (n1 : n ≤ 1048576)
    (c2 : w.cell? ⟨g, 2, none⟩ = some (.int .i64 h)) (c0 : w.cell? ⟨g, 0, none⟩ = some (.slice p n cap)) (c1 : w.cell? ⟨g, 1, none⟩ = some (.int .i64 i))
    (f0 : w.frozen? ⟨g, 0, none⟩ = false) (f1 : w.frozen? ⟨g, 1, none⟩ = false) (f2 : w.frozen? ⟨g, 2, none⟩ = false) (hg : Ge c w) : Cur w g :=
  ⟨p, n, cap, i, h, c, c0, c1, c2, f0, f1, f2, i0, i1, n1, hb, hcg, hg⟩
theorem gb_set {w w1 : World} {g i : Nat} {u : Value} (h : w.grownBy w1 (some g)) : w.grownBy (w1.setCell ⟨g, i, none⟩ u) (some g) :=
  ⟨h.os, h.tape, h.output, by simpa using h.size, fun k hk hne => by
    rw [← h.block k hk hne]
    exact Below.heap_setCell w1 ⟨g, i, none⟩ u k (fun e => hne (by rw [e]))⟩
theorem gb_drewN {w w1 : World} {g n : Nat} (h : w.grownBy w1 (some g)) : w.grownBy (w1.drewN n) (some g) := ⟨h.os, h.tape, h.output, h.size, h.block⟩

set_option maxHeartbeats 800000 in
theorem sL01Byte (g : Nat) (w : World) (hc : Cur w g) :
    Calls Tryz.prog 14 #[.pointer (some ⟨g, 0, none⟩)] w fun e w' => ∃ x, e = .returned (.int .i64 x) ∧ 0 ≤ x ∧ x ≤ 255 ∧ Cur w' g ∧ w.grownBy w' (some g) := by
  obtain ⟨p, n, cap, i, h, c, c0, c1, c2, f0, f1, f2, i0, i1, n1, hb, hcg, hg⟩ := hc
  have lg := World.block_lt_of_cell? w _ c0
  by_cases hi : i < n
  · obtain ⟨k, rfl⟩ : ∃ k : Nat, i = k := ⟨i.toNat, by omega⟩
    obtain ⟨b, o, x, rfl, hx, x0, x1⟩ := hb k (by omega)
    have lb := World.block_lt_of_cell? c _ hx
    have hx' := hg.keep hx
    simp at lb lg
    have HB := Lib.hid hb
    have HG := Lib.hid hg
    clear hb hx hg
    have hne : b ≠ g := by omega
    have hne' : g ≠ b := by omega
    go_enter Tryz.func14, Tryz.ntmps14
    go_wp2_with fail
    go_quiet (fail)
    go_wp2_with fail
    go_quiet (fail)
    go_wp2_with fail
    go_quiet (fail)
    go_wp2_with fail
    go_ret
    exact ⟨_, rfl, (mask255 _).1, (mask255 _).2, Cur.mk (k + 1) HB.out hcg (by omega) (by omega) n1 (cell_set2 (by simp) (cell_drewN (cell_same c2))) (cell_set2 (by simp) (cell_drewN (cell_set2 (by simp) c0)))
      (cell_same (cell_drewN (cell_set2 (by simp) c1))) (froz_set (froz_set f0)) (froz_set (froz_set f1)) (froz_set (froz_set f2)) ((((HG.out).setCell (by exact hcg) _).drewN _).setCell (by exact hcg) _),
      gb_set (gb_drewN (gb_set (World.grownBy.refl _ _)))⟩
  · have HB := Lib.hid hb
    have HG := Lib.hid hg
    clear hb hg
    go_enter Tryz.func14, Tryz.ntmps14
    go_wp2_with fail
    go_quiet (fail)
    go_wp2_with fail
    go_quiet (fail)
    go_wp2_with fail
    go_ret
    exact ⟨_, rfl, (mask255 _).1, (mask255 _).2, Cur.mk i HB.out hcg i0 i1 n1 (cell_drewN (cell_drewN (cell_same c2))) (cell_drewN (cell_drewN (cell_set2 (by simp) c0))) (cell_drewN (cell_drewN (cell_set2 (by simp) c1))) (froz_set f0) (froz_set f1) (froz_set f2)
      ((((HG.out).setCell (by exact hcg) _).drewN _).drewN _), gb_drewN (gb_drewN (gb_set (World.grownBy.refl _ _)))⟩

/-- What a draw leaves: a cursor, and all blocks but the cursor's. -/
def Drew (w w' : World) (g : Nat) : Prop := Cur w' g ∧ w.grownBy w' (some g)
theorem Drew.trans {a b c : World} {g : Nat} (h : Drew a b g) (k : Drew b c g) : Drew a c g := ⟨k.1, grown_trans h.2 k.2⟩
theorem Drew.ge {a b : World} {c : World} {g : Nat} (h : Drew a b g) (hg : Ge c a) (hb : c.heap.size ≤ g) : Ge c b := hg.grown h.2 (fun k hk => by cases hk; exact hb)

theorem cur_new {w : World} {p : Option Addr} {n cap : Nat} {z : Int} {t : TypeId} (hb : SlB w p n) (hn : n ≤ 1048576) :
    ∃ g, Ending.returned (.pointer (some ⟨w.heap.size, 0, none⟩)) = .returned (.pointer (some ⟨g, 0, none⟩)) ∧ Cur (w.alloc (.cells #[.slice p n cap, .int .i64 0, .int .i64 z] t)) g ∧ w.heap.size ≤ g ∧ Ge w (w.alloc (.cells #[.slice p n cap, .int .i64 0, .int .i64 z] t)) :=
  ⟨_, rfl, Cur.mk 0 hb (Nat.le_refl _) (Int.le_refl _) (by omega) hn (cell_new rfl rfl) (cell_new rfl rfl) (cell_new rfl rfl) (froz_new (i := 0) rfl rfl) (froz_new (i := 1) rfl rfl) (froz_new (i := 2) rfl rfl) ((Ge.refl w).alloc _), Nat.le_refl _, (Ge.refl w).alloc _⟩

set_option maxHeartbeats 800000 in
theorem sL01New (p : Option Addr) (n cap : Nat) (w : World) (hb : SlB w p n) (hn : n ≤ 1048576) :
    Calls Tryz.prog 17 #[.slice p n cap] w fun e w' => ∃ g, e = .returned (.pointer (some ⟨g, 0, none⟩)) ∧ Cur w' g ∧ w.heap.size ≤ g ∧ Ge w w' := by
  have HB := Lib.hid hb
  clear hb
  go_enter Tryz.func17, Tryz.ntmps17
  go_wp2_with fail
  go_loop [3, 4] (fun h i => ∃ (z : Int) (k : Nat), h = .int .i64 z ∧ i = .int .i64 k ∧ k ≤ n) (fun _ i => n - (intOf i).toNat)
  case atStart => exact ⟨_, 0, rfl, rfl, Nat.zero_le _⟩
  case round =>
    obtain ⟨z, k, rfl, rfl, hk⟩ := hrel
    by_cases hlt : k < n
    · by_cases h4 : k < 4000
      · obtain ⟨b, o, x, rfl, hx, x0, x1⟩ := HB.out k hlt
        go_wp2_with fail
        go_round
        case rel => exact ⟨_, k + 1, rfl, by go_num, by omega⟩
        case measure => simp [intOf]; omega
      · go_wp2_with fail
        go_ret
        exact cur_new HB.out hn
    · go_wp2_with fail
      go_ret
      exact cur_new HB.out hn

set_option maxHeartbeats 800000 in
theorem sL18New (p : Option Addr) (n cap : Nat) (k : Int) (w : World) (hb : SlB w p n) (hn : n ≤ 1048576) (hk : k ≤ 9223372036854775807) :
    Calls Tryz.prog 13 #[.slice p n cap, .int .i64 k] w fun e w' => ∃ g, e = .returned (.pointer (some ⟨g, 0, none⟩)) ∧ Cur w' g ∧ w.heap.size ≤ g ∧ Ge w w' := by
  have HB := Lib.hid hb
  clear hb
  go_enter Tryz.func13, Tryz.ntmps13
  go_wp2_with (go_at_call 17; ((with_reducible refine (sL01New _ _ _ _ HB.out hn).mono ?_); rintro e w1 ⟨g, rfl, hc1, hg, g1⟩))
  have HC := Lib.hid hc1
  clear hc1
  go_loopw [6] (fun i wr => ∃ j : Nat, i = .int .i64 j ∧ (j : Int) ≤ max k 0 ∧ Hid (Cur wr g) ∧ Ge w wr) (fun i _ => k.toNat - (intOf i).toNat)
  case atStart => exact ⟨0, rfl, by omega, HC.out, g1⟩
  case round =>
    obtain ⟨j, rfl, hj, HC2, hg2⟩ := hrel
    by_cases hlt : (j : Int) < k
    · go_wp2_with (go_at_call 14; ((with_reducible refine (sL01Byte _ _ HC2.out).mono ?_); rintro e w2 ⟨x, rfl, x0, x1, hc', hg'⟩))
      go_roundw
      case rel => exact ⟨j + 1, by go_num, by omega, hc', hg2.grown hg' (fun k hk => by cases hk; exact hg)⟩
      case measure => simp [intOf]; omega
    · go_wp2_with fail
      go_ret
      exact ⟨g, rfl, HC2.out, hg, hg2⟩

set_option maxHeartbeats 800000 in
theorem sMakeNum (p : Option Addr) (n cap : Nat) (k : Int) (w : World) (hb : SlB w p n) (hn : n ≤ 1048576) (hk : k ≤ 9223372036854775807) :
    Calls Tryz.prog 5 #[.slice p n cap, .int .i64 k] w fun e w' => ∃ x, e = .returned (.int .i64 x) ∧ 0 ≤ x ∧ x ≤ 65535 ∧ Ge w w' := by
  have HB := Lib.hid hb
  clear hb
  go_enter Tryz.func5, Tryz.ntmps5
  go_wp2_with (go_at_call 13; ((with_reducible refine (sL18New _ _ _ _ _ HB.out hn hk).mono ?_); rintro e w1 ⟨g, rfl, hc1, hg, g1⟩))
  have HC := Lib.hid hc1
  clear hc1
  go_wp2_with (go_at_call 14; ((with_reducible refine (sL01Byte _ _ HC.out).mono ?_); rintro e w2 ⟨x, rfl, x0, x1, hc2, hg2⟩))
  have HC2 := Lib.hid hc2
  clear hc2
  go_wp2_with (go_at_call 14; ((with_reducible refine (sL01Byte _ _ HC2.out).mono ?_); rintro e w3 ⟨y, rfl, y0, y1, hc3, hg3⟩))
  go_ret
  exact ⟨_, rfl, by omega, by omega, (g1.grown hg2 (fun k hk => by cases hk; exact hg)).grown hg3 (fun k hk => by cases hk; exact hg)⟩
end Go.Proofs.YtagiecajffhnpaaGreat
