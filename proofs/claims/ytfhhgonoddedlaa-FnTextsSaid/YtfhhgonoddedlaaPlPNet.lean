/- Plain law: a network is read back from its text. No program in sight but in the imports. -/
import Derived.Test.YtfhhgonoddedlaaWParseInts
import Derived.Test.YtfhhgonoddedlaaWFormatNet
namespace Go.Proofs.Ytfhhgonoddedlaa

open Go.RowKit

theorem spl_free {b s : List UInt8} : ∀ k, (∀ i, i < k → ¬ bnth s i ∈ b) → spl b s k = ([], 0)
  | 0, _ => rfl
  | k + 1, h => by rw [spl_out (h k (by omega)), spl_free k (fun i hi => h i (by omega))]
theorem bnth_left {x y : List UInt8} {i : Nat} (h : i < x.length) : bnth (x ++ y) i ∈ x := by
  have : bnth (x ++ y) i = x[i] := by simp [bnth, List.getD_eq_getElem?_getD, List.getElem?_append_left h, h]
  rw [this]; exact List.getElem_mem h
theorem bnth_mid {x y : List UInt8} {c : UInt8} : bnth (x ++ c :: y) x.length = c := by simp [bnth, List.getD_eq_getElem?_getD]
theorem bnth_right {x y : List UInt8} {c : UInt8} (j : Nat) : bnth (x ++ c :: y) (x.length + 1 + j) = bnth y j := by
  unfold bnth
  rw [List.getD_eq_getElem?_getD, List.getD_eq_getElem?_getD, List.getElem?_append_right (by omega), show x.length + 1 + j - x.length = j + 1 by omega, List.getElem?_cons_succ]
theorem drop_right {x y : List UInt8} {c : UInt8} (q : Nat) : (x ++ c :: y).drop (x.length + 1 + q) = y.drop q := by
  rw [show x ++ c :: y = (x ++ [c]) ++ y by simp, List.drop_append, List.drop_eq_nil_of_le (by simp)]
  simp
theorem spl_right {b x y : List UInt8} {c : UInt8} (hx : ∀ z ∈ x, ¬ z ∈ b) (hc : c ∈ b) : ∀ j, spl b (x ++ c :: y) (x.length + 1 + j) = (x :: (spl b y j).1, x.length + 1 + (spl b y j).2)
  | 0 => by
    have h0 : spl b (x ++ c :: y) x.length = ([], 0) := spl_free _ (fun i hi => hx _ (bnth_left hi))
    rw [Nat.add_zero, spl_in (by rw [bnth_mid]; exact hc), h0]
    simp [spl]
  | j + 1 => by
    have ih := spl_right hx hc j (y := y)
    by_cases h : bnth y j ∈ b
    · rw [show x.length + 1 + (j + 1) = (x.length + 1 + j) + 1 by omega, spl_in (by rw [bnth_right]; exact h), ih, spl_in h]
      simp only [drop_right, List.cons_append, Prod.mk.injEq]
      refine ⟨?_, by omega⟩
      rw [show x.length + 1 + j - (x.length + 1 + (spl b y j).2) = j - (spl b y j).2 by omega]
    · rw [show x.length + 1 + (j + 1) = (x.length + 1 + j) + 1 by omega, spl_out (by rw [bnth_right]; exact h), ih, spl_out h]
theorem pieces_cons {b x y : List UInt8} {c : UInt8} (hx : ∀ z ∈ x, ¬ z ∈ b) (hc : c ∈ b) : pieces b (x ++ c :: y) = x :: pieces b y := by
  unfold pieces
  have e : (x ++ c :: y).length = x.length + 1 + y.length := by simp; omega
  rw [e, spl_right hx hc]
  simp only [drop_right, List.cons_append]
theorem pieces_none {b x : List UInt8} (hx : ∀ z ∈ x, ¬ z ∈ b) : pieces b x = [x] := by
  unfold pieces
  rw [spl_free _ (fun i hi => hx _ (by have := bnth_left (y := []) hi; simpa using this))]
  simp

theorem fmt_chars {n : Int} (hn : in64 n) : ∀ c ∈ fmtInt n, c.toNat = 45 ∨ isDig c := fun c hc => by
  unfold in64 at hn
  obtain ⟨h1, _, _, _⟩ := fmtNat_facts 19 n.natAbs (by omega) (by omega) (by omega)
  unfold fmtInt at hc
  split at hc
  · rcases List.mem_cons.1 hc with h | h
    · left; rw [h]; rfl
    · exact Or.inr (h1 c h)
  · exact Or.inr (h1 c hc)
theorem fmt_not {n : Int} (hn : in64 n) (b : List UInt8) (hb : ∀ c ∈ b, c.toNat ≠ 45 ∧ ¬ isDig c) : ∀ z ∈ fmtInt n, ¬ z ∈ b := fun z hz hzb => by
  rcases fmt_chars hn z hz with h | h
  · exact (hb z hzb).1 h
  · exact (hb z hzb).2 h
theorem seps_ok : (∀ c ∈ [(32 : UInt8)], c.toNat ≠ 45 ∧ ¬ isDig c) ∧ (∀ c ∈ [(47 : UInt8)], c.toNat ≠ 45 ∧ ¬ isDig c) ∧ (∀ c ∈ [(47 : UInt8), 58], c.toNat ≠ 45 ∧ ¬ isDig c) := by
  unfold isDig
  simp
theorem trim_58 (a : List UInt8) : Lib.trimSuffix (a ++ [58]) [58] = a := by
  unfold Lib.trimSuffix Lib.hasSuffix
  have : ([58] : List UInt8).isSuffixOf (a ++ [58]) = true := by rw [List.isSuffixOf_iff_suffix]; exact List.suffix_append _ _
  rw [if_pos this]
  simp
theorem head_i {N E S : Int} (hN : in64 N) (hE : in64 E) (hS : in64 S) : pieces [47] (Lib.trimSuffix (netHead N E S) [58]) = [fmtInt N, fmtInt E, fmtInt S] := by
  unfold netHead
  rw [trim_58]
  have e : fmtInt N ++ [47] ++ fmtInt E ++ [47] ++ fmtInt S = fmtInt N ++ 47 :: (fmtInt E ++ 47 :: fmtInt S) := by simp
  rw [e, pieces_cons (fmt_not hN _ seps_ok.2.1) (by simp), pieces_cons (fmt_not hE _ seps_ok.2.1) (by simp), pieces_none (fmt_not hS _ seps_ok.2.1)]
theorem head_s {N E S : Int} (hN : in64 N) (hE : in64 E) (hS : in64 S) : (pieces [47, 58] (netHead N E S)).take 3 = [fmtInt N, fmtInt E, fmtInt S] := by
  unfold netHead
  have e : fmtInt N ++ [47] ++ fmtInt E ++ [47] ++ fmtInt S ++ [58] = fmtInt N ++ 47 :: (fmtInt E ++ 47 :: (fmtInt S ++ 58 :: [])) := by simp
  rw [e, pieces_cons (fmt_not hN _ seps_ok.2.2) (by simp), pieces_cons (fmt_not hE _ seps_ok.2.2) (by simp), pieces_cons (fmt_not hS _ seps_ok.2.2) (by simp)]
  rfl
theorem part_head (N E S : Int) (xs : List Int) : ∀ m, ∃ r, netPart N E S xs m = netHead N E S ++ r ∧ (r = [] ∨ ∃ y, r = 32 :: y)
  | 0 => ⟨[], by simp [netPart], Or.inl rfl⟩
  | m + 1 => by
    obtain ⟨r, h1, h2⟩ := part_head N E S xs m
    refine ⟨r ++ wireTxt xs m, by simp only [netPart, h1, List.append_assoc], Or.inr ?_⟩
    rcases h2 with rfl | ⟨y, rfl⟩
    · exact ⟨_, by simp only [wireTxt, List.nil_append, List.cons_append, List.append_assoc]; rfl⟩
    · exact ⟨y ++ wireTxt xs m, by simp⟩
theorem head_no32 {N E S : Int} (hN : in64 N) (hE : in64 E) (hS : in64 S) : ∀ z ∈ netHead N E S, ¬ z ∈ [(32 : UInt8)] := fun z hz h => by
  simp only [netHead, List.mem_append, List.mem_cons, List.not_mem_nil, or_false] at hz
  simp only [List.mem_cons, List.not_mem_nil, or_false] at h
  subst h
  rcases hz with ((((h | h) | h) | h) | h) | h
  · exact fmt_not hN _ seps_ok.1 _ h (by simp)
  · exact absurd h (by decide)
  · exact fmt_not hE _ seps_ok.1 _ h (by simp)
  · exact absurd h (by decide)
  · exact fmt_not hS _ seps_ok.1 _ h (by simp)
  · exact absurd h (by decide)
theorem first_word {N E S : Int} (hN : in64 N) (hE : in64 E) (hS : in64 S) (xs : List Int) (m : Nat) : tnth (pieces [32] (netPart N E S xs m)) 0 = netHead N E S := by
  obtain ⟨r, h1, h2⟩ := part_head N E S xs m
  rw [h1]
  rcases h2 with rfl | ⟨y, rfl⟩
  · rw [List.append_nil, pieces_none (head_no32 hN hE hS)]; rfl
  · rw [pieces_cons (head_no32 hN hE hS) (by simp)]; rfl
/-- The heads that the two sides read. -/
def hdI (s : List UInt8) : List (List UInt8) := pieces [47] (Lib.trimSuffix (tnth (pieces [32] s) 0) [58])
def hdS (s : List UInt8) : List (List UInt8) := (pieces [47, 58] (tnth (pieces [32] s) 0)).take 3
noncomputable def hdOk (h : List (List UInt8)) : Bool := allB h && decide (h.length = 3)
/-- The numbers of the first k wires. -/
noncomputable def wX (l : List (List UInt8)) : Nat → List Int
  | 0 => []
  | k + 1 => wX l k ++ [pv (tnth (pieces [45, 61] (tnth l (k + 1))) 0), pv (tnth (pieces [45, 61] (tnth l (k + 1))) 1), pv (tnth (pieces [45, 61] (tnth l (k + 1))) 2)]
noncomputable def wiresOk (l : List (List UInt8)) (m : Nat) : Bool := (List.range m).all fun j => hdOk (pieces [45, 61] (tnth l (j + 1)))
theorem wiresOk_t {l : List (List UInt8)} {m : Nat} (h : ∀ j, j < m → hdOk (pieces [45, 61] (tnth l (j + 1))) = true) : wiresOk l m = true := by
  simp only [wiresOk, List.all_eq_true, List.mem_range]; exact h
theorem wiresOk_f {l : List (List UInt8)} {m j : Nat} (hj : j < m) (h : hdOk (pieces [45, 61] (tnth l (j + 1))) = false) : wiresOk l m = false := by
  cases c : wiresOk l m with
  | false => rfl
  | true =>
    simp only [wiresOk, List.all_eq_true, List.mem_range] at c
    rw [c j hj] at h; cases h
noncomputable def pnB (h : List (List UInt8)) (s : List UInt8) : Bool :=
  hdOk h && (wiresOk (pieces [32] s) ((pieces [32] s).length - 1) && decide (netTxt (pv (tnth h 0)) (pv (tnth h 1)) (pv (tnth h 2)) ((pieces [32] s).length - 1) (wX (pieces [32] s) ((pieces [32] s).length - 1)) = s))
theorem pnB_hd {h : List (List UInt8)} {s : List UInt8} (c : hdOk h = false) : pnB h s = false := by unfold pnB; rw [c]; rfl
theorem pnB_w {h : List (List UInt8)} {s : List UInt8} (c : wiresOk (pieces [32] s) ((pieces [32] s).length - 1) = false) : pnB h s = false := by unfold pnB; rw [c]; simp
theorem net_in {N E S : Int} {m : Nat} {xs : List Int} (h : netB N E S m xs = true) : in64 N ∧ in64 E ∧ in64 S := by
  obtain ⟨h1, h2, h3, _⟩ := netP_of h
  unfold in64
  omega
/-- A text that is read is that of a valid network; both heads are the same. -/
theorem pn_facts {h : List (List UInt8)} {s : List UInt8} (hh : h = hdI s ∨ h = hdS s) (c : pnB h s = true) :
    netB (pv (tnth h 0)) (pv (tnth h 1)) (pv (tnth h 2)) ((pieces [32] s).length - 1) (wX (pieces [32] s) ((pieces [32] s).length - 1)) = true ∧ hdI s = h ∧ hdS s = h := by
  unfold pnB at c
  simp only [Bool.and_eq_true, decide_eq_true_eq] at c
  obtain ⟨c1, c2, c3⟩ := c
  generalize wX (pieces [32] s) ((pieces [32] s).length - 1) = xs at c3 ⊢
  generalize ((pieces [32] s).length - 1) = m at c2 c3 ⊢
  have hlen : h.length = 3 := by unfold hdOk at c1; simp only [Bool.and_eq_true, decide_eq_true_eq] at c1; exact c1.2
  cases hB : netB (pv (tnth h 0)) (pv (tnth h 1)) (pv (tnth h 2)) m xs with
  | false =>
    exfalso
    have : s = [] := by rw [← c3]; unfold netTxt; rw [hB]; rfl
    subst this
    have e : pieces [32] ([] : List UInt8) = [[]] := rfl
    rcases hh with rfl | rfl
    · have : hdI [] = [[]] := rfl
      rw [this] at hlen; simp at hlen
    · have : hdS [] = [[]] := rfl
      rw [this] at hlen; simp at hlen
  | true =>
    obtain ⟨iN, iE, iS⟩ := net_in hB
    have hs : s = netPart (pv (tnth h 0)) (pv (tnth h 1)) (pv (tnth h 2)) xs m := by rw [← c3]; unfold netTxt; rw [hB]; rfl
    have hw : tnth (pieces [32] s) 0 = netHead (pv (tnth h 0)) (pv (tnth h 1)) (pv (tnth h 2)) := by rw [hs]; exact first_word iN iE iS xs m
    have eI : hdI s = [fmtInt (pv (tnth h 0)), fmtInt (pv (tnth h 1)), fmtInt (pv (tnth h 2))] := by unfold hdI; rw [hw]; exact head_i iN iE iS
    have eS : hdS s = [fmtInt (pv (tnth h 0)), fmtInt (pv (tnth h 1)), fmtInt (pv (tnth h 2))] := by unfold hdS; rw [hw]; exact head_s iN iE iS
    refine ⟨rfl, ?_, ?_⟩
    · rcases hh with e | e
      · exact e.symm
      · rw [eI, ← eS]; exact e.symm
    · rcases hh with e | e
      · rw [eS, ← eI]; exact e.symm
      · exact e.symm
theorem pn_same (s : List UInt8) : pnB (hdS s) s = pnB (hdI s) s := by
  cases c : pnB (hdI s) s with
  | true => rw [(pn_facts (Or.inl rfl) c).2.2]; exact c
  | false =>
    cases d : pnB (hdS s) s with
    | false => rfl
    | true => rw [(pn_facts (Or.inr rfl) d).2.1] at c; rw [c] at d; cases d
end Go.Proofs.Ytfhhgonoddedlaa
