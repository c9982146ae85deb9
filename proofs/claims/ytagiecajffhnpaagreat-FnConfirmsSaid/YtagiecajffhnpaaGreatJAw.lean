/- Plain Lean: the terms of a fraction. TermsOf, CountUnits. What a line of the console does: plain law. No program in sight but in the imports. -/
import Derived.Test.YtagiecajffhnpaaGreatWTyInt
import Derived.Test.YtagiecajffhnpaaGreatWEqInt
import Derived.Test.YtagiecajffhnpaaGreatWIn
import Derived.Test.YtagiecajffhnpaaGreatJAi
import Derived.Test.YtagiecajffhnpaaGreatJAk
import Derived.Test.YtagiecajffhnpaaGreatJAm
import Derived.Test.YtagiecajffhnpaaGreatJAo
import Derived.Test.YtagiecajffhnpaaGreatJAp
import Derived.Test.YtagiecajffhnpaaGreatJAq
import Derived.Test.YtagiecajffhnpaaGreatJAr
import Derived.Test.YtagiecajffhnpaaGreatJAs
import Derived.Test.YtagiecajffhnpaaGreatJAt
import Derived.Test.YtagiecajffhnpaaGreatJAu
import Derived.Test.YtagiecajffhnpaaGreatJAv
import Derived.Test.YtagiecajffhnpaaGreatJAn
namespace Go.Proofs.YtagiecajffhnpaaGreat

def eucl : Nat → Int → Int → List Int
  | 0, _, _ => []
  | f + 1, p, q => if 0 < q then p / q :: eucl f q (p % q) else []

def partOk (p q : Int) : Bool := decide (1 ≤ p) && decide (p ≤ 1000) && decide (1 ≤ q) && decide (q ≤ 1000)

/-- TermsOf. -/
def termsOf (p q : Int) : List Int := if partOk p q = true then eucl 1001 p q else []

theorem eucl_step (f : Nat) (p q : Int) (h : 0 < q) (hf : q.toNat < f) : eucl f p q = p / q :: eucl (f - 1) q (p % q) := by
  cases f with
  | zero => omega
  | succ f => simp [eucl, h]
theorem eucl_zero (f : Nat) (p : Int) : eucl f p 0 = [] := by cases f <;> simp [eucl]

theorem eucl_len : ∀ (f : Nat) (p q : Int), (eucl f p q).length ≤ f := by
  intro f
  induction f with
  | zero => intro p q; simp [eucl]
  | succ f ih =>
    intro p q
    simp only [eucl]
    split
    · simp; exact ih _ _
    · simp

theorem eucl_bd : ∀ (f : Nat) (p q : Int), 0 ≤ p → p ≤ 1000 → 0 ≤ q → q ≤ 1000 → ∀ x ∈ eucl f p q, 0 ≤ x ∧ x ≤ 1000 := by
  intro f
  induction f with
  | zero => intro p q _ _ _ _ x hx; simp [eucl] at hx
  | succ f ih =>
    intro p q h1 h2 h3 h4 x hx
    simp only [eucl] at hx
    split at hx
    · rename_i hq
      rcases List.mem_cons.1 hx with rfl | hx
      · exact ⟨Int.ediv_nonneg h1 h3, Int.le_trans (Int.ediv_le_self q h1) h2⟩
      · exact ih q (p % q) h3 h4 (Int.emod_nonneg _ (by omega)) (by have := Int.emod_lt_of_pos p hq; omega) x hx
    · simp at hx

theorem partOk_of {p q : Int} (h : partOk p q = true) : 1 ≤ p ∧ p ≤ 1000 ∧ 1 ≤ q ∧ q ≤ 1000 := by
  simp [partOk] at h; omega

theorem termsOf_len (p q : Int) : (termsOf p q).length ≤ 1001 := by
  unfold termsOf; split
  · exact eucl_len _ _ _
  · simp
theorem termsOf_bd (p q : Int) : ∀ x ∈ termsOf p q, 0 ≤ x ∧ x ≤ 1000 := by
  unfold termsOf; split
  · rename_i h
    obtain ⟨a, b, c, d⟩ := partOk_of h
    exact eucl_bd _ _ _ (by omega) b (by omega) d
  · intro x hx; simp at hx

end Go.Proofs.YtagiecajffhnpaaGreat

namespace Go.Proofs.YtagiecajffhnpaaGreat

open Go.RowKit

def Gives (w : World) (l : List Int) (e : Ending) (w' : World) : Prop := ∃ v, e = .returned v ∧ w'.ownsRow w.heap.size 3 1 v l.length (icells l) ∧ Ge w w'

set_option maxHeartbeats 400000 in
theorem iTermsOf (p q : Int) (w : World) : Calls Tryz.prog 58 #[.int .i64 p, .int .i64 q] w (Gives w (termsOf p q)) := by
  by_cases ok : partOk p q = true
  · obtain ⟨p1, p2, q1, q2⟩ := partOk_of ok
    have HT : Hid (termsOf p q = eucl 1001 p q) := by unfold termsOf; rw [if_pos ok]; exact rfl
    clear ok
    go_enter Tryz.func58, Tryz.ntmps58
    go_wp2_with fail
    go_loopw [0, 1, 5] (fun a b s wr => ∃ (p' q' : Int) (l : List Int) (f : Nat), a = .int .i64 p' ∧ b = .int .i64 q' ∧ 0 ≤ p' ∧ p' ≤ 1000 ∧ 0 ≤ q' ∧ q' ≤ 1000 ∧ q'.toNat < f ∧ l.length + q'.toNat ≤ 1001 ∧
      Hid (eucl 1001 p q = l ++ eucl f p' q') ∧ wr.ownsRow w.heap.size 3 1 s l.length (icells l) ∧ Ge w wr) (fun _ b _ _ => (intOf b).toNat)
    case atStart => exact ⟨p, q, [], 1001, rfl, rfl, by omega, by omega, by omega, by omega, by omega, by simp; omega, rfl, owns_lit0 _ _ _, kge⟩
    case round =>
      obtain ⟨p', q', l, f, rfl, rfl, a1, a2, b1, b2, hf, hl, HE, hown, hg⟩ := hrel
      by_cases hq : 0 < q'
      · have r1 := Int.emod_nonneg p' (show q' ≠ 0 by omega)
        have r2 := Int.emod_lt_of_pos p' hq
        have d1 : Hid (0 ≤ p' / q' ∧ p' / q' ≤ p') := ⟨Int.ediv_nonneg a1 b1, Int.ediv_le_self q' a1⟩
        have HS : Hid (eucl 1001 p q = (l ++ [p' / q']) ++ eucl (f - 1) q' (p' % q')) := by
          rw [HE.out, eucl_step f p' q' hq hf, List.append_assoc]; exact rfl
        clear HE
        go_wp2_with (at_builtin; refine ap_int rfl _ _ rfl w.heap.size u5 l rfl hown _ rfl (by omega) hg.size ?_; intro v' w1 hown1 hm1)
        go_quiet (fail)
        go_wp2_with fail
        go_roundw
        case rel =>
          exact ⟨q', p' % q', l ++ [p' / q'], f - 1, rfl, rfl, by omega, by omega, r1, by omega, by omega, by simp; omega, HS, Ge.owns (kge) hown1, by have := hg.mine hown (Nat.le_refl _) hm1; (repeat (first | with_reducible exact Ge.refl _ | assumption | with_reducible refine Ge.drew ?_ | with_reducible refine Ge.drewN ?_ _ | with_reducible refine Ge.alloc ?_ _ | (with_reducible refine Ge.setCell ?_ (by first | (simp; done) | omega | (simp; omega)) _) | with_reducible refine Ge.trans ?_ (by assumption)))⟩
        case measure => simp [intOf]; omega
      · have hz : q' = 0 := by omega
        subst hz
        go_wp2_with fail
        go_ret
        have hl' : termsOf p q = l := by rw [HT.out, HE.out, eucl_zero]; simp
        rw [hl']
        exact ⟨_, rfl, hown, hg⟩
  · have hl' : termsOf p q = [] := by unfold termsOf; rw [if_neg ok]
    have HL := Lib.hid hl'
    clear hl'
    have hn : ¬ (1 ≤ p ∧ p ≤ 1000 ∧ 1 ≤ q ∧ q ≤ 1000) := fun h => ok (by simp [partOk, h])
    clear ok
    go_enter Tryz.func58, Tryz.ntmps58
    go_wp2_with fail
    all_goals (go_ret; rw [HL.out]; exact ⟨_, rfl, owns_lit0 _ _ _, kge⟩)

end Go.Proofs.YtagiecajffhnpaaGreat

namespace Go.Proofs.YtagiecajffhnpaaGreat

open Go.RowKit

/-- A text, or none. -/
def orN (s : List UInt8) (b : Bool) : List UInt8 := if b = true ∧ ¬ s = [] then s else [110, 111, 110, 101]
def unkT : List UInt8 := [117, 110, 107, 110, 111, 119, 110, 32, 99, 111, 109, 109, 97, 110, 100]
/-- The end of reducing. -/
noncomputable def redF (e : Nat) (x : NwR) : Nat → NwR
  | 0 => x
  | k + 1 => match redK e x (k + 1) with
    | some y => y
    | none => redF e x k
theorem redF_eq {e : Nat} {x y : NwR} {k : Nat} (h : redK e x k = some y) (h2 : redN e y = none) : ∀ j, k ≤ j → redF e x j = y
  | 0, hj => by
    have h0 : k = 0 := by omega
    subst h0
    simp only [redK, Option.some.injEq] at h
    exact h
  | j + 1, hj => by
    by_cases e1 : k = j + 1
    · subst e1
      simp only [redF, h]
    · have h3 := redK_none h h2 (j - k)
      rw [show k + 1 + (j - k) = j + 1 by omega] at h3
      simp only [redF, h3]
      exact redF_eq h h2 j (by omega)
def wPut : List UInt8 := [112, 117, 116]
def wJoin : List UInt8 := [106, 111, 105, 110]
def wSwap : List UInt8 := [115, 119, 97, 112]
def wDrop : List UInt8 := [100, 114, 111, 112]
def wMesh : List UInt8 := [109, 101, 115, 104]
def wStar : List UInt8 := [115, 116, 97, 114]
def wCanon : List UInt8 := [99, 97, 110, 111, 110]
def wReduce : List UInt8 := [114, 101, 100, 117, 99, 101]
def wAll : List UInt8 := [97, 108, 108]
def wFeed : List UInt8 := [102, 101, 101, 100]
def wShow : List UInt8 := [115, 104, 111, 119]
def wResist : List UInt8 := [114, 101, 115, 105, 115, 116]
def wVolts : List UInt8 := [118, 111, 108, 116, 115]
def wCurrent : List UInt8 := [99, 117, 114, 114, 101, 110, 116]
def wHit : List UInt8 := [104, 105, 116]
def wCommute : List UInt8 := [99, 111, 109, 109, 117, 116, 101]
def wHidden : List UInt8 := [104, 105, 100, 100, 101, 110]
def wBlind : List UInt8 := [98, 108, 105, 110, 100]
def wLadder : List UInt8 := [108, 97, 100, 100, 101, 114]
def wCut : List UInt8 := [99, 117, 116]
/-- A command is this word with so many numbers. -/
def isF (wd : List UInt8) (c : Nat) (lit : List UInt8) (k : Nat) : Bool := decide (wd = lit) && decide (c = k)
/-- Whether it succeeds, and the network that a command makes; none if there is no such command. -/
noncomputable def chR (n e : Nat) (S : Int) (L : List Wr) (wd : List UInt8) (x : List Int) : Option (Bool × Nt) :=
  if isF wd x.length wPut 3 = true then some (putB n e S L.length (flatW L) (nth x 0) (nth x 1) (nth x 2), oNet (putB n e S L.length (flatW L) (nth x 0) (nth x 1) (nth x 2)) n e S (putM n L.length (flatW L) (nth x 0) (nth x 1) (nth x 2)))
  else if isF wd x.length wJoin 2 = true then some (jnB n e S L.length (flatW L) (nth x 0) (nth x 1), oNet (jnB n e S L.length (flatW L) (nth x 0) (nth x 1)) ((n - 1 : Nat) : Int) (jnE e (nth x 1).toNat) S (jnM n L.length (flatW L) (nth x 0).toNat (nth x 1).toNat))
  else if isF wd x.length wSwap 2 = true then some (swB n e S L.length (flatW L) (nth x 0) (nth x 1), oNet (swB n e S L.length (flatW L) (nth x 0) (nth x 1)) n e S (swM n L.length (flatW L) (nth x 0).toNat (nth x 1).toNat))
  else if isF wd x.length wDrop 1 = true then some (dropB n e S L (nth x 0), oNet (dropB n e S L (nth x 0)) ((n - 1 : Nat) : Int) e (redS n S L (nth x 0).toNat) (redL n S L (nth x 0).toNat))
  else if isF wd x.length wMesh 1 = true then some (starB n e S L (nth x 0), oNet (starB n e S L (nth x 0)) ((n - 1 : Nat) : Int) e (redS n S L (nth x 0).toNat) (redL n S L (nth x 0).toNat))
  else if isF wd x.length wStar 3 = true then some (trB n e S L.length (flatW L) (nth x 0) (nth x 1) (nth x 2), oNet (trB n e S L.length (flatW L) (nth x 0) (nth x 1) (nth x 2)) ((n + 1 : Nat) : Int) e (trS n L.length (flatW L) (nth x 0) (nth x 1) (nth x 2) S) (trL n L.length (flatW L) (nth x 0) (nth x 1) (nth x 2) S))
  else if isF wd x.length wCanon 0 = true then some (canB n e S L.length (flatW L), oNet (canB n e S L.length (flatW L)) n e (canS n S L.length (flatW L)) (canL n S L.length (flatW L)))
  else if isF wd x.length wReduce 0 = true then some (true, ⟨((redF e ⟨n, S, L⟩ 5).n : Int), e, (redF e ⟨n, S, L⟩ 5).s, (redF e ⟨n, S, L⟩ 5).l⟩)
  else if isF wd x.length wAll 0 = true then some (meshR n e S L.length (flatW L))
  else none
/-- The text that a command shows. -/
noncomputable def shR (n e : Nat) (S : Int) (L : List Wr) (wd : List UInt8) (x : List Int) : List UInt8 :=
  if wd = wFeed then (if x.length = e then orN (rowLine e (fdL n e L.length S (flatW L) x e)) true else orN (rowLine 0 []) false)
  else if isF wd x.length wShow 0 = true then Lib.join (netLs n e L.length S (flatW L) e) [59]
  else if isF wd x.length wResist 2 = true then orN (resLine n e S L.length (flatW L) (nth x 0) (nth x 1)) true
  else if isF wd x.length wVolts 2 = true then orN (potLine n e S L.length (flatW L) (nth x 0) (nth x 1)) true
  else if isF wd x.length wCurrent 4 = true then orN (ratioTxt (curR n e S L.length (flatW L) (nth x 0) (nth x 1) (nth x 2) (nth x 3)).n (curR n e S L.length (flatW L) (nth x 0) (nth x 1) (nth x 2) (nth x 3)).d) (curB n e S L.length (flatW L) (nth x 0) (nth x 1) (nth x 2) (nth x 3))
  else if isF wd x.length wHit 3 = true then orN (ratioTxt (hcR n e S L.length (flatW L) (nth x 0) (nth x 1) (nth x 2)).n (hcR n e S L.length (flatW L) (nth x 0) (nth x 1) (nth x 2)).d) (hcB n e S L.length (flatW L) (nth x 0) (nth x 1) (nth x 2))
  else if isF wd x.length wCommute 2 = true then orN (ratioTxt (comR n e S L.length (flatW L) (nth x 0) (nth x 1)).n (comR n e S L.length (flatW L) (nth x 0) (nth x 1)).d) (node2B n e S L.length (flatW L) (nth x 0) (nth x 1))
  else if isF wd x.length wHidden 0 = true then faultLine (likeL n e S L.length (flatW L) (fun a => respL n e L.length S (flatW L) a e)).length (flatP (likeL n e S L.length (flatW L) (fun a => respL n e L.length S (flatW L) a e)))
  else if isF wd x.length wBlind 0 = true then orN (spTxt (blindL n e L.length (flatW L) L.length)) true
  else if isF wd x.length wLadder 2 = true then orN (spTxt (termsOf (nth x 0) (nth x 1))) true
  else if isF wd x.length wCut 2 = true then (match cutO (nth x 0) (nth x 1) with
    | none => orN (tileLine 0 []) false
    | some k => orN (tileLine k (cutX (nth x 0).toNat (nth x 1).toNat k)) true)
  else unkT
def netW : List UInt8 := [110, 101, 116, 32]
/-- The network behind a line, and what the line shows. -/
noncomputable def runL (y : Nt) (s : List UInt8) : Nt × List UInt8 :=
  if s = [] ∨ bnth s 0 = 35 then (y, [])
  else if Lib.hasPrefix s netW = true then (if pnB (hdI (Lib.trimPrefix s netW)) (Lib.trimPrefix s netW) = true then (pnN (Lib.trimPrefix s netW), [111, 107]) else (y, unkT))
  else if allB (pieces [32] s).tail = true then (match chR y.nodes.toNat y.ends.toNat y.scale y.wires (tnth (pieces [32] s) 0) (numsR (pieces [32] s).tail) with
    | some (true, z) => (z, netTxt z.nodes z.ends z.scale z.wires.length (flatW z.wires))
    | some (false, _) => (y, [110, 111, 110, 101])
    | none => (y, shR y.nodes.toNat y.ends.toNat y.scale y.wires (tnth (pieces [32] s) 0) (numsR (pieces [32] s).tail)))
  else (y, unkT)
/-- What is asked of a line that feeds: the volts are small. -/
def fdFine (s : List UInt8) (e : Nat) : Prop := tnth (pieces [32] s) 0 = wFeed → (numsR (pieces [32] s).tail).length = e → fdOk e (numsR (pieces [32] s).tail)
/-- Valid networks stay valid. -/
theorem ok_of {b : Bool} {n e : Nat} {S : Int} {L : List Wr} (h : b = true → netB n e S L.length (flatW L) = true) (hb : b = true) : okNt (oNet b n e S L) := by
  rw [oNet_t hb]
  exact ⟨n, e, rfl, rfl, h hb⟩
theorem meshK_ok : ∀ (k : Nat) (b : Bool) (y : Nt), (b = true → okNt y) → (meshK k (b, y)).1 = true → okNt (meshK k (b, y)).2
  | 0, _, _, h, hb => h hb
  | k + 1, b, y, h, hb => by
    unfold meshK at hb ⊢
    by_cases c : (b, y).1 = true ∧ (b, y).2.ends < (b, y).2.nodes
    · rw [if_pos c] at hb ⊢
      refine meshK_ok k _ _ (fun hm => ?_) hb
      obtain ⟨n, e, h1, h2, h3⟩ := h c.1
      simp only at hm ⊢
      unfold mshN mshB at *
      rw [h1, h2] at hm ⊢
      exact ok_of (fun hx => hx) hm
    · rw [if_neg c] at hb ⊢
      exact h hb
theorem ch_ok {n e : Nat} {S : Int} {L : List Wr} {wd : List UInt8} {x : List Int} {z : Nt} (_ : netB n e S L.length (flatW L) = true) (hk : okR e (redF e ⟨n, S, L⟩ 5)) (h : chR n e S L wd x = some (true, z)) : okNt z := by
  unfold chR at h
  split at h
  · simp only [Option.some.injEq, Prod.mk.injEq] at h
    obtain ⟨h1, rfl⟩ := h
    exact ok_of (fun hb => by unfold putB at hb; simp only [Bool.and_eq_true] at hb; exact hb.2) h1
  split at h
  · simp only [Option.some.injEq, Prod.mk.injEq] at h
    obtain ⟨h1, rfl⟩ := h
    exact ok_of (fun hb => by unfold jnB at hb; simp only [Bool.and_eq_true] at hb; exact hb.2) h1
  split at h
  · simp only [Option.some.injEq, Prod.mk.injEq] at h
    obtain ⟨h1, rfl⟩ := h
    exact ok_of (fun hb => by unfold swB at hb; simp only [Bool.and_eq_true] at hb; exact hb.2) h1
  split at h
  · simp only [Option.some.injEq, Prod.mk.injEq] at h
    obtain ⟨h1, rfl⟩ := h
    exact ok_of (fun hb => by unfold dropB at hb; simp only [Bool.and_eq_true] at hb; exact hb.2.2) h1
  split at h
  · simp only [Option.some.injEq, Prod.mk.injEq] at h
    obtain ⟨h1, rfl⟩ := h
    exact ok_of (fun hb => by unfold starB at hb; simp only [Bool.and_eq_true] at hb; exact hb.2) h1
  split at h
  · simp only [Option.some.injEq, Prod.mk.injEq] at h
    obtain ⟨h1, rfl⟩ := h
    exact ok_of (fun hb => by unfold trB at hb; simp only [Bool.and_eq_true] at hb; exact hb.2) h1
  split at h
  · simp only [Option.some.injEq, Prod.mk.injEq] at h
    obtain ⟨h1, rfl⟩ := h
    exact ok_of (fun hb => hb) h1
  split at h
  · simp only [Option.some.injEq, Prod.mk.injEq] at h
    obtain ⟨_, rfl⟩ := h
    exact ⟨_, e, rfl, rfl, hk⟩
  split at h
  · simp only [Option.some.injEq] at h
    have h1 : (meshR n e S L.length (flatW L)).1 = true := by rw [h]
    have h2 : (meshR n e S L.length (flatW L)).2 = z := by rw [h]
    rw [← h2]
    exact meshK_ok _ _ _ (fun hb => ok_of (fun hx => hx) hb) h1
  · cases h
end Go.Proofs.YtagiecajffhnpaaGreat
