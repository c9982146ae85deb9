/- A region that draws its order: the first n operations under a condition S on the world, then a tail in one forced order. No program in sight. -/
import Derived.Test.YtenfkpdbfmeebaaWBase
namespace Go.Proofs.Ytenfkpdbfmeebaa

open Go

section
variable {P : Program} {ops : Array Oper} {Q : Exit → Act → World → Prop} {md : Region.Mode} {S : World → Prop}

/-- Whatever order the first n operations take: S holds behind each, and at their end L. -/
def wpAnyT (P : Program) (md : Region.Mode) (ops : Array Oper) (Q : Exit → Act → World → Prop) (S : World → Prop) (n : Nat) (L : Array Bool → Act → World → Prop) : Nat → Array Bool → Act → World → Prop
  | 0, listed, a, w => L listed a w
  | f + 1, listed, a, w => Region.ready md ops listed ≠ [] ∧ ∀ i ∈ Region.ready md ops listed, i < n ∧ wpOp P ops Q i (fun a' w' => S w' ∧ wpAnyT P md ops Q S n L f (listed.setIfInBounds i true) a' w') a w

theorem wpAny_of_T {n g : Nat} {L : Array Bool → Act → World → Prop} (hL : ∀ listed a w, L listed a w → wpAny P md ops Q g listed a w) :
    ∀ (f : Nat) (listed : Array Bool) (a : Act) (w : World), wpAnyT P md ops Q S n L f listed a w → wpAny P md ops Q (f + g) listed a w
  | 0, listed, a, w, h => by rw [Nat.zero_add]; exact hL _ _ _ h
  | f + 1, listed, a, w, h => by
    rw [show f + 1 + g = (f + g) + 1 by omega]
    exact ⟨fun h0 => absurd h0 h.1, fun i hi => wpOp_mono (fun a' w' h' => wpAny_of_T hL f _ a' w' h'.2) (h.2 i hi).2⟩

theorem wpAnyT_first {n i : Nat} {oi : Oper} {v : Value} {L : Array Bool → Act → World → Prop} (hi : ops[i]? = some oi) (hsel : ∀ (j : Nat) (o : Oper) cs b, ops[j]? = some o → o.op ≠ .select cs b)
    (hQ : ∀ c a w, Q (.panic c) (a.put oi.dst v) w → Q (.panic c) a w)
    (hs : Region.sinkB md ops n = true) (hc : Region.chainB md ops n = true) (hn : n < ops.size) (hin : i < n)
    (hdone : ∀ listed a w, L listed a w → ∀ j ∈ Region.ready md ops listed, n ≤ j) :
    ∀ (f : Nat) (listed : Array Bool) (a : Act) (w : World), HeadInv md ops n listed →
      (∀ j oj, ops[j]? = some oj → j ≠ i → listed.getD j true = false → (∀ e ∈ oj.after, Region.binds md e = true → e.on ≠ i) → oi.apart ops oj = true) →
      i ∈ Region.ready md ops listed → YieldsIf P ops S oi v a → S w →
      wpAnyT P md ops Q S n L f (listed.setIfInBounds i true) (a.put oi.dst v) w → wpAnyT P md ops Q S n L (f + 1) listed a w := by
  intro f
  induction f with
  | zero =>
    intro listed a w inv _ hr hy hS H
    have hun := (mem_ready.1 hr).1
    refine ⟨fun h => (by rw [h] at hr; cases hr), fun j hj => ?_⟩
    have hjn : j < n := by
      rcases Nat.lt_or_ge j n with h | h
      · exact h
      · exact absurd hj (tail_waits hs hc hn inv _ i rfl hin hun j h)
    refine ⟨hjn, ?_⟩
    by_cases hji : j = i
    · subst hji; exact hy.wpOp hi hS ⟨hS, H⟩
    · have := hdone _ _ _ H j (ready_mono hj hji)
      omega
  | succ f ih =>
    intro listed a w inv hfree hr hy hS H
    have hun := (mem_ready.1 hr).1
    refine ⟨fun h => (by rw [h] at hr; cases hr), fun j hj => ?_⟩
    have hjn : j < n := by
      rcases Nat.lt_or_ge j n with h | h
      · exact h
      · exact absurd hj (tail_waits hs hc hn inv _ i rfl hin hun j h)
    refine ⟨hjn, ?_⟩
    by_cases hji : j = i
    · subst hji; exact hy.wpOp hi hS ⟨hS, H⟩
    · have h1 := (H.2 j (ready_mono hj hji)).2
      obtain ⟨hjun, oj, hoj, hall⟩ := mem_ready.1 hj
      have hnot : ∀ e ∈ oj.after, Region.binds md e = true → e.on ≠ i := fun e he hb heq => by
        have h1 := hall e he hb
        rw [heq, getD_both hun] at h1
        cases h1
      have h2 := wpOp_putIf hoj (hfree j oj hoj hji hjun hnot) (fun cs b => hsel i oi cs b hi) (fun cs b => hsel j oj cs b hoj) hQ hy h1
      have hfree' : ∀ k ok, ops[k]? = some ok → k ≠ i → (listed.setIfInBounds j true).getD k true = false →
          (∀ e ∈ ok.after, Region.binds md e = true → e.on ≠ i) → oi.apart ops ok = true := fun k ok hk hki hun hno => by
        refine hfree k ok hk hki ?_ hno
        by_cases hjk : j = k
        · subst hjk; exact hjun
        · rw [getD_set_ne true hjk] at hun; exact hun
      refine wpOp_mono (fun a' w' h3 => ⟨h3.2.1, ih (listed.setIfInBounds j true) a' w' (inv.set hj hjn) hfree' (ready_mono hr (Ne.symm hji)) h3.1 h3.2.1 ?_⟩) h2
      rw [Array.setIfInBounds_comm _ _ hji]
      exact h3.2.2
end

section
variable {P : Program} {l : List Oper} {Q : Exit → Act → World → Prop} {S : World → Prop}

/-- The head's end. -/
def TailAt (P : Program) (l : List Oper) (Q : Exit → Act → World → Prop) (n : Nat) (listed : Array Bool) (a : Act) (w : World) : Prop :=
  Region.seqB .any l.toArray (l.length - n) n listed = true ∧ wpList P l.toArray Q (l.drop n) a w
/-- What the tactics carry: the head's invariant is at hand. -/
def Head (P : Program) (l : List Oper) (Q : Exit → Act → World → Prop) (S : World → Prop) (n f : Nat) (listed : Array Bool) (a : Act) (w : World) : Prop :=
  HeadInv .any l.toArray n listed → wpAnyT P .any l.toArray Q S n (TailAt P l Q n) f listed a w
/-- All that is asked of the region's form. -/
def okTail (l : List Oper) (n : Nat) : Bool := Region.noSelect l.toArray && (decide (n < l.length) && (Region.sinkB .any l.toArray n && Region.chainB .any l.toArray n))
theorem okTail_of {n : Nat} (h : okTail l n = true) : Region.noSelect l.toArray = true ∧ n < l.length ∧ Region.sinkB .any l.toArray n = true ∧ Region.chainB .any l.toArray n = true := by
  simpa [okTail] using h

/-- The beginning. -/
theorem wp_region_head {id : Nat} {a : Act} {w : World} (n : Nat) (hm : P.follows .mixedOrders = true) (hk : okTail l n = true) (hS : S w.drew)
    (h : S w.drew → Head P l Q S n n (Array.replicate l.length false) a w.drew) : (Code.region id l.toArray true).wp P Q a w := by
  obtain ⟨_, hn, _, _⟩ := okTail_of hk
  have inv0 : HeadInv .any l.toArray n (Array.replicate l.length false) :=
    ⟨by simp, fun j oj _ hl => (by rw [getD_replicate_false] at hl; cases hl), fun t _ ht => getD_in (by simpa using ht) (getD_replicate_false _ _)⟩
  refine wp_region_any hm ?_
  have H := h hS inv0
  have := wpAny_of_T (Q := Q) (g := l.length - n) (fun listed a' w' (hL : TailAt P l Q n listed a' w') => by
    have := wpAny_of_seq (md := .any) (Q' := Q) (l.drop n) n listed a' w' (fun j => by simp [List.getElem?_drop]) (by simpa using hL.1) hL.2
    simpa using this) _ _ _ _ H
  rw [show n + (l.length - n) = l.length by omega] at this
  simpa using this
/-- Take number i first. -/
theorem head_take {n f : Nat} {listed : Array Bool} {a : Act} {w : World} (i : Nat) {oi : Oper} {v : Value} (hi : l[i]? = some oi) (hk : okTail l n = true)
    (hf : (Region.free .any l.toArray listed i && ((Region.ready .any l.toArray listed).contains i && decide (i < n))) = true)
    (hQ : ∀ c a w, Q (.panic c) (a.put oi.dst v) w → Q (.panic c) a w) (hS : S w) (hy : YieldsIf P l.toArray S oi v a)
    (h : Head P l Q S n f (listed.setIfInBounds i true) (a.put oi.dst v) w) : Head P l Q S n (f + 1) listed a w := fun inv => by
  obtain ⟨h1, hn, h2, h3⟩ := okTail_of hk
  simp only [Bool.and_eq_true, decide_eq_true_eq] at hf
  obtain ⟨f1, f2, f3⟩ := hf
  have hr : i ∈ Region.ready .any l.toArray listed := by simpa using f2
  have hi' : l.toArray[i]? = some oi := by simpa using hi
  exact wpAnyT_first hi' (Region.noSelect_spec h1) hQ h2 h3 (by simpa using hn) f3 (fun listed a w hL => seqB_ready hL.1) f listed a w inv (Region.free_spec hi' f1) hr hy hS (h (inv.set hr f3))
/-- Number i is the only one that may come up. -/
theorem head_one {n f : Nat} {listed : Array Bool} {a : Act} {w : World} (i : Nat) {o : Oper} (hi : l[i]? = some o)
    (hr : (decide (Region.ready .any l.toArray listed = [i]) && decide (i < n)) = true)
    (h : ∀ K : Act → World → Prop, Shut (∀ a w, S w → (S w → Head P l Q S n f (listed.setIfInBounds i true) a w) → K a w) → if Region.wanted o (yielded l.toArray a.tmps) = true then Oper.wp P o a w K Q else K (a.put o.dst undef) w) :
    Head P l Q S n (f + 1) listed a w := fun inv => by
  simp only [Bool.and_eq_true, decide_eq_true_eq] at hr
  obtain ⟨h1, h2⟩ := hr
  refine ⟨fun h0 => (by rw [h1] at h0; cases h0), fun j hj => ?_⟩
  have hji : j = i := by rw [h1] at hj; simpa using hj
  have inv' := inv.set hj (by omega)
  rw [hji] at inv' ⊢
  refine ⟨h2, wpOp_step (by simpa using hi) (fun K hK => h K (fun a' w' hS hW => hK a' w' ⟨hS, hW hS inv'⟩))⟩
/-- Two may come up. -/
theorem head_two {n f : Nat} {listed : Array Bool} {a : Act} {w : World} (i j : Nat) {o p : Oper} (hi : l[i]? = some o) (hj : l[j]? = some p)
    (hr : (decide (Region.ready .any l.toArray listed = [i, j]) && (decide (i < n) && decide (j < n))) = true)
    (h : ∀ K : Act → World → Prop, Shut (∀ a w, S w → (S w → Head P l Q S n f (listed.setIfInBounds i true) a w) → K a w) → if Region.wanted o (yielded l.toArray a.tmps) = true then Oper.wp P o a w K Q else K (a.put o.dst undef) w)
    (h' : ∀ K : Act → World → Prop, Shut (∀ a w, S w → (S w → Head P l Q S n f (listed.setIfInBounds j true) a w) → K a w) → if Region.wanted p (yielded l.toArray a.tmps) = true then Oper.wp P p a w K Q else K (a.put p.dst undef) w) :
    Head P l Q S n (f + 1) listed a w := fun inv => by
  simp only [Bool.and_eq_true, decide_eq_true_eq] at hr
  obtain ⟨h1, h2, h3⟩ := hr
  refine ⟨fun h0 => (by rw [h1] at h0; cases h0), fun k hk => ?_⟩
  have hkk : k = i ∨ k = j := by rw [h1] at hk; simpa using hk
  rcases hkk with hkk | hkk
  · have inv' := inv.set hk (by omega)
    rw [hkk] at inv' ⊢
    exact ⟨h2, wpOp_step (by simpa using hi) (fun K hK => h K (fun a' w' hS hW => hK a' w' ⟨hS, hW hS inv'⟩))⟩
  · have inv' := inv.set hk (by omega)
    rw [hkk] at inv' ⊢
    exact ⟨h3, wpOp_step (by simpa using hj) (fun K hK => h' K (fun a' w' hS hW => hK a' w' ⟨hS, hW hS inv'⟩))⟩
/-- The head is done. -/
theorem head_done {n : Nat} {listed : Array Bool} {a : Act} {w : World} (hq : Region.seqB .any l.toArray (l.length - n) n listed = true) (h : wpList P l.toArray Q (l.drop n) a w) : Head P l Q S n 0 listed a w :=
  fun _ => ⟨hq, h⟩
/-- An operation that reads, where the world meets S. -/
theorem yields_if {P : Program} {l : List Oper} {S : World → Prop} {o : Oper} {v : Value} {a : Act} (hw : Region.wanted o (yielded l.toArray a.tmps) = true) (h : ∀ w, S w → (execOp a.eval o).run P w = .ok (.value v) w) : YieldsIf P l.toArray S o v a :=
  .inl ⟨hw, h⟩
end

end Go.Proofs.Ytenfkpdbfmeebaa
