/- What all rows of this seat share: a law that returns true and leaves old memory alone meets its row's post. -/
import Derived.Test.YtenfkpdbfmeebaaWBase
import Derived.ProofKit
import Derived.Lib.SmallJoins
namespace Go.Proofs.Ytenfkpdbfmeebaa

open Go.ChangeShapes Go.WideShapes Go.ChangeAt Go.RowKit Go.Joins

theorem own_knob : ownKnob Try.prog.godebug = none := by kernel_rfl
theorem laid_out : laidOutB Try.prog = true := by kernel_rfl
def InInt (x : Int) : Prop := -9223372036854775808 ≤ x ∧ x ≤ 9223372036854775807
theorem i64_of_wf {x : Int} (h : (Lit.int .i64 x).wf = true) : InInt x := by
  simp [Lit.wf, IntKind.min, IntKind.max, IntKind.signed, IntKind.bits] at h
  unfold InInt
  omega

/-- Arguments read as they did. -/
theorem trodAll_stays {H : Type} {enc : TypeId × Value → H} {P : Program} (hl : laidOutB P = true) {W W' : World} (hg : Ge W W') :
    ∀ (ts : List TypeId) (vs : List Value) (ds : List (DataW H)) (p : List MemPlace), (∀ t ∈ ts, P.readableRec t = true ∧ t < P.types.size) →
      DataW.TrodAll enc P W 0 (fun _ => true) true ts vs ds p → (∀ x ∈ p, x.block < W.heap.size) →
      DataW.TrodAll enc P W' 0 (fun b => decide (b < W.heap.size)) true ts vs ds p := by
  intro ts
  induction ts with
  | nil =>
    intro vs ds p _ h _
    cases vs with
    | nil => cases ds with
      | nil => exact h
      | cons => exact h.elim
    | cons => exact h.elim
  | cons t ts ih =>
    intro vs ds p ht h hlt
    cases vs with
    | nil => exact h.elim
    | cons v vs => cases ds with
      | nil => exact h.elim
      | cons d ds =>
        obtain ⟨p1, p2, h1, h2, rfl⟩ := h
        obtain ⟨r1, r2⟩ := ht t (by simp)
        exact ⟨p1, p2, Below.trod hl r1 r2 h1 hg (fun x hx => hlt x (List.mem_append.2 (.inl hx))),
          ih vs ds p2 (fun t' h' => ht t' (List.mem_cons_of_mem _ h')) h2 (fun x hx => hlt x (List.mem_append.2 (.inr hx))), rfl⟩

/-- The end of a law: true came back, nothing that was there has turned. -/
theorem law_done {H : Type} {enc : TypeId × Value → H} {P : Program} {f : Func} {s : ChangeSpec} {W W' : World} {args : Array Value} {ds gs : List (DataW H)} {before : List MemPlace} {B : TypeId} {e : Ending}
    (he : e = .returned (.bool true)) (hl : laidOutB P = true) (hrt : f.resultTypes = #[B]) (hB : P.underlying B = some .bool)
    (hread : f.params.toList.all (fun t => P.readableRec t && decide (t < P.types.size)) = true)
    (hW : DataW.Whole enc P f.params.toList s.vars false W args.toList ds gs before) (hv : s.vars = [])
    (hfn : s.fn H (ds ++ gs) = { results := [.lit (.bool true)], args := ds }) (hg : Ge W W') :
    ∃ v, e = .returned v ∧ s.post enc P f false true false false W args v W' := by
  subst he
  refine ⟨.bool true, rfl, ?_⟩
  have hlt := fun x hx => hW.lt x hx
  have hW' := hW
  obtain ⟨p, q, hA, hV, rfl, hfz, hnd⟩ := hW'
  have hq : q = [] ∧ gs = [] := by
    rw [hv] at hV
    cases gs with
    | nil => exact ⟨hV, rfl⟩
    | cons => exact hV.elim
  obtain ⟨rfl, rfl⟩ := hq
  rw [List.all_eq_true] at hread
  have hread' : ∀ t ∈ f.params.toList, P.readableRec t = true ∧ t < P.types.size := by
    intro t ht
    have := hread t ht
    simp at this
    exact this
  refine ⟨ds, [], p ++ [], [], p, [], hW, ?_, ?_, ?_, Below.frame hg _, fun h => by cases h⟩
  · rw [hfn, hrt]
    exact trodAll_mk1 (shut_bool hB true)
  · rw [hfn]
    exact trodAll_stays hl hg _ _ _ _ hread' hA (fun x hx => hlt x (List.mem_append.2 (.inl hx)))
  · rw [hv, hfn]
    exact rfl
end Go.Proofs.Ytenfkpdbfmeebaa
