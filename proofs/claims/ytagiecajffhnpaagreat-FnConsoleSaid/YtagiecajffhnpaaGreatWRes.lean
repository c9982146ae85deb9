/- Results read behind two stores. -/
import Derived.Test.YtagiecajffhnpaaGreatWBase
namespace Go.Proofs.YtagiecajffhnpaaGreat

open Go.RowKit

theorem set_readW {w : World} {a : Addr} {x u : Value} (h : (w.setCell a x).cell? a = some u) : (w.setCell a x).cell? a = some x := by
  cases e : w.cell? a with
  | some z => exact World.cell?_setCell_same w a x e
  | none =>
    exfalso
    simp only [World.setCell, World.cell?, Array.getElem?_modify, if_pos] at h e
    cases hb : w.heap[a.block]? with
    | none => rw [hb] at h; simp at h
    | some o =>
      rw [hb] at h e
      cases o with
      | cells c t f =>
        simp only [Option.map_some] at h
        cases hs : a.spot with
        | some sp => rw [hs] at h; simp at h
        | none =>
          rw [hs] at h e
          simp only [Option.isSome_none, Bool.false_eq_true, if_false] at h e
          have h1 : a.off < c.size := by have := (Array.getElem?_eq_some_iff.1 h).1; simpa using this
          have h2 := Array.getElem?_eq_none_iff.1 e
          omega
      | _ => simp at h
theorem res2W {w : World} {a b : Addr} {x y u v : Value} (h : ((w.setCell a x).setCell b y).cell? a = some u) (k : ((w.setCell a x).setCell b y).cell? b = some v) (hne : b ≠ a) :
    ((w.setCell a x).setCell b y).cell? a = some x ∧ ((w.setCell a x).setCell b y).cell? b = some y := by
  refine ⟨?_, set_readW k⟩
  rw [World.cell?_setCell_other _ _ _ _ hne] at h ⊢
  exact set_readW h

end Go.Proofs.YtagiecajffhnpaaGreat
