/- fits, calculable, RatioSum, RatioInverse, positive, SeriesRatio, ParallelRatio, and the reference's. -/
import Derived.Test.YtndbdbcbnipmaaaWRatio
import Derived.Test.YtndbdbcbnipmaaaPlSum
namespace Go.Proofs.Ytndbdbcbnipmaaa

open Go.RowKit

theorem froz_alloc {w : World} {o : Obj} {a : Addr} {v : Value} (hc : w.cell? a = some v) (h : w.frozen? a = false) : (w.alloc o).frozen? a = false := Ge.keepF ((Ge.refl w).alloc o) hc h

theorem set_read {w : World} {a : Addr} {x u : Value} (h : (w.setCell a x).cell? a = some u) : (w.setCell a x).cell? a = some x := by
  cases e : w.cell? a with
  | some z => exact World.cell?_setCell_same w a x e
  | none =>
    exfalso
    simp only [World.setCell, World.cell?, Array.getElem?_modify, if_pos] at h e
    cases hb : w.heap[a.block]? with
    | none => rw [hb] at h; simp at h
    | some o =>
      rw [hb] at h e
      cases o with
      | cells c t f =>
        simp only [Option.map_some] at h
        cases hs : a.spot with
        | some sp => rw [hs] at h; simp at h
        | none =>
          rw [hs] at h e
          simp only [Option.isSome_none, Bool.false_eq_true, if_false] at h e
          have h1 : a.off < c.size := by have := (Array.getElem?_eq_some_iff.1 h).1; simpa using this
          have h2 := Array.getElem?_eq_none_iff.1 e
          omega
      | _ => simp at h
theorem res2 {w : World} {a b : Addr} {x y u v : Value} (h : ((w.setCell a x).setCell b y).cell? a = some u) (k : ((w.setCell a x).setCell b y).cell? b = some v) (hne : b ≠ a) :
    ((w.setCell a x).setCell b y).cell? a = some x ∧ ((w.setCell a x).setCell b y).cell? b = some y := by
  refine ⟨?_, set_read k⟩
  rw [World.cell?_setCell_other _ _ _ _ hne] at h ⊢
  exact set_read h

theorem ret_agg2 {a b c d : Int} (h : a = c) (k : b = d) : Ending.returned (.agg #[.int .i64 a, .int .i64 b]) = .returned (.agg #[.int .i64 c, .int .i64 d]) := by rw [h, k]

/-- A number of a fraction: within the bounds of MaxNum. -/
def Small (a : Int) : Prop := -1000000000000000000 ≤ a ∧ a ≤ 1000000000000000000
theorem small {a : Int} (h0 : -1000000000000000000 ≤ a) (h1 : a ≤ 1000000000000000000) : Small a := ⟨h0, h1⟩

theorem ok_small {n d : Int} (h : ratioOk n d = true) : -1000000000000000000 ≤ n ∧ n ≤ 1000000000000000000 ∧ 1 ≤ d ∧ d ≤ 1000000000000000 := by
  rw [ratioOk_iff] at h; omega

theorem prod_small {a b : Int} (h : fitsB a b = true) : -1000000000000000000 ≤ a * b ∧ a * b ≤ 1000000000000000000 := fitsB_iff.1 h

theorem lEqRatio (n d : Int) (w : World) : Calls Try.prog 63 #[.agg #[.int .i64 n, .int .i64 d], .agg #[.int .i64 n, .int .i64 d]] w fun e w' => e = .returned (.bool true) ∧ Ge w w' := by
  have h1 : (n != n) = false := by simp
  have h2 : (d != d) = false := by simp
  go_enter Try.func63, Try.ntmps63
  go_wp2_with fail
  go_ret
  exact ⟨rfl, by (repeat (first | with_reducible exact Ge.refl _ | assumption | with_reducible refine Ge.drew ?_ | with_reducible refine Ge.drewN ?_ _ | with_reducible refine Ge.alloc ?_ _ | (with_reducible refine Ge.setCell ?_ (by first | (simp; done) | omega | (simp; omega)) _) | with_reducible refine Ge.trans ?_ (by assumption)))⟩
end Go.Proofs.Ytndbdbcbnipmaaa
