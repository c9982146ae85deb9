/- l04Det of the reference. No condition. -/
import Derived.Test.YtagiecajffhnpaaGreatWDet
namespace Go.Proofs.YtagiecajffhnpaaGreat
set_option maxRecDepth 100000
open Go.ChangeShapes Go.WideShapes Go.ChangeAt Go.RowKit Go.Joins

theorem ap_intsK {w : World} {o : Oper} {a : Act} {K : Act → World → Prop} {Q : Exit → Act → World → Prop} (s x : Operand)
    (ho : o.op = .call { callee := .builtin .append, args := #[s, x], argTypes := #[51, 51] })
    (base : Nat) (v : Value) (n : Nat) (l : List Int) (hs : a.eval s = v) (hown : w.ownsRow base 3 1 v n (icells l)) (hb : base ≤ w.heap.size)
    (ad : Addr) (m c : Nat) (y : List Int) (hx : a.eval x = .slice (some ad) m c) (hy : SlI w (.slice (some ad) m c) y) (hn : n + m < 1000)
    (h : ∀ v' w', w'.ownsRow base 3 1 v' (n + m) (icells (l ++ y)) → Mine w w' v → K (a.put o.dst v') w') : o.wp Tryz.prog a w K Q := by
  obtain ⟨i, hi, e⟩ : ∃ i, Tryz.prog.info? 3 = some i ∧ (i.zero, i.size, i.bytes) = (some (.int .i64 0), 1, 8) := by
    have := inf_int
    cases hc : Tryz.prog.info? 3 with
    | none => rw [hc] at this; simp at this
    | some i => rw [hc] at this; exact ⟨i, rfl, by simpa using this⟩
  simp only [Prod.mk.injEq] at e
  obtain ⟨h1, p, c', he, hc⟩ := hy
  simp only [Value.slice.injEq] at he
  obtain ⟨rfl, hm, rfl⟩ := he
  refine wp_append_own w s x 51 ho base 3 i _ 1 8 Tryz.underlying51 hi e.1 e.2.1 e.2.2 rfl (by decide) v n (icells l) hs hown ad m c (icells y) hx (by rw [h1, hm]) (fun j u hu => ?_) (fun u hu => ?_) (by unfold maxLen; omega) (by omega) hb (fun v' w' h2 h3 _ => h v' w' (by rw [← icells_append]; exact h2) h3)
  · obtain ⟨b, o, e, hz⟩ := hc j u hu
    simp only [Option.some.injEq] at e
    subst e
    by_cases hj0 : j = 0
    · subst hj0; simpa [Addr.add] using hz
    · simpa [Addr.add, hj0] using hz
  · simp only [icells, List.mem_map] at hu
    obtain ⟨_, _, rfl⟩ := hu
    rfl
theorem wr64 (x : Int) (h1 : -9223372036854775808 ≤ x) (h2 : x ≤ 9223372036854775807) : wrap64 x = x := by
  unfold wrap64
  omega
theorem owns_cap {w : World} {base : Nat} {e : TypeId} {sz : Nat} {v : Value} {n : Nat} {xs : List Value} (h : w.ownsRow base e sz v n xs) : ∀ p n' c, v = .slice p n' c → n' ≤ c := by
  intro p n' c hv
  rcases h.2 with ⟨h', _⟩ | ⟨g', cap', cur, h', _, _, hnc, _⟩
  · rw [hv] at h'; simp at h'; omega
  · rw [hv] at h'; simp at h'; omega

end Go.Proofs.YtagiecajffhnpaaGreat
