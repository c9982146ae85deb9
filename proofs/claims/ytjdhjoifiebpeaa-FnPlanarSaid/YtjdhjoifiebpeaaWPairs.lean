/- Lists of pairs of lists of integers; CircularPairs of both sides. No condition. -/
import Derived.Test.YtjdhjoifiebpeaaWCirc
namespace Go.Proofs.Ytjdhjoifiebpeaa
set_option maxRecDepth 100000
open Go.ChangeShapes Go.WideShapes Go.ChangeAt Go.RowKit Go.Joins

theorem inf_pairI : (Try.prog.info? 25).map (fun i => (i.zero, i.size, i.bytes)) = some (some (Value.slice none 0 0), 1, 24) := by kernel_rfl
/-- The value u is a slice of the two lists of x. -/
def PairV (w : World) (u : Value) (x : List Int × List Int) : Prop :=
  ∃ g a ca b cb, u = .slice (some ⟨g, 0, none⟩) 2 2 ∧ w.ownsRow 0 23 1 u 2 [.slice (some a) x.1.length ca, .slice (some b) x.2.length cb] ∧
    w.ownsRow 0 3 1 (.slice (some a) x.1.length ca) x.1.length (icells x.1) ∧ w.ownsRow 0 3 1 (.slice (some b) x.2.length cb) x.2.length (icells x.2)
theorem PairV.keepT {w w' : World} {u : Value} {x : List Int × List Int} (h : PairV w u x) (hk : KeepT w w') : PairV w' u x := by
  obtain ⟨g, a, ca, b, cb, h1, h2, h3, h4⟩ := h
  exact ⟨g, a, ca, b, cb, h1, hk _ _ _ _ _ _ (by decide) h2, hk _ _ _ _ _ _ (by decide) h3, hk _ _ _ _ _ _ (by decide) h4⟩
def getP (S : List (List Int × List Int)) (i : Nat) : List Int × List Int := S.getD i ([], [])
theorem getP_eq {S : List (List Int × List Int)} {i : Nat} (h : i < S.length) : getP S i = S[i] := by simp [getP, List.getD, h]
theorem getP_app {S : List (List Int × List Int)} {x : List Int × List Int} {i : Nat} (h : i < S.length) : getP (S ++ [x]) i = getP S i := by
  rw [getP_eq h, getP_eq (by simp; omega)]
  exact List.getElem_append_left h
theorem getP_last {S : List (List Int × List Int)} {x : List Int × List Int} : getP (S ++ [x]) S.length = x := by
  rw [getP_eq (by simp)]
  simp
/-- A slice of pairs, the call's own. -/
def OwnP (w : World) (base : Nat) (v : Value) (S : List (List Int × List Int)) : Prop :=
  ∃ cs : List Value, w.ownsRow base 25 1 v S.length cs ∧ ∀ i, i < S.length → ∃ u, cs[i]? = some u ∧ PairV w u (getP S i)
theorem OwnP.ge {w w' : World} {base : Nat} {v : Value} {S : List (List Int × List Int)} (h : OwnP w base v S) (hg : Ge w w') : OwnP w' base v S := by
  obtain ⟨cs, h1, h2⟩ := h
  refine ⟨cs, hg.owns h1, fun i hi => ?_⟩
  obtain ⟨u, h3, h4⟩ := h2 i hi
  exact ⟨u, h3, h4.keepT (KeepT.of_ge hg)⟩
theorem OwnP.nil (w : World) : OwnP (w.alloc (.cells #[] 25)) w.heap.size (.slice (some ⟨w.heap.size, 0, none⟩) 0 0) [] :=
  ⟨[], owns_lit0 _ _ _, fun i hi => by simp at hi⟩
theorem ap_pair {w : World} {ops : Array Oper} {rest : List Oper} {o : Oper} {a : Act} {Q : Exit → Act → World → Prop} (hgd : o.guard = none) (s x : Operand)
    (ho : o.op = .call { callee := .builtin .append, args := #[s, x], argTypes := #[35, 35] })
    (base : Nat) (v : Value) (S : List (List Int × List Int)) (hs : a.eval s = v) (hown : OwnP w base v S)
    (y : List Int × List Int) (u : Value) (hu : PairV w u y) (b1 : Nat) (hx : a.eval x = .slice (some ⟨b1, 0, none⟩) 1 1) (hb1 : b1 = w.heap.size) (hn : S.length < 1099511627776) (hbase : base ≤ w.heap.size)
    (h : ∀ v' w', OwnP w' base v' (S ++ [y]) → (∀ w0, Ge w0 w → w0.heap.size ≤ base → Ge w0 w') → KeepT w w' → wpList Try.prog ops Q rest (a.put o.dst v') w') :
    wpList Try.prog ops Q (o :: rest) a (w.alloc (.cells #[u] 25)) := by
  subst hb1
  obtain ⟨cs, h1, h2⟩ := hown
  have hcl : cs.length = S.length := by have := h1.1; omega
  have hu1 : u.oneCell' = true := by obtain ⟨g, _, _, _, _, rfl, _⟩ := hu; rfl
  refine ap1 hgd s x 35 ho 25 _ 1 24 Try.underlying35 inf_pairI rfl (by decide) (by decide) base v _ cs hs h1 #[u] hx rfl (by simpa using hu1) hn hbase (fun v' w' h3 h4 => ?_)
  have hk : KeepT w w' := fun b e s v n x he hr => owns_typed hr h1 he h4
  refine h v' w' ⟨cs ++ [u], by simpa using h3, fun i hi => ?_⟩ (fun w0 g0 hb => g0.mine h1 hb h4) hk
  by_cases e : i = S.length
  · subst e
    rw [getP_last]
    exact ⟨u, by rw [← hcl]; simp, hu.keepT hk⟩
  · have hi' : i < S.length := by simp at hi; omega
    rw [getP_app hi']
    obtain ⟨u', h5, h6⟩ := h2 i hi'
    exact ⟨u', by rw [List.getElem?_append_left (by omega)]; exact h5, h6.keepT hk⟩
/-- '[][]int{p, q}' -/
theorem pair_lit (w : World) (p q : List Int) (a b : Addr) (n ca cb : Nat) (hp : w.ownsRow 0 3 1 (.slice (some a) n ca) n (icells p)) (hq : w.ownsRow 0 3 1 (.slice (some b) n cb) n (icells q)) (hlp : p.length = n) (hlq : q.length = n) :
    PairV (w.alloc (.cells #[.slice (some a) n ca, .slice (some b) n cb] 23)) (.slice (some ⟨w.heap.size, 0, none⟩) 2 2) (p, q) := by
  refine ⟨w.heap.size, a, ca, b, cb, rfl, ?_, ?_, ?_⟩
  · have h1 := World.ownsRow_lit w (base := 0) (e := 23) (size := 1) #[.slice (some a) n ca, .slice (some b) n cb] 2 (by omega) (by unfold maxLen; omega) (by simp)
    simp only [hlp, hlq]
    exact h1
  · simp only [hlp]
    exact hp.alloc _
  · simp only [hlq]
    exact hq.alloc _
theorem OwnP.rows {w : World} {base : Nat} {v : Value} {S : List (List Int × List Int)} {n : Nat} (h : OwnP w base v S) (hn : S.length = n) :
    ∃ p cap, v = .slice p n cap ∧ ∀ i, i < n → ∃ b o u, p = some ⟨b, o, none⟩ ∧ w.cell? ⟨b, o + i, none⟩ = some u ∧ PairV w u (getP S i) := by
  subst hn
  obtain ⟨cs, h1, h2⟩ := h
  obtain ⟨p, cap, rfl⟩ := owns_form h1
  refine ⟨p, cap, rfl, fun i hi => ?_⟩
  obtain ⟨u, h3, h4⟩ := h2 i hi
  obtain ⟨g, c2, he⟩ := Go.Joins.ownsRow_form h1 (by omega)
  simp only [Value.slice.injEq] at he
  obtain ⟨rfl, _, rfl⟩ := he
  exact ⟨g, 0, u, rfl, by rw [Nat.zero_add, h1.cellAt i (by omega), h3], h4⟩
end Go.Proofs.Ytjdhjoifiebpeaa
