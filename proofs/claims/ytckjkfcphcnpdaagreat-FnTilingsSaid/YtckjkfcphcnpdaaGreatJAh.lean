/- l04Det of the reference, up to five rows. No condition. Slices of strings; Join. No condition. Join of spec. No condition. FormatRow of impl and of spec. No condition. Plain law: the response of a network by minors; entries of the Laplacian. No program in sight. The nodes that are no terminals; appending to a row of one. No condition. The neighbors of a node: WiresAt of impl, l07Near of the reference; the first node with a number of neighbors. No condition. -/
import Derived.Test.YtckjkfcphcnpdaaGreatWDetS
import Derived.Test.YtckjkfcphcnpdaaGreatJAg
import Derived.Test.YtckjkfcphcnpdaaGreatWSl
import Derived.Test.YtckjkfcphcnpdaaGreatJAf
import Derived.Test.YtckjkfcphcnpdaaGreatShelf
import Derived.Test.YtckjkfcphcnpdaaGreatWEqInt
import Derived.Test.YtckjkfcphcnpdaaGreatWLaw
import Derived.Test.YtckjkfcphcnpdaaGreatWFlat
import Derived.Test.YtckjkfcphcnpdaaGreatJAd
import Derived.Test.YtckjkfcphcnpdaaGreatWMatO
import Derived.Test.YtckjkfcphcnpdaaGreatJAb
import Derived.Test.YtckjkfcphcnpdaaGreatWOthers
import Derived.Test.YtckjkfcphcnpdaaGreatJAe
import Derived.Lib.Join
import Derived.Maps.AppendAt
namespace Go.Proofs.YtckjkfcphcnpdaaGreat
set_option maxRecDepth 100000
open Go.ChangeShapes Go.WideShapes Go.ChangeAt Go.RowKit Go.Joins

end Go.Proofs.YtckjkfcphcnpdaaGreat

namespace Go.Proofs.YtckjkfcphcnpdaaGreat

open Go.RowKit

/-- Texts as cells. -/
def scells (l : List (List UInt8)) : List Value := l.map fun s => .string (bstr s)
theorem scells_length (l : List (List UInt8)) : (scells l).length = l.length := by simp [scells]
/-- A slice of strings that reads as l. -/
def SlS (w : World) (v : Value) (l : List (List UInt8)) : Prop := Sl w v l.length 1 (scells l)
theorem SlS.ge {w w' : World} {v : Value} {l : List (List UInt8)} (h : SlS w v l) (hg : Ge w w') : SlS w' v l := Sl.ge h hg
theorem SlS.of_owns {w : World} {base : Nat} {e : TypeId} {v : Value} {l : List (List UInt8)} (h : w.ownsRow base e 1 v l.length (scells l)) : SlS w v l := Sl.of_owns h
def tnth (l : List (List UInt8)) (i : Nat) : List UInt8 := l.getD i []
theorem tnth_eq (l : List (List UInt8)) (i : Nat) (h : i < l.length) : tnth l i = l[i] := by simp [tnth, List.getD, h]
theorem SlS.openN {w : World} {v : Value} {l : List (List UInt8)} {n : Nat} (h : SlS w v l) (hn : l.length = n) : ∃ p cap, v = .slice p n cap ∧ ∀ i, i < n → ∃ b o, p = some ⟨b, o, none⟩ ∧ w.cell? ⟨b, o + i, none⟩ = some (.string (bstr (tnth l i))) := by
  subst hn
  obtain ⟨_, p, cap, hv, hc⟩ := h
  refine ⟨p, cap, hv, fun i hi => ?_⟩
  exact hc i (.string (bstr (tnth l i))) (by simp [scells, hi, tnth_eq])

theorem inf_str : (Tryz.prog.info? 9).map (fun i => (i.zero, i.size, i.bytes)) = some (some (.string ⟨#[]⟩), 1, 16) := by kernel_rfl
theorem ap_str {w : World} {ops : Array Oper} {rest : List Oper} {o : Oper} {a : Act} {Q : Exit → Act → World → Prop} (hgd : o.guard = none) (s x : Operand)
    (ho : o.op = .call { callee := .builtin .append, args := #[s, x], argTypes := #[63, 63] })
    (base : Nat) (v : Value) (l : List (List UInt8)) (hs : a.eval s = v) (hown : w.ownsRow base 9 1 v l.length (scells l))
    (y : List UInt8) (hx : a.eval x = .slice (some ⟨w.heap.size, 0, none⟩) 1 1) (hn : l.length < 1099511627776) (hbase : base ≤ w.heap.size)
    (h : ∀ v' w', w'.ownsRow base 9 1 v' (l ++ [y]).length (scells (l ++ [y])) → Mine w w' v → wpList Tryz.prog ops Q rest (a.put o.dst v') w') :
    wpList Tryz.prog ops Q (o :: rest) a (w.alloc (.cells #[.string (bstr y)] 9)) :=
  ap1 hgd s x 63 ho 9 _ 1 16 Tryz.underlying63 inf_str rfl (by decide) (by decide) base v _ _ hs hown #[.string (bstr y)] hx rfl (by simp [Value.oneCell']) hn hbase
    (fun v' w' h2 h3 => h v' w' (by simpa [scells] using h2) h3)

theorem lens_le (l : List (List UInt8)) (B : Nat) (h : ∀ x ∈ l, x.length ≤ B) : Lib.lens l ≤ B * l.length := by
  induction l with
  | nil => simp [Lib.lens]
  | cons x r ih =>
    have h1 := ih (fun y hy => h y (List.mem_cons_of_mem _ hy))
    have h2 := h x (by simp)
    simp only [Lib.lens, List.map_cons, List.sum_cons, List.length_cons] at h1 ⊢
    rw [Nat.mul_succ]
    omega
theorem joinTail_le (sep : List UInt8) (l : List (List UInt8)) (B : Nat) (h : ∀ x ∈ l, x.length ≤ B) : (Lib.joinTail sep l).length ≤ (sep.length + B) * l.length := by
  rw [Lib.joinTail_length, Nat.add_mul]
  have := lens_le l B h
  omega
theorem join_le (sep : List UInt8) (l : List (List UInt8)) (B : Nat) (h : ∀ x ∈ l, x.length ≤ B) : (Lib.join l sep).length ≤ (sep.length + B) * l.length := by
  cases l with
  | nil => simp [Lib.join_nil]
  | cons x r =>
    rw [Lib.join_cons, List.length_append]
    have h1 := joinTail_le sep r B (fun y hy => h y (List.mem_cons_of_mem _ hy))
    have h2 := h x (by simp)
    simp only [List.length_cons, Nat.mul_succ]
    omega
theorem joinTail_snoc (sep : List UInt8) (l : List (List UInt8)) (y : List UInt8) : Lib.joinTail sep (l ++ [y]) = Lib.joinTail sep l ++ (sep ++ y) := by
  simp [Lib.joinTail]

theorem iJoin (base : Nat) (e : TypeId) (v : Value) (l : List (List UInt8)) (sep : List UInt8) (w : World) (h : w.ownsRow base e 1 v l.length (scells l)) (hn : l.length ≤ 140737488355328) (hlen : (Lib.join l sep).length ≤ 140737488355328) :
    Calls Tryz.prog 34 #[v, .string (bstr sep)] w fun en w' => en = .returned (.string (bstr (Lib.join l sep))) ∧ Ge w w' := by
  have key : ∃ f : World → Prop, (∀ w', f w' → Ge w w') ∧ Calls Tryz.prog 55 #[v, .string (bstr sep)] w fun en w' => en = .returned (.string (bstr (Lib.join l sep))) ∧ f w' := by
    by_cases h0 : l = []
    · subst h0
      rcases owns_cases h with ⟨rfl, _⟩ | ⟨g, cap, rfl⟩
      · exact ⟨fun w' => w' = w, fun w' h => h ▸ Ge.refl _, Tryz.strings_Join_none none 0 (bstr sep) w⟩
      · exact ⟨fun w' => w' = w, fun w' h => h ▸ Ge.refl _, Tryz.strings_Join_none (some ⟨g, 0, none⟩) cap (bstr sep) w⟩
    · have hp : 0 < l.length := List.length_pos_iff.2 h0
      obtain ⟨g, cap, rfl⟩ := Go.Joins.ownsRow_form h hp
      refine ⟨fun w' => Below w.heap.size w w', fun w' h => h, ?_⟩
      have hc : l.length ≤ cap := by
        rcases h.2 with ⟨h', _⟩ | ⟨g', cap', cur, h', _, _, hnc, _⟩
        · simp at h'
        · simp at h'; omega
      have hxs : (l.map bstr).map (·.data.toList) = l := by
        rw [List.map_map]
        conv => rhs; rw [← List.map_id l]
        exact List.map_congr_left fun x _ => bstr_data x
      have hbk : g < w.heap.size := (h.lt g rfl).2
      have := Tryz.strings_Join g 0 cap (l.map bstr) (bstr sep) w (fun j x hx => by
        have hj : j < l.length := by have := (List.getElem?_eq_some_iff.1 hx).1; simpa using this
        rw [Nat.zero_add, h.cellAt j (by omega)]
        rw [List.getElem?_map] at hx
        simp only [scells, List.getElem?_map]
        cases hy : l[j]? with
        | none => rw [hy] at hx; simp at hx
        | some y => rw [hy] at hx; simp at hx; simp [hx]) hbk (by simpa using hn) (by simpa using hc) (by rw [hxs, bstr_data]; exact hlen)
      rw [hxs, bstr_data, List.length_map] at this
      exact this
  obtain ⟨f, hf, hc⟩ := key
  obtain ⟨p, cap, rfl⟩ := owns_form h
  have HF := Lib.hid hf
  clear hf h
  go_enter Tryz.func34, Tryz.ntmps34
  go_wp2_with (go_at_call 55; ((with_reducible refine hc.mono ?_); rintro e' w' ⟨rfl, hw⟩))
  go_ret
  exact ⟨rfl, HF.out _ hw⟩
end Go.Proofs.YtckjkfcphcnpdaaGreat

namespace Go.Proofs.YtckjkfcphcnpdaaGreat
set_option maxRecDepth 100000
open Go.ChangeShapes Go.WideShapes Go.ChangeAt Go.RowKit Go.Joins

theorem join_step (l : List (List UInt8)) (sep : List UInt8) (k : Nat) (h : k < l.length) : Lib.join (l.take (k + 1)) sep = Lib.join (l.take k) sep ++ (if k = 0 then [] else sep) ++ tnth l k := by
  cases l with
  | nil => simp at h
  | cons x r =>
    cases k with
    | zero => simp [Lib.join_one, Lib.join_nil, tnth]
    | succ k =>
      have hk : k < r.length := by simpa using h
      have e : r[k]? = some r[k] := List.getElem?_eq_getElem hk
      simp only [List.take_succ_cons, Lib.join_cons]
      rw [Lib.joinTail_take_succ sep r k _ e]
      simp [tnth, hk]
theorem join_take_le (l : List (List UInt8)) (sep : List UInt8) (k : Nat) : (Lib.join (l.take k) sep).length ≤ (Lib.join l sep).length := by
  cases l with
  | nil => simp
  | cons x r =>
    cases k with
    | zero => simp [Lib.join_nil]
    | succ k =>
      simp only [List.take_succ_cons, Lib.join_cons, List.length_append]
      have := Lib.joinTail_take_le sep r k
      omega

end Go.Proofs.YtckjkfcphcnpdaaGreat

namespace Go.Proofs.YtckjkfcphcnpdaaGreat
set_option maxRecDepth 100000
open Go.ChangeShapes Go.WideShapes Go.ChangeAt Go.RowKit Go.Joins

def rTxts (xs : List Int) (k : Nat) : List (List UInt8) := (List.range k).map fun j => ratioTxt (nth xs (j * 2)) (nth xs (j * 2 + 1))
theorem rTxts_succ (xs : List Int) (k : Nat) : rTxts xs (k + 1) = rTxts xs k ++ [ratioTxt (nth xs (k * 2)) (nth xs (k * 2 + 1))] := by simp [rTxts, List.range_succ]
theorem rTxts_length (xs : List Int) (k : Nat) : (rTxts xs k).length = k := by simp [rTxts]
theorem rTxts_join (xs : List Int) (k : Nat) : (Lib.join (rTxts xs k) [32]).length ≤ 46 * k := by
  have h := join_le [32] (rTxts xs k) 45 (fun x hx => by
    simp only [rTxts, List.mem_map] at hx
    obtain ⟨j, _, rfl⟩ := hx
    exact ratioTxt_le _ _)
  rwa [rTxts_length] at h
def rowGood (xs : List Int) (j : Nat) : Prop := ratioOk (nth xs (j * 2)) (nth xs (j * 2 + 1)) = true
def rowOk (n : Nat) (xs : List Int) : Bool := (List.range n).all fun j => ratioOk (nth xs (j * 2)) (nth xs (j * 2 + 1))
theorem rowOk_t {n : Nat} {xs : List Int} (h : ∀ j, j < n → rowGood xs j) : rowOk n xs = true := by
  simp only [rowOk, List.all_eq_true, List.mem_range]; exact h
theorem rowOk_f {n : Nat} {xs : List Int} {j : Nat} (hj : j < n) (h : ratioOk (nth xs (j * 2)) (nth xs (j * 2 + 1)) = false) : rowOk n xs = false := by
  cases c : rowOk n xs with
  | false => rfl
  | true =>
    simp only [rowOk, List.all_eq_true, List.mem_range] at c
    rw [c j hj] at h; cases h
def rowLine (n : Nat) (xs : List Int) : List UInt8 := if rowOk n xs = true then (if n = 0 then [110, 111, 110, 101] else Lib.join (rTxts xs n) [32]) else []
theorem rowLine_f {n : Nat} {xs : List Int} (h : rowOk n xs = false) : (⟨#[]⟩ : ByteArray) = bstr (rowLine n xs) := by simp [rowLine, h, bstr]
theorem rowLine_0 {n : Nat} {xs : List Int} (h : n = 0) : bstr (rowLine n xs) = ⟨#[110, 111, 110, 101]⟩ := by
  subst h; simp [rowLine, rowOk, bstr]
theorem rowLine_s {n : Nat} {xs : List Int} (hok : rowOk n xs = true) (h : ¬ n = 0) : bstr (rowLine n xs) = bstr (Lib.join (rTxts xs n) [32]) := by simp [rowLine, h, hok]
theorem rowLine_le (n : Nat) (xs : List Int) : (rowLine n xs).length ≤ 46 * n + 4 := by
  have := rTxts_join xs n
  unfold rowLine
  repeat' split
  all_goals simp
  all_goals omega
theorem good_row {xs : List Int} {k : Nat} (h : Hid (∀ i, i < k → rowGood xs i)) (hk : ratioOk (nth xs (k * 2)) (nth xs (k * 2 + 1)) = true) : Hid (∀ i, i < k + 1 → rowGood xs i) := fun i hi => by
  by_cases e : i = k
  · subst e; exact hk
  · exact h.out i (by omega)

end Go.Proofs.YtckjkfcphcnpdaaGreat

namespace Go.Proofs.YtckjkfcphcnpdaaGreat

open Go.RowKit

theorem sum_le {n : Nat} {xs : List Int} {m : Nat} (h : ∀ k, k < m → goodW n xs k) {v : Int} (h0 : 0 ≤ v) : ∀ k : Nat, 0 ≤ sumTo (fun (u : Nat) => wbet xs m v u) k ∧ sumTo (fun (u : Nat) => wbet xs m v u) k ≤ 200 * (k : Int) - (if v < k then 200 else 0)
  | 0 => by simp only [sumTo]; rw [if_neg (by omega)]; decide
  | k + 1 => by
    have ih := sum_le h h0 k
    have hb := wbet_bd h v (k : Int)
    simp only [sumTo]
    by_cases e : v = (k : Int)
    · have hz : wbet xs m v (k : Int) = 0 := by rw [e]; exact wbet_none (wfind_self h _)
      rw [if_neg (by omega)] at ih
      rw [if_pos (by omega), hz]
      omega
    · by_cases c : v < (k : Int)
      · rw [if_pos c] at ih
        rw [if_pos (by omega)]
        omega
      · rw [if_neg c] at ih
        rw [if_neg (by omega)]
        omega
theorem wat_no {n : Nat} {xs : List Int} {v : Int} (hv : ¬ (0 ≤ v ∧ v < n)) : ∀ {m : Nat}, (∀ k, k < m → goodW n xs k) → wat xs v m = 0
  | 0, _ => rfl
  | m + 1, h => by
    obtain ⟨q0, q1, q2, _, _⟩ := (h m (by omega)).1
    simp only [wat]
    rw [wat_no hv (m := m) (fun k hk => h k (by omega)), if_neg (by omega)]; rfl
theorem lapZ_800 {n : Nat} {xs : List Int} {m : Nat} (hn : n ≤ 5) (h : ∀ k, k < m → goodW n xs k) (a b : Int) : absB (lapZ xs m a b) 800 := by
  have h1 := wbet_bd h a b
  unfold lapZ absB
  by_cases e : a = b
  · rw [if_pos e]
    by_cases c : 0 ≤ a ∧ a < n
    · have h2 := sum_le h c.1 n
      rw [wat_sum c.1 c.2 h, if_pos c.2] at h2
      omega
    · rw [wat_no c h]; omega
  · rw [if_neg e]; omega
/-- The first k nodes from e on. -/
def innZ (e k : Nat) : List Int := mapR k (fun t => ((e + t : Nat) : Int))
theorem innZ_snoc (e k : Nat) : innZ e (k + 1) = innZ e k ++ [((e + k : Nat) : Int)] := by simp [innZ, mapR, List.range_succ]
theorem innZ_length (e k : Nat) : (innZ e k).length = k := mapR_length _ _
theorem innZ_below {e n : Nat} (he : e ≤ n) : ∀ x ∈ innZ e (n - e), below n x := fun x hx => by
  simp only [innZ, mapR, List.mem_map, List.mem_range] at hx
  obtain ⟨t, ht, rfl⟩ := hx
  exact ⟨by omega, by omega⟩
def topZ (n e m : Nat) (xs : List Int) (a b : Nat) : Int := detF (lapZ xs m) ((a : Int) :: innZ e (n - e)) ((b : Int) :: innZ e (n - e))
def dwnZ (n e m : Nat) (xs : List Int) : Int := detF (lapZ xs m) (innZ e (n - e)) (innZ e (n - e))
theorem top_bd {n e m : Nat} {xs : List Int} (hn : n ≤ 5) (h : ∀ k, k < m → goodW n xs k) (h1 : 1 ≤ e) (he : e ≤ n) (a b : Nat) : -1024000000000000000 ≤ topZ n e m xs a b ∧ topZ n e m xs a b ≤ 1024000000000000000 := by
  have hl := innZ_length e (n - e)
  have h1 := detF_bdE (lapZ_800 hn h) ((a : Int) :: innZ e (n - e)) ((b : Int) :: innZ e (n - e)) (by simp only [List.length_cons]; omega)
  have h2 := detE_le (k := ((a : Int) :: innZ e (n - e)).length) (by simp only [List.length_cons]; omega)
  unfold absB at h1
  unfold topZ
  omega
theorem dwn_bd {n e m : Nat} {xs : List Int} (hn : n ≤ 5) (h : ∀ k, k < m → goodW n xs k) (h1 : 1 ≤ e) : -256000000000000 ≤ dwnZ n e m xs ∧ dwnZ n e m xs ≤ 256000000000000 := by
  have hl := innZ_length e (n - e)
  have h3 := detF_bdE (lapZ_800 hn h) (innZ e (n - e)) (innZ e (n - e)) (by omega)
  have h2 : detE (innZ e (n - e)).length ≤ 256000000000000 := by
    rw [hl]
    have : n - e = 0 ∨ n - e = 1 ∨ n - e = 2 ∨ n - e = 3 ∨ n - e = 4 := by omega
    rcases this with h | h | h | h | h <;> rw [h] <;> decide
  unfold absB at h3
  unfold dwnZ
  omega
theorem sdwn_bd {n e m : Nat} {xs : List Int} {S : Int} (hn : n ≤ 5) (h : ∀ k, k < m → goodW n xs k) (h1 : 1 ≤ e) (s1 : 1 ≤ S) (s2 : S ≤ 1000) : -256000000000000000 ≤ S * dwnZ n e m xs ∧ S * dwnZ n e m xs ≤ 256000000000000000 := by
  have := dwn_bd hn h h1
  have := mul_bd (u := S) (f := dwnZ n e m xs) (A := 1000) (B := 256000000000000) (by omega) s2 this.1 this.2 (by decide)
  omega
/-- An entry of the response. -/
noncomputable def respQ (n e m : Nat) (S : Int) (xs : List Int) (a b : Nat) : Rt := ratioOf (topZ n e m xs a b) (S * dwnZ n e m xs)
/-- The first k entries of a row. -/
noncomputable def respL (n e m : Nat) (S : Int) (xs : List Int) (a : Nat) : Nat → List Int
  | 0 => []
  | k + 1 => respL n e m S xs a k ++ [(respQ n e m S xs a k).n, (respQ n e m S xs a k).d]
end Go.Proofs.YtckjkfcphcnpdaaGreat

namespace Go.Proofs.YtckjkfcphcnpdaaGreat
set_option maxRecDepth 100000
open Go.ChangeShapes Go.WideShapes Go.ChangeAt Go.RowKit Go.Joins

theorem owns_cons {w : World} {b base : Nat} {y : Int} (hb : b = w.heap.size) (h : base ≤ b) : (w.alloc (.cells #[.int .i64 y] 3)).ownsRow base 3 1 (.slice (some ⟨b, 0, none⟩) 1 1) 1 (icells [y]) := by
  subst hb
  exact ⟨rfl, .inr ⟨w.heap.size, 1, _, rfl, h, heap_alloc_new w _, Nat.le_refl _, by unfold maxLen; omega, rfl, rfl⟩⟩
/-- append([]int{y}, l...): where the new row lies. -/
theorem ap_lit {w : World} {o : Oper} {a : Act} {K : Act → World → Prop} {Q : Exit → Act → World → Prop} (s x : Operand)
    (ho : o.op = .call { callee := .builtin .append, args := #[s, x], argTypes := #[35, 35] })
    (b : Nat) (y : Int) (hs : a.eval s = .slice (some ⟨b, 0, none⟩) 1 1) (base : Nat) (hown : w.ownsRow base 3 1 (.slice (some ⟨b, 0, none⟩) 1 1) 1 (icells [y])) (hb : base ≤ w.heap.size)
    (ad : Addr) (k c : Nat) (l : List Int) (hx : a.eval x = .slice (some ad) k c) (hy : SlI w (.slice (some ad) k c) l) (hn : k < 900)
    (h : ∀ g c' w', w'.ownsRow base 3 1 (.slice (some ⟨g, 0, none⟩) (k + 1) c') (k + 1) (icells (y :: l)) → Mine w w' (.slice (some ⟨b, 0, none⟩) 1 1) → (g = b ∨ g = w.heap.size) → K (a.put o.dst (.slice (some ⟨g, 0, none⟩) (k + 1) c')) w') : o.wp Tryz.prog a w K Q := by
  obtain ⟨i, hi, e⟩ : ∃ i, Tryz.prog.info? 3 = some i ∧ (i.zero, i.size, i.bytes) = (some (.int .i64 0), 1, 8) := by
    have := inf_int
    cases hc : Tryz.prog.info? 3 with
    | none => rw [hc] at this; simp at this
    | some i => rw [hc] at this; exact ⟨i, rfl, by simpa using this⟩
  simp only [Prod.mk.injEq] at e
  obtain ⟨h1, p, c', he, hc⟩ := hy
  simp only [Value.slice.injEq] at he
  obtain ⟨rfl, hm, rfl⟩ := he
  obtain ⟨v', w', hr, h2, h3, h4, h5⟩ := run_append_own_at (P := Tryz.prog) w base 35 o.type 3 i _ 1 8 Tryz.underlying35 hi e.1 e.2.1 e.2.2 rfl (by decide) _ 1 (icells [y]) hown ad k c (icells l) (by rw [h1, hm]) (fun j u hu => by
      obtain ⟨b, o, e, hz⟩ := hc j u hu
      simp only [Option.some.injEq] at e
      subst e
      by_cases hj0 : j = 0
      · subst hj0; simpa [Addr.add] using hz
      · simpa [Addr.add, hj0] using hz) (fun u hu => by
      simp only [icells, List.mem_map] at hu
      obtain ⟨_, _, rfl⟩ := hu
      rfl) (by unfold maxLen; omega) (by omega) hb
  obtain ⟨g, c', rfl⟩ := Go.Joins.ownsRow_form h2 (by omega)
  have e1 : 1 + k = k + 1 := by omega
  have e2 : icells [y] ++ icells l = icells (y :: l) := by simp [icells]
  rw [e2, e1] at h2
  rw [e1] at hr
  unfold Oper.wp execOp
  simp only [ho, resolve, invoke, builtin, Sem.run_bind, Sem.run_pure, Result.andThen_ok, List.map_toArray, List.map_cons, List.map_nil, hs, hx, hr]
  refine h g c' w' h2 h3 ?_
  simp [Value.ownBlock] at h5
  exact h5

end Go.Proofs.YtckjkfcphcnpdaaGreat

namespace Go.Proofs.YtckjkfcphcnpdaaGreat
set_option maxRecDepth 100000
open Go.ChangeShapes Go.WideShapes Go.ChangeAt Go.RowKit Go.Joins

/-- The neighbors of v below k. -/
def nearX (m : Nat) (xs : List Int) (v : Int) (k : Nat) : List Int := ((List.range k).map (fun (i : Nat) => (i : Int))).filter (fun x => decide (0 < wbet xs m v x))
theorem nearX_in {m : Nat} {xs : List Int} {v : Int} {k : Nat} (h : 0 < wbet xs m v k) : nearX m xs v (k + 1) = nearX m xs v k ++ [(k : Int)] := by simp [nearX, List.range_succ, h]
theorem nearX_out {m : Nat} {xs : List Int} {v : Int} {k : Nat} (h : ¬ 0 < wbet xs m v k) : nearX m xs v (k + 1) = nearX m xs v k := by simp [nearX, List.range_succ, h]
theorem nearX_len (m : Nat) (xs : List Int) (v : Int) (k : Nat) : (nearX m xs v k).length ≤ k := by
  refine Nat.le_trans (List.length_filter_le _ _) ?_
  simp

end Go.Proofs.YtckjkfcphcnpdaaGreat
