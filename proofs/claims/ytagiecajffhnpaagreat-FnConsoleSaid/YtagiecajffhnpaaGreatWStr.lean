/- Slices of strings; Join. No condition. -/
import Derived.Test.YtagiecajffhnpaaGreatWSl
import Derived.Test.YtagiecajffhnpaaGreatPlText
import Derived.Test.YtagiecajffhnpaaGreatShelf
import Derived.Lib.Join
import Derived.Test.YtagiecajffhnpaaGreatWEqInt
namespace Go.Proofs.YtagiecajffhnpaaGreat

open Go.RowKit

/-- Texts as cells. -/
def scells (l : List (List UInt8)) : List Value := l.map fun s => .string (bstr s)
theorem scells_length (l : List (List UInt8)) : (scells l).length = l.length := by simp [scells]
/-- A slice of strings that reads as l. -/
def SlS (w : World) (v : Value) (l : List (List UInt8)) : Prop := Sl w v l.length 1 (scells l)
theorem SlS.ge {w w' : World} {v : Value} {l : List (List UInt8)} (h : SlS w v l) (hg : Ge w w') : SlS w' v l := Sl.ge h hg
theorem SlS.of_owns {w : World} {base : Nat} {e : TypeId} {v : Value} {l : List (List UInt8)} (h : w.ownsRow base e 1 v l.length (scells l)) : SlS w v l := Sl.of_owns h
def tnth (l : List (List UInt8)) (i : Nat) : List UInt8 := l.getD i []
theorem tnth_eq (l : List (List UInt8)) (i : Nat) (h : i < l.length) : tnth l i = l[i] := by simp [tnth, List.getD, h]
theorem SlS.openN {w : World} {v : Value} {l : List (List UInt8)} {n : Nat} (h : SlS w v l) (hn : l.length = n) : ∃ p cap, v = .slice p n cap ∧ ∀ i, i < n → ∃ b o, p = some ⟨b, o, none⟩ ∧ w.cell? ⟨b, o + i, none⟩ = some (.string (bstr (tnth l i))) := by
  subst hn
  obtain ⟨_, p, cap, hv, hc⟩ := h
  refine ⟨p, cap, hv, fun i hi => ?_⟩
  exact hc i (.string (bstr (tnth l i))) (by simp [scells, hi, tnth_eq])

theorem inf_str : (Tryz.prog.info? 9).map (fun i => (i.zero, i.size, i.bytes)) = some (some (.string ⟨#[]⟩), 1, 16) := by kernel_rfl
theorem ap_str {w : World} {ops : Array Oper} {rest : List Oper} {o : Oper} {a : Act} {Q : Exit → Act → World → Prop} (hgd : o.guard = none) (s x : Operand)
    (ho : o.op = .call { callee := .builtin .append, args := #[s, x], argTypes := #[27, 27] })
    (base : Nat) (v : Value) (l : List (List UInt8)) (hs : a.eval s = v) (hown : w.ownsRow base 9 1 v l.length (scells l))
    (y : List UInt8) (hx : a.eval x = .slice (some ⟨w.heap.size, 0, none⟩) 1 1) (hn : l.length < 1099511627776) (hbase : base ≤ w.heap.size)
    (h : ∀ v' w', w'.ownsRow base 9 1 v' (l ++ [y]).length (scells (l ++ [y])) → Mine w w' v → wpList Tryz.prog ops Q rest (a.put o.dst v') w') :
    wpList Tryz.prog ops Q (o :: rest) a (w.alloc (.cells #[.string (bstr y)] 9)) :=
  ap1 hgd s x 27 ho 9 _ 1 16 Tryz.underlying27 inf_str rfl (by decide) (by decide) base v _ _ hs hown #[.string (bstr y)] hx rfl (by simp [Value.oneCell']) hn hbase
    (fun v' w' h2 h3 => h v' w' (by simpa [scells] using h2) h3)

theorem lens_le (l : List (List UInt8)) (B : Nat) (h : ∀ x ∈ l, x.length ≤ B) : Lib.lens l ≤ B * l.length := by
  induction l with
  | nil => simp [Lib.lens]
  | cons x r ih =>
    have h1 := ih (fun y hy => h y (List.mem_cons_of_mem _ hy))
    have h2 := h x (by simp)
    simp only [Lib.lens, List.map_cons, List.sum_cons, List.length_cons] at h1 ⊢
    rw [Nat.mul_succ]
    omega
theorem joinTail_le (sep : List UInt8) (l : List (List UInt8)) (B : Nat) (h : ∀ x ∈ l, x.length ≤ B) : (Lib.joinTail sep l).length ≤ (sep.length + B) * l.length := by
  rw [Lib.joinTail_length, Nat.add_mul]
  have := lens_le l B h
  omega
theorem join_le (sep : List UInt8) (l : List (List UInt8)) (B : Nat) (h : ∀ x ∈ l, x.length ≤ B) : (Lib.join l sep).length ≤ (sep.length + B) * l.length := by
  cases l with
  | nil => simp [Lib.join_nil]
  | cons x r =>
    rw [Lib.join_cons, List.length_append]
    have h1 := joinTail_le sep r B (fun y hy => h y (List.mem_cons_of_mem _ hy))
    have h2 := h x (by simp)
    simp only [List.length_cons, Nat.mul_succ]
    omega
theorem iJoin (base : Nat) (e : TypeId) (v : Value) (l : List (List UInt8)) (sep : List UInt8) (w : World) (h : w.ownsRow base e 1 v l.length (scells l)) (hn : l.length ≤ 140737488355328) (hlen : (Lib.join l sep).length ≤ 140737488355328) :
    Calls Tryz.prog 12 #[v, .string (bstr sep)] w fun en w' => en = .returned (.string (bstr (Lib.join l sep))) ∧ Ge w w' := by
  have key : ∃ f : World → Prop, (∀ w', f w' → Ge w w') ∧ Calls Tryz.prog 25 #[v, .string (bstr sep)] w fun en w' => en = .returned (.string (bstr (Lib.join l sep))) ∧ f w' := by
    by_cases h0 : l = []
    · subst h0
      rcases owns_cases h with ⟨rfl, _⟩ | ⟨g, cap, rfl⟩
      · exact ⟨fun w' => w' = w, fun w' h => h ▸ Ge.refl _, Tryz.strings_Join_none none 0 (bstr sep) w⟩
      · exact ⟨fun w' => w' = w, fun w' h => h ▸ Ge.refl _, Tryz.strings_Join_none (some ⟨g, 0, none⟩) cap (bstr sep) w⟩
    · have hp : 0 < l.length := List.length_pos_iff.2 h0
      obtain ⟨g, cap, rfl⟩ := Go.Joins.ownsRow_form h hp
      refine ⟨fun w' => Below w.heap.size w w', fun w' h => h, ?_⟩
      have hc : l.length ≤ cap := by
        rcases h.2 with ⟨h', _⟩ | ⟨g', cap', cur, h', _, _, hnc, _⟩
        · simp at h'
        · simp at h'; omega
      have hxs : (l.map bstr).map (·.data.toList) = l := by
        rw [List.map_map]
        conv => rhs; rw [← List.map_id l]
        exact List.map_congr_left fun x _ => bstr_data x
      have hbk : g < w.heap.size := (h.lt g rfl).2
      have := Tryz.strings_Join g 0 cap (l.map bstr) (bstr sep) w (fun j x hx => by
        have hj : j < l.length := by have := (List.getElem?_eq_some_iff.1 hx).1; simpa using this
        rw [Nat.zero_add, h.cellAt j (by omega)]
        rw [List.getElem?_map] at hx
        simp only [scells, List.getElem?_map]
        cases hy : l[j]? with
        | none => rw [hy] at hx; simp at hx
        | some y => rw [hy] at hx; simp at hx; simp [hx]) hbk (by simpa using hn) (by simpa using hc) (by rw [hxs, bstr_data]; exact hlen)
      rw [hxs, bstr_data, List.length_map] at this
      exact this
  obtain ⟨f, hf, hc⟩ := key
  obtain ⟨p, cap, rfl⟩ := owns_form h
  have HF := Lib.hid hf
  clear hf h
  go_enter Tryz.func12, Tryz.ntmps12
  go_wp2_with (go_at_call 25; ((with_reducible refine hc.mono ?_); rintro e' w' ⟨rfl, hw⟩))
  go_ret
  exact ⟨rfl, HF.out _ hw⟩
end Go.Proofs.YtagiecajffhnpaaGreat
