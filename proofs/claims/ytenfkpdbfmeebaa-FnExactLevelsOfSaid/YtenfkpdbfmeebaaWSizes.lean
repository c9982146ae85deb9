/- SizesOf, HasEqualSquares of impl and of the reference; the library's Sort and Compact of integers. No condition. -/
import Derived.Test.YtenfkpdbfmeebaaPlSizes
import Derived.Test.YtenfkpdbfmeebaaWTile5
import Derived.Test.YtenfkpdbfmeebaaWEqInt
import Derived.Test.YtenfkpdbfmeebaaWTyInt
import Derived.Deep.DeepCutAuto
import Derived.Deep.QuietTactic
import Derived.Test.YtenfkpdbfmeebaaShelf
import Derived.Sort.OwnSortedInts
namespace Go.Proofs.Ytenfkpdbfmeebaa
set_option maxRecDepth 100000
open Go.ChangeShapes Go.WideShapes Go.ChangeAt Go.RowKit Go.Joins

theorem own_setCellsZ {base g cap n : Nat} {e : TypeId} : ∀ (vs : List Int) (o : Nat) (w : World) (l : List Int), w.ownsRow base e 1 (.slice (some ⟨g, 0, none⟩) n cap) n (icells l) → l.length = n → o + vs.length = n →
    (w.setCells g o (vs.map (Value.int .i64))).ownsRow base e 1 (.slice (some ⟨g, 0, none⟩) n cap) n (icells (l.take o ++ vs)) ∧ w.grownBy (w.setCells g o (vs.map (Value.int .i64))) (some g)
  | [], o, w, l, h, hl, ho => by
    simp at ho
    have : l.take o = l := by rw [ho, ← hl]; exact List.take_length
    simp only [List.map_nil, World.setCells, List.append_nil, this]
    exact ⟨h, World.grownBy.refl _ _⟩
  | v :: r, o, w, l, h, hl, ho => by
    have h1 := h.stored o (.int .i64 v)
    rw [icells_set] at h1
    simp at ho
    have h2 := own_setCellsZ r (o + 1) _ (l.set o v) h1.1 (by simpa using hl) (by omega)
    simp only [List.map_cons, World.setCells]
    refine ⟨?_, grown_trans h1.2 h2.2⟩
    have e1 : (l.set o v).take (o + 1) ++ r = l.take o ++ v :: r := by
      rw [List.take_succ_eq_append_getElem (by simp; omega)]
      simp
      exact List.take_set_of_le (Nat.le_refl _)
    rw [← e1]; exact h2.1
/-- The head of a row that is owned. -/
theorem owns_take {w : World} {base g n c k : Nat} {e : TypeId} {xs : List Value} (h : w.ownsRow base e 1 (.slice (some ⟨g, 0, none⟩) n c) n xs) (hk : k ≤ n) : w.ownsRow base e 1 (.slice (some ⟨g, 0, none⟩) k c) k (xs.take k) := by
  obtain ⟨h1, h2⟩ := h
  refine ⟨by rw [List.length_take]; omega, ?_⟩
  rcases h2 with ⟨h', _⟩ | ⟨g', cap', cur, hv, hb, hheap, hn, hcap, hsz, ht⟩
  · simp at h'
  · simp only [Value.slice.injEq, Option.some.injEq, Addr.mk.injEq, and_true, true_and] at hv
    obtain ⟨rfl, rfl⟩ := hv
    refine .inr ⟨g, c, cur, rfl, hb, hheap, by omega, hcap, hsz, ?_⟩
    rw [← ht, List.take_take]
    congr 1
    omega
theorem ap_intB {w : World} {ops : Array Oper} {rest : List Oper} {o : Oper} {a : Act} {Q : Exit → Act → World → Prop} (hgd : o.guard = none) (s x : Operand)
    (ho : o.op = .call { callee := .builtin .append, args := #[s, x], argTypes := #[43, 43] })
    (base : Nat) (v : Value) (l : List Int) (hs : a.eval s = v) (hown : w.ownsRow base 3 1 v l.length (icells l))
    (y : Int) {b0 : Nat} (hx : a.eval x = .slice (some ⟨b0, 0, none⟩) 1 1) (hb0 : b0 = w.heap.size) (hn : l.length < 1099511627776) (hbase : base ≤ w.heap.size)
    (h : ∀ v' w', w'.ownsRow base 3 1 v' (l ++ [y]).length (icells (l ++ [y])) → Mine w w' v → wpList Try.prog ops Q rest (a.put o.dst v') w') :
    wpList Try.prog ops Q (o :: rest) a (w.alloc (.cells #[.int .i64 y] 3)) := by
  subst hb0
  exact ap_int hgd s x ho base v l hs hown y hx hn hbase h
theorem owns_nilZ (w : World) (base : Nat) (e : TypeId) : w.ownsRow base e 1 (.slice none 0 0) 0 [] := ⟨rfl, .inl ⟨rfl, rfl⟩⟩

theorem sL03HasZ (v : Value) (l : List Int) (x : Int) (w : World) (h : SlI w v l) (hm : l.length ≤ 1000000) :
    Calls Try.prog 65 #[v, .int .i64 x] w fun e w' => e = .returned (.bool (decide (x ∈ l))) ∧ w = w' := by
  obtain ⟨n, hn⟩ : ∃ n, l.length = n := ⟨_, rfl⟩
  obtain ⟨p, cap, rfl, hc⟩ := h.openN hn
  have HC := Lib.hid hc
  have HN := Lib.hid hn
  rw [hn] at hm
  clear h hc hn
  go_enter Try.func65, Try.ntmps65
  go_wp2_with fail
  go_loop [9] (fun i => ∃ k : Nat, k ≤ n ∧ i = .int .i64 k ∧ Hid (∀ j, j < k → ¬ nth l j = x)) (fun i => n - (intOf i).toNat)
  case atStart => exact ⟨0, Nat.zero_le _, rfl, fun j hj => by omega⟩
  case round =>
    obtain ⟨k, hk, rfl, HA⟩ := hrel
    by_cases hlt : k < n
    · obtain ⟨b, o, rfl, x0⟩ := HC.out k hlt
      by_cases c : nth l k = x
      · have HF : Hid (decide (x ∈ l) = true) := by
          show _ = _
          have hk' : k < l.length := by rw [HN.out]; exact hlt
          rw [nth_eq l k hk'] at c
          exact decide_eq_true (c ▸ List.getElem_mem hk')
        have t : (nth l k == x) = true := by simp [c]
        clear c
        go_wp2_with fail
        go_ret
        exact ⟨ret_bool HF.out.symm, rfl⟩
      · have HA2 : Hid (∀ j, j < k + 1 → ¬ nth l j = x) := fun j hj => by
          by_cases e : j = k
          · subst e; exact c
          · exact HA.out j (by omega)
        have t : (nth l k == x) = false := by simp [c]
        clear c
        go_wp2_with fail
        go_round
        case rel => exact ⟨k + 1, by omega, by go_num, HA2.out⟩
        case measure => simp [intOf]; omega
    · have hkn : k = n := by omega
      subst hkn
      have HF : Hid (decide (x ∈ l) = false) := by
        show _ = _
        refine decide_eq_false fun h => ?_
        obtain ⟨j, hj, e⟩ := List.getElem_of_mem h
        exact HA.out j (by rw [← HN.out]; exact hj) (by rw [nth_eq l j hj]; exact e)
      go_wp2_with fail
      go_ret
      exact ⟨ret_bool HF.out.symm, rfl⟩

theorem mem_snoc_sizes (xs : List Int) (k : Nat) (x : Int) : x ∈ sqSizes xs (k + 1) ↔ x ∈ sqSizes xs k ∨ ss xs k = x := by
  rw [sqSizes_succ]; simp only [List.mem_append, List.mem_cons, List.not_mem_nil, or_false]
  exact ⟨fun h => h.imp id Eq.symm, fun h => h.imp id Eq.symm⟩
/-- The sizes up to K, and the next one if the first j squares have it. -/
def upJ (xs : List Int) (n K j : Nat) : List Int := inUpto (sqSizes xs n) K ++ (if ((K : Int) + 1) ∈ sqSizes xs j then [(K : Int) + 1] else [])
theorem upJ_0 (xs : List Int) (n K : Nat) : upJ xs n K 0 = inUpto (sqSizes xs n) K := by simp [upJ, sqSizes]
theorem upJ_n (xs : List Int) (n K : Nat) : upJ xs n K n = inUpto (sqSizes xs n) (K + 1) := by
  unfold upJ
  by_cases h : ((K : Int) + 1) ∈ sqSizes xs n
  · rw [if_pos h, inUpto_succ_t h]
  · rw [if_neg h, inUpto_succ_f h, List.append_nil]
theorem upJ_same {xs : List Int} {n K j : Nat} (h : ¬ ss xs j = (K : Int) + 1 ∨ ((K : Int) + 1) ∈ upJ xs n K j) : upJ xs n K (j + 1) = upJ xs n K j := by
  unfold upJ
  by_cases c : ((K : Int) + 1) ∈ sqSizes xs j
  · rw [if_pos c, if_pos ((mem_snoc_sizes xs j _).2 (Or.inl c))]
  · rcases h with h | h
    · rw [if_neg c, if_neg (fun k => ((mem_snoc_sizes xs j _).1 k).elim c h)]
    · unfold upJ at h
      rw [if_neg c, List.append_nil] at h
      have := inUpto_mem h
      omega
theorem upJ_new {xs : List Int} {n K j : Nat} (h : ss xs j = (K : Int) + 1) (c : ¬ ((K : Int) + 1) ∈ upJ xs n K j) : upJ xs n K (j + 1) = upJ xs n K j ++ [(K : Int) + 1] := by
  have c2 : ¬ ((K : Int) + 1) ∈ sqSizes xs j := fun k => c (by unfold upJ; rw [if_pos k]; simp)
  unfold upJ
  rw [if_neg c2, if_pos ((mem_snoc_sizes xs j _).2 (Or.inr h)), List.append_nil]
theorem upJ_len (xs : List Int) (n K j : Nat) : (upJ xs n K j).length ≤ K + 1 := by
  unfold upJ inUpto
  rw [List.length_append]
  have h1 := List.length_filter_le (fun k => decide (k ∈ sqSizes xs n)) ((List.range K).map (fun (i : Nat) => (i : Int) + 1))
  rw [List.length_map, List.length_range] at h1
  split <;> simp <;> omega

end Go.Proofs.Ytenfkpdbfmeebaa
