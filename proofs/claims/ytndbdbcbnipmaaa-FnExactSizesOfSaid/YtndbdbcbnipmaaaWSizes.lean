/- SizesOf, HasEqualSquares of impl and of the reference; the library's Sort and Compact of integers. No condition. -/
import Derived.Test.YtndbdbcbnipmaaaPlSizes
import Derived.Test.YtndbdbcbnipmaaaWTile5
import Derived.Test.YtndbdbcbnipmaaaWEqInt
import Derived.Test.YtndbdbcbnipmaaaWTyInt
import Derived.Deep.DeepCutAuto
import Derived.Deep.QuietTactic
import Derived.Test.YtndbdbcbnipmaaaShelf
import Derived.Sort.OwnSortedInts
namespace Go.Proofs.Ytndbdbcbnipmaaa
set_option maxRecDepth 100000
open Go.ChangeShapes Go.WideShapes Go.ChangeAt Go.RowKit Go.Joins

theorem own_setCellsZ {base g cap n : Nat} {e : TypeId} : ∀ (vs : List Int) (o : Nat) (w : World) (l : List Int), w.ownsRow base e 1 (.slice (some ⟨g, 0, none⟩) n cap) n (icells l) → l.length = n → o + vs.length = n →
    (w.setCells g o (vs.map (Value.int .i64))).ownsRow base e 1 (.slice (some ⟨g, 0, none⟩) n cap) n (icells (l.take o ++ vs)) ∧ w.grownBy (w.setCells g o (vs.map (Value.int .i64))) (some g)
  | [], o, w, l, h, hl, ho => by
    simp at ho
    have : l.take o = l := by rw [ho, ← hl]; exact List.take_length
    simp only [List.map_nil, World.setCells, List.append_nil, this]
    exact ⟨h, World.grownBy.refl _ _⟩
  | v :: r, o, w, l, h, hl, ho => by
    have h1 := h.stored o (.int .i64 v)
    rw [icells_set] at h1
    simp at ho
    have h2 := own_setCellsZ r (o + 1) _ (l.set o v) h1.1 (by simpa using hl) (by omega)
    simp only [List.map_cons, World.setCells]
    refine ⟨?_, grown_trans h1.2 h2.2⟩
    have e1 : (l.set o v).take (o + 1) ++ r = l.take o ++ v :: r := by
      rw [List.take_succ_eq_append_getElem (by simp; omega)]
      simp
      exact List.take_set_of_le (Nat.le_refl _)
    rw [← e1]; exact h2.1
/-- The head of a row that is owned. -/
theorem owns_take {w : World} {base g n c k : Nat} {e : TypeId} {xs : List Value} (h : w.ownsRow base e 1 (.slice (some ⟨g, 0, none⟩) n c) n xs) (hk : k ≤ n) : w.ownsRow base e 1 (.slice (some ⟨g, 0, none⟩) k c) k (xs.take k) := by
  obtain ⟨h1, h2⟩ := h
  refine ⟨by rw [List.length_take]; omega, ?_⟩
  rcases h2 with ⟨h', _⟩ | ⟨g', cap', cur, hv, hb, hheap, hn, hcap, hsz, ht⟩
  · simp at h'
  · simp only [Value.slice.injEq, Option.some.injEq, Addr.mk.injEq, and_true, true_and] at hv
    obtain ⟨rfl, rfl⟩ := hv
    refine .inr ⟨g, c, cur, rfl, hb, hheap, by omega, hcap, hsz, ?_⟩
    rw [← ht, List.take_take]
    congr 1
    omega
theorem sortC (base g n c : Nat) (l : List Int) (w : World) (h : w.ownsRow base 3 1 (.slice (some ⟨g, 0, none⟩) n c) n (icells l)) (hm : n ≤ 1000) :
    Calls Try.prog 80 #[.slice (some ⟨g, 0, none⟩) n c] w fun e w' =>
      e = .returned (.tuple #[]) ∧ w'.ownsRow base 3 1 (.slice (some ⟨g, 0, none⟩) n c) n (icells (l.mergeSort fun x y => decide (x ≤ y))) ∧ ∀ w0, Ge w0 w → w0.heap.size ≤ g → Ge w0 w' := by
  have hl : l.length = n := by have := h.1; rw [icells_length] at this; omega
  rcases h.2 with ⟨h', _⟩ | ⟨g', cap', cur, hv, hb, hheap, hn, hcap, hsz, ht⟩
  · simp at h'
  · simp only [Value.slice.injEq, Option.some.injEq, Addr.mk.injEq, and_true, true_and] at hv
    obtain ⟨rfl, rfl⟩ := hv
    have ht' : cur.toList.take l.length = l.map (Value.int .i64) := by rw [hl]; simpa [icells] using ht
    have hH := holds_of_blockI hheap ht'
    have hblk : g < w.heap.size := (Array.getElem?_eq_some_iff.1 hheap).1
    have key := Try.slices_Sort_int g 0 c l w hH hblk (by omega)
    rw [hl] at key
    refine key.mono ?_
    rintro e w' ⟨he, n', os, rfl⟩
    have ho := ownsRow_sortedI (w := w) (n := n') (os := os) (base := base) (cap := c) (ss := l) (ts := l.mergeSort fun x y => decide (x ≤ y)) (by simp) hb hheap (by omega) hcap (by simpa using hsz)
    rw [hl] at ho
    exact ⟨he, ho, fun w0 hg0 hgs => hg0.grown (grownBy_sortedI _) (fun k hk => by simp at hk; omega)⟩
theorem compactC (base g n c : Nat) (l : List Int) (w : World) (h : w.ownsRow base 3 1 (.slice (some ⟨g, 0, none⟩) n c) n (icells l)) (hm : n ≤ 1000) :
    Calls Try.prog 81 #[.slice (some ⟨g, 0, none⟩) n c] w fun e w' =>
      e = .returned (.slice (some ⟨g, 0, none⟩) (Lib.compact l).length c) ∧ w'.ownsRow base 3 1 (.slice (some ⟨g, 0, none⟩) (Lib.compact l).length c) (Lib.compact l).length (icells (Lib.compact l)) ∧ ∀ w0, Ge w0 w → w0.heap.size ≤ g → Ge w0 w' := by
  have hl : l.length = n := by have := h.1; rw [icells_length] at this; omega
  have hcap : n ≤ c ∧ c ≤ 9223372036854775807 := by
    rcases h.2 with ⟨h', _⟩ | ⟨g', cap', cur, h', _, _, hnc, hmx, _⟩
    · simp at h'
    · simp at h'
      unfold maxLen at hmx
      omega
  have hcell : ∀ k, k < l.length → w.cell? ⟨g, 0 + k, none⟩ = some (.int .i64 (l.getD k 0)) := fun k hk => by
    rw [Nat.zero_add, h.cellAt k (by omega)]
    simp [icells, List.getD, hk]
  have hfr : ∀ k, k < n → w.frozen? ⟨g, 0 + k, none⟩ = false := fun k _ => by rw [Nat.zero_add]; exact h.frozenAt k
  have key := Try.slices_Compact_int_cells g 0 n c l w (by omega) (by omega) hcap.1 hcell hfr
  have e3 : l.take n = l := by rw [← hl]; exact List.take_length
  rw [e3] at key
  refine key.mono ?_
  rintro e w' ⟨he, q, hw⟩
  have hle := Lib.compact_length_le l
  have hown : (w.drewN q).ownsRow base 3 1 (.slice (some ⟨g, 0, none⟩) n c) n (icells l) := Ge.owns ((Ge.refl w).drewN q) h
  have h2 := own_setCellsZ (Lib.compact l ++ List.replicate (n - (Lib.compact l).length) 0) 0 (w.drewN q) l hown hl (by simp; omega)
  rw [← hw] at h2
  have h3 := owns_take h2.1 (k := (Lib.compact l).length) (by omega)
  refine ⟨he, ?_, fun w0 hg0 hgs => (hg0.drewN q).grown h2.2 (fun k hk => by simp at hk; omega)⟩
  have e5 : (icells (l.take 0 ++ (Lib.compact l ++ List.replicate (n - (Lib.compact l).length) 0))).take (Lib.compact l).length = icells (Lib.compact l) := by
    simp [icells]
  rw [← e5]; exact h3
theorem ap_intB {w : World} {ops : Array Oper} {rest : List Oper} {o : Oper} {a : Act} {Q : Exit → Act → World → Prop} (hgd : o.guard = none) (s x : Operand)
    (ho : o.op = .call { callee := .builtin .append, args := #[s, x], argTypes := #[41, 41] })
    (base : Nat) (v : Value) (l : List Int) (hs : a.eval s = v) (hown : w.ownsRow base 3 1 v l.length (icells l))
    (y : Int) {b0 : Nat} (hx : a.eval x = .slice (some ⟨b0, 0, none⟩) 1 1) (hb0 : b0 = w.heap.size) (hn : l.length < 1099511627776) (hbase : base ≤ w.heap.size)
    (h : ∀ v' w', w'.ownsRow base 3 1 v' (l ++ [y]).length (icells (l ++ [y])) → Mine w w' v → wpList Try.prog ops Q rest (a.put o.dst v') w') :
    wpList Try.prog ops Q (o :: rest) a (w.alloc (.cells #[.int .i64 y] 3)) := by
  subst hb0
  exact ap_int hgd s x ho base v l hs hown y hx hn hbase h
theorem owns_nilZ (w : World) (base : Nat) (e : TypeId) : w.ownsRow base e 1 (.slice none 0 0) 0 [] := ⟨rfl, .inl ⟨rfl, rfl⟩⟩

theorem sL03HasZ (v : Value) (l : List Int) (x : Int) (w : World) (h : SlI w v l) (hm : l.length ≤ 1000000) :
    Calls Try.prog 79 #[v, .int .i64 x] w fun e w' => e = .returned (.bool (decide (x ∈ l))) ∧ w = w' := by
  obtain ⟨n, hn⟩ : ∃ n, l.length = n := ⟨_, rfl⟩
  obtain ⟨p, cap, rfl, hc⟩ := h.openN hn
  have HC := Lib.hid hc
  have HN := Lib.hid hn
  rw [hn] at hm
  clear h hc hn
  go_enter Try.func79, Try.ntmps79
  go_wp2_with fail
  go_loop [9] (fun i => ∃ k : Nat, k ≤ n ∧ i = .int .i64 k ∧ Hid (∀ j, j < k → ¬ nth l j = x)) (fun i => n - (intOf i).toNat)
  case atStart => exact ⟨0, Nat.zero_le _, rfl, fun j hj => by omega⟩
  case round =>
    obtain ⟨k, hk, rfl, HA⟩ := hrel
    by_cases hlt : k < n
    · obtain ⟨b, o, rfl, x0⟩ := HC.out k hlt
      by_cases c : nth l k = x
      · have HF : Hid (decide (x ∈ l) = true) := by
          show _ = _
          have hk' : k < l.length := by rw [HN.out]; exact hlt
          rw [nth_eq l k hk'] at c
          exact decide_eq_true (c ▸ List.getElem_mem hk')
        have t : (nth l k == x) = true := by simp [c]
        clear c
        go_wp2_with fail
        go_ret
        exact ⟨ret_bool HF.out.symm, rfl⟩
      · have HA2 : Hid (∀ j, j < k + 1 → ¬ nth l j = x) := fun j hj => by
          by_cases e : j = k
          · subst e; exact c
          · exact HA.out j (by omega)
        have t : (nth l k == x) = false := by simp [c]
        clear c
        go_wp2_with fail
        go_round
        case rel => exact ⟨k + 1, by omega, by go_num, HA2.out⟩
        case measure => simp [intOf]; omega
    · have hkn : k = n := by omega
      subst hkn
      have HF : Hid (decide (x ∈ l) = false) := by
        show _ = _
        refine decide_eq_false fun h => ?_
        obtain ⟨j, hj, e⟩ := List.getElem_of_mem h
        exact HA.out j (by rw [← HN.out]; exact hj) (by rw [nth_eq l j hj]; exact e)
      go_wp2_with fail
      go_ret
      exact ⟨ret_bool HF.out.symm, rfl⟩

set_option maxHeartbeats 1600000 in
theorem iSizesOf (v : Value) (n : Nat) (xs : List Int) (w : World) (hv : SlF w v n 3 xs) (hm : n ≤ 9223372036854775807) (hb : ∀ j, -9223372036854775808 ≤ nth xs j ∧ nth xs j ≤ 9223372036854775807) (hcap : ∀ p c, v = .slice p n c → n ≤ c) :
    Calls Try.prog 38 #[v] w fun e w' => ∃ u, e = .returned u ∧ w'.ownsRow w.heap.size 3 1 u (sizesV n xs).length (icells (sizesV n xs)) ∧ Ge w w' := by
  obtain ⟨p, cap, rfl, hc⟩ := hv.open
  have HV := Lib.hid hv
  have HC := Lib.hid hc
  have HBd := Lib.hid hb
  have HCap := Lib.hid hcap
  clear hv hc hb hcap
  have HT := Lib.hid (fun w' (g : Ge w w') => iTilingOk (.slice p n cap) n xs w' (HV.out.ge g) hm HBd.out HCap.out)
  cases hB : tileB n xs with
  | false =>
    have HF := Lib.hid (sizesV_f hB)
    rw [hB] at HT
    go_enter Try.func38, Try.ntmps38
    go_wp2_with (go_at_call 23; ((with_reducible refine (HT.out _ (Ge.alloc (Ge.refl w) _)).mono ?_); rintro e w1 ⟨rfl, g1⟩))
    exact bodyPost_ret (v := .slice (some ⟨w.heap.size, 0, none⟩) 0 0) (by simp [results, Try.results38, go_sem]) rfl ⟨_, rfl, by rw [HF.out]; exact Ge.owns g1 (owns_lit0 _ _ _), by (repeat (first | with_reducible exact Ge.refl _ | assumption | with_reducible refine Ge.drew ?_ | with_reducible refine Ge.drewN ?_ _ | with_reducible refine Ge.alloc ?_ _ | (with_reducible refine Ge.setCell ?_ (by first | (simp; done) | omega | (simp; omega)) _) | with_reducible refine Ge.trans ?_ (by assumption)))⟩
  | true =>
    have HF := sizesV_t hB
    obtain ⟨h0, h12, hsq, _⟩ : tileP n xs := by
      unfold tileB at hB
      split at hB
      · assumption
      · cases hB
    have HOK : Hid (∀ i, i < n → okSq xs i) := fun i hi => (hsq i hi).1
    rw [← compact_sort (sqSizes xs n) 200 (sqSizes_in HOK.out)] at HF
    replace HF := Lib.hid HF
    rw [hB] at HT
    clear hsq
    go_enter Try.func38, Try.ntmps38
    go_wp2_with (go_at_call 23; ((with_reducible refine (HT.out _ (Ge.alloc (Ge.refl w) _)).mono ?_); rintro e w1 ⟨rfl, g1⟩))
    have olit : w1.ownsRow w.heap.size 3 1 (.slice (some ⟨w.heap.size, 0, none⟩) 0 0) 0 (icells (sqSizes xs 0)) := Ge.owns g1 (owns_lit0 _ _ _)
    go_loopw [3, 13] (fun s i wr => ∃ k : Nat, k ≤ n ∧ i = .int .i64 k ∧ wr.ownsRow w.heap.size 3 1 s (sqSizes xs k).length (icells (sqSizes xs k)) ∧ Ge w wr) (fun _ i _ => n - (intOf i).toNat)
    case atStart => exact ⟨0, Nat.zero_le _, rfl, olit, by (repeat (first | with_reducible exact Ge.refl _ | assumption | with_reducible refine Ge.drew ?_ | with_reducible refine Ge.drewN ?_ _ | with_reducible refine Ge.alloc ?_ _ | (with_reducible refine Ge.setCell ?_ (by first | (simp; done) | omega | (simp; omega)) _) | with_reducible refine Ge.trans ?_ (by assumption)))⟩
    case round =>
      obtain ⟨k, hk, rfl, hown, hg⟩ := hrel
      by_cases hlt : k < n
      · obtain ⟨b, o, rfl, x0, x1, x2⟩ := three_cells HC.out hlt
        have y0 := hg.keep x0
        have y1 := hg.keep x1
        have y2 := hg.keep x2
        clear x0 x1 x2
        change wr.cell? _ = some (.int .i64 (sx xs k)) at y0
        change wr.cell? _ = some (.int .i64 (sy xs k)) at y1
        change wr.cell? _ = some (.int .i64 (ss xs k)) at y2
        have HS := Lib.hid (sqSizes_succ xs k)
        have HL : Hid ((sqSizes xs k).length < 1099511627776) := by
          show _ < _
          rw [sqSizes_length]; omega
        generalize sqSizes xs k = L at *
        generalize sx xs k = X at *
        generalize sy xs k = Y at *
        generalize ss xs k = Z at *
        have own2 : (wr.alloc (.cells #[.int .i64 X, .int .i64 Y, .int .i64 Z] 73)).ownsRow w.heap.size 3 1 u3 L.length (icells L) := hown.alloc _
        have G5 : Ge w (wr.alloc (.cells #[.int .i64 X, .int .i64 Y, .int .i64 Z] 73)) := Ge.alloc hg _
        have Z5 := G5.size
        go_wp2_with (at_builtin; refine ap_intB rfl _ _ rfl w.heap.size u3 L rfl own2 _ rfl (by simp) HL.out Z5 ?_; intro v' w6 own6 hm6)
        go_roundw
        case rel => exact ⟨k + 1, by omega, by go_num, by rw [HS.out]; exact own6, G5.mine own2 (Nat.le_refl _) hm6⟩
        case measure => simp [intOf]; omega
      · have hkn : n = k := by omega
        subst hkn
        rw [sqSizes_length] at hown
        obtain ⟨gs, cs, rfl⟩ := Go.Joins.ownsRow_form hown (by omega)
        have hgs := (hown.lt gs rfl).1
        have n1000 : n ≤ 1000 := by omega
        have HSo := Lib.hid (sortC w.heap.size gs n cs (sqSizes xs n) _ hown n1000)
        generalize sqSizes xs n = L at *
        generalize (L.mergeSort fun x y => decide (x ≤ y)) = M at *
        go_wp2_with (first
          | (go_at_call 80; ((with_reducible refine (HSo.out).mono ?_); rintro e w7 ⟨rfl, o7, k7⟩))
          | (go_at_call 81; ((with_reducible refine (compactC w.heap.size gs n cs M _ o7 n1000).mono ?_); rintro e w8 ⟨rfl, o8, k8⟩)))
        have G8 : Ge w w8 := k8 w (k7 w hg hgs) hgs
        exact bodyPost_ret (v := .slice (some ⟨gs, 0, none⟩) (Lib.compact M).length cs) (by simp [results, Try.results38, go_sem]) rfl ⟨_, rfl, by rw [HF.out]; exact o8, G8⟩

theorem mem_snoc_sizes (xs : List Int) (k : Nat) (x : Int) : x ∈ sqSizes xs (k + 1) ↔ x ∈ sqSizes xs k ∨ ss xs k = x := by
  rw [sqSizes_succ]; simp only [List.mem_append, List.mem_cons, List.not_mem_nil, or_false]
  exact ⟨fun h => h.imp id Eq.symm, fun h => h.imp id Eq.symm⟩
/-- The sizes up to K, and the next one if the first j squares have it. -/
def upJ (xs : List Int) (n K j : Nat) : List Int := inUpto (sqSizes xs n) K ++ (if ((K : Int) + 1) ∈ sqSizes xs j then [(K : Int) + 1] else [])
theorem upJ_0 (xs : List Int) (n K : Nat) : upJ xs n K 0 = inUpto (sqSizes xs n) K := by simp [upJ, sqSizes]
theorem upJ_n (xs : List Int) (n K : Nat) : upJ xs n K n = inUpto (sqSizes xs n) (K + 1) := by
  unfold upJ
  by_cases h : ((K : Int) + 1) ∈ sqSizes xs n
  · rw [if_pos h, inUpto_succ_t h]
  · rw [if_neg h, inUpto_succ_f h, List.append_nil]
theorem upJ_same {xs : List Int} {n K j : Nat} (h : ¬ ss xs j = (K : Int) + 1 ∨ ((K : Int) + 1) ∈ upJ xs n K j) : upJ xs n K (j + 1) = upJ xs n K j := by
  unfold upJ
  by_cases c : ((K : Int) + 1) ∈ sqSizes xs j
  · rw [if_pos c, if_pos ((mem_snoc_sizes xs j _).2 (Or.inl c))]
  · rcases h with h | h
    · rw [if_neg c, if_neg (fun k => ((mem_snoc_sizes xs j _).1 k).elim c h)]
    · unfold upJ at h
      rw [if_neg c, List.append_nil] at h
      have := inUpto_mem h
      omega
theorem upJ_new {xs : List Int} {n K j : Nat} (h : ss xs j = (K : Int) + 1) (c : ¬ ((K : Int) + 1) ∈ upJ xs n K j) : upJ xs n K (j + 1) = upJ xs n K j ++ [(K : Int) + 1] := by
  have c2 : ¬ ((K : Int) + 1) ∈ sqSizes xs j := fun k => c (by unfold upJ; rw [if_pos k]; simp)
  unfold upJ
  rw [if_neg c2, if_pos ((mem_snoc_sizes xs j _).2 (Or.inr h)), List.append_nil]
theorem upJ_len (xs : List Int) (n K j : Nat) : (upJ xs n K j).length ≤ K + 1 := by
  unfold upJ inUpto
  rw [List.length_append]
  have h1 := List.length_filter_le (fun k => decide (k ∈ sqSizes xs n)) ((List.range K).map (fun (i : Nat) => (i : Int) + 1))
  rw [List.length_map, List.length_range] at h1
  split <;> simp <;> omega

set_option maxHeartbeats 3200000 in
theorem sSizesOf (v : Value) (n : Nat) (xs : List Int) (w : World) (hv : SlF w v n 3 xs) (hm : n ≤ 9223372036854775807) (hb : ∀ j, -9223372036854775808 ≤ nth xs j ∧ nth xs j ≤ 9223372036854775807) (hcap : ∀ p c, v = .slice p n c → n ≤ c) :
    Calls Try.prog 37 #[v] w fun e w' => ∃ u, e = .returned u ∧ w'.ownsRow w.heap.size 3 1 u (sizesV n xs).length (icells (sizesV n xs)) ∧ Ge w w' := by
  obtain ⟨p, cap, rfl, hc⟩ := hv.open
  have HV := Lib.hid hv
  have HC := Lib.hid hc
  have HBd := Lib.hid hb
  have HCap := Lib.hid hcap
  clear hv hc hb hcap
  have HT := Lib.hid (fun w' (g : Ge w w') => sTilingOk (.slice p n cap) n xs w' (HV.out.ge g) hm HBd.out HCap.out)
  cases hB : tileB n xs with
  | false =>
    have HF := Lib.hid (sizesV_f hB)
    rw [hB] at HT
    go_enter Try.func37, Try.ntmps37
    go_wp2_with (go_at_call 21; ((with_reducible refine (HT.out _ (Ge.refl w)).mono ?_); rintro e w1 ⟨rfl, g1⟩))
    exact bodyPost_ret (v := .slice none 0 0) (by simp [results, Try.results37, go_sem]) rfl ⟨_, rfl, by rw [HF.out]; exact owns_nilZ _ _ _, by (repeat (first | with_reducible exact Ge.refl _ | assumption | with_reducible refine Ge.drew ?_ | with_reducible refine Ge.drewN ?_ _ | with_reducible refine Ge.alloc ?_ _ | (with_reducible refine Ge.setCell ?_ (by first | (simp; done) | omega | (simp; omega)) _) | with_reducible refine Ge.trans ?_ (by assumption)))⟩
  | true =>
    have HF := Lib.hid (sizesV_t hB)
    obtain ⟨h0, h12, _⟩ : tileP n xs := by
      unfold tileB at hB
      split at hB
      · assumption
      · cases hB
    rw [hB] at HT
    go_enter Try.func37, Try.ntmps37
    go_wp2_with (go_at_call 21; ((with_reducible refine (HT.out _ (Ge.refl w)).mono ?_); rintro e w1 ⟨rfl, g1⟩))
    have zg1 := g1.size
    go_loopw [3, 4] (fun s i wr => ∃ K : Nat, K ≤ 200 ∧ i = .int .i64 ((K : Int) + 1) ∧ wr.ownsRow w.heap.size 3 1 s (upJ xs n K 0).length (icells (upJ xs n K 0)) ∧ Ge w wr) (fun _ i _ => 201 - (intOf i).toNat)
    case atStart => exact ⟨0, Nat.zero_le _, rfl, owns_mono (owns_lit0 _ _ _) zg1, by (repeat (first | with_reducible exact Ge.refl _ | assumption | with_reducible refine Ge.drew ?_ | with_reducible refine Ge.drewN ?_ _ | with_reducible refine Ge.alloc ?_ _ | (with_reducible refine Ge.setCell ?_ (by first | (simp; done) | omega | (simp; omega)) _) | with_reducible refine Ge.trans ?_ (by assumption)))⟩
    case round =>
      obtain ⟨K, hK, rfl, hown, hg⟩ := hrel
      by_cases hltK : K < 200
      · have tK : (K : Int) + 1 ≤ 200 := by omega
        have tK2 : decide ((K : Int) + 1 ≤ 200) = true := decide_eq_true tK
        go_wp2_with fail
        go_loopw [3, 17] (fun s i wr => ∃ j : Nat, j ≤ n ∧ i = .int .i64 j ∧ wr.ownsRow w.heap.size 3 1 s (upJ xs n K j).length (icells (upJ xs n K j)) ∧ Ge w wr) (fun _ i _ => n - (intOf i).toNat)
        case atStart => exact ⟨0, Nat.zero_le _, rfl, hown, hg⟩
        case round =>
          obtain ⟨j, hj, rfl, hownj, hgj⟩ := hrel
          by_cases hlt : j < n
          · obtain ⟨b, o, rfl, x0, x1, x2⟩ := three_cells HC.out hlt
            have y0 := hgj.keep x0
            have y1 := hgj.keep x1
            have y2 := hgj.keep x2
            clear x0 x1 x2
            change wr.cell? _ = some (.int .i64 (sx xs j)) at y0
            change wr.cell? _ = some (.int .i64 (sy xs j)) at y1
            change wr.cell? _ = some (.int .i64 (ss xs j)) at y2
            have HL := Lib.hid (upJ_len xs n K j)
            have HSa := Lib.hid (fun h => upJ_same (xs := xs) (n := n) (K := K) (j := j) h)
            have HSn := Lib.hid (fun h c => upJ_new (xs := xs) (n := n) (K := K) (j := j) h c)
            generalize upJ xs n K j = L at *
            generalize sx xs j = X at *
            generalize sy xs j = Y at *
            generalize ss xs j = Z at *
            by_cases c : Z = (K : Int) + 1
            · have t : (Z == (K : Int) + 1) = true := by simp [c]
              have G5 : Ge w (wr.alloc (.cells #[.int .i64 X, .int .i64 Y, .int .i64 Z] 73)) := Ge.alloc hgj _
              have HH := Lib.hid (sL03HasZ _ L ((K : Int) + 1) (wr.alloc (.cells #[.int .i64 X, .int .i64 Y, .int .i64 Z] 73)) (SlI.ge (SlI.of_owns hownj) (Ge.alloc (Ge.refl _) _)) (by have := HL.out; omega))
              by_cases d : ((K : Int) + 1) ∈ L
              · have hE := HSa.out (Or.inr d)
                rw [decide_eq_true d] at HH
                replace hE := Lib.hid hE
                clear c d
                go_wp2_with (go_at_call 79; ((with_reducible refine (HH.out).mono ?_); rintro e w' ⟨rfl, rfl⟩))
                go_roundw
                case rel => exact ⟨j + 1, by omega, by go_num, by rw [hE.out]; exact hownj.alloc _, G5⟩
                case measure => simp [intOf]; omega
              · have hE := HSn.out c d
                rw [decide_eq_false d] at HH
                replace hE := Lib.hid hE
                clear c d
                have own2 : (wr.alloc (.cells #[.int .i64 X, .int .i64 Y, .int .i64 Z] 73)).ownsRow w.heap.size 3 1 u3 L.length (icells L) := hownj.alloc _
                have Z5 := G5.size
                go_wp2_with (first | (go_at_call 79; ((with_reducible refine (HH.out).mono ?_); rintro e w' ⟨rfl, rfl⟩)) | (at_builtin; refine ap_intB rfl _ _ rfl w.heap.size u3 L rfl own2 _ rfl (by simp) (by have := HL.out; omega) Z5 ?_; intro v' w6 own6 hm6))
                go_roundw
                case rel => exact ⟨j + 1, by omega, by go_num, by rw [hE.out]; exact own6, G5.mine own2 (Nat.le_refl _) hm6⟩
                case measure => simp [intOf]; omega
            · have t : (Z == (K : Int) + 1) = false := by simp [c]
              have hE := Lib.hid (HSa.out (Or.inl c))
              clear c
              go_wp2_with fail
              go_roundw
              case rel => exact ⟨j + 1, by omega, by go_num, by rw [hE.out]; exact hownj.alloc _, by (repeat (first | with_reducible exact Ge.refl _ | assumption | with_reducible refine Ge.drew ?_ | with_reducible refine Ge.drewN ?_ _ | with_reducible refine Ge.alloc ?_ _ | (with_reducible refine Ge.setCell ?_ (by first | (simp; done) | omega | (simp; omega)) _) | with_reducible refine Ge.trans ?_ (by assumption)))⟩
              case measure => simp [intOf]; omega
          · have hjn : n = j := by omega
            subst hjn
            have hE : Hid (upJ xs n K n = upJ xs n (K + 1) 0) := by
              show _ = _
              rw [upJ_n, upJ_0]
            go_wp2_with fail
            go_roundw
            case rel => exact ⟨K + 1, by omega, by go_num, by rw [← hE.out]; exact hownj, hgj⟩
            case measure => simp [intOf]; omega
      · have hKe : K = 200 := by omega
        subst hKe
        go_wp2_with fail
        exact bodyPost_ret (v := u3) (by simp [results, Try.results37, go_sem]) rfl ⟨_, rfl, by rw [HF.out, ← upJ_0]; exact hown, hg⟩

set_option maxHeartbeats 800000 in
theorem iHasEqualSquares (v : Value) (n : Nat) (xs : List Int) (w : World) (hv : SlF w v n 3 xs) (hm : n ≤ 9223372036854775807) (hb : ∀ j, -9223372036854775808 ≤ nth xs j ∧ nth xs j ≤ 9223372036854775807) (hcap : ∀ p c, v = .slice p n c → n ≤ c) :
    Calls Try.prog 36 #[v] w fun e w' => e = .returned (.bool (equalB n xs)) ∧ Ge w w' := by
  obtain ⟨p, cap, rfl, hc⟩ := hv.open
  have HV := Lib.hid hv
  have HBd := Lib.hid hb
  have HCap := Lib.hid hcap
  clear hv hc hb hcap
  have HT := Lib.hid (fun w' (g : Ge w w') => iTilingOk (.slice p n cap) n xs w' (HV.out.ge g) hm HBd.out HCap.out)
  have HSz := Lib.hid (iSizesOf (.slice p n cap) n xs w HV.out hm HBd.out HCap.out)
  have HF : Hid (equalB n xs = (tileB n xs && decide ((sizesV n xs).length < n))) := rfl
  obtain ⟨m, hL⟩ : ∃ m, (sizesV n xs).length = m := ⟨_, rfl⟩
  rw [hL] at HF HSz
  have hmb : m ≤ 9223372036854775807 := by
    rw [← hL]
    cases hB : tileB n xs with
    | false => rw [sizesV_f hB]; simp
    | true =>
      rw [sizesV_t hB, ← upJ_0]
      have := upJ_len xs n 200 0
      omega
  clear hL
  by_cases c : m < n
  · have HF2 : Hid (equalB n xs = tileB n xs) := by show _ = _; rw [HF.out, decide_eq_true c, Bool.and_true]
    clear HF
    generalize tileB n xs = TB at *
    go_enter Try.func36, Try.ntmps36
    go_wp2_with (first | ((go_at_call 38; ((with_reducible refine (HSz.out).mono ?_); rintro e w1 ⟨u, rfl, o1, g1⟩)); obtain ⟨p1, c1, rfl⟩ := owns_form o1) | (go_at_call 23; ((with_reducible refine (HT.out _ (by (repeat (first | with_reducible exact Ge.refl _ | assumption | with_reducible refine Ge.drew ?_ | with_reducible refine Ge.drewN ?_ _ | with_reducible refine Ge.alloc ?_ _ | (with_reducible refine Ge.setCell ?_ (by first | (simp; done) | omega | (simp; omega)) _) | with_reducible refine Ge.trans ?_ (by assumption))))).mono ?_); rintro e w2 ⟨rfl, g2⟩)))
    go_ret
    exact ⟨ret_bool HF2.out.symm, by (repeat (first | with_reducible exact Ge.refl _ | assumption | with_reducible refine Ge.drew ?_ | with_reducible refine Ge.drewN ?_ _ | with_reducible refine Ge.alloc ?_ _ | (with_reducible refine Ge.setCell ?_ (by first | (simp; done) | omega | (simp; omega)) _) | with_reducible refine Ge.trans ?_ (by assumption)))⟩
  · have HF2 : Hid (equalB n xs = false) := by show _ = _; rw [HF.out, decide_eq_false c, Bool.and_false]
    clear HF
    go_enter Try.func36, Try.ntmps36
    go_wp2_with (first | ((go_at_call 38; ((with_reducible refine (HSz.out).mono ?_); rintro e w1 ⟨u, rfl, o1, g1⟩)); obtain ⟨p1, c1, rfl⟩ := owns_form o1) | (go_at_call 23; ((with_reducible refine (HT.out _ (by (repeat (first | with_reducible exact Ge.refl _ | assumption | with_reducible refine Ge.drew ?_ | with_reducible refine Ge.drewN ?_ _ | with_reducible refine Ge.alloc ?_ _ | (with_reducible refine Ge.setCell ?_ (by first | (simp; done) | omega | (simp; omega)) _) | with_reducible refine Ge.trans ?_ (by assumption))))).mono ?_); rintro e w2 ⟨rfl, g2⟩)))
    go_ret
    exact ⟨ret_bool HF2.out.symm, by (repeat (first | with_reducible exact Ge.refl _ | assumption | with_reducible refine Ge.drew ?_ | with_reducible refine Ge.drewN ?_ _ | with_reducible refine Ge.alloc ?_ _ | (with_reducible refine Ge.setCell ?_ (by first | (simp; done) | omega | (simp; omega)) _) | with_reducible refine Ge.trans ?_ (by assumption)))⟩
set_option maxHeartbeats 800000 in
theorem sHasEqualSquares (v : Value) (n : Nat) (xs : List Int) (w : World) (hv : SlF w v n 3 xs) (hm : n ≤ 9223372036854775807) (hb : ∀ j, -9223372036854775808 ≤ nth xs j ∧ nth xs j ≤ 9223372036854775807) (hcap : ∀ p c, v = .slice p n c → n ≤ c) :
    Calls Try.prog 35 #[v] w fun e w' => e = .returned (.bool (equalB n xs)) ∧ Ge w w' := by
  obtain ⟨p, cap, rfl, hc⟩ := hv.open
  have HV := Lib.hid hv
  have HBd := Lib.hid hb
  have HCap := Lib.hid hcap
  clear hv hc hb hcap
  have HT := Lib.hid (sTilingOk (.slice p n cap) n xs w HV.out hm HBd.out HCap.out)
  have HSz := Lib.hid (fun w' (g : Ge w w') => sSizesOf (.slice p n cap) n xs w' (HV.out.ge g) hm HBd.out HCap.out)
  have HF : Hid (equalB n xs = (tileB n xs && decide ((sizesV n xs).length < n))) := rfl
  cases hB : tileB n xs with
  | false =>
    have HF2 : Hid (equalB n xs = false) := by show _ = _; rw [HF.out, hB]; rfl
    rw [hB] at HT
    clear HF
    go_enter Try.func35, Try.ntmps35
    go_wp2_with (go_at_call 21; ((with_reducible refine (HT.out).mono ?_); rintro e w2 ⟨rfl, g2⟩))
    go_ret
    exact ⟨ret_bool HF2.out.symm, by (repeat (first | with_reducible exact Ge.refl _ | assumption | with_reducible refine Ge.drew ?_ | with_reducible refine Ge.drewN ?_ _ | with_reducible refine Ge.alloc ?_ _ | (with_reducible refine Ge.setCell ?_ (by first | (simp; done) | omega | (simp; omega)) _) | with_reducible refine Ge.trans ?_ (by assumption)))⟩
  | true =>
    rw [hB] at HT
    obtain ⟨m, hL⟩ : ∃ m, (sizesV n xs).length = m := ⟨_, rfl⟩
    rw [hL] at HF HSz
    by_cases c : m < n
    · have HF2 : Hid (equalB n xs = true) := by show _ = _; rw [HF.out, hB, decide_eq_true c]; rfl
      clear HF hL
      go_enter Try.func35, Try.ntmps35
      go_wp2_with (first | (go_at_call 21; ((with_reducible refine (HT.out).mono ?_); rintro e w2 ⟨rfl, g2⟩)) | ((go_at_call 37; ((with_reducible refine (HSz.out _ (by (repeat (first | with_reducible exact Ge.refl _ | assumption | with_reducible refine Ge.drew ?_ | with_reducible refine Ge.drewN ?_ _ | with_reducible refine Ge.alloc ?_ _ | (with_reducible refine Ge.setCell ?_ (by first | (simp; done) | omega | (simp; omega)) _) | with_reducible refine Ge.trans ?_ (by assumption))))).mono ?_); rintro e w1 ⟨u, rfl, o1, g1⟩)); obtain ⟨p1, c1, rfl⟩ := owns_form o1))
      go_ret
      exact ⟨ret_bool HF2.out.symm, by (repeat (first | with_reducible exact Ge.refl _ | assumption | with_reducible refine Ge.drew ?_ | with_reducible refine Ge.drewN ?_ _ | with_reducible refine Ge.alloc ?_ _ | (with_reducible refine Ge.setCell ?_ (by first | (simp; done) | omega | (simp; omega)) _) | with_reducible refine Ge.trans ?_ (by assumption)))⟩
    · have HF2 : Hid (equalB n xs = false) := by show _ = _; rw [HF.out, hB, decide_eq_false c]; rfl
      clear HF hL
      go_enter Try.func35, Try.ntmps35
      go_wp2_with (first | (go_at_call 21; ((with_reducible refine (HT.out).mono ?_); rintro e w2 ⟨rfl, g2⟩)) | ((go_at_call 37; ((with_reducible refine (HSz.out _ (by (repeat (first | with_reducible exact Ge.refl _ | assumption | with_reducible refine Ge.drew ?_ | with_reducible refine Ge.drewN ?_ _ | with_reducible refine Ge.alloc ?_ _ | (with_reducible refine Ge.setCell ?_ (by first | (simp; done) | omega | (simp; omega)) _) | with_reducible refine Ge.trans ?_ (by assumption))))).mono ?_); rintro e w1 ⟨u, rfl, o1, g1⟩)); obtain ⟨p1, c1, rfl⟩ := owns_form o1))
      go_ret
      exact ⟨ret_bool HF2.out.symm, by (repeat (first | with_reducible exact Ge.refl _ | assumption | with_reducible refine Ge.drew ?_ | with_reducible refine Ge.drewN ?_ _ | with_reducible refine Ge.alloc ?_ _ | (with_reducible refine Ge.setCell ?_ (by first | (simp; done) | omega | (simp; omega)) _) | with_reducible refine Ge.trans ?_ (by assumption)))⟩
end Go.Proofs.Ytndbdbcbnipmaaa
