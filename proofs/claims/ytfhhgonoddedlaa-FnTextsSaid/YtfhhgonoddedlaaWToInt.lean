/- toIntS: a copy of a slice of integers. -/
import Derived.Test.YtfhhgonoddedlaaWTyInt
import Derived.Test.YtfhhgonoddedlaaWEqInt
namespace Go.Proofs.Ytfhhgonoddedlaa
set_option maxRecDepth 100000
open Go.ChangeShapes Go.WideShapes Go.ChangeAt Go.RowKit Go.Joins

/-- 'make([]T, n)' -/
theorem mk1 {P : Program} {w : World} {ops : Array Oper} {rest : List Oper} {o : Oper} {a : Act} {Q : Exit → Act → World → Prop} (hgd : o.guard = none) (l c : Operand) (t : TypeId)
    (ho : o.op = Op.makeSlice t l c)
    (e : TypeId) (z : Value) (size bytes : Nat) (ht : P.underlying t = some (.slice e)) (hi : (P.info? e).map (fun i => (i.zero, i.size, i.bytes)) = some (some z, size, bytes)) (hbs : bytes ≤ 100)
    (n : Nat) (hl : a.eval l = .int .i64 n) (hc : a.eval c = .int .i64 n) (hn : n < 1099511627776)
    (h : ∀ w', w'.ownsRow w.heap.size e size (.slice (some ⟨w.heap.size, 0, none⟩) n n) n (madeCells z.cells (n * size)).toList → Ge w w' → wpList P ops Q rest (a.put o.dst (.slice (some ⟨w.heap.size, 0, none⟩) n n)) w') :
    wpList P ops Q (o :: rest) a w := by
  obtain ⟨i, hi1, hi2, hi3, hi4⟩ := info_parts hi
  refine wpList_make_full w hgd l c t ho w.heap.size e i z size ht hi1 hi2 hi3 .i64 .i64 n n n hl hc rfl rfl ?_ (by unfold maxLen; omega) (Nat.le_refl _) ?_
  · rw [hi4]
    have : bytes * n ≤ 100 * n := Nat.mul_le_mul_right _ hbs
    omega
  · intro w' h1 h2
    exact h w' h1 ((Ge.refl w).grown h2 (fun k hk => by cases hk))

/-- The first j of l, then zeros. -/
def part (l : List Int) (j : Nat) : List Int := l.take j ++ List.replicate (l.length - j) 0
theorem part_zero (l : List Int) : part l 0 = List.replicate l.length 0 := by simp [part]
theorem part_all (l : List Int) : part l l.length = l := by simp [part]
theorem part_length (l : List Int) (j : Nat) (h : j ≤ l.length) : (part l j).length = l.length := by simp [part]; omega
theorem part_step (l : List Int) (j : Nat) (h : j < l.length) : (part l j).set j (nth l j) = part l (j + 1) := by
  unfold part
  rw [nth_eq l j h, List.set_append_right _ _ (by simp; omega)]
  have h1 : (l.take j).length = j := by simp; omega
  have h2 : l.length - j = (l.length - (j + 1)) + 1 := by omega
  rw [h1, Nat.sub_self, h2, List.replicate_succ, List.set_cons_zero, List.take_succ_eq_append_getElem h, List.append_assoc]
  exact rfl
theorem made_ints (n : Nat) : (madeCells (Value.int .i64 0).cells (n * 1)).toList = icells (List.replicate n 0) := by
  simp [madeCells, icells, Value.cells, Nat.mod_one]
  rw [List.eq_replicate_iff]; simp

set_option maxHeartbeats 800000 in
theorem lToIntS (v : Value) (l : List Int) (w : World) (hv : SlI w v l) (hm : l.length ≤ 1048576) :
    Calls Try.prog 41 #[v] w fun e w' => ∃ v', e = .returned v' ∧ w'.ownsRow w.heap.size 3 1 v' l.length (icells l) ∧ Ge w w' := by
  obtain ⟨n, hn⟩ : ∃ n, l.length = n := ⟨_, rfl⟩
  obtain ⟨pv, cv', rfl, hc⟩ := hv.openN hn
  rw [hn] at hm
  have HC := Lib.hid hc
  have HP := Lib.hid (fun k (hk : k < n) => part_step l k (by omega))
  have H0 : Hid (part l 0 = List.replicate n 0) := by rw [part_zero, hn]; exact rfl
  have HA : Hid (part l n = l) := by rw [← hn]; exact part_all l
  rw [hn]
  clear hv hc hn
  go_enter Try.func41, Try.ntmps41
  go_wp2_with (at_make; refine mk1 rfl _ _ _ rfl 3 _ 1 8 Try.underlying29 inf_int (by decide) n rfl rfl (by omega) ?_; intro w1 own1 g1)
  rw [made_ints, ← H0.out] at own1
  go_loopw [4] (fun i wr => ∃ j : Nat, j ≤ n ∧ i = .int .i64 j ∧ wr.ownsRow w.heap.size 3 1 (.slice (some ⟨w.heap.size, 0, none⟩) n n) n (icells (part l j)) ∧ Ge w wr) (fun i _ => n - (intOf i).toNat)
  case atStart => exact ⟨0, Nat.zero_le _, rfl, own1, g1⟩
  case round =>
    obtain ⟨j, hj, rfl, hown, hg⟩ := hrel
    by_cases hlt : j < n
    · obtain ⟨b, o, rfl, x0⟩ := HC.out j hlt
      have x1 := hg.keep x0
      clear x0
      have hf := hown.frozenAt j
      obtain ⟨u, hu⟩ : ∃ u, wr.cell? ⟨w.heap.size, j, none⟩ = some u := by
        rw [hown.cellAt j (by omega)]; exact ⟨_, List.getElem?_eq_getElem (by have := hown.1; omega)⟩
      have HT : Hid _ := Lib.hid (hown.stored j (.int .i64 (nth l j)))
      have H5 : Hid _ := Lib.hid (HP.out j hlt)
      go_wp2_with fail
      go_roundw
      case rel => exact ⟨j + 1, by omega, by go_num, by have := HT.out.1; rwa [icells_set, H5.out] at this, hg.grown HT.out.2 (fun k hk => by simp at hk; omega)⟩
      case measure => simp [intOf]; omega
    · have hjn : j = n := by omega
      subst hjn
      rw [HA.out] at hown
      go_wp2_with fail
      go_ret
      exact ⟨_, rfl, hown, hg⟩
end Go.Proofs.Ytfhhgonoddedlaa
