/- ParseRow of impl and of spec, and its law. No condition. -/
import Derived.Test.YtfhhgonoddedlaaWParseRatioS
import Derived.Test.YtfhhgonoddedlaaWRatioArg
import Derived.Test.YtfhhgonoddedlaaWMarkRatio
import Derived.Maps.AppendAt
namespace Go.Proofs.Ytfhhgonoddedlaa
set_option maxRecDepth 100000
open Go.ChangeShapes Go.WideShapes Go.ChangeAt Go.RowKit Go.Joins

theorem ap_rat {w : World} {ops : Array Oper} {rest : List Oper} {o : Oper} {a : Act} {Q : Exit → Act → World → Prop} (hgd : o.guard = none) (s x : Operand)
    (ho : o.op = .call { callee := .builtin .append, args := #[s, x], argTypes := #[41, 41] })
    (base : Nat) (v : Value) (n : Nat) (l : List Int) (hs : a.eval s = v) (hown : w.ownsRow base 39 2 v n (icells l))
    (y z : Int) {b0 : Nat} (hx : a.eval x = .slice (some ⟨b0, 0, none⟩) 1 1) (hb0 : b0 = w.heap.size) (hn : n < 1099511627776) (hbase : base ≤ w.heap.size)
    (h : ∀ v' w', w'.ownsRow base 39 2 v' (n + 1) (icells (l ++ [y, z])) → Mine w w' v → (v'.ownBlock = v.ownBlock ∨ ∃ b, v'.ownBlock = some b ∧ w.heap.size ≤ b) → wpList Try.prog ops Q rest (a.put o.dst v') w') :
    wpList Try.prog ops Q (o :: rest) a (w.alloc (.cells #[.int .i64 y, .int .i64 z] 39)) := by
  subst hb0
  obtain ⟨i, hi1, hi2, hi3, hi4⟩ := info_parts inf_Ratio
  refine Go.wpList_append_own_at _ hgd s x 41 ho base 39 i _ 2 16 Try.underlying41 hi1 hi2 hi3 hi4 rfl (by decide) v n (icells l) hs (hown.alloc _) ⟨w.heap.size, 0, none⟩ 1 1 [.int .i64 y, .int .i64 z] hx rfl ?_ (by simp [Value.oneCell']) (by unfold maxLen; omega) ?_ (by simp; omega) ?_
  · intro j u hu
    have hadd : (⟨w.heap.size, 0, none⟩ : Addr).add j = ⟨w.heap.size, j, none⟩ := by unfold Addr.add; split <;> simp_all
    rw [hadd, cell_of_row (w.alloc (.cells #[.int .i64 y, .int .i64 z] 39)) w.heap.size j _ _ (0, 0) (heap_alloc_new w _)]
    simpa using hu
  · have : (n + 1) * 16 ≤ (n + 1) * 100 := Nat.mul_le_mul_left _ (by decide)
    omega
  · intro v' w' h2 h3 _ h5
    refine h v' w' (by simpa [icells] using h2) (Mine.alloc _ h3) ?_
    rcases h5 with h5 | h5
    · exact .inl h5
    · exact .inr ⟨_, h5, by simp⟩

noncomputable def rats (l : List (List UInt8)) : Nat → List Int
  | 0 => []
  | k + 1 => rats l k ++ [ratN (tnth l k), ratD (tnth l k)]
noncomputable def allR (l : List (List UInt8)) : Bool := (List.range l.length).all fun i => rGood (tnth l i)
theorem allR_t {l : List (List UInt8)} (h : ∀ i, i < l.length → rGood (tnth l i) = true) : allR l = true := by
  simp only [allR, List.all_eq_true, List.mem_range]; exact h
theorem allR_f {l : List (List UInt8)} {i : Nat} (hi : i < l.length) (h : rGood (tnth l i) = false) : allR l = false := by
  cases c : allR l with
  | false => rfl
  | true =>
    simp only [allR, List.all_eq_true, List.mem_range] at c
    rw [c i hi] at h; cases h
def noneT : List UInt8 := [110, 111, 110, 101]
noncomputable def rowB (s : List UInt8) : Bool := decide (s = noneT) || allR (pieces [32] s)
noncomputable def rowC (s : List UInt8) : Nat := if s = noneT then 0 else if allR (pieces [32] s) = true then (pieces [32] s).length else 0
noncomputable def rowX (s : List UInt8) : List Int := if s = noneT then [] else if allR (pieces [32] s) = true then rats (pieces [32] s) (pieces [32] s).length else []
theorem row_none {s : List UInt8} (h : s = noneT) : rowB s = true ∧ rowC s = 0 ∧ rowX s = [] := by simp [rowB, rowC, rowX, h]
theorem row_bad {s : List UInt8} (h : ¬ s = noneT) (hb : allR (pieces [32] s) = false) : rowB s = false ∧ rowC s = 0 ∧ rowX s = [] := by simp [rowB, rowC, rowX, h, hb]
theorem row_ok {s : List UInt8} (h : ¬ s = noneT) (hb : allR (pieces [32] s) = true) : rowB s = true ∧ rowC s = (pieces [32] s).length ∧ rowX s = rats (pieces [32] s) (pieces [32] s).length := by simp [rowB, rowC, rowX, h, hb]
theorem rowC_le (s : List UInt8) : rowC s ≤ s.length + 1 := by
  have := pieces_len [32] s
  unfold rowC
  repeat' split
  all_goals omega
def GivesR (w : World) (s : List UInt8) (e : Ending) (w' : World) : Prop :=
  ∃ v, e = .returned (.tuple #[v, .bool (rowB s)]) ∧ w'.ownsRow w.heap.size 39 2 v (rowC s) (icells (rowX s)) ∧ Ge w w'
theorem good_rat {l : List (List UInt8)} {k : Nat} (h : Hid (∀ i, i < k → rGood (tnth l i) = true)) (hk : rGood (tnth l k) = true) : Hid (∀ i, i < k + 1 → rGood (tnth l i) = true) := fun i hi => by
  by_cases e : i = k
  · subst e; exact hk
  · exact h.out i (by omega)
theorem new_blk {v v' : Value} {z a b : Nat} (h : Hid (v.ownBlock = some z ∨ ∃ b, v.ownBlock = some b ∧ a ≤ b)) (hz : a ≤ b) (h2 : v'.ownBlock = v.ownBlock ∨ ∃ c, v'.ownBlock = some c ∧ b ≤ c) : Hid (v'.ownBlock = some z ∨ ∃ b, v'.ownBlock = some b ∧ a ≤ b) := by
  rcases h2 with h2 | ⟨c, h2, h3⟩
  · show _ ∨ _
    rw [h2]; exact h.out
  · exact Or.inr ⟨c, h2, by omega⟩
theorem other_blk {v : Value} {z a g n c : Nat} (h : Hid (v.ownBlock = some z ∨ ∃ b, v.ownBlock = some b ∧ a ≤ b)) (h1 : z + 1 ≤ g) (h2 : g < a) : (Value.slice (some ⟨g, 0, none⟩) n c).ownBlock = none ∨ (Value.slice (some ⟨g, 0, none⟩) n c).ownBlock ≠ v.ownBlock := by
  right
  intro e
  rcases h.out with h | ⟨b, h, h3⟩
  · rw [h] at e; simp [Value.ownBlock] at e; omega
  · rw [h] at e; simp [Value.ownBlock] at e; omega
theorem owns_nil2 (w : World) (base : Nat) (e : TypeId) : w.ownsRow base e 2 (.slice none 0 0) 0 [] := ⟨rfl, .inl ⟨rfl, rfl⟩⟩

set_option maxHeartbeats 1600000 in
theorem iParseRow (s : List UInt8) (w : World) (hm : s.length ≤ 1048576) : Calls Try.prog 21 #[.string (bstr s)] w (GivesR w s) := by
  have hS : ∀ w0, Calls Try.prog 54 #[.string (bstr s), .string ⟨#[32]⟩] w0 (GivesS w0 (pieces [32] s)) := fun w0 => iSplitAny s [32] w0 hm
  have HS := Lib.hid hS
  have hlen := pieces_len [32] s
  have hpos := pieces_pos [32] s
  have hL := fun x (hx : x ∈ pieces [32] s) => Nat.le_trans (pieces_le x hx) hm
  clear hS
  by_cases h0 : s = noneT
  · have HF := Lib.hid (row_none h0)
    have hE1 : bstr s = (⟨#[110, 111, 110, 101]⟩ : ByteArray) := by rw [h0]; rfl
    clear h0 hL hpos hlen
    go_enter Try.func21, Try.ntmps21
    go_wp2_with fail
    exact bodyPost_ret (v := .tuple #[.slice (some ⟨w.heap.size, 0, none⟩) 0 0, .bool true]) (by simp [results, Try.results21, go_sem]) rfl ⟨_, by rw [HF.out.1], by rw [HF.out.2.1, HF.out.2.2]; exact owns_lit0 _ _ _, by (repeat (first | with_reducible exact Ge.refl _ | assumption | with_reducible refine Ge.drew ?_ | with_reducible refine Ge.drewN ?_ _ | with_reducible refine Ge.alloc ?_ _ | (with_reducible refine Ge.setCell ?_ (by first | (simp; done) | omega | (simp; omega)) _) | with_reducible refine Ge.trans ?_ (by assumption)))⟩
  · have hE1 : ((bstr s).toList == [110, 111, 110, 101]) = false := by rw [bstr_list]; simpa [noneT] using h0
    have HB0 := Lib.hid (fun h => row_bad (s := s) h0 h)
    have HB1 := Lib.hid (fun h => row_ok (s := s) h0 h)
    clear h0
    generalize pieces [32] s = l at *
    obtain ⟨n, hn⟩ : ∃ n, l.length = n := ⟨_, rfl⟩
    have HN := Lib.hid hn
    have HL := Lib.hid (fun i (h : i < n) => hL (tnth l i) (by rw [tnth_eq l i (by rw [hn]; exact h)]; exact List.getElem_mem _))
    have hnm : n ≤ 2000000 := by omega
    have hn0 : 0 < n := by omega
    clear hn hL hlen hpos
    go_enter Try.func21, Try.ntmps21
    go_wp2_with ((go_at_call 54; ((with_reducible refine (HS.out _).mono ?_); rintro e w1 ⟨v1, rfl, o1, g1⟩); rw [HN.out] at o1; obtain ⟨g, c1, rfl⟩ := Go.Joins.ownsRow_form o1 hn0))
    have G1 : Ge w w1 := Ge.trans (Ge.alloc (Ge.refl w) _) g1
    have olit : w1.ownsRow w.heap.size 39 2 (.slice (some ⟨w.heap.size, 0, none⟩) 0 0) 0 (icells (rats l 0)) := Ge.owns g1 (owns_lit0 _ _ _)
    have hg1 := o1.lt g rfl
    have op1 : w1.ownsRow (w.heap.size + 1) 9 1 (.slice (some ⟨g, 0, none⟩) n c1) n (scells l) := owns_mono o1 (by simp)
    simp at hg1
    obtain ⟨hga, hgb⟩ := hg1
    clear o1
    go_loopw [4, 16] (fun v i wr => ∃ k : Nat, k ≤ n ∧ i = .int .i64 k ∧ wr.ownsRow w.heap.size 39 2 v k (icells (rats l k)) ∧ Hid (∀ i, i < k → rGood (tnth l i) = true) ∧ Hid (v.ownBlock = some w.heap.size ∨ ∃ b, v.ownBlock = some b ∧ w1.heap.size ≤ b) ∧ wr.ownsRow (w.heap.size + 1) 9 1 (.slice (some ⟨g, 0, none⟩) n c1) n (scells l) ∧ w1.heap.size ≤ wr.heap.size ∧ Ge w wr) (fun _ i _ => n - (intOf i).toNat)
    case atStart => exact ⟨0, Nat.zero_le _, rfl, olit, fun i hi => by omega, Or.inl rfl, op1, Nat.le_refl _, G1⟩
    case round =>
      obtain ⟨k, hk, rfl, hown, HG, HB, op, hz1, hg⟩ := hrel
      by_cases hlt : k < n
      · have y0 := own_str op hlt
        have hlk := HL.out k hlt
        have HP := Lib.hid (fun w => iParseRatio (tnth l k) w hlk)
        cases c : rGood (tnth l k) with
        | false =>
          have HF := Lib.hid (HB0.out (allR_f (l := l) (i := k) (by rw [HN.out]; exact hlt) c))
          rw [c] at HP
          generalize ratN (tnth l k) = A at *
          generalize ratD (tnth l k) = B at *
          generalize tnth l k = T at *
          go_wp2_with ((go_at_call 23; ((with_reducible refine (HP.out _).mono ?_); rintro e w' ⟨rfl, gp⟩)))
          exact bodyPost_ret (v := .tuple #[.slice none 0 0, .bool false]) (by simp [results, Try.results21, go_sem]) rfl ⟨_, by rw [HF.out.1], by rw [HF.out.2.1, HF.out.2.2]; exact owns_nil2 _ _ _, by (repeat (first | with_reducible exact Ge.refl _ | assumption | with_reducible refine Ge.drew ?_ | with_reducible refine Ge.drewN ?_ _ | with_reducible refine Ge.alloc ?_ _ | (with_reducible refine Ge.setCell ?_ (by first | (simp; done) | omega | (simp; omega)) _) | with_reducible refine Ge.trans ?_ (by assumption)))⟩
        | true =>
          have HG2 := Lib.hid (good_rat HG c)
          have HSt : Hid (rats l k ++ [ratN (tnth l k), ratD (tnth l k)] = rats l (k + 1)) := rfl
          rw [c] at HP
          generalize ratN (tnth l k) = A at *
          generalize ratD (tnth l k) = B at *
          generalize tnth l k = T at *
          generalize rats l k = L at *
          go_wp2_with (first
            | ((go_at_call 23; ((with_reducible refine (HP.out _).mono ?_); rintro e w5 ⟨rfl, gp⟩)); have own2 : (w5.alloc (.cells #[.int .i64 A, .int .i64 B] 39)).ownsRow w.heap.size 39 2 u4 k (icells L) := (Ge.owns gp hown).alloc _; have GA : Ge w (w5.alloc (.cells #[.int .i64 A, .int .i64 B] 39)) := Ge.alloc (Ge.trans hg gp) _; have op2 : (w5.alloc (.cells #[.int .i64 A, .int .i64 B] 39)).ownsRow (w.heap.size + 1) 9 1 (.slice (some ⟨g, 0, none⟩) n c1) n (scells l) := (Ge.owns gp op).alloc _; have ZA := GA.size; have ZB : w1.heap.size ≤ (w5.alloc (.cells #[.int .i64 A, .int .i64 B] 39)).heap.size := (by have := gp.size; simp; omega))
            | (at_builtin; refine ap_rat rfl _ _ rfl w.heap.size u4 k L rfl own2 A B rfl (by simp) (by omega) ZA ?_; intro v' w6 own6 hm6 hb6))
          go_roundw
          case rel => exact ⟨k + 1, by omega, by go_num, by rw [← HSt.out]; exact own6, HG2.out, new_blk HB ZB hb6, op2.kept hm6 (other_blk HB hga hgb), Nat.le_trans ZB (World.grownBy.size hm6), GA.mine own2 (Nat.le_refl _) hm6⟩
          case measure => simp [intOf]; omega
      · have hkn : k = n := by omega
        subst hkn
        have HF := Lib.hid (HB1.out (allR_t (l := l) (fun i hi => HG.out i (by rw [← HN.out]; exact hi))))
        go_wp2_with fail
        exact bodyPost_ret (v := .tuple #[u4, .bool true]) (by simp [results, Try.results21, go_sem]) rfl ⟨_, by rw [HF.out.1], by rw [HF.out.2.1, HF.out.2.2, HN.out]; exact hown, hg⟩

end Go.Proofs.Ytfhhgonoddedlaa
