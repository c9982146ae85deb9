/- MakeTerms, same. No condition. -/
import Derived.Test.YtndbdbcbnipmaaaWCur
import Derived.Test.YtndbdbcbnipmaaaWTyInt
import Derived.Test.YtndbdbcbnipmaaaPlLadders
namespace Go.Proofs.Ytndbdbcbnipmaaa
set_option maxRecDepth 100000
open Go.ChangeShapes Go.WideShapes Go.ChangeAt Go.RowKit Go.Joins

set_option maxHeartbeats 400000 in
theorem lSame (va vb : Value) (la lb : List Int) (w : World) (ha : SlI w va la) (hb : SlI w vb lb) (hm : la.length ≤ 9223372036854775807) :
    Calls Try.prog 49 #[va, vb] w fun e w' => e = .returned (.bool (decide (la = lb))) ∧ Ge w w' := by
  obtain ⟨n, hn⟩ : ∃ n, la.length = n := ⟨_, rfl⟩
  obtain ⟨m, hn'⟩ : ∃ n, lb.length = n := ⟨_, rfl⟩
  obtain ⟨pa, ca, rfl, ca'⟩ := ha.openN hn
  obtain ⟨pb, cb, rfl, cb'⟩ := hb.openN hn'
  rw [hn] at hm
  have HN : Hid (la.length = n) := hn
  have HL : Hid (lb.length = m) := hn'
  clear hn hn' ha hb
  by_cases hl : n = m
  · subst hl
    have h2 : ((n : Int) != (n : Int)) = false := by simp
    go_enter Try.func49, Try.ntmps49
    go_wp2_with fail
    go_loop [14] (fun i => ∃ k : Nat, k ≤ n ∧ i = .int .i64 k ∧ Hid (∀ j, j < k → nth la j = nth lb j)) (fun i => n - (intOf i).toNat)
    case atStart => exact ⟨0, Nat.zero_le _, rfl, fun j h1 => by omega⟩
    case round =>
      obtain ⟨k, hk, rfl, HS⟩ := hrel
      by_cases hlt : k < n
      · obtain ⟨b1, o1, rfl, x1⟩ := ca' k hlt
        obtain ⟨b2, o2, rfl, x2⟩ := cb' k hlt
        clear ca' cb'
        by_cases he : nth la k = nth lb k
        · have e1 : (nth la k != nth lb k) = false := by simp [he]
          have HE := Lib.hid he
          clear he
          go_wp2_with fail
          go_round
          case rel => exact ⟨k + 1, by omega, by go_num, same_step HS HE.out⟩
          case measure => simp [intOf]; omega
        · have e1 : (nth la k != nth lb k) = true := by simp [he]
          go_wp2_with fail
          go_ret
          refine ⟨ret_bool ?_, by (repeat (first | with_reducible exact Ge.refl _ | assumption | with_reducible refine Ge.drew ?_ | with_reducible refine Ge.drewN ?_ _ | with_reducible refine Ge.alloc ?_ _ | (with_reducible refine Ge.setCell ?_ (by first | (simp; done) | omega | (simp; omega)) _) | with_reducible refine Ge.trans ?_ (by assumption)))⟩
          have h' : ¬ la = lb := fun e => he (by rw [e])
          simp [h']
      · go_wp2_with fail
        go_ret
        refine ⟨ret_bool ?_, by (repeat (first | with_reducible exact Ge.refl _ | assumption | with_reducible refine Ge.drew ?_ | with_reducible refine Ge.drewN ?_ _ | with_reducible refine Ge.alloc ?_ _ | (with_reducible refine Ge.setCell ?_ (by first | (simp; done) | omega | (simp; omega)) _) | with_reducible refine Ge.trans ?_ (by assumption)))⟩
        have h' : la = lb := nth_ext (HN.out.trans HL.out.symm) (fun j hj => HS.out j (by have := HN.out; omega))
        simp [h']
  · have h2 : ((n : Int) != (m : Int)) = true := by simp; omega
    go_enter Try.func49, Try.ntmps49
    go_wp2_with fail
    go_ret
    refine ⟨ret_bool ?_, by (repeat (first | with_reducible exact Ge.refl _ | assumption | with_reducible refine Ge.drew ?_ | with_reducible refine Ge.drewN ?_ _ | with_reducible refine Ge.alloc ?_ _ | (with_reducible refine Ge.setCell ?_ (by first | (simp; done) | omega | (simp; omega)) _) | with_reducible refine Ge.trans ?_ (by assumption)))⟩
    have h' : ¬ la = lb := fun e => hl (by rw [← HN.out, ← HL.out, e])
    simp [h']

theorem Cur.mine {w w' : World} {g : Nat} {v : Value} (h : Cur w g) (hm : Mine w w' v) (hne : ∀ k, v.ownBlock = some k → g < k) : Cur w' g := by
  obtain ⟨p, n, cap, i, z, c, c0, c1, c2, f0, f1, f2, i0, i1, n1, hb, hcg, hg⟩ := h
  have lg := World.block_lt_of_cell? w _ c0
  have hno : ∀ k, v.ownBlock = some k → g ≠ k := fun k hk => by have := hne k hk; omega
  have hf : ∀ i, w'.frozen? ⟨g, i, none⟩ = w.frozen? ⟨g, i, none⟩ := fun i => by
    have hbk := hm.block g lg (fun e => hno g e.symm rfl)
    unfold World.frozen?
    simp only [hbk]
  exact Cur.mk i hb hcg i0 i1 n1 (mine_cell hm c2 hno) (mine_cell hm c0 hno) (mine_cell hm c1 hno) ((hf 0).trans f0) ((hf 1).trans f1) ((hf 2).trans f2) (hg.grown hm (fun k hk => by have := hne k hk; omega))
theorem Cur.ge {w w' : World} {g : Nat} (h : Cur w g) (hg : Ge w w') : Cur w' g := by
  have hm : Mine w w' (.slice none 0 0) := ⟨hg.os, hg.tape, hg.output, hg.size, fun k hk _ => hg.below.block k hk⟩
  exact h.mine hm (fun k hk => by simp [Value.ownBlock] at hk)

theorem owns_kept {w w' : World} {base e sz : Nat} {v : Value} {n g : Nat} {xs : List Value} (h : w.ownsRow base e sz v n xs) (hg : w.grownBy w' (some g)) (hb : g < base) : w'.ownsRow base e sz v n xs := by
  refine h.kept hg ?_
  cases hv : v.ownBlock with
  | none => exact .inl rfl
  | some k =>
    right
    intro e'
    have := (h.lt k hv).1
    simp at e'
    omega
theorem bump_len : ∀ (l : List Int), (bump l).length = l.length
  | [] => rfl
  | [_] => rfl
  | x :: y :: l => by simp only [bump, List.length_cons]; rw [bump_len (y :: l)]; simp
theorem bump_eq : ∀ (l : List Int) (n : Nat), l.length = n + 1 → l.set n (nth l n + 2) = bump l
  | [x], n, h => by
    have : n = 0 := by simpa using h.symm
    subst this; simp [nth, bump]
  | x :: y :: l, n, h => by
    obtain ⟨m, rfl⟩ : ∃ m, n = m + 1 := ⟨n - 1, by simp at h; omega⟩
    have := bump_eq (y :: l) m (by simpa using h)
    simp only [List.set_cons_succ, bump]
    rw [← this]
    simp [nth]

set_option maxHeartbeats 800000 in
theorem sMakeTerms (p : Option Addr) (n cap : Nat) (w : World) (hb : SlB w p n) (hn : n ≤ 1048576) :
    Calls Try.prog 47 #[.slice p n cap] w fun e w' => ∃ (v : Value) (a : Int) (l : List Int), e = .returned v ∧ 0 ≤ a ∧ a < 5 ∧ l.length ≤ 3 ∧ (∀ x ∈ l, 1 ≤ x ∧ x ≤ 4) ∧
      w'.ownsRow w.heap.size 3 1 v (bump (a :: l)).length (icells (bump (a :: l))) ∧ Ge w w' := by
  have HB := Lib.hid hb
  clear hb
  go_enter Try.func47, Try.ntmps47
  go_wp2_with (go_at_call 85; ((with_reducible refine (sL01New _ _ _ _ HB.out hn).mono ?_); rintro e w1 ⟨g, rfl, hc1, hg, g1⟩))
  have HC := Lib.hid hc1
  clear hc1
  go_wp2_with (go_at_call 86; ((with_reducible refine (sL01Below _ _ _ HC.out (by omega) (by omega)).mono ?_); rintro e w2 ⟨a, rfl, a0, a1, hd2⟩))
  have HC2 := Lib.hid hd2.1
  have G2 := hd2.ge g1 hg
  have lg : g < w2.heap.size := by obtain ⟨_, _, _, _, _, _, c0, _⟩ := hd2.1; exact World.block_lt_of_cell? _ _ c0
  have own2 : (w2.alloc (.cells #[.int .i64 a] 3)).ownsRow (g + 1) 3 1 (.slice (some ⟨w2.heap.size, 0, none⟩) 1 1) 1 (icells [a]) := World.ownsRow_lit w2 #[.int .i64 a] 1 (by omega) (by unfold maxLen; omega) (by simp)
  have HC3 : Hid (Cur (w2.alloc (.cells #[.int .i64 a] 3)) g) := Cur.ge HC2.out ((Ge.refl _).alloc _)
  have G3 := G2.alloc (.cells #[.int .i64 a] 3)
  go_wp2_with (go_at_call 86; ((with_reducible refine (sL01Below _ _ _ HC3.out (by omega) (by omega)).mono ?_); rintro e w4 ⟨k, rfl, k0, k1, hd4⟩))
  have HC4 := Lib.hid hd4.1
  have own4 := owns_kept own2 hd4.2 (by omega)
  have G4 := hd4.ge G3 hg
  have O4 := Lib.hid own4
  clear hd2 hd4 own2 own4 G2 G3
  go_loopw [4, 5] (fun s i wr => ∃ (ts : List Int) (z : Nat), i = .int .i64 z ∧ z + ts.length ≤ 3 ∧ Hid (∀ x ∈ ts, 1 ≤ x ∧ x ≤ 4) ∧ Hid (wr.ownsRow (g + 1) 3 1 s (a :: ts).length (icells (a :: ts))) ∧ Hid (Cur wr g) ∧ Ge w wr) (fun _ i _ => (intOf i).toNat)
  case atStart => exact ⟨[], k.toNat, by rw [Int.toNat_of_nonneg k0], by simp; omega, fun x hx => by simp at hx, O4.out, HC4.out, G4⟩
  case round =>
    obtain ⟨ts, z, rfl, hz, HX, HO, HCr, hgr⟩ := hrel
    by_cases hlt : 0 < z
    · have hts : (a :: ts).length < 1099511627776 := by simp; omega
      go_wp2_with (first
        | ((go_at_call 86; ((with_reducible refine (sL01Below _ _ _ HCr.out (by omega) (by omega)).mono ?_); rintro e w5 ⟨y, rfl, y0, y1, hd5⟩)); have O5 := Lib.hid (owns_kept HO.out hd5.2 (by omega)); have l5 : g + 1 ≤ w5.heap.size := (by obtain ⟨_, _, _, _, _, _, c0, _⟩ := hd5.1; exact World.block_lt_of_cell? _ _ c0); have HD5 := Lib.hid hd5; clear hd5)
        | (at_builtin; refine ap_int rfl _ _ rfl (g + 1) _ (a :: ts) rfl O5.out _ rfl hts l5 ?_; intro v' w6 own6 hm6))
      go_roundw
      case rel =>
        have hne : ∀ k, u4.ownBlock = some k → g < k := fun k hk => by have := (O5.out.lt k hk).1; omega
        exact ⟨ts ++ [1 + y], z - 1, by go_num, by simp; omega, fun x hx => by
          rcases List.mem_append.1 hx with h | h
          · exact HX.out x h
          · simp at h; omega, own6, HD5.out.1.mine hm6 hne, (HD5.out.ge hgr hg).grown hm6 (fun k hk => by have := hne k hk; omega)⟩
      case measure => simp [intOf]; omega
    · have hz0 : z = 0 := by omega
      subst hz0
      obtain ⟨m, hm⟩ : ∃ m, (a :: ts).length = m + 1 := ⟨ts.length, rfl⟩
      have hm3 : m ≤ 3 := by simp at hm; omega
      have HE := Lib.hid (bump_eq (a :: ts) m hm)
      have HBL := Lib.hid (bump_len (a :: ts))
      have hown := HO.out
      rw [hm] at hown
      have HM := Lib.hid hm
      have HTS : Hid (ts.length ≤ 3) := (by omega : ts.length ≤ 3)
      clear hm HO hz
      rcases owns_cases hown with ⟨rfl, h0⟩ | ⟨r, cap', rfl⟩
      · omega
      have hf := hown.frozenAt m
      have hu : wr.cell? ⟨r, m, none⟩ = some (.int .i64 (nth (a :: ts) m)) := by
        rw [hown.cellAt m (by omega)]
        have := HM.out
        simp only [icells, List.getElem?_map]
        rw [List.getElem?_eq_getElem (by omega), nth_eq _ _ (by omega)]
        exact rfl
      have st := hown.stored m (.int .i64 (nth (a :: ts) m + 2))
      rw [icells_set, HE.out] at st
      have HT : Hid _ := Lib.hid st
      have hlast : -10 ≤ nth (a :: ts) m ∧ nth (a :: ts) m ≤ 10 := by
        have hmem : nth (a :: ts) m ∈ a :: ts := by rw [nth_eq _ _ (by have := HM.out; omega)]; exact List.getElem_mem _
        rcases List.mem_cons.1 hmem with h | h
        · omega
        · have := HX.out _ h; omega
      have l1 := hlast.1
      have l2 := hlast.2
      have HN : Hid (nth (a :: ts) m = nth (a :: ts) m) := rfl
      generalize nth (a :: ts) m = q at *
      clear st hlast
      go_wp2_with fail
      go_ret
      refine ⟨_, rfl, a, a0, a1, ts, HTS.out, HX.out, ?_, hgr.grown HT.out.2 (fun k hk => ?_)⟩
      · have h := HT.out.1
        rw [HBL.out, HM.out]
        exact owns_mono h (by omega)
      · have h1 := (hown.lt r rfl).1
        simp at hk
        omega
end Go.Proofs.Ytndbdbcbnipmaaa
