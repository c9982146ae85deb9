/- LaplacianOf of the reference. No condition. -/
import Derived.Test.YtppabikbepdobaaWOthers
import Derived.Test.YtppabikbepdobaaPlLap
import Derived.Test.YtppabikbepdobaaWWeight
import Derived.Test.YtppabikbepdobaaWWeightS
import Derived.Test.YtppabikbepdobaaWNetOkS
import Derived.Maps.AppendAt
namespace Go.Proofs.Ytppabikbepdobaa
set_option maxRecDepth 100000
open Go.ChangeShapes Go.WideShapes Go.ChangeAt Go.RowKit Go.Joins

theorem mapR_snoc (n : Nat) (f : Nat → Int) : mapR (n + 1) f = mapR n f ++ [f n] := by simp [mapR, List.range_succ]
theorem apRow {w : World} {ops : Array Oper} {rest : List Oper} {o : Oper} {a : Act} {Q : Exit → Act → World → Prop} (hgd : o.guard = none) (s x : Operand)
    (ho : o.op = .call { callee := .builtin .append, args := #[s, x], argTypes := #[103, 103] })
    (base : Nat) (v : Value) (n : Nat) (l : List Value) (hs : a.eval s = v) (hown : w.ownsRow base 64 1 v n l)
    (y : Value) (hy : y.oneCell' = true) (hx : a.eval x = .slice (some ⟨w.heap.size, 0, none⟩) 1 1) (hn : n < 1000000) (hbase : base ≤ w.heap.size)
    (h : ∀ v' w', w'.ownsRow base 64 1 v' (n + 1) (l ++ [y]) → Mine w w' v → (v'.ownBlock = v.ownBlock ∨ ∃ k, v'.ownBlock = some k ∧ w.heap.size ≤ k) → wpList Try.prog ops Q rest (a.put o.dst v') w') :
    wpList Try.prog ops Q (o :: rest) a (w.alloc (.cells #[y] 64)) := by
  obtain ⟨i, hi1, hi2, hi3, hi4⟩ := info_parts inf_rowI
  refine wpList_append_own_at _ hgd s x 103 ho base 64 i _ 1 24 Try.underlying103 hi1 hi2 hi3 hi4 (by decide) (by decide) v n l hs (hown.alloc _) ⟨w.heap.size, 0, none⟩ 1 1 [y] hx (by simp) ?_ (by simpa using hy) (by unfold maxLen; omega) (by omega) (by simp; omega) ?_
  · exact cell_one_new w y _
  · intro v' w' h2 h3 _ h5
    refine h v' w' h2 (Mine.alloc _ h3) ?_
    rcases h5 with h5 | h5
    · exact .inl h5
    · exact .inr ⟨_, h5, by simp⟩
/-- The rows of out. -/
def RowsS (w : World) (B n : Nat) (u : Value) (cs : List Value) (k : Nat) (M : Nat → Nat → Int) : Prop :=
  w.ownsRow B 64 1 u k cs ∧ ∀ i, i < k → ∃ pr cr, cs[i]? = some (.slice pr n cr) ∧ w.ownsRow B 3 1 (.slice pr n cr) n (icells (mapR n (M i))) ∧ (∀ q, u.ownBlock = some q → (Value.slice pr n cr).ownBlock ≠ some q)
theorem RowsS.ge {w w' : World} {B n : Nat} {u : Value} {cs : List Value} {k : Nat} {M : Nat → Nat → Int} (h : RowsS w B n u cs k M) (hg : Ge w w') : RowsS w' B n u cs k M :=
  ⟨hg.owns h.1, fun i hi => by obtain ⟨pr, cr, h1, h2, h3⟩ := h.2 i hi; exact ⟨pr, cr, h1, hg.owns h2, h3⟩⟩
theorem RowsS.snoc {w0 w w' : World} {B n : Nat} {u v' row : Value} {cs : List Value} {k : Nat} {M : Nat → Nat → Int} (h : RowsS w0 B n u cs k M) (hg : Ge w0 w)
    (hrow : w.ownsRow w0.heap.size 3 1 row n (icells (mapR n (M k)))) (hn : 0 < n) (hB : B ≤ w0.heap.size) (h2 : w'.ownsRow B 64 1 v' (k + 1) (cs ++ [row])) (hm : Mine w w' u)
    (hat : v'.ownBlock = u.ownBlock ∨ ∃ q, v'.ownBlock = some q ∧ w.heap.size ≤ q) : RowsS w' B n v' (cs ++ [row]) (k + 1) M := by
  have hcl : cs.length = k := by have := h.1.1; omega
  obtain ⟨g, cap, rfl⟩ := Go.Joins.ownsRow_form hrow hn
  have hlr := hrow.lt g rfl
  refine ⟨h2, fun i hi => ?_⟩
  by_cases e : i = k
  · subst e
    refine ⟨some ⟨g, 0, none⟩, cap, by rw [List.getElem?_append_right (by omega)]; simp [hcl], ?_, fun q hq e => ?_⟩
    · refine owns_mono (hrow.kept hm ?_) hB
      right
      intro e
      have := (h.1.lt g e.symm).2
      omega
    · have e' : q = g := by simp [Value.ownBlock] at e; exact e.symm
      subst e'
      rcases hat with hat | ⟨k', hk', hle⟩
      · rw [hat] at hq
        have := (h.1.lt q hq).2
        omega
      · rw [hk'] at hq
        have : k' = q := by simpa using hq
        omega
  · obtain ⟨pr, cr, h1, h3, h4⟩ := (h.ge hg).2 i (by omega)
    have hold := (h.2 i (by omega))
    refine ⟨pr, cr, by rw [List.getElem?_append_left (by omega)]; exact h1, ?_, fun q hq e => ?_⟩
    · refine h3.kept hm ?_
      right
      intro e
      cases hu : u.ownBlock with
      | none =>
        rw [hu] at e
        obtain ⟨g', cap', e'⟩ := Go.Joins.ownsRow_form h3 hn
        rw [e'] at e; simp [Value.ownBlock] at e
      | some q => exact h4 q hu (by rw [e, hu])
    · rcases hat with hat | ⟨k', hk', hle⟩
      · rw [hat] at hq
        exact h4 q hq e
      · rw [hk'] at hq
        have e' : k' = q := by simpa using hq
        have := (h3.lt q e).2
        omega
theorem RowsS.slMM {w : World} {B n : Nat} {u : Value} {cs : List Value} {M : Nat → Nat → Int} {Z : Int → Int → Int} (h : RowsS w B n u cs n M) (hn : 0 < n) (hZ : ∀ a b : Nat, M a b = Z a b) : SlMM w u n Z := by
  obtain ⟨g, cap, rfl⟩ := Go.Joins.ownsRow_form h.1 hn
  refine ⟨_, _, rfl, fun i hi => ?_⟩
  obtain ⟨pr, cr, h1, h2, _⟩ := h.2 i hi
  obtain ⟨gr, cr', e⟩ := Go.Joins.ownsRow_form h2 hn
  simp only [Value.slice.injEq, true_and] at e
  obtain ⟨rfl, rfl⟩ := e
  refine ⟨g, 0, _, _, rfl, by rw [Nat.zero_add, h.1.cellAt i (by omega), h1], fun j hj => ⟨gr, 0, rfl, ?_⟩⟩
  rw [Nat.zero_add, own_nth h2 hj, mapR_nth hj, hZ]

set_option maxHeartbeats 1600000 in
theorem sLaplacianOf (n : Nat) (E S : Int) (s : Value) (m : Nat) (xs : List Int) (w : World) (hs : SlF w s m 3 xs) (hB : netB n E S m xs = true) :
    Calls Try.prog 138 #[.agg #[.int .i64 (n : Int), .int .i64 E, .int .i64 S, s]] w fun e w' => ∃ v, e = .returned v ∧ SlMM w' v n (lapZ xs m) ∧ Ge w w' := by
  obtain ⟨⟨h1, h5⟩, _, _, hok, _⟩ := netP_of hB
  have hm : m ≤ 10 := prs_len (by omega) hok
  have HV := Lib.hid hs
  have HK := Lib.hid hok
  have HB := Lib.hid hB
  obtain ⟨p, cap, rfl, _⟩ := hs.open
  clear hs hok hB
  have HT5 : Hid (∀ a b : Nat, -200 ≤ wbet xs m (a : Int) (b : Int) ∧ wbet xs m (a : Int) (b : Int) ≤ 200) := fun a b => by have := wbet_bd HK.out (a : Int) (b : Int); omega
  have HNo := Lib.hid (fun w' (g : Ge w w') => sNetOk n E S (.slice p m cap) m xs w' (HV.out.ge g) (by omega))
  rw [HB.out] at HNo
  have HWA := Lib.hid (fun (a : Int) w' (g : Ge w w') => sWeightAt n E S (.slice p m cap) m xs a w' (HV.out.ge g) hm HK.out)
  have HWB := Lib.hid (fun (a b : Int) w' (g : Ge w w') => sWeightBetween n E S (.slice p m cap) m xs a b w' (HV.out.ge g) hm HK.out)
  go_enter Try.func138, Try.ntmps138
  go_wp2_with (first
    | (go_at_call 49; ((with_reducible refine (HNo.out _ (by (repeat (first | with_reducible exact Ge.refl _ | assumption | with_reducible refine Ge.drew ?_ | with_reducible refine Ge.drewN ?_ _ | with_reducible refine Ge.alloc ?_ _ | (with_reducible refine Ge.setCell ?_ (by first | (simp; done) | omega | (simp; omega)) _) | with_reducible refine Ge.trans ?_ (by assumption))))).mono ?_); rintro e w1 ⟨rfl, g1⟩; have c0 := Ge.keep g1 (cell_new (i := 0) rfl rfl); have c1 := Ge.keep g1 (cell_new (i := 1) rfl rfl); have c2 := Ge.keep g1 (cell_new (i := 2) rfl rfl); have c3 := Ge.keep g1 (cell_new (i := 3) rfl rfl); have z1 := g1.size; (simp at c0 c1 c2 c3 z1))))
  have G1 : Ge w w1 := by (repeat (first | with_reducible exact Ge.refl _ | assumption | with_reducible refine Ge.drew ?_ | with_reducible refine Ge.drewN ?_ _ | with_reducible refine Ge.alloc ?_ _ | (with_reducible refine Ge.setCell ?_ (by first | (simp; done) | omega | (simp; omega)) _) | with_reducible refine Ge.trans ?_ (by assumption)))
  obtain ⟨M, hM⟩ : ∃ M : Nat → Nat → Int, M = fun (a b : Nat) => lapZ xs m (a : Int) (b : Int) := ⟨_, rfl⟩
  have HM := Lib.hid hM
  clear hM
  go_loopw [3, 4] (fun o i' wr => ∃ (a : Nat) (cs : List Value), a ≤ n ∧ i' = .int .i64 a ∧ RowsS wr w1.heap.size n o cs a M ∧ Ge w1 wr) (fun _ i _ => n - (intOf i).toNat)
  case atStart => exact ⟨0, [], Nat.zero_le _, rfl, ⟨owns_lit0 _ _ _, fun i hi => by omega⟩, by (repeat (first | with_reducible exact Ge.refl _ | assumption | with_reducible refine Ge.drew ?_ | with_reducible refine Ge.drewN ?_ _ | with_reducible refine Ge.alloc ?_ _ | (with_reducible refine Ge.setCell ?_ (by first | (simp; done) | omega | (simp; omega)) _) | with_reducible refine Ge.trans ?_ (by assumption)))⟩
  case round =>
    obtain ⟨a, cs, ha, rfl, HR, hg⟩ := hrel
    have HRa := Lib.hid HR
    clear HR
    have c0a := hg.keep c0
    have zg := hg.size
    by_cases hlt : a < n
    · go_wp2_with fail
      obtain ⟨wa, hwa⟩ : ∃ wa, wa = wr := ⟨_, rfl⟩
      subst hwa
      go_loopw [5, 6] (fun r j' wr => ∃ b : Nat, b ≤ n ∧ j' = .int .i64 b ∧ wr.ownsRow wa.heap.size 3 1 r (mapR b (M a)).length (icells (mapR b (M a))) ∧ Ge wa wr) (fun _ i _ => n - (intOf i).toNat)
      case atStart => exact ⟨0, Nat.zero_le _, rfl, owns_lit0 _ _ _, by (repeat (first | with_reducible exact Ge.refl _ | assumption | with_reducible refine Ge.drew ?_ | with_reducible refine Ge.drewN ?_ _ | with_reducible refine Ge.alloc ?_ _ | (with_reducible refine Ge.setCell ?_ (by first | (simp; done) | omega | (simp; omega)) _) | with_reducible refine Ge.trans ?_ (by assumption)))⟩
      case round =>
        obtain ⟨b, hb, rfl, hown, hgb⟩ := hrel
        have c0b := hgb.keep c0a
        by_cases hbn : b < n
        · have c1b := hgb.keep (hg.keep c1)
          have c2b := hgb.keep (hg.keep c2)
          have c3b := hgb.keep (hg.keep c3)
          have gwr : Ge w wr := Ge.trans G1 (Ge.trans hg hgb)
          have hSn := Lib.hid (mapR_snoc b (M a))
          have hL : Hid ((mapR b (M a)).length = b) := mapR_length b (M a)
          have hMab : Hid (M a b = lapZ xs m a b) := by show _ = _; rw [HM.out]
          generalize mapR b (M a) = L at *
          by_cases e : (a : Int) = (b : Int)
          · have e2 : Hid (wat xs (a : Int) m = M a b) := by
              show _ = _
              rw [hMab.out]; unfold lapZ; rw [if_pos e]
            have t : ((a : Int) == (b : Int)) = true := by simp [e]
            clear e
            go_wp2_with (first
              | (go_at_call 58; ((with_reducible refine (HWA.out _ _ gwr).mono ?_); rintro e w8 ⟨rfl, g8⟩; have own8 := Ge.owns g8 hown; have z8 := (Ge.trans hgb g8).size))
              | (at_builtin; refine ap_int rfl _ _ rfl wa.heap.size _ L rfl own8 _ rfl (by have := hL.out; omega) z8 ?_; intro v6 w6 own6 hm6))
            go_roundw
            case rel => exact ⟨b + 1, by omega, by go_num, by rw [hSn.out, ← e2.out]; exact own6, (Ge.trans hgb g8).mine own8 (Nat.le_refl _) hm6⟩
            case measure => simp [intOf]; omega
          · have e2 : Hid (-(wbet xs m (a : Int) (b : Int)) = M a b) := by
              show _ = _
              rw [hMab.out]; unfold lapZ; rw [if_neg e]
            have t : ((a : Int) == (b : Int)) = false := by simp; omega
            have tb := HT5.out a b
            have w4 : wrap64 (-(wbet xs m (a : Int) (b : Int))) = -(wbet xs m (a : Int) (b : Int)) := wr64 _ (by omega) (by omega)
            clear e
            go_wp2_with (first
              | (go_at_call 57; ((with_reducible refine (HWB.out _ _ _ gwr).mono ?_); rintro e w8 ⟨rfl, g8⟩; have own8 := Ge.owns g8 hown; have z8 := (Ge.trans hgb g8).size))
              | (at_builtin; refine ap_int rfl _ _ rfl wa.heap.size _ L rfl own8 _ rfl (by have := hL.out; omega) z8 ?_; intro v6 w6 own6 hm6))
            go_roundw
            case rel => exact ⟨b + 1, by omega, by go_num, by rw [hSn.out, ← e2.out]; exact own6, (Ge.trans hgb g8).mine own8 (Nat.le_refl _) hm6⟩
            case measure => simp [intOf]; omega
        · have hbn' : b = n := by omega
          subst hbn'
          have HO := Lib.hid hown
          rw [mapR_length] at HO
          clear hown
          have own9 := HRa.out.ge hgb
          have OA := Lib.hid own9.1
          have zb := hgb.size
          obtain ⟨g, cap', rfl⟩ := Go.Joins.ownsRow_form HO.out (by omega)
          go_wp2_with (at_builtin; refine apRow rfl _ _ rfl w1.heap.size _ a cs rfl OA.out _ (by rfl) rfl (by omega) (by omega) ?_; intro v6 w6 own6 hm6 hat6)
          go_roundw
          case rel => exact ⟨a + 1, _, by omega, by go_num, RowsS.snoc HRa.out hgb HO.out (by omega) zg own6 hm6 hat6, (Ge.trans hg hgb).mine OA.out (Nat.le_refl _) hm6⟩
          case measure => simp [intOf]; omega
    · have han : a = n := by omega
      subst han
      go_wp2_with fail
      go_ret
      exact ⟨_, rfl, HRa.out.slMM (by omega) (fun a b => by rw [HM.out]), by (repeat (first | with_reducible exact Ge.refl _ | assumption | with_reducible refine Ge.drew ?_ | with_reducible refine Ge.drewN ?_ _ | with_reducible refine Ge.alloc ?_ _ | (with_reducible refine Ge.setCell ?_ (by first | (simp; done) | omega | (simp; omega)) _) | with_reducible refine Ge.trans ?_ (by assumption)))⟩
end Go.Proofs.Ytppabikbepdobaa
