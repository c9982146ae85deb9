/- AllFaults of impl at a valid network. No condition. slices.IndexFunc and slices.DeleteFunc over rows of faults, FaultsLike, HiddenFaults of impl. No condition. Ways over the nodes of a network: plain law. No condition. '==' at wires. No condition. -/
import Derived.Test.YtagiecajffhnpaaGreatJAg
import Derived.Test.YtagiecajffhnpaaGreatJAh
import Derived.Test.YtagiecajffhnpaaGreatPlNetOk
import Derived.Test.YtagiecajffhnpaaGreatJAf
import Derived.Lib.SlBuf
import Derived.Lib.SliceRun
import Derived.Laws.StructEq
import Derived.Deep.QuietTactic
namespace Go.Proofs.YtagiecajffhnpaaGreat
set_option maxRecDepth 100000
open Go.ChangeShapes Go.WideShapes Go.ChangeAt Go.RowKit Go.Joins

theorem ap1b {P : Program} {w : World} {ops : Array Oper} {rest : List Oper} {o : Oper} {a : Act} {Q : Exit → Act → World → Prop} (hgd : o.guard = none) (s x : Operand) (t : TypeId)
    (ho : o.op = .call { callee := .builtin .append, args := #[s, x], argTypes := #[t, t] })
    (e : TypeId) (z : Value) (size bytes : Nat) (ht : P.underlying t = some (.slice e)) (hi : (P.info? e).map (fun i => (i.zero, i.size, i.bytes)) = some (some z, size, bytes))
    (hzs : z.cells.size = size) (hsz : 0 < size) (hbs : bytes ≤ 100)
    (base : Nat) (v : Value) (n : Nat) (xs : List Value) (hs : a.eval s = v) (hown : w.ownsRow base e size v n xs)
    (cs : Array Value) {b0 : Nat} (hx : a.eval x = .slice (some ⟨b0, 0, none⟩) 1 1) (hb0 : b0 = w.heap.size) (hcs : cs.size = size) (h1 : ∀ u ∈ cs.toList, u.oneCell' = true)
    (hn : n < 1099511627776) (hbase : base ≤ w.heap.size)
    (h : ∀ v' w', w'.ownsRow base e size v' (n + 1) (xs ++ cs.toList) → Mine w w' v → wpList P ops Q rest (a.put o.dst v') w') :
    wpList P ops Q (o :: rest) a (w.alloc (.cells cs e)) := by
  subst hb0
  exact ap1 hgd s x t ho e z size bytes ht hi hzs hsz hbs base v n xs hs hown cs hx hcs h1 hn hbase h

set_option maxHeartbeats 3200000 in
theorem iAllFaults (n e : Nat) (S : Int) (s : Value) (m : Nat) (xs : List Int) (w : World) (hs : SlF w s m 3 xs) (hB : netB n e S m xs = true) :
    Calls Tryz.prog 119 #[.agg #[.int .i64 (n : Int), .int .i64 (e : Int), .int .i64 S, s]] w fun r w' => ∃ g c, r = .returned (.slice (some ⟨g, 0, none⟩) (allP (fltB n e S m xs) m).length c) ∧ w'.ownsRow w.heap.size 138 2 (.slice (some ⟨g, 0, none⟩) (allP (fltB n e S m xs) m).length c) (allP (fltB n e S m xs) m).length (icells (flatP (allP (fltB n e S m xs) m))) ∧ Ge w w' := by
  obtain ⟨⟨h1, h5⟩, ⟨e1, e2⟩, ⟨s1, s2⟩, hok, _⟩ := netP_of hB
  have hm : m ≤ 10 := prs_len (by omega) hok
  have HV := Lib.hid hs
  obtain ⟨p, cap, rfl, _⟩ := hs.open
  have HNo := Lib.hid (fun w' (g : Ge w w') => iNetOk n e S (.slice p m cap) m xs w' (HV.out.ge g) (by omega))
  rw [hB] at HNo
  have HAp := Lib.hid (fun i x w' (g : Ge w w') (hi : i < m) (hx : 0 ≤ x ∧ x ≤ 12) => iApplyFault n e S i x (.slice p m cap) m xs w' (HV.out.ge g) hB hi hx)
  generalize fltB n e S m xs = P at *
  clear hs hok hB
  have c0 : NetIn (w.alloc (.cells #[.int .i64 n, .int .i64 e, .int .i64 S, .slice p m cap] 33)) w.heap.size n e S (.slice p m cap) := ⟨cell_new rfl rfl, cell_new rfl rfl, cell_new rfl rfl, cell_new rfl rfl⟩
  go_enter Tryz.func119, Tryz.ntmps119
  go_wp2_with ((go_at_call 43; ((with_reducible refine (HNo.out _ (kge)).mono ?_); rintro r w1 ⟨rfl, g1⟩)); have gw1 : Ge w w1 := (kge); have NB1 := Lib.hid (NetIn.ge (NetIn.ge c0 (Ge.alloc (Ge.refl _) _)) g1); have O1 := Lib.hid (g1.owns (owns_lit0 (w.alloc (.cells #[.int .i64 n, .int .i64 e, .int .i64 S, .slice p m cap] 33)) 138 2)); obtain ⟨b0, b1, b2, b3⟩ := NB1.out)
  have HO1 : Hid (w1.ownsRow (w.heap.size + 1) 138 2 (.slice (some ⟨w.heap.size + 1, 0, none⟩) 0 0) (fltL P 0 0).length (icells (flatP (fltL P 0 0)))) := by have := O1.out; simp only [World.size_alloc] at this; exact this
  clear O1 b0 b1 b2 b3 c0
  go_loopw [3, 16] (fun o i' wr => ∃ (i : Nat) (v : Value), i ≤ m ∧ i' = .int .i64 i ∧ o = v ∧ Hid (∃ g c, v = .slice (some ⟨g, 0, none⟩) (fltL P i 0).length c) ∧ Hid (wr.ownsRow (w.heap.size + 1) 138 2 v (fltL P i 0).length (icells (flatP (fltL P i 0)))) ∧ Hid (NetIn wr w.heap.size n e S (.slice p m cap)) ∧ Ge w wr) (fun _ i _ => m - (intOf i).toNat)
  case atStart => exact ⟨0, _, Nat.zero_le _, rfl, rfl, ⟨_, _, rfl⟩, HO1.out, NB1.out, gw1⟩
  case round =>
    clear HO1 NB1 gw1 g1
    obtain ⟨i, v, hi, rfl, rfl, HFm, HO, HN, hg⟩ := hrel
    by_cases hlt : i < m
    · go_wp2_with fail
      go_loopw [3, 19] (fun o x' wr => ∃ (x : Nat) (v : Value), x ≤ 13 ∧ x' = .int .i64 x ∧ o = v ∧ Hid (∃ g c, v = .slice (some ⟨g, 0, none⟩) (fltL P i x).length c) ∧ Hid (wr.ownsRow (w.heap.size + 1) 138 2 v (fltL P i x).length (icells (flatP (fltL P i x)))) ∧ Hid (NetIn wr w.heap.size n e S (.slice p m cap)) ∧ Ge w wr) (fun _ i _ => 13 - (intOf i).toNat)
      case atStart => exact ⟨0, _, Nat.zero_le _, rfl, rfl, HFm.out, HO.out, HN.out, hg⟩
      case round =>
        clear HO HN hg HFm
        obtain ⟨x, v, hx, rfl, rfl, HFm, HO, HN, hg⟩ := hrel
        by_cases hlx : x < 13
        · obtain ⟨b0, b1, b2, b3⟩ := HN.out
          have HAx := Lib.hid (fun w' (g : Ge w w') => HAp.out i (x : Int) w' g hlt ⟨by omega, by omega⟩)
          have zl := World.block_lt_of_cell? _ _ b0
          have zb := HO.out.lt
          have zk := fltL_len P i x
          have zw := hg.size
          cases hP : P i (x : Int) with
          | true =>
            rw [hP] at HAx
            have HAt := Lib.hid (fun w' (g : Ge w w') => (HAx.out w' g).mono (fun e w' h => h.tt))
            have HL := Lib.hid (fltL_t (i := i) (x := x) hP)
            clear hP HAx HAp
            generalize fltL P i x = L at *
            generalize fltM n m xs i (x : Int) = MM at *
            go_wp2_with (first
              | ((go_at_call 131; ((with_reducible refine (HAt.out _ hg).mono ?_); rintro r w9 ⟨u9, rfl, o9, g9⟩)); obtain ⟨pu, cu, rfl⟩ := owns_form o9; have z9 := g9.size; clear o9)
              | (at_builtin; refine ap1b rfl _ _ 93 rfl 138 _ 2 16 Tryz.underlying93 inf_Fault rfl (by decide) (by decide) (w.heap.size + 1) u3 L.length _ rfl (Ge.owns (Ge.alloc g9 _) HO.out) #[.int .i64 (i : Int), .int .i64 (x : Int)] rfl (by simp) rfl (by simp [Value.oneCell']) (by omega) (by simp; omega) ?_; intro v' w10 own10 m10; have gA := Ge.alloc g9 (.cells #[.int .i64 (n : Int), .int .i64 (e : Int), .int .i64 S, .slice pu MM.length cu] 33); have OA := gA.owns HO.out; have HO10 := Lib.hid own10; clear own10))
            go_roundw
            case rel =>
              refine ⟨x + 1, _, by omega, by go_num, rfl, ?_, ?_, ?_, ?_⟩
              · show ∃ g c, _ = _
                obtain ⟨g', c', rfl⟩ := Go.Joins.ownsRow_form HO10.out (by omega)
                rw [HL.out, List.length_append]
                exact ⟨g', c', rfl⟩
              · show World.ownsRow _ _ _ _ _ _ _
                rw [HL.out, flatP_app, List.length_append]
                simpa [icells] using HO10.out
              · obtain ⟨b0, b1, b2, b3⟩ := NetIn.ge ⟨b0, b1, b2, b3⟩ gA
                exact ⟨mine_cell m10 b0 (before_row (b := w.heap.size) OA (by omega)), mine_cell m10 b1 (before_row (b := w.heap.size) OA (by omega)), mine_cell m10 b2 (before_row (b := w.heap.size) OA (by omega)), mine_cell m10 b3 (before_row (b := w.heap.size) OA (by omega))⟩
              · exact Ge.mine (hg.trans gA) OA (by omega) m10
            case measure => simp [intOf]; omega
          | false =>
            rw [hP] at HAx
            have HAt := Lib.hid (fun w' (g : Ge w w') => (HAx.out w' g).mono (fun e w' h => h.ff))
            have HL := Lib.hid (fltL_f (i := i) (x := x) hP)
            clear hP HAx HAp
            go_wp2_with ((go_at_call 131; ((with_reducible refine (HAt.out _ hg).mono ?_); rintro r w9 ⟨rfl, g9⟩)); have gA := Ge.alloc g9 (.cells #[.int .i64 0, .int .i64 0, .int .i64 0, .slice none 0 0] 33))
            go_roundw
            case rel =>
              refine ⟨x + 1, _, by omega, by go_num, rfl, by show ∃ g c, _ = _; rw [HL.out]; exact HFm.out, ?_, NetIn.ge HN.out gA, hg.trans gA⟩
              show World.ownsRow _ _ _ _ _ _ _
              rw [HL.out]
              exact gA.owns HO.out
            case measure => simp [intOf]; omega
        · have hx13 : x = 13 := by omega
          subst hx13
          have HL := Lib.hid (fltL_full P i)
          go_wp2_with fail
          go_roundw
          case rel =>
            refine ⟨i + 1, _, by omega, by go_num, rfl, by show ∃ g c, _ = _; rw [fltL_zero, ← HL.out]; exact HFm.out, ?_, HN.out, hg⟩
            show World.ownsRow _ _ _ _ _ _ _
            rw [fltL_zero, ← HL.out]
            exact HO.out
          case measure => simp [intOf]; omega
    · have him : i = m := by omega
      subst him
      obtain ⟨gf, cf, rfl⟩ := HFm.out
      go_wp2_with fail
      go_ret
      refine ⟨gf, cf, by rw [fltL_zero]; rfl, ?_, kge⟩
      have h := HO.out
      rw [fltL_zero] at h
      exact owns_mono h (by omega)
end Go.Proofs.YtagiecajffhnpaaGreat

namespace Go.Proofs.YtagiecajffhnpaaGreat
set_option maxRecDepth 100000
open Go.ChangeShapes Go.WideShapes Go.ChangeAt Go.RowKit Go.Joins

theorem pairs_at {w : World} {base g N cap : Nat} {L : List (Nat × Int)} {e : TypeId} (h : w.ownsRow base e 2 (.slice (some ⟨g, 0, none⟩) N cap) N (icells (flatP L))) (hN : L.length = N) {i : Nat} (hi : i < N) :
    w.cell? ⟨g, i * 2, none⟩ = some (.int .i64 ((qAt L i).1 : Int)) ∧ w.cell? ⟨g, i * 2 + 1, none⟩ = some (.int .i64 (qAt L i).2) := by
  obtain ⟨h1, h2⟩ := flatP_get L i (by omega)
  exact ⟨by rw [h.cellAt (i * 2) (by omega)]; simp [icells, h1], by rw [h.cellAt (i * 2 + 1) (by omega)]; simp [icells, h2]⟩
theorem pairs_set {w : World} {base g N cap : Nat} {L : List (Nat × Int)} {e : TypeId} (h : w.ownsRow base e 2 (.slice (some ⟨g, 0, none⟩) N cap) N (icells (flatP L))) (hN : L.length = N) {i : Nat} (hi : i < N) (q : Nat × Int) :
    ((w.setCell ⟨g, i * 2, none⟩ (.int .i64 (q.1 : Int))).setCell ⟨g, i * 2 + 1, none⟩ (.int .i64 q.2)).ownsRow base e 2 (.slice (some ⟨g, 0, none⟩) N cap) N (icells (flatP (L.set i q))) := by
  have k := ((h.stored (i * 2) (.int .i64 (q.1 : Int))).1.stored (i * 2 + 1) (.int .i64 q.2)).1
  rw [icells_set, icells_set, ← flatP_set L i q (by omega)] at k
  exact k
theorem own_cap {w : World} {base e sz g n cap N : Nat} {xs : List Value} (h : w.ownsRow base e sz (.slice (some ⟨g, 0, none⟩) n cap) N xs) (_ : 0 < N) : N ≤ cap := by
  rcases h.2 with ⟨h', _⟩ | ⟨g', cap', cur, h', hb, hg, hnc, hcm, hcs, htake⟩
  · simp at h'
  · simp only [Value.slice.injEq] at h'
    obtain ⟨_, _, rfl⟩ := h'
    exact hnc
theorem clear_two (w : World) (b o n c : Nat) (ty : TypeId) (hn : 0 < n) (hc : ∀ k, k < n * 2 → (w.cell? ⟨b, o + k, none⟩).isSome = true) (hf : ∀ k, k < n * 2 → w.frozen? ⟨b, o + k, none⟩ = false) :
    (Builtin.clear_ #[93] ty #[.slice (some ⟨b, o, none⟩) n c]).run Tryz.prog w = .ok (.tuple #[]) (w.setCells b o (List.replicate (n * 2) (.int .i64 0))) := by
  have hzc : (Builtin.zeroCells (Value.agg #[.int .i64 0, .int .i64 0]).cells n).toList = List.replicate (n * 2) (.int .i64 0) := by
    have h3 : ((Value.agg #[.int .i64 0, .int .i64 0]).cells) = #[.int .i64 0, .int .i64 0] := rfl
    simp [Builtin.zeroCells, h3]
    apply List.ext_getElem
    · simp
    · intro i h1 h2
      have h4 : i % 2 = 0 ∨ i % 2 = 1 := by omega
      rcases h4 with h4 | h4 <;> simp [h4]
  have hst := run_storeCells_cells (P := Tryz.prog) b o (List.replicate (n * 2) (.int .i64 0)) 0 w (by simpa using hc) (by simpa using hf) (by intro v hv'; rw [List.eq_of_mem_replicate hv']; rfl)
  simp only [Nat.add_zero] at hst
  obtain ⟨m, rfl⟩ : ∃ m, n = m + 1 := ⟨n - 1, by omega⟩
  simp [Builtin.clear_, run_underlying Tryz.underlying93, Tryz.zeroValue138, hzc]
  rw [hst]
  rfl
set_option maxHeartbeats 1600000 in
theorem iIndexFl (g N cap base : Nat) (L : List (Nat × Int)) (K : Nat × Int → Bool) (fv : Value) (lb : Array Value) (w : World) (h : w.ownsRow base 138 2 (.slice (some ⟨g, 0, none⟩) N cap) N (icells (flatP L))) (hN : L.length = N) (hm : N ≤ 1000)
    (hf : fv = .func (.func 120) #[] lb) (b0 b1 : Nat) (hlb : lb = #[.pointer (some ⟨b0, 0, none⟩), .pointer (some ⟨b1, 0, none⟩)])
    (hC : ∀ w', Ge w w' → ∀ j, j < N → Calls Tryz.prog 120 #[.agg #[.int .i64 ((qAt L j).1 : Int), .int .i64 (qAt L j).2], .pointer (some ⟨b0, 0, none⟩), .pointer (some ⟨b1, 0, none⟩)] w' fun r w'' => r = .returned (.bool (!K (qAt L j))) ∧ Ge w' w'') :
    Calls Tryz.prog 130 #[.slice (some ⟨g, 0, none⟩) N cap, fv] w fun r w' =>
      r = .returned (.int .i64 (firstF (fun j => !K (qAt L j)) 0 N)) ∧ Ge w w' := by
  subst hf
  subst hlb
  have HP := Lib.hid (fun i (hi : i < N) => pairs_at h hN (i := i) hi)
  have HC := Lib.hid hC
  clear hC h
  go_enter Tryz.func130, Tryz.ntmps130
  go_wp2_with fail
  go_loopw [8] (fun i' wr => ∃ j : Nat, j ≤ N ∧ i' = .int .i64 j ∧ Hid (∀ k, k < j → K (qAt L k) = true) ∧ Ge w wr) (fun i _ => N - (intOf i).toNat)
  case atStart => exact ⟨0, Nat.zero_le _, rfl, fun k hk => absurd hk (Nat.not_lt_zero _), kge⟩
  case round =>
    obtain ⟨j, hj, rfl, HA, hg⟩ := hrel
    by_cases hlt : j < N
    · obtain ⟨x0, x1⟩ := HP.out j hlt
      have x0 := hg.keep x0
      have x1 := hg.keep x1
      have HCj := Lib.hid (HC.out wr hg j hlt)
      clear HC HP
      cases hK : K (qAt L j) with
      | true =>
        rw [hK] at HCj
        have HAn : Hid (∀ k, k < j + 1 → K (qAt L k) = true) := fun k hk => by
          by_cases e : k = j
          · subst e; exact hK
          · exact HA.out k (by omega)
        clear hK
        generalize (qAt L j).1 = Q1 at *
        generalize (qAt L j).2 = Q2 at *
        go_wp2_with ((go_at_call 120; ((with_reducible refine (HCj.out).mono ?_); rintro r w1 ⟨rfl, g1⟩)))
        go_roundw
        case rel => exact ⟨j + 1, by omega, by go_num, HAn.out, kge⟩
        case measure => simp [intOf]; omega
      | false =>
        rw [hK] at HCj
        have HR : Hid (firstF (fun j => !K (qAt L j)) 0 N = (j : Int)) := firstF_at hlt (fun i hi => by simp [HA.out i hi]) (by simp [hK])
        clear hK
        generalize (qAt L j).1 = Q1 at *
        generalize (qAt L j).2 = Q2 at *
        go_wp2_with ((go_at_call 120; ((with_reducible refine (HCj.out).mono ?_); rintro r w1 ⟨rfl, g1⟩)))
        go_ret
        exact ⟨ret_int HR.out.symm, kge⟩
    · have hjk : j = N := by omega
      subst hjk
      have HR : Hid (firstF (fun j' => !K (qAt L j')) 0 j = -1) := firstF_none (fun i hi => by simp [HA.out i hi])
      go_wp2_with fail
      go_ret
      exact ⟨ret_int HR.out.symm, kge⟩

set_option maxHeartbeats 3200000 in
theorem iDeleteFl (g N cap base : Nat) (L : List (Nat × Int)) (K : Nat × Int → Bool) (fv : Value) (lb : Array Value) (w0 w : World) (h : w.ownsRow base 138 2 (.slice (some ⟨g, 0, none⟩) N cap) N (icells (flatP L))) (hN : L.length = N) (hm : N ≤ 1000) (hb : w0.heap.size ≤ base) (h0 : Ge w0 w)
    (hf : fv = .func (.func 120) #[] lb) (b0 b1 : Nat) (hlb : lb = #[.pointer (some ⟨b0, 0, none⟩), .pointer (some ⟨b1, 0, none⟩)])
    (hC : ∀ w', Ge w0 w' → ∀ j, j < N → Calls Tryz.prog 120 #[.agg #[.int .i64 ((qAt L j).1 : Int), .int .i64 (qAt L j).2], .pointer (some ⟨b0, 0, none⟩), .pointer (some ⟨b1, 0, none⟩)] w' fun r w'' => r = .returned (.bool (!K (qAt L j))) ∧ Ge w' w'') :
    Calls Tryz.prog 118 #[.slice (some ⟨g, 0, none⟩) N cap, fv] w fun r w' =>
      ∃ v, r = .returned v ∧ SlF w' v (L.filter K).length 2 (flatP (L.filter K)) ∧ Ge w0 w' := by
  have HIx := Lib.hid (fun fv lb (hf : fv = .func (.func 120) #[] lb) (hlb : lb = #[.pointer (some ⟨b0, 0, none⟩), .pointer (some ⟨b1, 0, none⟩)]) => iIndexFl g N cap base L K fv lb w h hN hm hf b0 b1 hlb (fun w' g' j hj => hC w' (h0.trans g') j hj))
  subst hf
  subst hlb
  have HC := Lib.hid hC
  have HO := Lib.hid h
  have hl := h.lt g rfl
  clear h
  have hspec := firstF_spec (fun j => !K (qAt L j)) N 0
  generalize firstF (fun j => !K (qAt L j)) 0 N = IX at *
  have hw := h0.size
  rcases hspec with ⟨rfl, hall⟩ | ⟨k, _, hk, rfl, hkk, hpre⟩
  · have HR : Hid (L.filter K = L) := kept_all (fun j hj => by have := hall j (Nat.zero_le _) (by omega); simpa using this)
    clear hC hall HC
    go_enter Tryz.func118, Tryz.ntmps118
    go_wp2_with ((go_at_call 130; ((with_reducible refine (HIx.out _ _ rfl rfl).mono ?_); rintro r w1 ⟨rfl, g1⟩)))
    go_ret
    refine ⟨_, rfl, ?_, kge⟩
    rw [HR.out, hN]
    exact SlF.of_owns (g1.owns HO.out)
  · have HK1 : Hid (KeptTo K L L k (k + 1)) := kept_start (by omega) (fun j hj => by have := hpre j (Nat.zero_le _) hj; simpa using this) (by simpa using hkk)
    have HD := Lib.hid (fun R i j (h : KeptTo K L R i j) (hj : j < N) (hk : K (qAt L j) = false) => kept_drop h (by omega) hk)
    have HKp := Lib.hid (fun R i j (h : KeptTo K L R i j) (hj : j < N) (hk : K (qAt L j) = true) => kept_keep h (by omega) hk)
    clear hC hpre hkk
    have tk : decide ((k : Int) = -1) = false := by simp
    have tk2 : ((k : Int) == -1) = false := by simp
    have tk3 : wrap64 ((k : Int) + 1) = ((k + 1 : Nat) : Int) := by rw [IntWalk.wrap64_in _ ⟨by omega, by omega⟩]; push_cast; rfl
    go_enter Tryz.func118, Tryz.ntmps118
    go_wp2_with ((go_at_call 130; ((with_reducible refine (HIx.out _ _ rfl rfl).mono ?_); rintro r w1 ⟨rfl, g1⟩)))
    have HO1 := Lib.hid (g1.owns HO.out)
    have HG1 := Lib.hid (h0.trans g1)
    clear HO g1 HIx tk3
    go_loopw [5, 6] (fun i' j' wr => ∃ (i j : Nat) (R : List (Nat × Int)), i' = .int .i64 i ∧ j' = .int .i64 j ∧ Hid (KeptTo K L R i j) ∧ Hid (wr.ownsRow base 138 2 (.slice (some ⟨g, 0, none⟩) N cap) N (icells (flatP R))) ∧ Hid (Ge w0 wr)) (fun _ i _ => N - (intOf i).toNat)
    case atStart => exact ⟨k, k + 1, L, rfl, by go_num, HK1.out, HO1.out, HG1.out⟩
    case round =>
      clear HK1 HO1 HG1 tk tk2
      obtain ⟨i, j, R, rfl, rfl, HKT, HOR, HGR⟩ := hrel
      have hRl := HKT.out.1
      have hij := HKT.out.2.1
      have hjN := HKT.out.2.2.1
      by_cases hlt : j < N
      · have hq := HKT.out.2.2.2.2 j (Nat.le_refl _)
        obtain ⟨x0, x1⟩ := pairs_at HOR.out (by omega) (i := j) hlt
        rw [hq] at x0 x1
        have hiN : i < N := by omega
        obtain ⟨y0, y1⟩ := pairs_at HOR.out (by omega) (i := i) hiN
        have f0 := HOR.out.frozenAt (i * 2)
        have f1 := HOR.out.frozenAt (i * 2 + 1)
        have hgl := HOR.out.lt g rfl
        have HCj := Lib.hid (fun w' (g' : Ge wr w') => HC.out w' (HGR.out.trans g') j hlt)
        have hzw := HGR.out.size
        generalize hQ : qAt L j = Q at *
        cases hK : K Q with
        | true =>
          rw [hK] at HCj
          have HKn : Hid (KeptTo K L (R.set i Q) (i + 1) (j + 1)) := by have := HKp.out R i j HKT.out hlt (by rw [hQ]; exact hK); rwa [hQ] at this
          clear hK HKp HD HKT HC
          have HPS := Lib.hid (fun w' (g' : Ge wr w') => pairs_set (g'.owns HOR.out) (by omega) (i := i) hiN Q)
          obtain ⟨Q1, Q2⟩ := Q
          have HPT : Hid (∀ w', Ge wr w' → ((w'.setCell ⟨g, i * 2, none⟩ (.int .i64 (Q1 : Int))).setCell ⟨g, i * 2 + 1, none⟩ (.int .i64 Q2)).ownsRow base 138 2 (.slice (some ⟨g, 0, none⟩) N cap) N (icells (flatP (R.set i (Q1, Q2))))) := HPS.out
          have HKm : Hid (KeptTo K L (R.set i (Q1, Q2)) (i + 1) (j + 1)) := HKn.out
          change wr.cell? ⟨g, j * 2, none⟩ = some (.int .i64 (Q1 : Int)) at x0
          change wr.cell? ⟨g, j * 2 + 1, none⟩ = some (.int .i64 Q2) at x1
          change Hid (∀ w', Ge wr w' → Calls Tryz.prog 120 #[.agg #[.int .i64 (Q1 : Int), .int .i64 Q2], .pointer (some ⟨b0, 0, none⟩), .pointer (some ⟨b1, 0, none⟩)] w' fun r w'' => r = .returned (.bool (!true)) ∧ Ge w' w'') at HCj
          clear HPS HKn hQ
          generalize (qAt R i).1 = Y1 at *
          generalize (qAt R i).2 = Y2 at *
          go_wp2_with ((go_at_call 120; ((with_reducible refine (HCj.out _ (kge)).mono ?_); rintro r w1 ⟨rfl, g1⟩)); have gA : Ge wr w1 := Ge.trans (Ge.alloc (Ge.refl _) _) g1; have d0 := g1.keep (cell_new rfl rfl : (wr.alloc (.cells #[.int .i64 (Q1 : Int), .int .i64 Q2] 138)).cell? ⟨wr.heap.size, 0, none⟩ = some (.int .i64 (Q1 : Int))); have d1 := g1.keep (cell_new rfl rfl : (wr.alloc (.cells #[.int .i64 (Q1 : Int), .int .i64 Q2] 138)).cell? ⟨wr.heap.size, 1, none⟩ = some (.int .i64 Q2)); have z0 := gA.keep y0; have z1 := gA.keep y1; have e0 := gA.keepF y0 f0; have e1 := gA.keepF y1 f1)
          go_roundw
          case rel => exact ⟨i + 1, j + 1, R.set i (Q1, Q2), by go_num, by go_num, HKm.out, HPT.out _ gA, Ge.setCell (Ge.setCell (HGR.out.trans gA) (p := ⟨g, i * 2, none⟩) (by show w0.heap.size ≤ g; omega) _) (p := ⟨g, i * 2 + 1, none⟩) (by show w0.heap.size ≤ g; omega) _⟩
          case measure => simp [intOf]; omega
        | false =>
          rw [hK] at HCj
          have HKn : Hid (KeptTo K L R i (j + 1)) := HD.out R i j HKT.out hlt (by rw [hQ]; exact hK)
          clear hK HKp HD HKT HC hQ
          obtain ⟨Q1, Q2⟩ := Q
          change wr.cell? ⟨g, j * 2, none⟩ = some (.int .i64 (Q1 : Int)) at x0
          change wr.cell? ⟨g, j * 2 + 1, none⟩ = some (.int .i64 Q2) at x1
          change Hid (∀ w', Ge wr w' → Calls Tryz.prog 120 #[.agg #[.int .i64 (Q1 : Int), .int .i64 Q2], .pointer (some ⟨b0, 0, none⟩), .pointer (some ⟨b1, 0, none⟩)] w' fun r w'' => r = .returned (.bool (!false)) ∧ Ge w' w'') at HCj
          go_wp2_with ((go_at_call 120; ((with_reducible refine (HCj.out _ (kge)).mono ?_); rintro r w1 ⟨rfl, g1⟩)); have gA : Ge wr w1 := Ge.trans (Ge.alloc (Ge.refl _) _) g1)
          go_roundw
          case rel => exact ⟨i, j + 1, R, rfl, by go_num, HKn.out, gA.owns HOR.out, HGR.out.trans gA⟩
          case measure => simp [intOf]; omega
      · have hjk : j = N := by omega
        subst hjk
        clear HC HKp HD
        have HKe := Lib.hid (kept_end (by rw [hN]; exact HKT.out : KeptTo K L R i L.length))
        have hiN : i < j := by omega
        have hcap : j ≤ cap := own_cap HOR.out (by omega)
        have hcl : ∀ ty, (Builtin.clear_ #[93] ty #[.slice (some ⟨g, i * 2, none⟩) (j - i) (cap - i)]).run Tryz.prog wr = .ok (.tuple #[]) (wr.setCells g (i * 2) (List.replicate ((j - i) * 2) (.int .i64 0))) := fun ty => by
          refine clear_two wr g (i * 2) (j - i) (cap - i) ty (by omega) (fun k hk => ?_) (fun k _ => HOR.out.frozenAt _)
          rw [HOR.out.cellAt (i * 2 + k) (by omega)]
          have : i * 2 + k < (icells (flatP R)).length := by rw [icells_length, flatP_len]; omega
          rw [List.getElem?_eq_getElem this]; rfl
        have HF : Hid (SlF (wr.setCells g (i * 2) (List.replicate ((j - i) * 2) (.int .i64 0))) (.slice (some ⟨g, 0, none⟩) i cap) (L.filter K).length 2 (flatP (L.filter K))) := by
          obtain ⟨a1, _, a3⟩ := HKe.out
          rw [← a3]
          have hlen : (flatP R).length = j * 2 := by rw [flatP_len]; omega
          refine ⟨by rw [icells_length, List.length_take, hlen, ← a1]; omega, some ⟨g, 0, none⟩, cap, by rw [← a1], fun k u hk => ⟨g, 0, rfl, ?_⟩⟩
          rw [Nat.zero_add, World.cell?_setCells_out]
          · have hk2 : k < i * 2 := by
              have := (List.getElem?_eq_some_iff.1 hk).1
              rw [icells_length, List.length_take] at this
              omega
            rw [HOR.out.cellAt k (by omega)]
            rw [← hk]
            simp only [icells, List.map_take, List.getElem?_take]
            rw [if_pos (by omega)]
          · intro _ _
            left
            have := (List.getElem?_eq_some_iff.1 hk).1
            rw [icells_length, List.length_take] at this
            show k < i * 2
            omega
        have HGf : Hid (Ge w0 (wr.setCells g (i * 2) (List.replicate ((j - i) * 2) (.int .i64 0)))) := Go.Lib.below_setCells g (by have := (HOR.out.lt g rfl).1; omega) _ _ HGR.out
        go_wp2_with fail
        go_ret
        exact ⟨_, rfl, HF.out, HGf.out⟩

/-- The faults that the rows D do not tell apart. -/
noncomputable def likeL (n e : Nat) (S : Int) (m : Nat) (xs : List Int) (D : Nat → List Int) : List (Nat × Int) := (allP (fltB n e S m xs) m).filter (keepF n e S m xs D)
set_option maxHeartbeats 1600000 in
theorem iFaultsLike (n e : Nat) (S : Int) (s vm : Value) (m : Nat) (xs : List Int) (D : Nat → List Int) (w : World) (hs : SlF w s m 3 xs) (hB : netB n e S m xs = true) (hD : SlRows w vm e 2 D) :
    Calls Tryz.prog 92 #[.agg #[.int .i64 (n : Int), .int .i64 (e : Int), .int .i64 S, s], vm] w fun r w' => ∃ v, r = .returned v ∧ SlF w' v (likeL n e S m xs D).length 2 (flatP (likeL n e S m xs D)) ∧ Ge w w' := by
  obtain ⟨⟨h1, h5⟩, _, _, hok, _⟩ := netP_of hB
  have hm : m ≤ 10 := prs_len (by omega) hok
  obtain ⟨p, cap, rfl, _⟩ := hs.open
  have HV := Lib.hid hs
  have HA := Lib.hid (fun w' (g : Ge w w') => iAllFaults n e S (.slice p m cap) m xs w' (HV.out.ge g) hB)
  have hlen := allP_len (fltB n e S m xs) m
  have HM : Hid (∀ j, j < (allP (fltB n e S m xs) m).length → (qAt (allP (fltB n e S m xs) m) j).1 < m ∧ (0 ≤ (qAt (allP (fltB n e S m xs) m) j).2 ∧ (qAt (allP (fltB n e S m xs) m) j).2 ≤ 12) ∧ fltB n e S m xs (qAt (allP (fltB n e S m xs) m) j).1 (qAt (allP (fltB n e S m xs) m) j).2 = true) := fun j hj => by
    rw [qAt_eq hj]; exact allP_mem (List.getElem_mem hj)
  have HCl := Lib.hid (fun w' (g : Ge w w') (Bn Bm : Nat) (hn : NetIn w' Bn n e S (.slice p m cap)) (hb : w'.cell? ⟨Bm, 0, none⟩ = some vm) j hj => iLikeCl n e S (qAt (allP (fltB n e S m xs) m) j).1 (qAt (allP (fltB n e S m xs) m) j).2 (.slice p m cap) vm m xs D Bn Bm w' (HV.out.ge g) hB (HM.out j hj).1 (HM.out j hj).2.1 (HM.out j hj).2.2 hn hb (hD.ge g))
  have HDl : Hid (∀ (q c : Nat) (w1 w' : World), w'.ownsRow w1.heap.size 138 2 (.slice (some ⟨q, 0, none⟩) (allP (fltB n e S m xs) m).length c) (allP (fltB n e S m xs) m).length (icells (flatP (allP (fltB n e S m xs) m))) → Ge w w1 → Ge w1 w' → ∀ (Bn Bm : Nat), NetIn w1 Bn n e S (.slice p m cap) → w1.cell? ⟨Bm, 0, none⟩ = some vm → ∀ fv, fv = .func (.func 120) #[] #[.pointer (some ⟨Bn, 0, none⟩), .pointer (some ⟨Bm, 0, none⟩)] →
      Calls Tryz.prog 118 #[.slice (some ⟨q, 0, none⟩) (allP (fltB n e S m xs) m).length c, fv] w' fun r w'' => ∃ v', r = .returned v' ∧ SlF w'' v' (likeL n e S m xs D).length 2 (flatP (likeL n e S m xs D)) ∧ Ge w1 w'') := fun q c w1 w' ho g1 g2 Bn Bm hn hb fv hf =>
    iDeleteFl q _ c w1.heap.size _ (keepF n e S m xs D) fv _ w1 w' ho rfl (by omega) (Nat.le_refl _) g2 hf Bn Bm rfl (fun w'' g j hj => HCl.out w'' (g1.trans g) Bn Bm (hn.ge g) (g.keep hb) j hj)
  generalize likeL n e S m xs D = LL at *
  obtain ⟨bm, om, cm, rfl, _⟩ := hD
  clear HCl HM hs hB
  generalize (allP (fltB n e S m xs) m) = AL at *
  have HN0 : Hid (NetIn ((w.alloc (.cells #[.int .i64 n, .int .i64 e, .int .i64 S, .slice p m cap] 33)).alloc (.cells #[.slice (some ⟨bm, om, none⟩) e cm] 131)) w.heap.size n e S (.slice p m cap)) := ⟨cell_alloc (cell_new rfl rfl), cell_alloc (cell_new rfl rfl), cell_alloc (cell_new rfl rfl), cell_alloc (cell_new rfl rfl)⟩
  have HM0 : Hid (((w.alloc (.cells #[.int .i64 n, .int .i64 e, .int .i64 S, .slice p m cap] 33)).alloc (.cells #[.slice (some ⟨bm, om, none⟩) e cm] 131)).cell? ⟨w.heap.size + 1, 0, none⟩ = some (.slice (some ⟨bm, om, none⟩) e cm)) := cell_new (by simp) rfl
  go_enter Tryz.func92, Tryz.ntmps92
  go_wp2_with (first
    | ((go_at_call 119; ((with_reducible refine (HA.out _ (kge)).mono ?_); rintro r w9 ⟨qf, cf, rfl, O9, g9⟩)); have gw9 : Ge w w9 := Ge.trans (Ge.alloc (Ge.alloc (Ge.refl _) _) _) g9; have HO9 := Lib.hid O9; clear O9)
    | ((go_at_call 118; ((with_reducible refine (HDl.out qf cf _ _ HO9.out (Ge.alloc (Ge.alloc (Ge.refl _) _) _) g9 w.heap.size (w.heap.size + 1) HN0.out HM0.out _ rfl).mono ?_); rintro r w10 ⟨v10, rfl, R10, g10⟩)); have HR10 := Lib.hid R10; clear R10))
  go_ret
  exact ⟨_, rfl, HR10.out, Ge.trans (Ge.alloc (Ge.alloc (Ge.refl _) _) _) g10⟩
theorem iHiddenFaults (n e : Nat) (S : Int) (s : Value) (m : Nat) (xs : List Int) (w : World) (hs : SlF w s m 3 xs) (hB : netB n e S m xs = true) :
    Calls Tryz.prog 55 #[.agg #[.int .i64 (n : Int), .int .i64 (e : Int), .int .i64 S, s]] w fun r w' => ∃ v, r = .returned v ∧ SlF w' v (likeL n e S m xs (fun a => respL n e m S xs a e)).length 2 (flatP (likeL n e S m xs (fun a => respL n e m S xs a e))) ∧ Ge w w' := by
  obtain ⟨⟨h1, h5⟩, _, _, hok, _⟩ := netP_of hB
  have hm : m ≤ 10 := prs_len (by omega) hok
  obtain ⟨p, cap, rfl, _⟩ := hs.open
  have HV := Lib.hid hs
  have HRe := Lib.hid (fun w' (g : Ge w w') => iResponseOfT n e S (.slice p m cap) m xs w' (HV.out.ge g) (by omega) hB)
  have HF := Lib.hid (fun v w' (g : Ge w w') (h : SlRows w' v e 2 (fun a => respL n e m S xs a e)) => iFaultsLike n e S (.slice p m cap) v m xs _ w' (HV.out.ge g) hB h)
  generalize likeL n e S m xs (fun a => respL n e m S xs a e) = LL at *
  generalize (fun a => respL n e m S xs a e) = D at *
  clear hs hB
  have hN0 : NetIn (w.alloc (.cells #[.int .i64 n, .int .i64 e, .int .i64 S, .slice p m cap] 33)) w.heap.size n e S (.slice p m cap) := ⟨cell_new rfl rfl, cell_new rfl rfl, cell_new rfl rfl, cell_new rfl rfl⟩
  have HN0 := Lib.hid hN0
  clear hN0
  go_enter Tryz.func55, Tryz.ntmps55
  go_wp2_with (first
    | ((go_at_call 83; ((with_reducible refine (HRe.out _ (kge)).mono ?_); rintro r w9 ⟨u9, rfl, R9, g9⟩)); have gw9 : Ge w w9 := Ge.trans (Ge.alloc (Ge.refl _) _) g9; obtain ⟨bq, oq, cq, rfl, hq⟩ := R9; have HR9 : Hid (SlRows w9 (.slice (some ⟨bq, oq, none⟩) e cq) e 2 D) := ⟨bq, oq, cq, rfl, hq⟩; clear hq; obtain ⟨n0, n1, n2, n3⟩ := NetIn.ge HN0.out g9)
    | ((go_at_call 92; ((with_reducible refine (HF.out _ _ gw9 HR9.out).mono ?_); rintro r w10 ⟨v10, rfl, R10, g10⟩)); have HR10 := Lib.hid R10; clear R10))
  go_ret
  exact ⟨_, rfl, HR10.out, kge⟩
end Go.Proofs.YtagiecajffhnpaaGreat

namespace Go.Proofs.YtagiecajffhnpaaGreat

def toWr (xs : List Int) (j v : Nat) : Int := nth xs (j * 3) + nth xs (j * 3 + 1) - v
def atWr (xs : List Int) (j v : Nat) : Bool := (nth xs (j * 3) == (v : Int)) || (nth xs (j * 3 + 1) == (v : Int))
def isWr (xs : List Int) (j : Nat) (a b c : Int) : Bool := decide (nth xs (j * 3) = a ∧ nth xs (j * 3 + 1) = b ∧ nth xs (j * 3 + 2) = c)
def setF (f : Nat → Bool) (v : Nat) (x : Bool) : Nat → Bool := fun y => if y = v then x else f y
theorem setF_same (f : Nat → Bool) (v : Nat) (x : Bool) : setF f v x v = x := by simp [setF]
theorem setF_ne (f : Nat → Bool) {v y : Nat} (x : Bool) (h : ¬ y = v) : setF f v x y = f y := by simp [setF, h]
theorem setF_back (f : Nat → Bool) {v : Nat} (h : f v = false) (y : Nat) : setF (setF f v true) v false y = f y := by
  unfold setF
  by_cases e : y = v
  · subst e; simp [h]
  · simp [e]
def anyF (p : Nat → Bool) : Nat → Bool
  | 0 => false
  | j + 1 => anyF p j || p j
/-- A way on from v, not over the nodes of f, over the wire (or u), to another terminal. -/
def pathB (e m : Nat) (xs : List Int) (a b c : Int) (first : Nat) : Nat → (Nat → Bool) → Nat → Bool → Bool
  | 0, _, _, _ => false
  | k + 1, f, v, u => (decide (v < e) && !decide (v = first) && u) ||
      anyF (fun j => atWr xs j v && (!setF f v true (toWr xs j v).toNat && pathB e m xs a b c first k (setF f v true) (toWr xs j v).toNat (u || isWr xs j a b c))) m
/-- How many of the first n nodes are not met. -/
def cntU (f : Nat → Bool) : Nat → Nat
  | 0 => 0
  | n + 1 => cntU f n + (if f n = false then 1 else 0)
theorem cntU_ge (f : Nat → Bool) (v : Nat) (x : Bool) : ∀ n, n ≤ v → cntU (setF f v x) n = cntU f n
  | 0, _ => rfl
  | n + 1, h => by
    show cntU (setF f v x) n + _ = _
    rw [cntU_ge f v x n (by omega), setF_ne f x (by omega)]
    rfl
theorem cntU_set (f : Nat → Bool) {v : Nat} (hf : f v = false) : ∀ n, v < n → cntU (setF f v true) n + 1 = cntU f n
  | 0, h => absurd h (Nat.not_lt_zero _)
  | n + 1, h => by
    show cntU (setF f v true) n + _ + 1 = cntU f n + _
    by_cases e : v = n
    · subst e
      rw [cntU_ge f v true v (Nat.le_refl _), setF_same, hf]
      simp
    · have := cntU_set f hf n (by omega)
      rw [setF_ne f true (by omega)]
      omega
theorem cntU_pos {f : Nat → Bool} {v n : Nat} (hf : f v = false) (h : v < n) : 1 ≤ cntU f n := by have := cntU_set f hf n h; omega
theorem cntU_none (n : Nat) : cntU (fun _ => false) n = n := by
  induction n with
  | zero => rfl
  | succ n ih => show cntU _ n + 1 = n + 1; rw [ih]
/-- The wires that no way between terminals leads over. -/
def seenB (n e m : Nat) (xs : List Int) (i : Nat) : Bool := anyF (fun t => pathB e m xs (nth xs (i * 3)) (nth xs (i * 3 + 1)) (nth xs (i * 3 + 2)) t n (fun _ => false) t false) e
def blindL (n e m : Nat) (xs : List Int) : Nat → List Int
  | 0 => []
  | i + 1 => if seenB n e m xs i = true then blindL n e m xs i else blindL n e m xs i ++ [(i : Int)]
end Go.Proofs.YtagiecajffhnpaaGreat

namespace Go.Proofs.YtagiecajffhnpaaGreat
set_option maxRecDepth 100000
open Go.ChangeShapes Go.WideShapes Go.ChangeAt Go.RowKit Go.Joins

theorem eql_wire (x y z a b c : Int) (w : World) : (binOp .eql 45 (.agg #[.int .i64 x, .int .i64 y, .int .i64 z]) (.agg #[.int .i64 a, .int .i64 b, .int .i64 c])).run Tryz.prog w = .ok (.bool (decide (x = a) && (decide (y = b) && decide (z = c)))) w := by
  by_cases h1 : x = a
  · by_cases h2 : y = b
    · by_cases h3 : z = c
      · go_simp
      · go_simp
    · go_simp
  · go_simp
end Go.Proofs.YtagiecajffhnpaaGreat
