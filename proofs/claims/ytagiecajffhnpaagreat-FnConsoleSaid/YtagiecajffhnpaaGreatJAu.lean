/- ParseNet of impl: the walk. No condition. ParseNet of the reference: the walk. No condition. eqWire, eqWireS, markWireS, heldWireS, eqNet, markNet, heldNet. ParseNet: both sides, and the law. No condition. slices.SortFunc of at most 12 squares that are in order. No condition. The greatest squares again and again: plain law. No condition. CutTiling of impl. No condition. Regions that draw their order: several operations ready at once. No program in sight. -/
import Derived.Test.YtagiecajffhnpaaGreatJAt
import Derived.Test.YtagiecajffhnpaaGreatJAc
import Derived.Test.YtagiecajffhnpaaGreatJAb
import Derived.Test.YtagiecajffhnpaaGreatWFlat
import Derived.Test.YtagiecajffhnpaaGreatWEqInt
import Derived.Test.YtagiecajffhnpaaGreatWLaw
import Derived.Test.YtagiecajffhnpaaGreatJAd
import Derived.Test.YtagiecajffhnpaaGreatShelf
namespace Go.Proofs.YtagiecajffhnpaaGreat
set_option maxRecDepth 100000
open Go.ChangeShapes Go.WideShapes Go.ChangeAt Go.RowKit Go.Joins

/-- The result's block is there and may be written. -/
def ResB (w : World) (b : Nat) : Prop := w.cell? ⟨b, 0, none⟩ = some (cv w ⟨b, 0, none⟩) ∧ w.cell? ⟨b, 1, none⟩ = some (cv w ⟨b, 1, none⟩) ∧ w.cell? ⟨b, 2, none⟩ = some (cv w ⟨b, 2, none⟩) ∧ w.cell? ⟨b, 3, none⟩ = some (cv w ⟨b, 3, none⟩) ∧
  w.frozen? ⟨b, 0, none⟩ = false ∧ w.frozen? ⟨b, 1, none⟩ = false ∧ w.frozen? ⟨b, 2, none⟩ = false ∧ w.frozen? ⟨b, 3, none⟩ = false
theorem ResB.new (w : World) (cs : Array Value) (t : TypeId) (h : cs.size = 4) : ResB (w.alloc (.cells cs t)) w.heap.size := by
  have k : ∀ i, i < 4 → ∃ v, cs[i]? = some v := fun i hi => ⟨_, Array.getElem?_eq_getElem (by omega)⟩
  obtain ⟨v0, h0⟩ := k 0 (by omega)
  obtain ⟨v1, h1⟩ := k 1 (by omega)
  obtain ⟨v2, h2⟩ := k 2 (by omega)
  obtain ⟨v3, h3⟩ := k 3 (by omega)
  exact ⟨cv_some (cell_new rfl h0), cv_some (cell_new rfl h1), cv_some (cell_new rfl h2), cv_some (cell_new rfl h3), froz_new rfl h0, froz_new rfl h1, froz_new rfl h2, froz_new rfl h3⟩
theorem ResB.ge {w w' : World} {b : Nat} (h : ResB w b) (hg : Ge w w') : ResB w' b := by
  obtain ⟨b0, b1, b2, b3, b4, b5, b6, b7⟩ := h
  exact ⟨cv_some (hg.keep b0), cv_some (hg.keep b1), cv_some (hg.keep b2), cv_some (hg.keep b3), hg.keepF b0 b4, hg.keepF b1 b5, hg.keepF b2 b6, hg.keepF b3 b7⟩

theorem inf_WireP : (Tryz.prog.info? 45).map (fun i => (i.zero, i.size, i.bytes)) = some (some (Value.agg #[.int .i64 0, .int .i64 0, .int .i64 0]), 3, 24) := by kernel_rfl
theorem run_wire {w : World} (base : Nat) (v : Value) (n : Nat) (l : List Int) (hown : w.ownsRow base 45 3 v n (icells l)) (hb : base ≤ w.heap.size) (y1 y2 y3 : Int) (hn : n < 1099511627776) :
    ∃ v' w', (Builtin.append_ #[31, 31] 31 #[v, .slice (some ⟨w.heap.size, 0, none⟩) 1 1]).run Tryz.prog (w.alloc (.cells #[.int .i64 y1, .int .i64 y2, .int .i64 y3] 45)) = .ok v' w' ∧
      w'.ownsRow base 45 3 v' (n + 1) (icells (l ++ [y1, y2, y3])) ∧ Mine (w.alloc (.cells #[.int .i64 y1, .int .i64 y2, .int .i64 y3] 45)) w' v := by
  obtain ⟨i, hi1, hi2, hi3, hi4⟩ := info_parts inf_WireP
  obtain ⟨v', w', h1, h2, h3, _⟩ := run_append_own (P := Tryz.prog) (w := w.alloc (.cells #[.int .i64 y1, .int .i64 y2, .int .i64 y3] 45)) base 31 31 45 i _ 3 24 Tryz.underlying31 hi1 hi2 hi3 hi4 rfl (by decide) v n (icells l) (hown.alloc _) ⟨w.heap.size, 0, none⟩ 1 1 [.int .i64 y1, .int .i64 y2, .int .i64 y3] rfl (fun j u hu => by
      have hadd : (⟨w.heap.size, 0, none⟩ : Addr).add j = ⟨w.heap.size, j, none⟩ := by unfold Addr.add; split <;> simp_all
      rw [hadd, cell_of_row (w.alloc (.cells #[.int .i64 y1, .int .i64 y2, .int .i64 y3] 45)) w.heap.size j _ _ (0, 0) (heap_alloc_new w _)]
      simpa using hu) (by simp [Value.oneCell']) (by unfold maxLen; omega) (by
      have : (n + 1) * 24 ≤ (n + 1) * 100 := Nat.mul_le_mul_left _ (by decide)
      omega) (by simp; omega)
  exact ⟨v', w', h1, by simpa [icells] using h2, h3⟩
theorem step_run {W W' : World} {o : Oper} {a : Act} {K : Act → World → Prop} {Q : Exit → Act → World → Prop} {v y v8 : Value} (s x : Operand)
    (ho : o.op = .call { callee := .builtin .append, args := #[s, x], argTypes := #[31, 31] }) (hty : o.type = 31) (hs : a.eval s = v) (hx : a.eval x = y)
    (hr : (Builtin.append_ #[31, 31] 31 #[v, y]).run Tryz.prog W = .ok v8 W') (h : K (a.put o.dst v8) W') : o.wp Tryz.prog a W K Q := by
  unfold Oper.wp execOp
  simp only [ho, resolve, invoke, builtin, Sem.run_bind, Sem.run_pure, Result.andThen_ok, List.map_toArray, List.map_cons, List.map_nil, hs, hx, hty, hr]
  exact h
theorem grown_set (w : World) (b o : Nat) (x : Value) : w.grownBy (w.setCell ⟨b, o, none⟩ x) (some b) := by
  refine ⟨rfl, rfl, rfl, by simp, fun k _ hne => ?_⟩
  have : b ≠ k := fun e => hne (by rw [e])
  simp [World.setCell, Array.getElem?_modify, this]
theorem owns_set {w : World} {base e sz n b o : Nat} {v : Value} {xs : List Value} (h : w.ownsRow base e sz v n xs) (hb : b < base) (x : Value) : (w.setCell ⟨b, o, none⟩ x).ownsRow base e sz v n xs := by
  refine h.kept (grown_set w b o x) ?_
  cases hv : v.ownBlock with
  | none => exact .inl rfl
  | some k =>
    right
    intro e
    have := (h.lt k hv).1
    simp at e
    omega
theorem mine_froz {w w' : World} {v : Value} (hm : Mine w w' v) {a : Addr} {u : Value} (h : w.cell? a = some u) (hf : w.frozen? a = false) (hne : ∀ k, v.ownBlock = some k → a.block ≠ k) : w'.frozen? a = false := by
  rw [World.frozen?_of_block (World.grownBy.block hm a.block (World.block_lt_of_cell? _ _ h) (fun e => hne _ e.symm rfl))]
  exact hf
theorem pnB_n {s : List UInt8} {h : List (List UInt8)} (k : ¬ netTxt (pv (tnth h 0)) (pv (tnth h 1)) (pv (tnth h 2)) ((pieces [32] s).length - 1) (wX (pieces [32] s) ((pieces [32] s).length - 1)) = s) : pnB h s = false := by
  unfold pnB; rw [decide_eq_false k]; simp
theorem gives_t {w w' : World} {s : List UInt8} {v : Value} (h : hdOk (hdI s) = true) (h1 : wiresOk (pieces [32] s) ((pieces [32] s).length - 1) = true)
    (h2 : netTxt (pv (tnth (hdI s) 0)) (pv (tnth (hdI s) 1)) (pv (tnth (hdI s) 2)) ((pieces [32] s).length - 1) (wX (pieces [32] s) ((pieces [32] s).length - 1)) = s)
    (ho : w'.ownsRow w.heap.size 45 3 v ((pieces [32] s).length - 1) (icells (wX (pieces [32] s) ((pieces [32] s).length - 1)))) (hg : Ge w w') :
    GivesP w s (.returned (.tuple #[.agg #[.int .i64 (pv (tnth (hdI s) 0)), .int .i64 (pv (tnth (hdI s) 1)), .int .i64 (pv (tnth (hdI s) 2)), v], .bool true])) w' := by
  have hb : pnB (hdI s) s = true := by unfold pnB; rw [h, h1, decide_eq_true h2]; rfl
  obtain ⟨k1, k2, k3⟩ := pn_t hb
  exact ⟨v, by rw [k1, k1, k1, hb], by rw [k2, k3]; exact ho, hg⟩
theorem ResB.gex {w w' : World} {b g : Nat} (h : ResB w b) (hx : GeX ⟨g, 3, none⟩ w w') (hne : b ≠ g) : ResB w' b := by
  obtain ⟨b0, b1, b2, b3, b4, b5, b6, b7⟩ := h
  have n : ∀ i, (⟨b, i, none⟩ : Addr) ≠ ⟨g, 3, none⟩ := fun i e => hne (congrArg Addr.block e)
  exact ⟨cv_some (hx.1 _ _ (n 0) b0), cv_some (hx.1 _ _ (n 1) b1), cv_some (hx.1 _ _ (n 2) b2), cv_some (hx.1 _ _ (n 3) b3), hx.2.1 _ _ b0 b4, hx.2.1 _ _ b1 b5, hx.2.1 _ _ b2 b6, hx.2.1 _ _ b3 b7⟩

set_option maxHeartbeats 3200000 in
theorem iParseNetA (s : List UInt8) (w : World) (hm : s.length ≤ 1048576) (hbad : hdOk (hdI s) = false) : Calls Tryz.prog 20 #[.string (bstr s)] w (GivesP w s) := by
  have GF := Lib.hid (fun w' (g : Ge w w') => gives_f (pnB_hd (s := s) hbad) g)
  have HS : Hid (∀ w, Calls Tryz.prog 15 #[.string (bstr s), .string ⟨#[32]⟩] w (GivesS w (pieces [32] s))) := fun w => iSplitAny s [32] w hm
  have hpos : 0 < (pieces [32] s).length := by unfold pieces; simp
  have hle0 : (tnth (pieces [32] s) 0).length ≤ 1048576 := by
    rw [tnth_eq _ _ hpos]; exact Nat.le_trans (pieces_le _ (List.getElem_mem hpos)) hm
  have hle1 := Nat.le_trans (trimS_le (tnth (pieces [32] s) 0)) hle0
  have HTr := Lib.hid (fun w => trimS (tnth (pieces [32] s) 0) w hle0)
  have HH : Hid (∀ w, Calls Tryz.prog 15 #[.string (bstr (Lib.trimSuffix (tnth (pieces [32] s) 0) [58])), .string ⟨#[47]⟩] w (GivesS w (hdI s))) := fun w => iSplitAny (Lib.trimSuffix (tnth (pieces [32] s) 0) [58]) [47] w hle1
  have hlH := pieces_len [47] (Lib.trimSuffix (tnth (pieces [32] s) 0) [58])
  have HIn := Lib.hid (fun v w h => iInts v (hdI s) w h (by unfold hdI; omega) (fun x hx => Nat.le_trans (pieces_le x hx) hle1))
  obtain ⟨n, hn⟩ : ∃ n, (pieces [32] s).length = n := ⟨_, rfl⟩
  have HN := Lib.hid hn
  have hn0 : 0 < n := by omega
  have hR : (numsR (hdI s)).length ≤ 1048577 := by
    unfold numsR
    split
    · rw [nums_length]; unfold hdI; omega
    · simp
  have FR0 : ∀ w', Ge (w.alloc (.cells #[.int .i64 0, .int .i64 0, .int .i64 0, .slice none 0 0] 33)) w' → ResB w' w.heap.size := fun w' g => (ResB.new w _ _ rfl).ge g
  unfold hdOk at hbad
  clear hle0 hle1 hlH hpos hn
  generalize pieces [32] s = l at *
  generalize hL0 : tnth l 0 = L0 at *
  generalize Lib.trimSuffix L0 [58] = L1 at *
  generalize hdI s = H at *
  generalize hRR : numsR H = R at *
  cases hA : allB H with
  | false =>
    unfold GivesN at HIn
    rw [hA, hRR] at HIn
    go_enter Tryz.func20, Tryz.ntmps20
    go_wp2_with (first
    | (go_at_call 15; ((with_reducible refine (HS.out _).mono ?_); rintro e w1 ⟨v1, rfl, o1, g1⟩); rw [HN.out] at o1; obtain ⟨gl, cl, rfl⟩ := Go.Joins.ownsRow_form o1 hn0; have y0 := own_strP o1 hn0; have RB := FR0 _ g1; have gw1 : Ge w w1 := Ge.trans (Ge.alloc (Ge.refl w) _) g1)
    | (go_at_call 32; ((with_reducible refine (HTr.out _).mono ?_); rintro e w' ⟨rfl, rfl⟩))
    | (go_at_call 15; ((with_reducible refine (HH.out _).mono ?_); rintro e w2 ⟨v2, rfl, o2, g2⟩); replace RB := RB.ge g2)
    | (go_at_call 21; ((with_reducible refine (HIn.out _ _ (SlS.of_owns o2)).mono ?_); rintro e w3 ⟨v3, rfl, o3, g3⟩); obtain ⟨p3, c3, rfl⟩ := owns_form o3; replace RB := RB.ge g3; obtain ⟨b0, b1, b2, b3, b4, b5, b6, b7⟩ := RB))
    exact bodyPost_ret (v := .tuple #[.agg #[.int .i64 0, .int .i64 0, .int .i64 0, .slice none 0 0], .bool false]) (by simp [results, Tryz.results20, go_sem, *]) rfl (GF.out _ (kge))
  | true =>
    have hRl : R.length = H.length := by rw [← hRR]; unfold numsR; rw [if_pos hA, nums_length]
    have hk : ¬ H.length = 3 := by rw [hA] at hbad; simpa using hbad
    have tk : ((R.length : Int) != 3) = true := by simp; omega
    unfold GivesN at HIn
    rw [hA, hRR] at HIn
    clear hRl hk hRR
    go_enter Tryz.func20, Tryz.ntmps20
    go_wp2_with (first
    | (go_at_call 15; ((with_reducible refine (HS.out _).mono ?_); rintro e w1 ⟨v1, rfl, o1, g1⟩); rw [HN.out] at o1; obtain ⟨gl, cl, rfl⟩ := Go.Joins.ownsRow_form o1 hn0; have y0 := own_strP o1 hn0; have RB := FR0 _ g1; have gw1 : Ge w w1 := Ge.trans (Ge.alloc (Ge.refl w) _) g1)
    | (go_at_call 32; ((with_reducible refine (HTr.out _).mono ?_); rintro e w' ⟨rfl, rfl⟩))
    | (go_at_call 15; ((with_reducible refine (HH.out _).mono ?_); rintro e w2 ⟨v2, rfl, o2, g2⟩); replace RB := RB.ge g2)
    | (go_at_call 21; ((with_reducible refine (HIn.out _ _ (SlS.of_owns o2)).mono ?_); rintro e w3 ⟨v3, rfl, o3, g3⟩); obtain ⟨p3, c3, rfl⟩ := owns_form o3; replace RB := RB.ge g3; obtain ⟨b0, b1, b2, b3, b4, b5, b6, b7⟩ := RB))
    exact bodyPost_ret (v := .tuple #[.agg #[.int .i64 0, .int .i64 0, .int .i64 0, .slice none 0 0], .bool false]) (by simp [results, Tryz.results20, go_sem, *]) rfl (GF.out _ (kge))

set_option maxHeartbeats 6400000 in
theorem iParseNetB (s : List UInt8) (w : World) (hm : s.length ≤ 1048576) (hok : hdOk (hdI s) = true) : Calls Tryz.prog 20 #[.string (bstr s)] w (GivesP w s) := by
  have HS : Hid (∀ w, Calls Tryz.prog 15 #[.string (bstr s), .string ⟨#[32]⟩] w (GivesS w (pieces [32] s))) := fun w => iSplitAny s [32] w hm
  have hpos : 0 < (pieces [32] s).length := by unfold pieces; simp
  have hle0 : (tnth (pieces [32] s) 0).length ≤ 1048576 := by
    rw [tnth_eq _ _ hpos]; exact Nat.le_trans (pieces_le _ (List.getElem_mem hpos)) hm
  have hle1 := Nat.le_trans (trimS_le (tnth (pieces [32] s) 0)) hle0
  have HTr := Lib.hid (fun w => trimS (tnth (pieces [32] s) 0) w hle0)
  have HH : Hid (∀ w, Calls Tryz.prog 15 #[.string (bstr (Lib.trimSuffix (tnth (pieces [32] s) 0) [58])), .string ⟨#[47]⟩] w (GivesS w (hdI s))) := fun w => iSplitAny (Lib.trimSuffix (tnth (pieces [32] s) 0) [58]) [47] w hle1
  have hlH := pieces_len [47] (Lib.trimSuffix (tnth (pieces [32] s) 0) [58])
  have HIn := Lib.hid (fun v w h => iInts v (hdI s) w h (by unfold hdI; omega) (fun x hx => Nat.le_trans (pieces_le x hx) hle1))
  have HPW := Lib.hid (fun j (hj : j < (pieces [32] s).length - 1) (c : hdOk (pieces [45, 61] (tnth (pieces [32] s) (j + 1))) = false) w' (g : Ge w w') => gives_f (w := w) (pnB_w (wiresOk_f hj c)) g)
  have HGt := Lib.hid (fun (h1 : wiresOk (pieces [32] s) ((pieces [32] s).length - 1) = true) (h2 : netTxt (pv (tnth (hdI s) 0)) (pv (tnth (hdI s) 1)) (pv (tnth (hdI s) 2)) ((pieces [32] s).length - 1) (wX (pieces [32] s) ((pieces [32] s).length - 1)) = s) v w' ho (g : Ge w w') => gives_t (w := w) (v := v) hok h1 h2 ho g)
  have HGf := Lib.hid (fun (h2 : ¬ netTxt (pv (tnth (hdI s) 0)) (pv (tnth (hdI s) 1)) (pv (tnth (hdI s) 2)) ((pieces [32] s).length - 1) (wX (pieces [32] s) ((pieces [32] s).length - 1)) = s) w' (g : Ge w w') => gives_f (w := w) (pnB_n h2) g)
  have HLe := Lib.hid (fun i (hi : i < (pieces [32] s).length) => (by rw [tnth_eq _ _ hi]; exact Nat.le_trans (pieces_le _ (List.getElem_mem hi)) hm : (tnth (pieces [32] s) i).length ≤ 1048576))
  obtain ⟨n, hn⟩ : ∃ n, (pieces [32] s).length = n := ⟨_, rfl⟩
  rw [hn] at HPW HLe HGt HGf
  have HN := Lib.hid hn
  obtain ⟨m, rfl⟩ : ∃ m, n = m + 1 := ⟨n - 1, by omega⟩
  have hn0 : 0 < m + 1 := by omega
  simp only [Nat.add_sub_cancel] at HPW HGt HGf
  have FR0 : ∀ w', Ge (w.alloc (.cells #[.int .i64 0, .int .i64 0, .int .i64 0, .slice none 0 0] 33)) w' → ResB w' w.heap.size := fun w' g => (ResB.new w _ _ rfl).ge g
  simp only [hdOk, Bool.and_eq_true, decide_eq_true_eq] at hok
  obtain ⟨hA, h3⟩ := hok
  have hRR : numsR (hdI s) = [pv (tnth (hdI s) 0), pv (tnth (hdI s) 1), pv (tnth (hdI s) 2)] := by unfold numsR; rw [if_pos hA, h3]; rfl
  have hnB : m ≤ 1048577 := by have := pieces_len [32] s; omega
  clear hle0 hle1 hlH hpos hn
  generalize pieces [32] s = l at *
  generalize hL0 : tnth l 0 = L0 at *
  generalize Lib.trimSuffix L0 [58] = L1 at *
  unfold GivesN at HIn
  rw [hA, hRR] at HIn
  generalize hdI s = H at *
  generalize hNN : pv (tnth H 0) = N at *
  generalize hEE : pv (tnth H 1) = E at *
  generalize hSS : pv (tnth H 2) = S at *
  go_enter Tryz.func20, Tryz.ntmps20
  go_upto_region 5 with (first
    | (go_at_call 15; ((with_reducible refine (HS.out _).mono ?_); rintro e w1 ⟨v1, rfl, o1, g1⟩); rw [HN.out] at o1; obtain ⟨gl, cl, rfl⟩ := Go.Joins.ownsRow_form o1 hn0; have y0 := own_strP o1 hn0; have RB := FR0 _ g1; have gw1 : Ge w w1 := Ge.trans (Ge.alloc (Ge.refl w) _) g1)
    | (go_at_call 32; ((with_reducible refine (HTr.out _).mono ?_); rintro e w' ⟨rfl, rfl⟩))
    | (go_at_call 15; ((with_reducible refine (HH.out _).mono ?_); rintro e w2 ⟨v2, rfl, o2, g2⟩); replace RB := RB.ge g2)
    | (go_at_call 21; ((with_reducible refine (HIn.out _ _ (SlS.of_owns o2)).mono ?_); rintro e w3 ⟨v3, rfl, o3, g3⟩); obtain ⟨gr, cr, rfl⟩ := Go.Joins.ownsRow_form (n := 3) o3 (by omega); replace RB := RB.ge g3; obtain ⟨b0, b1, b2, b3, b4, b5, b6, b7⟩ := RB))
  have x0 : w3.cell? ⟨gr, 0, none⟩ = some (.int .i64 N) := o3.cellAt 0 (by omega)
  have x1 : w3.cell? ⟨gr, 1, none⟩ = some (.int .i64 E) := o3.cellAt 1 (by omega)
  have x2 : w3.cell? ⟨gr, 2, none⟩ = some (.int .i64 S) := o3.cellAt 2 (by omega)
  go_cut [7] (fun sx wx => sx = .pointer (some ⟨w3.heap.size, 0, none⟩) ∧ wx.cell? ⟨w3.heap.size, 0, none⟩ = some (.int .i64 N) ∧ wx.cell? ⟨w3.heap.size, 1, none⟩ = some (.int .i64 E) ∧ wx.cell? ⟨w3.heap.size, 2, none⟩ = some (.int .i64 S) ∧ wx.cell? ⟨w3.heap.size, 3, none⟩ = some (.slice none 0 0) ∧ wx.frozen? ⟨w3.heap.size, 3, none⟩ = false ∧ Ge w3 wx)
  case first =>
    have hS : ∀ w', Ge w3 w' → (w'.cell? ⟨gr, 0, none⟩ = some (.int .i64 N) ∧ w'.cell? ⟨gr, 1, none⟩ = some (.int .i64 E) ∧ w'.cell? ⟨gr, 2, none⟩ = some (.int .i64 S) ∧ Ge w3 w') := fun w' g => ⟨g.keep x0, g.keep x1, g.keep x2, g⟩
    go_region_held3 (fun w' => w'.cell? ⟨gr, 0, none⟩ = some (.int .i64 N) ∧ w'.cell? ⟨gr, 1, none⟩ = some (.int .i64 E) ∧ w'.cell? ⟨gr, 2, none⟩ = some (.int .i64 S) ∧ Ge w3 w') (first | ((with_reducible refine hS _ ?_); exact kch) | fail) (fail)
    all_goals
      go_wp2_with fail
      go_meet
      exact ⟨rfl, cell_drew (cell_new rfl rfl), cell_drew (cell_new rfl rfl), cell_drew (cell_new rfl rfl), cell_drew (cell_new rfl rfl), froz_drew (froz_new rfl (v := .slice none 0 0) rfl), Ge.drew (Ge.alloc (Ge.refl _) _)⟩
  obtain ⟨rfl, k0, k1, k2, k3, kf, gB⟩ := hcut
  have ow := Ge.owns ((g2.trans g3).trans gB) o1
  have OW := Lib.hid ow
  have HW : ∀ (a : Addr) (q : Nat), (cl = 1 ∧ a = ⟨gl, 0, none⟩ ∨ a = ⟨gl, 1, none⟩) → ∀ j, j < m → ∃ b o, a = ⟨b, o, none⟩ ∧ wc.cell? ⟨b, o + j, none⟩ = some (.string (bstr (tnth l (j + 1)))) := fun a q ha j hj => by
    rcases ha with ⟨h1, rfl⟩ | rfl
    · exfalso
      rcases OW.out.2 with ⟨h', _⟩ | ⟨g', cap', cur, h', _, _, hnc, _⟩
      · simp at h'
      · simp at h'
        omega
    · exact ⟨gl, 1, rfl, by rw [Nat.add_comm 1 j]; exact own_strP OW.out (by omega)⟩
  clear ow
  go_upto_region 6 with (fail)
  go_cut [42, 43, 44] (fun v k i wx => ∃ (a : Addr) (q : Nat), v = .slice (some a) m q ∧ k = .int .i64 (m : Int) ∧ i = .int .i64 ((0 : Nat) : Int) ∧ wc = wx ∧ Hid (∀ j, j < m → ∃ b o, a = ⟨b, o, none⟩ ∧ wc.cell? ⟨b, o + j, none⟩ = some (.string (bstr (tnth l (j + 1))))))
  case first =>
    by_cases hcl : cl = 1
    · have hc1 : (cl = 1) = True := eq_true hcl
      go_wp2_with fail
      go_meet
      exact ⟨⟨gl, 0, none⟩, 0, rfl, rfl, rfl, rfl, HW _ 0 (Or.inl ⟨hcl, rfl⟩)⟩
    · have hc1 : (cl = 1) = False := eq_false hcl
      go_wp2_with fail
      go_meet
      exact ⟨⟨gl, 1, none⟩, cl - 1, rfl, rfl, rfl, rfl, HW _ 0 (Or.inr rfl)⟩
  obtain ⟨ad, qd, rfl, rfl, rfl, rfl, HWd⟩ := hcut
  clear HW
  have RBc := Lib.hid (ResB.ge (⟨b0, b1, b2, b3, b4, b5, b6, b7⟩ : ResB w3 w.heap.size) gB)
  have gwc : Ge w wc := Ge.trans gw1 (Ge.trans (Ge.trans g2 g3) gB)
  have zgb := World.block_lt_of_cell? _ _ k0
  simp at zgb
  have zrb : w.heap.size < w3.heap.size := World.block_lt_of_cell? _ _ b0
  clear b0 b1 b2 b3 b4 b5 b6 b7 x0 x1 x2 o3 y0 o2
  generalize w3.heap.size = G at *
  go_wp2_with fail
  go_loopw [44] (fun i wr => ∃ (j : Nat) (u : Value), j ≤ m ∧ i = .int .i64 j ∧ Hid (∀ e, e < j → hdOk (pieces [45, 61] (tnth l (e + 1))) = true) ∧ wr.cell? ⟨G, 3, none⟩ = some u ∧ wr.frozen? ⟨G, 3, none⟩ = false ∧ wr.ownsRow wc.heap.size 45 3 u j (icells (wX l j)) ∧ GeX ⟨G, 3, none⟩ wc wr ∧ Ge w wr) (fun i _ => m - (intOf i).toNat)
  case atStart => exact ⟨0, _, Nat.zero_le _, rfl, fun e he => by omega, k3, kf, owns_nil3 _ _ _, GeX.refl _ _, kge⟩
  case round =>
    obtain ⟨j, u, hj, rfl, HOk, c3, cf, hown, hx, hg⟩ := hrel
    have RBr := RBc.out.gex hx (by omega)
    have d0 := hx.1 ⟨G, 0, none⟩ _ (by simp) k0
    have d1 := hx.1 ⟨G, 1, none⟩ _ (by simp) k1
    have d2 := hx.1 ⟨G, 2, none⟩ _ (by simp) k2
    by_cases hlt : j < m
    · obtain ⟨b, o, rfl, z0⟩ := HWd.out j hlt
      have zw := hx.1 ⟨b, o + j, none⟩ _ (fun e => by rw [e, k3] at z0; cases z0) z0
      have hT : (tnth l (j + 1)).length ≤ 1048576 := HLe.out (j + 1) (by omega)
      have HSw : Hid (∀ w, Calls Tryz.prog 15 #[.string (bstr (tnth l (j + 1))), .string ⟨#[45, 61]⟩] w (GivesS w (pieces [45, 61] (tnth l (j + 1))))) := fun w => iSplitAny (tnth l (j + 1)) [45, 61] w hT
      have hpl := pieces_len [45, 61] (tnth l (j + 1))
      have HIw := Lib.hid (fun v w h => iInts v (pieces [45, 61] (tnth l (j + 1))) w h (by omega) (fun x hx => Nat.le_trans (pieces_le x hx) hT))
      have hRl : (numsR (pieces [45, 61] (tnth l (j + 1)))).length ≤ 1048577 := by
        unfold numsR
        split
        · rw [nums_length]; omega
        · simp
      have HBad := Lib.hid (fun c w' g => HPW.out j hlt c w' g)
      have HSt : Hid (wX l j ++ [pv (tnth (pieces [45, 61] (tnth l (j + 1))) 0), pv (tnth (pieces [45, 61] (tnth l (j + 1))) 1), pv (tnth (pieces [45, 61] (tnth l (j + 1))) 2)] = wX l (j + 1)) := rfl
      unfold GivesN at HIw
      generalize hTj : tnth l (j + 1) = T at *
      have HTj := Lib.hid hTj
      clear hTj
      generalize hP : pieces [45, 61] T = P at *
      clear hpl hT
      by_cases hA2 : allB P = true
      · by_cases hP3 : P.length = 3
        · have hRX : numsR P = [pv (tnth P 0), pv (tnth P 1), pv (tnth P 2)] := by unfold numsR; rw [if_pos hA2, hP3]; rfl
          have hok2 : hdOk P = true := by unfold hdOk; rw [hA2, hP3]; rfl
          have HOk2 : Hid (∀ e, e < j + 1 → hdOk (pieces [45, 61] (tnth l (e + 1))) = true) := fun e he => by
            by_cases ee : e = j
            · rw [ee, HTj.out, hP]; exact hok2
            · exact HOk.out e (by omega)
          rw [hA2, hRX] at HIw
          generalize pv (tnth P 0) = X at *
          generalize pv (tnth P 1) = Y at *
          generalize pv (tnth P 2) = Z at *
          generalize wX l j = L at *
          clear HBad hRX hok2 hP3 hRl HOk
          go_wp2_with (first
            | (go_at_call 15; ((with_reducible refine (HSw.out _).mono ?_); rintro e w5 ⟨v5, rfl, o5, g5⟩))
            | (go_at_call 21; ((with_reducible refine (HIw.out _ _ (SlS.of_owns o5)).mono ?_); rintro e w6 ⟨v6, rfl, o6, g6⟩); obtain ⟨gr2, cr2, rfl⟩ := Go.Joins.ownsRow_form (n := 3) o6 (by omega)))
          have g56 := Ge.trans g5 g6
          have r0 : w6.cell? ⟨gr2, 0, none⟩ = some (.int .i64 X) := o6.cellAt 0 (by omega)
          have r1 : w6.cell? ⟨gr2, 1, none⟩ = some (.int .i64 Y) := o6.cellAt 1 (by omega)
          have r2 : w6.cell? ⟨gr2, 2, none⟩ = some (.int .i64 Z) := o6.cellAt 2 (by omega)
          have s3 := g56.keep c3
          have s4 := g56.keepF c3 cf
          have own6 := Ge.owns g56 hown
          have hx6 := hx.ge ⟨_, c3⟩ g56
          have hgr := (o6.lt gr2 rfl).1
          have zz := g5.size
          have bu : ∀ k, u.ownBlock = some k → gr2 ≠ k := fun k hk e => by have := (hown.lt k hk).2; omega
          have bG : ∀ k, u.ownBlock = some k → G ≠ k := fun k hk e => by have := (hown.lt k hk).1; omega
          clear c3 cf
          have hx6e : ∃ z, w6.cell? ⟨G, 3, none⟩ = some z := ⟨_, s3⟩
          have zG6 : G < w6.heap.size := World.block_lt_of_cell? _ _ s3
          have zr6 : gr2 < w6.heap.size := World.block_lt_of_cell? _ _ r0
          have HOwn := Lib.hid (Ge.owns (Ge.drew (Ge.refl w6)) own6)
          have HZ6 : Hid (wc.heap.size ≤ w6.drew.heap.size) := hx6.2.2
          have hjn : j < 1099511627776 := by omega
          have k3' : (w6.drew.alloc (.cells #[.int .i64 X, .int .i64 Y, .int .i64 Z] 45)).cell? ⟨G, 3, none⟩ = some u := cell_alloc s3
          have k4' : (w6.drew.alloc (.cells #[.int .i64 X, .int .i64 Y, .int .i64 Z] 45)).frozen? ⟨G, 3, none⟩ = false := Ge.keepF (Ge.alloc (Ge.drew (Ge.refl w6)) _) s3 s4
          have K3 := Lib.hid k3'
          have K4 := Lib.hid k4'
          clear k3' k4'
          obtain ⟨v8, w8, hr8, own8, m8⟩ := run_wire wc.heap.size u j L HOwn.out HZ6.out X Y Z hjn
          obtain ⟨p8, c8, rfl⟩ := owns_form own8
          have HR8 := Lib.hid hr8
          have t3 := mine_cell m8 K3.out bG
          have t4 := mine_froz m8 K3.out K4.out bG
          have q0 := mine_cell m8 (cell_alloc (o := .cells #[.int .i64 X, .int .i64 Y, .int .i64 Z] 45) (cell_drew r0)) bu
          have q1 := mine_cell m8 (cell_alloc (o := .cells #[.int .i64 X, .int .i64 Y, .int .i64 Z] 45) (cell_drew r1)) bu
          have q2 := mine_cell m8 (cell_alloc (o := .cells #[.int .i64 X, .int .i64 Y, .int .i64 Z] 45) (cell_drew r2)) bu
          have gA : Ge w (w6.drew.alloc (.cells #[.int .i64 X, .int .i64 Y, .int .i64 Z] 45)) := Ge.alloc (Ge.drew (Ge.trans hg g56)) _
          have G8 : Ge w w8 := gA.mine (HOwn.out.alloc _) (by omega) m8
          have hx8 : GeX ⟨G, 3, none⟩ wc w8 := GeX.mine (hx6.ge hx6e (Ge.alloc (Ge.drew (Ge.refl _)) _)) (HOwn.out.alloc _) (Nat.le_refl _) m8
          have fin0 := cell_same2 (u := .slice p8 (j + 1) c8) (cv_some t3)
          have HFin := Lib.hid (And.intro fin0 (And.intro (froz_set (b := ⟨G, 3, none⟩) (u := .slice p8 (j + 1) c8) t4) (And.intro (owns_set (o := 3) own8 zgb (.slice p8 (j + 1) c8)) (And.intro (hx8.set (.slice p8 (j + 1) c8)) (Ge.setCell G8 (p := ⟨G, 3, none⟩) (by show w.heap.size ≤ G; omega) (.slice p8 (j + 1) c8))))))
          rw [HSt.out] at HFin
          clear fin0 hx8 G8 gA own8 m8 hr8
          refine wp_region_head (S := fun w' => w'.cell? ⟨G, 3, none⟩ = some u ∧ w'.cell? ⟨gr2, 0, none⟩ = some (.int .i64 X) ∧ w'.cell? ⟨gr2, 1, none⟩ = some (.int .i64 Y) ∧ w'.cell? ⟨gr2, 2, none⟩ = some (.int .i64 Z)) 15 (by kernel_rfl) (by kernel_rfl) (⟨cell_drew s3, cell_drew r0, cell_drew r1, cell_drew r2⟩) (fun hHeld => ?_)
          refine head_takeR 0 (v := ?_) rfl ?_ ?_; rotate_left; (focus (intro w' hSw; (try dsimp only at hSw); go_simp; (try with_reducible rfl))); (try simp only [Act.put, hnA, hnB, hnC])
          refine head_takeR 1 (v := ?_) rfl ?_ ?_; rotate_left; (focus (intro w' hSw; (try dsimp only at hSw); go_simp; (try with_reducible rfl))); (try simp only [Act.put, hnA, hnB, hnC])
          refine head_takeR 2 (v := ?_) rfl ?_ ?_; rotate_left; (focus (intro w' hSw; (try dsimp only at hSw); go_simp; (try with_reducible rfl))); (try simp only [Act.put, hnA, hnB, hnC])
          refine head_takeR 3 (v := ?_) rfl ?_ ?_; rotate_left; (focus (intro w' hSw; (try dsimp only at hSw); go_simp; (try with_reducible rfl))); (try simp only [Act.put, hnA, hnB, hnC])
          refine head_takeR 4 (v := ?_) rfl ?_ ?_; rotate_left; (focus (intro w' hSw; (try dsimp only at hSw); go_simp; (try with_reducible rfl))); (try simp only [Act.put, hnA, hnB, hnC])
          refine head_takeR 5 (v := ?_) rfl ?_ ?_; rotate_left; (focus (intro w' hSw; (try dsimp only at hSw); go_simp; (try with_reducible rfl))); (try simp only [Act.put, hnA, hnB, hnC])
          refine head_takeR 6 (v := ?_) rfl ?_ ?_; rotate_left; (focus (intro w' hSw; (try dsimp only at hSw); go_simp; (try with_reducible rfl))); (try simp only [Act.put, hnA, hnB, hnC])
          refine head_takeR 7 (v := ?_) rfl ?_ ?_; rotate_left; (focus (intro w' hSw; (try dsimp only at hSw); go_simp; (try with_reducible rfl))); (try simp only [Act.put, hnA, hnB, hnC])
          refine head_takeR 8 (v := ?_) rfl ?_ ?_; rotate_left; (focus (intro w' hSw; (try dsimp only at hSw); go_simp; (try with_reducible rfl))); (try simp only [Act.put, hnA, hnB, hnC])
          refine head_takeR 9 (v := ?_) rfl ?_ ?_; rotate_left; (focus (intro w' hSw; (try dsimp only at hSw); go_simp; (try with_reducible rfl))); (try simp only [Act.put, hnA, hnB, hnC])
          refine head_takeR 10 (v := ?_) rfl ?_ ?_; rotate_left; (focus (intro w' hSw; (try dsimp only at hSw); go_simp; (try with_reducible rfl))); (try simp only [Act.put, hnA, hnB, hnC])
          refine head_takeR 11 (v := ?_) rfl ?_ ?_; rotate_left; (focus (intro w' hSw; (try dsimp only at hSw); go_simp; (try with_reducible rfl))); (try simp only [Act.put, hnA, hnB, hnC])
          refine head_one 12 rfl (by kernel_rfl) (fun K hK => ?_)
          go_simp
          refine hK.out _ _ ⟨cell_alloc (cell_drew s3), cell_alloc (cell_drew r0), cell_alloc (cell_drew r1), cell_alloc (cell_drew r2)⟩ (fun hHeld => ?_)
          clear hK K
          (try simp only [Act.put, hnA, hnB, hnC])
          refine head_one 13 rfl (by kernel_rfl) (fun K hK => ?_)
          rw [if_pos (by rfl)]
          refine step_run _ _ rfl rfl (v := u) rfl rfl HR8.out ?_
          refine hK.out _ _ ⟨t3, q0, q1, q2⟩ (fun hHeld => ?_)
          clear hK K
          (try simp only [Act.put, hnA, hnB, hnC])
          refine head_takeR 14 (v := ?_) rfl ?_ ?_; rotate_left; (focus (intro w' hSw; (try dsimp only at hSw); go_simp; (try with_reducible rfl))); (try simp only [Act.put, hnA, hnB, hnC])
          refine head_done (by kernel_rfl) ?_
          go_wp2_with fail
          go_roundw
          case rel => exact ⟨j + 1, .slice p8 (j + 1) c8, by omega, by go_num, HOk2.out, HFin.out.1, HFin.out.2.1, HFin.out.2.2.1, HFin.out.2.2.2.1, HFin.out.2.2.2.2⟩
          case measure => simp [intOf]; omega
        · have hbad2 : hdOk P = false := by unfold hdOk; rw [decide_eq_false hP3, Bool.and_false]
          have GF2 := Lib.hid (fun w' g => HBad.out hbad2 w' g)
          have hRk : (numsR P).length = P.length := by unfold numsR; rw [if_pos hA2, nums_length]
          have tk : (((numsR P).length : Int) != 3) = true := by simp; omega
          rw [hA2] at HIw
          generalize numsR P = R2 at *
          clear HBad hRk hP3
          go_wp2_with (first
            | (go_at_call 15; ((with_reducible refine (HSw.out _).mono ?_); rintro e w5 ⟨v5, rfl, o5, g5⟩); replace RBr := RBr.ge g5)
            | (go_at_call 21; ((with_reducible refine (HIw.out _ _ (SlS.of_owns o5)).mono ?_); rintro e w6 ⟨v6, rfl, o6, g6⟩); obtain ⟨p6, c6, rfl⟩ := owns_form o6; replace RBr := RBr.ge g6; obtain ⟨b0, b1, b2, b3, b4, b5, b6, b7⟩ := RBr))
          exact bodyPost_ret (v := .tuple #[.agg #[.int .i64 0, .int .i64 0, .int .i64 0, .slice none 0 0], .bool false]) (by simp [results, Tryz.results20, go_sem, *]) rfl (GF2.out _ (kge))
      · have hA3 : allB P = false := by simpa using hA2
        have hbad2 : hdOk P = false := by unfold hdOk; rw [hA3]; rfl
        have GF2 := Lib.hid (fun w' g => HBad.out hbad2 w' g)
        rw [hA3] at HIw
        generalize numsR P = R2 at *
        clear HBad
        go_wp2_with (first
          | (go_at_call 15; ((with_reducible refine (HSw.out _).mono ?_); rintro e w5 ⟨v5, rfl, o5, g5⟩); replace RBr := RBr.ge g5)
          | (go_at_call 21; ((with_reducible refine (HIw.out _ _ (SlS.of_owns o5)).mono ?_); rintro e w6 ⟨v6, rfl, o6, g6⟩); obtain ⟨p6, c6, rfl⟩ := owns_form o6; replace RBr := RBr.ge g6; obtain ⟨b0, b1, b2, b3, b4, b5, b6, b7⟩ := RBr))
        exact bodyPost_ret (v := .tuple #[.agg #[.int .i64 0, .int .i64 0, .int .i64 0, .slice none 0 0], .bool false]) (by simp [results, Tryz.results20, go_sem, *]) rfl (GF2.out _ (kge))
    · have hjm : m = j := by omega
      subst hjm
      have HFm := Lib.hid (iFormatNet N E S u m (wX l m) wr (SlF.of_owns hown) (by omega))
      have hwk := wiresOk_t HOk.out
      have HG2 := Lib.hid (fun h2 w' ho g => HGt.out hwk h2 u w' ho g)
      clear hwk HGt
      generalize wX l m = L at *
      obtain ⟨pu, cu, rfl⟩ := owns_form hown
      have zwc : w.heap.size < wc.heap.size := by omega
      by_cases hT : netTxt N E S m L = s
      · have HG3 := Lib.hid (fun w' ho g => HG2.out hT w' ho g)
        rw [hT] at HFm
        clear hT HG2 HGf
        go_wp2_with (go_at_call 23; ((with_reducible refine (HFm.out).mono ?_); rintro e w9 ⟨rfl, g9⟩); have e0 := g9.keep d0; have e1 := g9.keep d1; have e2 := g9.keep d2; have e3 := g9.keep c3; replace RBr := RBr.ge g9; obtain ⟨b0, b1, b2, b3, b4, b5, b6, b7⟩ := RBr; have own9 := Ge.owns g9 hown)
        exact bodyPost_ret (v := .tuple #[.agg #[.int .i64 N, .int .i64 E, .int .i64 S, .slice pu m cu], .bool true]) (by simp [results, Tryz.results20, go_sem, *]) rfl (HG3.out _ (by refine owns_mono (base := wc.heap.size) ?_ (by omega); repeat (first | exact own9 | refine owns_set ?_ zwc _)) (kge))
      · have GF3 := Lib.hid (fun w' g => HGf.out hT w' g)
        have tn := bstr_neq hT
        clear HG2 HGf
        generalize netTxt N E S m L = TX at *
        go_wp2_with (go_at_call 23; ((with_reducible refine (HFm.out).mono ?_); rintro e w9 ⟨rfl, g9⟩); have e0 := g9.keep d0; have e1 := g9.keep d1; have e2 := g9.keep d2; have e3 := g9.keep c3; replace RBr := RBr.ge g9; obtain ⟨b0, b1, b2, b3, b4, b5, b6, b7⟩ := RBr; have own9 := Ge.owns g9 hown)
        exact bodyPost_ret (v := .tuple #[.agg #[.int .i64 0, .int .i64 0, .int .i64 0, .slice none 0 0], .bool false]) (by simp [results, Tryz.results20, go_sem, *]) rfl (GF3.out _ (kge))

end Go.Proofs.YtagiecajffhnpaaGreat

namespace Go.Proofs.YtagiecajffhnpaaGreat
set_option maxRecDepth 100000
open Go.ChangeShapes Go.WideShapes Go.ChangeAt Go.RowKit Go.Joins

end Go.Proofs.YtagiecajffhnpaaGreat

namespace Go.Proofs.YtagiecajffhnpaaGreat

open Go.RowKit

/-- The value v reads as the network n. -/
def IsNet (w : World) (v : Value) (n : Nt) : Prop := ∃ s, v = .agg #[.int .i64 n.nodes, .int .i64 n.ends, .int .i64 n.scale, s] ∧ SlF w s n.wires.length 3 (flatW n.wires)
/-- The value v is the network n, in memory of its own from block base on. -/
def OwnsNet (w : World) (base : Nat) (v : Value) (n : Nt) : Prop :=
  ∃ s, v = .agg #[.int .i64 n.nodes, .int .i64 n.ends, .int .i64 n.scale, s] ∧ w.ownsRow base 45 3 s n.wires.length (icells (flatW n.wires))
theorem OwnsNet.is {w : World} {base : Nat} {v : Value} {n : Nt} (h : OwnsNet w base v n) : IsNet w v n := by
  obtain ⟨s, hv, ho⟩ := h; exact ⟨s, hv, SlF.of_owns ho⟩
theorem IsNet.ge {w w' : World} {v : Value} {n : Nt} (h : IsNet w v n) (hg : Ge w w') : IsNet w' v n := by
  obtain ⟨s, hv, ho⟩ := h; exact ⟨s, hv, ho.ge hg⟩
theorem OwnsNet.ge {w w' : World} {base : Nat} {v : Value} {n : Nt} (h : OwnsNet w base v n) (hg : Ge w w') : OwnsNet w' base v n := by
  obtain ⟨s, hv, ho⟩ := h; exact ⟨s, hv, hg.owns ho⟩

end Go.Proofs.YtagiecajffhnpaaGreat

namespace Go.Proofs.YtagiecajffhnpaaGreat
set_option maxRecDepth 100000
open Go.ChangeShapes Go.WideShapes Go.ChangeAt Go.RowKit Go.Joins

/-- A network of its own memory, and whether there is one. -/
def GivesNB (w : World) (n : Nt) (B : Bool) (e : Ending) (w' : World) : Prop :=
  ∃ s, e = .returned (.tuple #[.agg #[.int .i64 n.nodes, .int .i64 n.ends, .int .i64 n.scale, s], .bool B]) ∧ w'.ownsRow w.heap.size 45 3 s n.wires.length (icells (flatW n.wires)) ∧ Ge w w'
noncomputable def wL (l : List (List UInt8)) : Nat → List Wr
  | 0 => []
  | k + 1 => wL l k ++ [⟨pv (tnth (pieces [45, 61] (tnth l (k + 1))) 0), pv (tnth (pieces [45, 61] (tnth l (k + 1))) 1), pv (tnth (pieces [45, 61] (tnth l (k + 1))) 2)⟩]
theorem wL_flat (l : List (List UInt8)) : ∀ k, flatW (wL l k) = wX l k ∧ (wL l k).length = k
  | 0 => ⟨rfl, rfl⟩
  | k + 1 => by
    obtain ⟨h1, h2⟩ := wL_flat l k
    refine ⟨?_, by simp [wL, h2]⟩
    simp only [wL, wX, flatW_append, h1, flatW]
/-- The network that a text names. -/
noncomputable def pnN (s : List UInt8) : Nt := ⟨pnV s 0, pnV s 1, pnV s 2, if pnB (hdI s) s = true then wL (pieces [32] s) ((pieces [32] s).length - 1) else []⟩
theorem pnN_w (s : List UInt8) : (pnN s).wires.length = pnM s ∧ flatW (pnN s).wires = pnX s := by
  unfold pnN pnM pnX
  simp only
  split
  · exact ⟨(wL_flat _ _).2, (wL_flat _ _).1⟩
  · exact ⟨rfl, rfl⟩
theorem givesNB {w w' : World} {s : List UInt8} {e : Ending} (h : GivesP w s e w') : GivesNB w (pnN s) (pnB (hdI s) s) e w' := by
  obtain ⟨v, h1, h2, h3⟩ := h
  exact ⟨v, h1, by rw [(pnN_w s).1, (pnN_w s).2]; exact h2, h3⟩
theorem iParseNet (s : List UInt8) (w : World) (hm : s.length ≤ 1048576) : Calls Tryz.prog 20 #[.string (bstr s)] w (GivesNB w (pnN s) (pnB (hdI s) s)) := by
  cases h : hdOk (hdI s) with
  | true => exact (iParseNetB s w hm h).mono fun _ _ => givesNB
  | false => exact (iParseNetA s w hm h).mono fun _ _ => givesNB
end Go.Proofs.YtagiecajffhnpaaGreat

namespace Go.Proofs.YtagiecajffhnpaaGreat
set_option maxRecDepth 100000
open Go.ChangeShapes Go.WideShapes Go.ChangeAt Go.RowKit Go.Joins

/-- Each square stands behind the one before it. -/
def ordC (n : Nat) (xs : List Int) : Prop := ∀ k, k + 1 < n → ¬ cmpSq (nth xs ((k + 1) * 3)) (nth xs ((k + 1) * 3 + 1)) (nth xs (k * 3)) (nth xs (k * 3 + 1)) < 0
set_option maxHeartbeats 3200000 in
theorem insSq (v : Value) (n : Nat) (xs : List Int) (w : World) (h : SlF w v n 3 xs) (hn : n ≤ 12) (ho : ordC n xs) (fv : Value) (hf : fv = .func (.func 95) #[] #[]) :
    Calls Tryz.prog 135 #[v, .int .i64 0, .int .i64 (n : Int), fv] w fun e w' => e = .returned (.tuple #[]) ∧ Ge w w' := by
  subst hf
  obtain ⟨p, c, rfl, hc⟩ := h.open
  have HC := Lib.hid hc
  have HO := Lib.hid ho
  clear h hc ho
  go_enter Tryz.func135, Tryz.ntmps135
  go_wp2_with fail
  go_loopw [8] (fun i wr => ∃ k : Nat, 1 ≤ k ∧ (k ≤ n ∨ k = 1) ∧ i = .int .i64 k ∧ Ge w wr) (fun i _ => (n + 1) - (intOf i).toNat)
  case atStart => exact ⟨1, by omega, .inr rfl, by go_num, Ge.refl _⟩
  case round =>
    obtain ⟨k, hk1, hk, rfl, hg⟩ := hrel
    by_cases hlt : k < n
    · obtain ⟨k', hk'⟩ : ∃ k', k = k' + 1 := ⟨k - 1, by omega⟩
      obtain ⟨b, o, rfl, x0, x1, x2⟩ := three_cells HC.out hlt
      obtain ⟨b', o', he, y0, y1, y2⟩ := three_cells HC.out (show k' < n by omega)
      simp only [Option.some.injEq, Addr.mk.injEq, and_true] at he
      obtain ⟨rfl, rfl⟩ := he
      have ho := HO.out k' (by omega)
      rw [← hk'] at ho
      replace x0 := hg.keep x0
      replace x1 := hg.keep x1
      replace x2 := hg.keep x2
      replace y0 := hg.keep y0
      replace y1 := hg.keep y1
      replace y2 := hg.keep y2
      generalize nth xs (k * 3) = X0 at *
      generalize nth xs (k * 3 + 1) = X1 at *
      generalize nth xs (k * 3 + 2) = X2 at *
      generalize nth xs (k' * 3) = Y0 at *
      generalize nth xs (k' * 3 + 1) = Y1 at *
      generalize nth xs (k' * 3 + 2) = Y2 at *
      have HB := Lib.hid (fun w' => iByPlace X0 X1 X2 Y0 Y1 Y2 w')
      generalize cmpSq X0 X1 Y0 Y1 = CM at *
      have i0 : (0 : Int) ≤ (k' : Int) := by omega
      have i1 : (k' : Int) < (n : Int) := by omega
      have i2 : k' < n := by omega
      subst hk'
      have i3 : (0 : Int) < ((k' + 1 : Nat) : Int) := by omega
      have i5 : ((k' + 1 : Nat) : Int) < (n : Int) := by omega
      have i6 : k' + 1 < n := by omega
      have i7 : (k' : Int) + 1 < (n : Int) := by omega
      have i8 : (0 : Int) ≤ (k' : Int) + 1 := by omega
      have i9 : (0 : Int) < (k' : Int) + 1 := by omega
      have tw : IntKind.i64.wrap ((k' : Int) + 1 - 1) = (k' : Int) := by rw [show (k' : Int) + 1 - 1 = (k' : Int) by omega]; exact IntWalk.i64_in _ (by omega)
      have tw2 : IntKind.i64.wrap (k' : Int) = (k' : Int) := IntWalk.i64_in _ (by omega)
      go_wp2_with fail
      obtain ⟨wa, hwa⟩ : ∃ wa, wa = wr := ⟨_, rfl⟩
      subst hwa
      go_loopw [9] (fun j wr => j = .int .i64 ((k' : Int) + 1) ∧ wr = wa) (fun _ _ => 0)
      case atStart => exact ⟨by go_num, rfl⟩
      case round =>
        obtain ⟨rfl, rfl⟩ := hrel
        go_wp2_with fail
        have hS : ∀ w', Ge wr w' → (w'.cell? ⟨b, o + (k' + 1) * 3, none⟩ = some (.int .i64 X0) ∧ w'.cell? ⟨b, o + (k' + 1) * 3 + 1, none⟩ = some (.int .i64 X1) ∧ w'.cell? ⟨b, o + (k' + 1) * 3 + 2, none⟩ = some (.int .i64 X2) ∧ w'.cell? ⟨b, o + k' * 3, none⟩ = some (.int .i64 Y0) ∧ w'.cell? ⟨b, o + k' * 3 + 1, none⟩ = some (.int .i64 Y1) ∧ w'.cell? ⟨b, o + k' * 3 + 2, none⟩ = some (.int .i64 Y2) ∧ Ge wr w') := fun w' g => ⟨g.keep (kch), g.keep (kch), g.keep (kch), g.keep (kch), g.keep (kch), g.keep (kch), Ge.trans (kch) g⟩
        go_region_held3 (fun w' => w'.cell? ⟨b, o + (k' + 1) * 3, none⟩ = some (.int .i64 X0) ∧ w'.cell? ⟨b, o + (k' + 1) * 3 + 1, none⟩ = some (.int .i64 X1) ∧ w'.cell? ⟨b, o + (k' + 1) * 3 + 2, none⟩ = some (.int .i64 X2) ∧ w'.cell? ⟨b, o + k' * 3, none⟩ = some (.int .i64 Y0) ∧ w'.cell? ⟨b, o + k' * 3 + 1, none⟩ = some (.int .i64 Y1) ∧ w'.cell? ⟨b, o + k' * 3 + 2, none⟩ = some (.int .i64 Y2) ∧ Ge wr w') (first | ((with_reducible refine hS _ ?_); exact kch) | fail) (first | (go_at_call 95; ((with_reducible refine (HB.out _).mono ?_); rintro e w' ⟨rfl, hb⟩); have hz := Ge.size hb; (try simp at hz)) | fail)
        rename_i hHeldX
        obtain ⟨q0, q1, q2, q3, q4, q5, G7⟩ := hHeldX
        clear hS
        go_wp2_with fail
        go_roundw
        case rel => exact ⟨k' + 2, by omega, by omega, by go_num, Ge.trans hg G7⟩
        case measure => simp [intOf]; omega
    · go_wp2_with fail
      exact bodyPost_end (v := .tuple #[]) (by simp [results, Tryz.results135, go_sem]) rfl ⟨rfl, hg⟩

set_option maxHeartbeats 1600000 in
theorem pdqSq (v : Value) (n : Nat) (xs : List Int) (lim : Int) (w : World) (h : SlF w v n 3 xs) (hn : n ≤ 12) (ho : ordC n xs) (fv : Value) (hf : fv = .func (.func 95) #[] #[]) :
    Calls Tryz.prog 123 #[v, .int .i64 0, .int .i64 (n : Int), .int .i64 lim, fv] w fun e w' => e = .returned (.tuple #[]) ∧ Ge w w' := by
  have HI := Lib.hid (insSq v n xs w h hn ho fv hf)
  obtain ⟨p, c, rfl, hc⟩ := h.open
  clear h hc ho
  subst hf
  go_enter Tryz.func123, Tryz.ntmps123
  go_wp2_with fail
  go_loopw [1, 2] (fun a b wr => a = .int .i64 0 ∧ b = .int .i64 (n : Int) ∧ wr = w) (fun _ _ _ => 0)
  case atStart => exact ⟨rfl, rfl, rfl⟩
  case round =>
    obtain ⟨rfl, rfl, rfl⟩ := hrel
    go_wp2_with (go_at_call 135; ((with_reducible refine (HI.out).mono ?_); rintro e w' ⟨rfl, g⟩))
    exact bodyPost_ret (v := .tuple #[]) (by simp [results, Tryz.results123, go_sem]) rfl ⟨rfl, g⟩

set_option maxHeartbeats 1600000 in
theorem sortSq (v : Value) (n : Nat) (xs : List Int) (w : World) (h : SlF w v n 3 xs) (hn : n ≤ 12) (ho : ordC n xs) (fv : Value) (hf : fv = .func (.func 95) #[] #[]) :
    Calls Tryz.prog 94 #[v, fv] w fun e w' => e = .returned (.tuple #[]) ∧ Ge w w' := by
  have HP := Lib.hid (fun lim w' (g : Ge w w') => pdqSq v n xs lim w' (h.ge g) hn ho fv hf)
  have HL := Lib.hid (fun w' => Tryz.bits_Len (n : Int) w' (by omega) (by omega))
  obtain ⟨p, c, rfl, hc⟩ := h.open
  clear h hc ho
  subst hf
  go_enter Tryz.func94, Tryz.ntmps94
  go_wp2_with (first
    | (go_at_call 124; ((with_reducible refine (HL.out _).mono ?_); rintro e w' ⟨rfl, rfl⟩))
    | (go_at_call 123; ((with_reducible refine (HP.out _ _ (Ge.refl _)).mono ?_); rintro e w' ⟨rfl, g⟩)))
  exact bodyPost_end (v := .tuple #[]) (by simp [results, Tryz.results94, go_sem]) rfl ⟨rfl, g⟩
end Go.Proofs.YtagiecajffhnpaaGreat

namespace Go.Proofs.YtagiecajffhnpaaGreat

open Go.RowKit

structure CutS where
  w : Nat
  h : Nat
  x : Nat
  y : Nat
def stepC (s : CutS) : CutS := if s.h < s.w then ⟨s.w - s.h, s.h, s.x + s.h, s.y⟩ else ⟨s.w, s.h - s.w, s.x, s.y + s.w⟩
def stC (w h : Nat) : Nat → CutS
  | 0 => ⟨w, h, 0, 0⟩
  | k + 1 => stepC (stC w h k)
def stopC (w h k : Nat) : Prop := (stC w h k).w = 0 ∨ (stC w h k).h = 0
instance (w h k : Nat) : Decidable (stopC w h k) := by unfold stopC; exact inferInstance
/-- The first k squares: x, y and size of each. -/
def cutX (w h : Nat) : Nat → List Int
  | 0 => []
  | k + 1 => cutX w h k ++ [((stC w h k).x : Int), ((stC w h k).y : Int), ((min (stC w h k).w (stC w h k).h : Nat) : Int)]
theorem cutX_length (w h : Nat) : ∀ k, (cutX w h k).length = k * 3
  | 0 => rfl
  | k + 1 => by simp [cutX, cutX_length w h k]; omega
theorem cutX_nth {w h : Nat} : ∀ {k j : Nat}, j < k → nth (cutX w h k) (j * 3) = (stC w h j).x ∧ nth (cutX w h k) (j * 3 + 1) = (stC w h j).y
  | 0, j, hj => by omega
  | k + 1, j, hj => by
    have hl := cutX_length w h k
    have e1 : cutX w h (k + 1) = cutX w h k ++ [((stC w h k).x : Int), ((stC w h k).y : Int), ((min (stC w h k).w (stC w h k).h : Nat) : Int)] := rfl
    rw [e1]
    by_cases e : j = k
    · subst e
      unfold nth
      constructor
      · rw [List.getD_eq_getElem?_getD, List.getElem?_append_right (by omega), hl, Nat.sub_self]; rfl
      · rw [List.getD_eq_getElem?_getD, List.getElem?_append_right (by omega), hl, show j * 3 + 1 - j * 3 = 1 by omega]; rfl
    · have h1 := cutX_nth (w := w) (h := h) (k := k) (j := j) (by omega)
      unfold nth at *
      rw [List.getD_eq_getElem?_getD, List.getD_eq_getElem?_getD, List.getElem?_append_left (by omega), List.getElem?_append_left (by omega), ← List.getD_eq_getElem?_getD, ← List.getD_eq_getElem?_getD]
      exact h1
theorem stC_bd {w h : Nat} (hw : w ≤ 200) (hh : h ≤ 200) : ∀ k, (stC w h k).w + (stC w h k).x = w ∧ (stC w h k).h + (stC w h k).y = h
  | 0 => ⟨rfl, rfl⟩
  | k + 1 => by
    obtain ⟨h1, h2⟩ := stC_bd hw hh k
    unfold stC stepC
    split
    · constructor <;> simp only <;> omega
    · constructor <;> simp only <;> omega
theorem stC_next {w h k : Nat} (hs : ¬ stopC w h k) : (stC w h (k + 1)).y > (stC w h k).y ∨ (stC w h (k + 1)).y = (stC w h k).y ∧ (stC w h (k + 1)).x > (stC w h k).x := by
  unfold stopC at hs
  show (stepC (stC w h k)).y > _ ∨ _
  have e : stC w h (k + 1) = stepC (stC w h k) := rfl
  rw [e]
  unfold stepC
  split
  · right; exact ⟨rfl, by show _ + _ > _; omega⟩
  · left; show _ + _ > _; omega
theorem cut_ord {w h n : Nat} (hs : ∀ j, j < n → ¬ stopC w h j) : ordC n (cutX w h n) := fun k hk => by
  obtain ⟨a1, a2⟩ := cutX_nth (w := w) (h := h) (k := n) (j := k) (by omega)
  obtain ⟨b1, b2⟩ := cutX_nth (w := w) (h := h) (k := n) (j := k + 1) (by omega)
  rw [a1, a2, b1, b2]
  have := stC_next (hs k (by omega))
  intro hlt
  rw [cmpSq_lt] at hlt
  omega
/-- How many squares there are, if there are at most 12. -/
def cutR (w h : Nat) : Option Nat := (List.range 13).find? (fun k => decide (stopC w h k))
theorem cutR_some {w h k : Nat} (hk : k ≤ 12) (hs : ∀ j, j < k → ¬ stopC w h j) (h1 : stopC w h k) : cutR w h = some k := by
  unfold cutR
  rw [List.find?_range_eq_some]
  refine ⟨by simpa using h1, by simp; omega, fun j hj => by simpa using hs j hj⟩
theorem cutR_none {w h : Nat} (hs : ∀ j, j < 13 → ¬ stopC w h j) : cutR w h = none := by
  unfold cutR
  rw [List.find?_eq_none]
  intro x hx
  simp at hx
  simpa using hs x hx
def cutO (a b : Int) : Option Nat := if (1 ≤ a ∧ a ≤ 200) ∧ (1 ≤ b ∧ b ≤ 200) then cutR a.toNat b.toNat else none
end Go.Proofs.YtagiecajffhnpaaGreat

namespace Go.Proofs.YtagiecajffhnpaaGreat
set_option maxRecDepth 100000
open Go.ChangeShapes Go.WideShapes Go.ChangeAt Go.RowKit Go.Joins

theorem inf_SqC : (Tryz.prog.info? 143).map (fun i => (i.zero, i.size, i.bytes)) = some (some (Value.agg #[.int .i64 0, .int .i64 0, .int .i64 0]), 3, 24) := by kernel_rfl
theorem ap_sq {w : World} {ops : Array Oper} {rest : List Oper} {o : Oper} {a : Act} {Q : Exit → Act → World → Prop} (hgd : o.guard = none) (s x : Operand)
    (ho : o.op = .call { callee := .builtin .append, args := #[s, x], argTypes := #[98, 98] })
    (base : Nat) (v : Value) (n : Nat) (l : List Int) (hs : a.eval s = v) (hown : w.ownsRow base 143 3 v n (icells l))
    (y0 y1 y2 : Int) (hx : a.eval x = .slice (some ⟨w.heap.size, 0, none⟩) 1 1) (hn : n < 1099511627776) (hbase : base ≤ w.heap.size)
    (h : ∀ v' w', w'.ownsRow base 143 3 v' (n + 1) (icells (l ++ [y0, y1, y2])) → Mine w w' v → wpList Tryz.prog ops Q rest (a.put o.dst v') w') :
    wpList Tryz.prog ops Q (o :: rest) a (w.alloc (.cells #[.int .i64 y0, .int .i64 y1, .int .i64 y2] 143)) :=
  ap1 hgd s x 98 ho 143 _ 3 24 Tryz.underlying98 inf_SqC rfl (by decide) (by decide) base v _ _ hs hown #[.int .i64 y0, .int .i64 y1, .int .i64 y2] hx rfl (by simp [Value.oneCell']) hn hbase
    (fun v' w' h2 h3 => h v' w' (by simpa [icells] using h2) h3)
def GivesC (w : World) (o : Option Nat) (a b : Int) (e : Ending) (w' : World) : Prop :=
  match o with
  | none => e = .returned (.tuple #[.slice none 0 0, .bool false])
  | some k => ∃ v, e = .returned (.tuple #[v, .bool true]) ∧ w'.ownsRow w.heap.size 143 3 v k (icells (cutX a.toNat b.toNat k))
theorem cutO_f {a b : Int} (h : ¬ ((1 ≤ a ∧ a ≤ 200) ∧ (1 ≤ b ∧ b ≤ 200))) : cutO a b = none := by unfold cutO; rw [if_neg h]
theorem cutO_t {a b : Nat} (ha : 1 ≤ a ∧ a ≤ 200) (hb : 1 ≤ b ∧ b ≤ 200) : cutO a b = cutR a b := by
  unfold cutO
  rw [if_pos ⟨⟨by omega, by omega⟩, by omega, by omega⟩]
  simp
theorem cutX_succ (w h k : Nat) : cutX w h (k + 1) = cutX w h k ++ [((stC w h k).x : Int), ((stC w h k).y : Int), ((min (stC w h k).w (stC w h k).h : Nat) : Int)] := rfl
theorem stC_succ (w h k : Nat) : stC w h (k + 1) = stepC (stC w h k) := rfl

set_option maxHeartbeats 1600000 in
theorem iCutT (a b : Nat) (w : World) (ha : 1 ≤ a ∧ a ≤ 200) (hb : 1 ≤ b ∧ b ≤ 200) :
    Calls Tryz.prog 59 #[.int .i64 (a : Int), .int .i64 (b : Int)] w fun e w' => GivesC w (cutO a b) a b e w' ∧ Ge w w' := by
  rw [cutO_t ha hb]
  have HB := Lib.hid (stC_bd ha.2 hb.2)
  have HX := Lib.hid (cutX_succ a b)
  have HS := Lib.hid (stC_succ a b)
  have HO := Lib.hid (fun n (h : ∀ j, j < n → ¬ stopC a b j) => cut_ord h)
  have HR := Lib.hid (fun k (hk : k ≤ 12) hs h1 => cutR_some (w := a) (h := b) (k := k) hk hs h1)
  have HN : Hid ((∀ j, j < 13 → ¬ stopC a b j) → cutR a b = none) := cutR_none
  have HSt : Hid (∀ k, stopC a b k ↔ (stC a b k).w = 0 ∨ (stC a b k).h = 0) := fun _ => Iff.rfl
  have H0 : Hid ((stC a b 0).w = a ∧ (stC a b 0).h = b ∧ (stC a b 0).x = 0 ∧ (stC a b 0).y = 0 ∧ cutX a b 0 = []) := ⟨rfl, rfl, rfl, rfl, rfl⟩
  generalize cutR a b = CR at *
  go_enter Tryz.func59, Tryz.ntmps59
  go_wp2_with fail
  go_loopw [0, 1, 6, 7, 8] (fun p q o x y wr => ∃ (k : Nat) (u : Value), k ≤ 12 ∧ p = .int .i64 ((stC a b k).w : Int) ∧ q = .int .i64 ((stC a b k).h : Int) ∧ o = u ∧ x = .int .i64 ((stC a b k).x : Int) ∧ y = .int .i64 ((stC a b k).y : Int) ∧
    wr.ownsRow w.heap.size 143 3 u k (icells (cutX a b k)) ∧ Hid (∀ j, j < k → ¬ stopC a b j) ∧ Ge w wr) (fun p q _ _ _ _ => (intOf p).toNat + (intOf q).toNat)
  case atStart => exact ⟨0, _, Nat.zero_le _, by rw [H0.out.1], by rw [H0.out.2.1], rfl, by rw [H0.out.2.2.1]; rfl, by rw [H0.out.2.2.2.1]; rfl, by rw [H0.out.2.2.2.2]; exact owns_lit0 _ _ _, fun j hj => by omega, kge⟩
  case round =>
    obtain ⟨k, u, hk, rfl, rfl, rfl, rfl, rfl, hown, HA, hg⟩ := hrel
    obtain ⟨b1, b2⟩ := HB.out k
    have HXk := Lib.hid (HX.out k)
    have HSk := Lib.hid (HS.out k)
    have HStk := Lib.hid (HSt.out k)
    have HRk := Lib.hid (fun h => HR.out k hk HA.out h)
    have HAn : Hid (¬ stopC a b k → ∀ j, j < k + 1 → ¬ stopC a b j) := fun g j hj => by
      by_cases e : j = k
      · subst e; exact g
      · exact HA.out j (by omega)
    have HOk := Lib.hid (HO.out k HA.out)
    have HOw := Lib.hid hown
    have zg := hg.size
    clear hown
    generalize hst : stC a b k = st at *
    obtain ⟨W, H, X, Y⟩ := st
    simp only at b1 b2 HXk HSk HStk ⊢
    by_cases hs : W = 0 ∨ H = 0
    · have HF := Lib.hid (HRk.out (HStk.out.2 hs))
      obtain ⟨p1, c1, rfl⟩ := owns_form HOw.out
      have HSo := Lib.hid (sortSq (.slice p1 k c1) k (cutX a b k) wr (SlF.of_owns HOw.out) hk HOk.out (.func (.func 95) #[] #[]) rfl)
      clear HRk HAn HOk HXk HSk HStk
      by_cases hw : W = 0
      · subst hw
        clear hs b1 b2
        go_wp2_with (go_at_call 94; ((with_reducible refine (HSo.out).mono ?_); rintro e w' ⟨rfl, g⟩))
        exact bodyPost_ret (v := .tuple #[.slice p1 k c1, .bool true]) (by simp [results, Tryz.results59, go_sem]) rfl ⟨by rw [HF.out]; exact ⟨_, rfl, Ge.owns g HOw.out⟩, Ge.trans hg g⟩
      · have hh : H = 0 := by omega
        subst hh
        have hw2 : (0 : Int) < (W : Int) := by omega
        clear hs b1 b2
        go_wp2_with (go_at_call 94; ((with_reducible refine (HSo.out).mono ?_); rintro e w' ⟨rfl, g⟩))
        exact bodyPost_ret (v := .tuple #[.slice p1 k c1, .bool true]) (by simp [results, Tryz.results59, go_sem]) rfl ⟨by rw [HF.out]; exact ⟨_, rfl, Ge.owns g HOw.out⟩, Ge.trans hg g⟩
    · have HA2 := Lib.hid (HAn.out (fun h => hs (HStk.out.1 h)))
      have hw : (0 : Int) < (W : Int) := by omega
      have hh : (0 : Int) < (H : Int) := by omega
      obtain ⟨p1, c1, rfl⟩ := owns_form HOw.out
      clear HRk HAn HOk HStk
      by_cases hk12 : k = 12
      · have HF := Lib.hid (HN.out (fun j hj => HA2.out j (by omega)))
        have tk : ((k : Int) == 12) = true := by simp; omega
        clear HXk HSk HA2 HA
        generalize cutX a b k = L at *
        go_wp2_with fail
        exact bodyPost_ret (v := .tuple #[.slice none 0 0, .bool false]) (by simp [results, Tryz.results59, go_sem]) rfl ⟨by rw [HF.out]; exact rfl, hg⟩
      · have tk : ((k : Int) == 12) = false := by simp; omega
        by_cases hwh : H < W
        · have tm : min (W : Int) (H : Int) = (H : Int) := by omega
          have e1 : min W H = H := by omega
          have tg : (H : Int) < (W : Int) := by omega
          have HXe := Lib.hid (HXk.out)
          rw [e1] at HXe
          have HSe : Hid (stC a b (k + 1) = ⟨W - H, H, X + H, Y⟩) := by
            show _ = _
            rw [HSk.out]; simp [stepC, hwh]
          clear HXk HSk e1
          generalize cutX a b k = L at *
          go_wp2_with (at_builtin; refine ap_sq rfl _ _ rfl w.heap.size _ k L rfl HOw.out _ _ _ rfl (by omega) zg ?_; intro v' w6 own6 hm6)
          go_roundw
          case rel => exact ⟨k + 1, _, by omega, by rw [HSe.out]; simp only; congr 1; omega, by rw [HSe.out], rfl, by rw [HSe.out]; simp only; congr 1, by rw [HSe.out], by rw [HXe.out]; exact own6, HA2, hg.mine HOw.out (Nat.le_refl _) hm6⟩
          case measure => simp [intOf]; omega
        · have tm : min (W : Int) (H : Int) = (W : Int) := by omega
          have e1 : min W H = W := by omega
          have tg : ¬ (H : Int) < (W : Int) := by omega
          have HXe := Lib.hid (HXk.out)
          rw [e1] at HXe
          have HSe : Hid (stC a b (k + 1) = ⟨W, H - W, X, Y + W⟩) := by
            show _ = _
            rw [HSk.out]; simp [stepC, hwh]
          clear HXk HSk e1
          generalize cutX a b k = L at *
          go_wp2_with (at_builtin; refine ap_sq rfl _ _ rfl w.heap.size _ k L rfl HOw.out _ _ _ rfl (by omega) zg ?_; intro v' w6 own6 hm6)
          go_roundw
          case rel => exact ⟨k + 1, _, by omega, by rw [HSe.out], by rw [HSe.out]; simp only; congr 1; omega, rfl, by rw [HSe.out], by rw [HSe.out]; simp only; congr 1, by rw [HXe.out]; exact own6, HA2, hg.mine HOw.out (Nat.le_refl _) hm6⟩
          case measure => simp [intOf]; omega
end Go.Proofs.YtagiecajffhnpaaGreat

namespace Go.Proofs.YtagiecajffhnpaaGreat

open Go

section
variable {P : Program} {l : List Oper} {Q : Exit → Act → World → Prop} {S : World → Prop}
end

end Go.Proofs.YtagiecajffhnpaaGreat
