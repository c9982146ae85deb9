/- BlindWires of impl at a valid network. No condition. Lists of different numbers, circular pairs, weight matrices, the reason why a matrix is not planar. No condition. Lists of lists of integers; choices of impl, l09Lists of the reference. No condition. Rows of integers of any length, all of them the call's own, written and appended to. No condition. -/
import Derived.Test.YtagiecajffhnpaaGreatJAj
import Derived.Test.YtagiecajffhnpaaGreatJAi
import Derived.Test.YtagiecajffhnpaaGreatWSl
import Derived.Test.YtagiecajffhnpaaGreatPlLap
import Derived.Test.YtagiecajffhnpaaGreatWOthers
import Derived.Test.YtagiecajffhnpaaGreatWMatO
import Derived.Maps.AppendAt
namespace Go.Proofs.YtagiecajffhnpaaGreat
set_option maxRecDepth 100000
open Go.ChangeShapes Go.WideShapes Go.ChangeAt Go.RowKit Go.Joins

theorem made_get {n j : Nat} (hj : j < n) : (madeCells (Value.bool false).cells (n * 1))[j]? = some (.bool false) := by
  have h := congrArg (fun l => l[j]?) (made_bools n)
  simp only [Array.getElem?_toList] at h
  rw [h]
  simp [bcells, hj]
theorem row_new (W : World) (n : Nat) (T : TypeId) : RowB (W.alloc (.cells (madeCells #[.bool false] n) T)).drew W.heap.size n (fun _ => false) := fun j hj => by
  have h := made_get hj
  rw [Nat.mul_one] at h
  exact ⟨(Ge.drew (Ge.refl _)).keep (cell_new rfl h), (Ge.drew (Ge.refl _)).keepF (cell_new rfl h) (froz_new rfl h)⟩
theorem blindL_len (n e m : Nat) (xs : List Int) : ∀ i, (blindL n e m xs i).length ≤ i
  | 0 => Nat.le_refl _
  | i + 1 => by
    have := blindL_len n e m xs i
    unfold blindL
    split
    · omega
    · simp; omega
theorem blindL_in (n e m : Nat) (xs : List Int) : ∀ i, ∀ x ∈ blindL n e m xs i, 0 ≤ x ∧ x < i
  | 0, x, h => by simp [blindL] at h
  | i + 1, x, h => by
    unfold blindL at h
    split at h
    · have := blindL_in n e m xs i x h; omega
    · rcases List.mem_append.1 h with h | h
      · have := blindL_in n e m xs i x h; omega
      · simp at h; omega
theorem run_makeB (n : Nat) (hn : n ≤ 5) (w : World) : (Instr.makeSlice 125 (.int .i64 (n : Int)) (.int .i64 (n : Int))).run Tryz.prog w = .ok (.slice (some ⟨w.heap.size, 0, none⟩) n n) (w.alloc (.cells (madeCells (Value.bool false).cells (n * 1)) 4)) := by
  obtain ⟨i, hi1, hi2, hi3, hi4⟩ := info_parts inf_bool
  have hr := run_make (P := Tryz.prog) w 125 4 i _ Tryz.underlying125 hi1 hi2 .i64 .i64 n n (by omega) (Int.le_refl _) (by rw [hi4]; omega) (by omega)
  rw [hi3] at hr
  simpa only [Int.toNat_natCast] using hr
set_option maxHeartbeats 6400000 in
theorem iBlindWires (n e : Nat) (S : Int) (s : Value) (m : Nat) (xs : List Int) (w : World) (hs : SlF w s m 3 xs) (hB : netB n e S m xs = true) :
    Calls Tryz.prog 57 #[.agg #[.int .i64 (n : Int), .int .i64 (e : Int), .int .i64 S, s]] w fun r w' => ∃ v, r = .returned v ∧ SlI w' v (blindL n e m xs m) ∧ Ge w w' := by
  obtain ⟨⟨h1, h5⟩, ⟨e1, e2⟩, ⟨s1, s2⟩, hok, _⟩ := netP_of hB
  have hm : m ≤ 10 := prs_len (by omega) hok
  have HV := Lib.hid hs
  obtain ⟨p, cap, rfl, _⟩ := hs.open
  have HNo := Lib.hid (fun w' (g : Ge w w') => iNetOk n e S (.slice p m cap) m xs w' (HV.out.ge g) (by omega))
  rw [hB] at HNo
  have HPa := Lib.hid (fun (a b c : Int) (t M : Nat) (w' : World) (ht : t < e) (hp : ∀ q, p = some q → q.block ≠ M) (hR : RowB w' M n (fun _ => false)) (hS : SlF w' (.slice p m cap) m 3 xs) (hM : M < w'.heap.size) => iOnPath n e m S xs p cap a b c t M hok (by omega) hm hp n (fun _ => false) t false w' (by rw [cntU_none]; exact Nat.le_refl _) (by omega) rfl hR hS hM)
  clear hs hok hB
  have c0 : NetIn (w.alloc (.cells #[.int .i64 n, .int .i64 e, .int .i64 S, .slice p m cap] 33)) w.heap.size n e S (.slice p m cap) := ⟨cell_new rfl rfl, cell_new rfl rfl, cell_new rfl rfl, cell_new rfl rfl⟩
  go_enter Tryz.func57, Tryz.ntmps57
  go_wp2_with ((go_at_call 43; ((with_reducible refine (HNo.out _ (kge)).mono ?_); rintro r w1 ⟨rfl, g1⟩)); have gw1 : Ge w w1 := (kge); have NB1 := Lib.hid (NetIn.ge (NetIn.ge c0 (Ge.alloc (Ge.refl _) _)) g1); have O1 := Lib.hid (g1.owns (owns_lit0 (w.alloc (.cells #[.int .i64 n, .int .i64 e, .int .i64 S, .slice p m cap] 33)) 3 1)); obtain ⟨b0, b1, b2, b3⟩ := NB1.out)
  have HO1 : Hid (w1.ownsRow (w.heap.size + 1) 3 1 (.slice (some ⟨w.heap.size + 1, 0, none⟩) 0 0) (blindL n e m xs 0).length (icells (blindL n e m xs 0))) := by have := O1.out; simp only [World.size_alloc] at this; exact this
  clear O1 b0 b1 b2 b3 c0
  go_loopw [3, 16] (fun o i' wr => ∃ (i : Nat) (v : Value), i ≤ m ∧ i' = .int .i64 i ∧ o = v ∧ Hid (wr.ownsRow (w.heap.size + 1) 3 1 v (blindL n e m xs i).length (icells (blindL n e m xs i))) ∧ Hid (NetIn wr w.heap.size n e S (.slice p m cap)) ∧ Ge w wr) (fun _ i _ => m - (intOf i).toNat)
  case atStart => exact ⟨0, _, Nat.zero_le _, rfl, rfl, HO1.out, NB1.out, gw1⟩
  case round =>
    clear HO1 NB1 gw1 g1
    obtain ⟨i, v, hi, rfl, rfl, HO, HN, hg⟩ := hrel
    by_cases hlt : i < m
    · obtain ⟨pb, po, rfl, x0, x1, x2⟩ := three_cells (HV.out.ge hg).open3 hlt
      have hpl := World.block_lt_of_cell? _ _ x0
      obtain ⟨b0, b1, b2, b3⟩ := HN.out
      have hzw := hg.size
      have zl := World.block_lt_of_cell? _ _ b0
      obtain ⟨PF, hPF⟩ : ∃ PF : Nat → Bool, PF = fun t => pathB e m xs (nth xs (i * 3)) (nth xs (i * 3 + 1)) (nth xs (i * 3 + 2)) t n (fun _ => false) t false := ⟨_, rfl⟩
      have HL : Hid (blindL n e m xs (i + 1) = if anyF PF e = true then blindL n e m xs i else blindL n e m xs i ++ [(i : Int)]) := by show _ = _; rw [hPF]; rfl
      have HPi := Lib.hid (fun (t : Nat) => show pathB e m xs (nth xs (i * 3)) (nth xs (i * 3 + 1)) (nth xs (i * 3 + 2)) t n (fun _ => false) t false = PF t by rw [hPF])
      have hbl := blindL_len n e m xs i
      clear hPF
      generalize hBL : blindL n e m xs i = BL at *
      have HBL := Lib.hid hBL
      clear hBL
      generalize nth xs (i * 3) = XA at *
      generalize nth xs (i * 3 + 1) = XB at *
      generalize nth xs (i * 3 + 2) = XC at *
      have ga : Ge wr (wr.alloc (.cells #[.int .i64 XA, .int .i64 XB, .int .i64 XC] 45)) := Ge.alloc (Ge.refl _) _
      have HW0 : Hid (WiAt (wr.alloc (.cells #[.int .i64 XA, .int .i64 XB, .int .i64 XC] 45)) wr.heap.size XA XB XC) := ⟨cell_new rfl rfl, cell_new rfl rfl, cell_new rfl rfl⟩
      obtain ⟨w0, hw0⟩ : ∃ w0, w0 = wr := ⟨_, rfl⟩
      subst hw0
      go_wp2_with fail
      go_loopw [6, 23] (fun sn t' wz => ∃ (t : Nat) (B : Bool), t ≤ e ∧ t' = .int .i64 t ∧ sn = .bool B ∧ Hid (B = anyF PF t) ∧ Hid (WiAt wz w0.heap.size XA XB XC) ∧ Hid (Ge w0 wz)) (fun _ i _ => e - (intOf i).toNat)
      case atStart => exact ⟨0, false, Nat.zero_le _, rfl, rfl, rfl, HW0.out, ga⟩
      case round =>
        clear HW0 ga x0 x1 x2
        obtain ⟨t, B, ht, rfl, rfl, HBt, HW, HG⟩ := hrel
        have hzz := HG.out.size
        have b0 := HG.out.keep b0
        have b1 := HG.out.keep b1
        have b2 := HG.out.keep b2
        have b3 := HG.out.keep b3
        by_cases hle : t < e
        · obtain ⟨d0, d1, d2⟩ := HW.out
          cases B with
          | true =>
            have HBn : Hid (true = anyF PF (t + 1)) := by show _ = (anyF PF t || PF t); rw [← HBt.out]; rfl
            go_upto_region 11 with fail
            go_quiet (fail)
            go_wp2_with fail
            go_roundw
            case rel => exact ⟨t + 1, _, by omega, by go_num, rfl, HBn.out, ⟨Ge.keep (w1 := _) (kge) d0, Ge.keep (kge) d1, Ge.keep (kge) d2⟩, HG.out.trans (kge)⟩
            case measure => simp [intOf]; omega
          | false =>
            have HBn : Hid (PF t = anyF PF (t + 1)) := by show _ = (anyF PF t || PF t); rw [← HBt.out]; rfl
            have HVz := Lib.hid (HV.out.ge (hg.trans HG.out))
            go_upto_region 11 with fail
            refine wp_region_head (S := fun w' => Ge wr w') 11 (by kernel_rfl) (by kernel_rfl) (Ge.drew (Ge.refl _)) (fun hHeld => ?_)
            refine head_takeR 0 (v := ?_) rfl ?_ ?_; rotate_left; (focus (intro w' hSw; (try dsimp only at hSw); have s0 := Ge.keep hSw b0; have s1 := Ge.keep hSw b1; have s2 := Ge.keep hSw b2; have s3 := Ge.keep hSw b3; have s4 := Ge.keep hSw d0; have s5 := Ge.keep hSw d1; have s6 := Ge.keep hSw d2; go_simp; (try with_reducible rfl))); (try simp only [Act.put, hnA, hnB, hnC])
            refine head_takeR 1 (v := ?_) rfl ?_ ?_; rotate_left; (focus (intro w' hSw; (try dsimp only at hSw); have s0 := Ge.keep hSw b0; have s1 := Ge.keep hSw b1; have s2 := Ge.keep hSw b2; have s3 := Ge.keep hSw b3; have s4 := Ge.keep hSw d0; have s5 := Ge.keep hSw d1; have s6 := Ge.keep hSw d2; go_simp; (try with_reducible rfl))); (try simp only [Act.put, hnA, hnB, hnC])
            refine head_takeR 2 (v := ?_) rfl ?_ ?_; rotate_left; (focus (intro w' hSw; (try dsimp only at hSw); have s0 := Ge.keep hSw b0; have s1 := Ge.keep hSw b1; have s2 := Ge.keep hSw b2; have s3 := Ge.keep hSw b3; have s4 := Ge.keep hSw d0; have s5 := Ge.keep hSw d1; have s6 := Ge.keep hSw d2; go_simp; (try with_reducible rfl))); (try simp only [Act.put, hnA, hnB, hnC])
            refine head_takeR 3 (v := ?_) rfl ?_ ?_; rotate_left; (focus (intro w' hSw; (try dsimp only at hSw); have s0 := Ge.keep hSw b0; have s1 := Ge.keep hSw b1; have s2 := Ge.keep hSw b2; have s3 := Ge.keep hSw b3; have s4 := Ge.keep hSw d0; have s5 := Ge.keep hSw d1; have s6 := Ge.keep hSw d2; go_simp; (try with_reducible rfl))); (try simp only [Act.put, hnA, hnB, hnC])
            refine head_takeR 4 (v := ?_) rfl ?_ ?_; rotate_left; (focus (intro w' hSw; (try dsimp only at hSw); have s0 := Ge.keep hSw b0; have s1 := Ge.keep hSw b1; have s2 := Ge.keep hSw b2; have s3 := Ge.keep hSw b3; have s4 := Ge.keep hSw d0; have s5 := Ge.keep hSw d1; have s6 := Ge.keep hSw d2; go_simp; (try with_reducible rfl))); (try simp only [Act.put, hnA, hnB, hnC])
            refine head_takeR 5 (v := ?_) rfl ?_ ?_; rotate_left; (focus (intro w' hSw; (try dsimp only at hSw); have s0 := Ge.keep hSw b0; have s1 := Ge.keep hSw b1; have s2 := Ge.keep hSw b2; have s3 := Ge.keep hSw b3; have s4 := Ge.keep hSw d0; have s5 := Ge.keep hSw d1; have s6 := Ge.keep hSw d2; go_simp; (try with_reducible rfl))); (try simp only [Act.put, hnA, hnB, hnC])
            refine head_takeR 7 (v := ?_) rfl ?_ ?_; rotate_left; (focus (intro w' hSw; (try dsimp only at hSw); have s0 := Ge.keep hSw b0; have s1 := Ge.keep hSw b1; have s2 := Ge.keep hSw b2; have s3 := Ge.keep hSw b3; have s4 := Ge.keep hSw d0; have s5 := Ge.keep hSw d1; have s6 := Ge.keep hSw d2; go_simp; (try with_reducible rfl))); (try simp only [Act.put, hnA, hnB, hnC])
            refine head_takeR 8 (v := ?_) rfl ?_ ?_; rotate_left; (focus (intro w' hSw; (try dsimp only at hSw); have s0 := Ge.keep hSw b0; have s1 := Ge.keep hSw b1; have s2 := Ge.keep hSw b2; have s3 := Ge.keep hSw b3; have s4 := Ge.keep hSw d0; have s5 := Ge.keep hSw d1; have s6 := Ge.keep hSw d2; go_simp; (try with_reducible rfl))); (try simp only [Act.put, hnA, hnB, hnC])
            refine head_one 6 rfl (by kernel_rfl) (fun K hK => ?_)
            go_simp
            rw [run_makeB n (by omega)]
            go_simp
            have gM : Ge wr (wr.alloc (.cells (madeCells #[.bool false] n) 4)).drew := Ge.drew (Ge.alloc (Ge.refl _) _)
            have zM : wr.heap.size < (wr.alloc (.cells (madeCells #[.bool false] n) 4)).drew.heap.size := by simp
            have HR := Lib.hid (row_new wr n 4)
            refine hK.out _ _ gM (fun hHeld2 => ?_)
            clear hK K
            (try simp only [Act.put, hnA, hnB, hnC])
            refine head_one 9 rfl (by kernel_rfl) (fun K hK => ?_)
            go_simp
            (go_at_call 93; ((with_reducible refine (HPa.out _ _ _ t wr.heap.size _ hle (fun q hq => by rw [← Option.some.inj hq]; show pb ≠ _; omega) HR.out (HVz.out.ge gM) zM).mono ?_); rintro r w9 ⟨rfl, hr9, hg9⟩))
            have gW : Ge wr w9 := Gr.ge gM hg9 (Nat.le_refl _)
            rw [HPi.out t]
            refine hK.out _ _ gW (fun hHeld3 => ?_)
            clear hK K
            (try simp only [Act.put, hnA, hnB, hnC])
            refine head_takeR 10 (v := ?_) rfl ?_ ?_; rotate_left; (focus (intro w' hSw; (try dsimp only at hSw); go_simp; (try with_reducible rfl))); (try simp only [Act.put, hnA, hnB, hnC])
            refine head_done (by kernel_rfl) ?_
            go_wp2_with fail
            go_roundw
            case rel => exact ⟨t + 1, _, by omega, by go_num, rfl, HBn.out, ⟨gW.keep d0, gW.keep d1, gW.keep d2⟩, HG.out.trans gW⟩
            case measure => simp [intOf]; omega
        · have hte : t = e := by omega
          have HTE := Lib.hid hte
          have gA := hg.trans HG.out
          have HOx := Lib.hid (HG.out.owns HO.out)
          cases B with
          | true =>
            have HLt : Hid (blindL n e m xs (i + 1) = BL) := by show _ = _; rw [HL.out, ← HTE.out, ← HBt.out]; rfl
            subst hte
            go_wp2_with fail
            go_roundw
            case rel => exact ⟨i + 1, _, by omega, by go_num, rfl, by rw [HLt.out]; exact HOx.out, ⟨b0, b1, b2, b3⟩, gA⟩
            case measure => simp [intOf]; omega
          | false =>
            have HLf : Hid (blindL n e m xs (i + 1) = BL ++ [(i : Int)]) := by show _ = _; rw [HL.out, ← HTE.out, ← HBt.out]; rfl
            subst hte
            have zb := HO.out.lt
            go_wp2_with (at_builtin; refine ap1b rfl _ _ 51 rfl 3 _ 1 8 Tryz.underlying51 inf_int rfl (by decide) (by decide) (w.heap.size + 1) u3 BL.length _ rfl HOx.out #[.int .i64 (i : Int)] rfl (by simp) rfl (by simp [Value.oneCell']) (by omega) (by omega) ?_; intro v' w10 own10 m10; have HO10 := Lib.hid own10; clear own10)
            go_roundw
            case rel =>
              refine ⟨i + 1, _, by omega, by go_num, rfl, ?_, ?_, ?_⟩
              · show World.ownsRow _ _ _ _ _ _ _
                rw [HLf.out, List.length_append]
                simpa [icells] using HO10.out
              · exact ⟨mine_cell m10 b0 (before_row (b := w.heap.size) HOx.out (by omega)), mine_cell m10 b1 (before_row (b := w.heap.size) HOx.out (by omega)), mine_cell m10 b2 (before_row (b := w.heap.size) HOx.out (by omega)), mine_cell m10 b3 (before_row (b := w.heap.size) HOx.out (by omega))⟩
              · exact Ge.mine gA HOx.out (by omega) m10
            case measure => simp [intOf]; omega
    · have him : i = m := by omega
      subst him
      go_wp2_with fail
      go_ret
      exact ⟨_, rfl, SlI.of_owns HO.out, kge⟩
end Go.Proofs.YtagiecajffhnpaaGreat

namespace Go.Proofs.YtagiecajffhnpaaGreat

/-- Different numbers below k. -/
def idxAt (k : Nat) (l : List Int) (i : Nat) : Prop := 0 ≤ nth l i ∧ nth l i < k ∧ ¬ nth l i ∈ l.take i
instance (k : Nat) (l : List Int) (i : Nat) : Decidable (idxAt k l i) := by unfold idxAt; exact inferInstance
def idxP (k : Nat) (l : List Int) (n : Nat) : Prop := ∀ i, i < n → idxAt k l i
instance (k : Nat) (l : List Int) (n : Nat) : Decidable (idxP k l n) := by unfold idxP; exact inferInstance
/-- The entries of a matrix of rows. -/
def entM (R : List (List Int)) (i j : Int) : Int := nth (R.getD i.toNat []) j.toNat
end Go.Proofs.YtagiecajffhnpaaGreat

namespace Go.Proofs.YtagiecajffhnpaaGreat
set_option maxRecDepth 100000
open Go.ChangeShapes Go.WideShapes Go.ChangeAt Go.RowKit Go.Joins

/-- Two rows of different kinds: writing the one leaves the other. -/
theorem owns_typed {w w' : World} {b1 e1 s1 n1 b2 e2 s2 n2 : Nat} {v1 v2 : Value} {x1 x2 : List Value} (h1 : w.ownsRow b1 e1 s1 v1 n1 x1) (h2 : w.ownsRow b2 e2 s2 v2 n2 x2) (he : e1 ≠ e2) (hm : Mine w w' v2) : w'.ownsRow b1 e1 s1 v1 n1 x1 := by
  refine h1.kept hm ?_
  rcases h1.2 with ⟨rfl, _⟩ | ⟨g, cap, cur, rfl, _, hg, _⟩
  · exact .inl rfl
  · right
    intro e
    rcases h2.2 with ⟨rfl, _⟩ | ⟨g2, cap2, cur2, rfl, _, hg2, _⟩
    · simp [Value.ownBlock] at e
    · simp [Value.ownBlock] at e
      subst e
      rw [hg] at hg2
      simp at hg2
      exact he hg2.2

def rowL (L : List (List Int)) (i : Nat) : List Int := L.getD i []
/-- A slice of slices of integers. -/
def SlSS (w : World) (v : Value) (n : Nat) (L : List (List Int)) : Prop :=
  ∃ p cap, v = .slice p n cap ∧ ∀ i, i < n → ∃ b o q cq, p = some ⟨b, o, none⟩ ∧ w.cell? ⟨b, o + i, none⟩ = some (.slice (some q) (rowL L i).length cq) ∧ SlI w (.slice (some q) (rowL L i).length cq) (rowL L i)
theorem SlSS.ge {w w' : World} {v : Value} {n : Nat} {L : List (List Int)} (h : SlSS w v n L) (hg : Ge w w') : SlSS w' v n L := by
  obtain ⟨p, cap, hv, hc⟩ := h
  refine ⟨p, cap, hv, fun i hi => ?_⟩
  obtain ⟨b, o, q, cq, hp, hx, hs⟩ := hc i hi
  exact ⟨b, o, q, cq, hp, hg.keep hx, SlI.ge hs hg⟩

/-- A row of slices of integers, all of them the call's own. -/
def OwnL (w : World) (base : Nat) (v : Value) (L : List (List Int)) : Prop :=
  ∃ cs : List Value, w.ownsRow base 51 1 v L.length cs ∧ ∀ i, i < L.length → ∃ q cq, cs[i]? = some (.slice (some q) (rowL L i).length cq) ∧ w.ownsRow 0 3 1 (.slice (some q) (rowL L i).length cq) (rowL L i).length (icells (rowL L i))
theorem OwnL.ge {w w' : World} {base : Nat} {v : Value} {L : List (List Int)} (h : OwnL w base v L) (hg : Ge w w') : OwnL w' base v L := by
  obtain ⟨cs, h1, h2⟩ := h
  refine ⟨cs, hg.owns h1, fun i hi => ?_⟩
  obtain ⟨q, cq, h3, h4⟩ := h2 i hi
  exact ⟨q, cq, h3, hg.owns h4⟩
theorem OwnL.nil (w : World) : OwnL (w.alloc (.cells #[] 51)) w.heap.size (.slice (some ⟨w.heap.size, 0, none⟩) 0 0) [] :=
  ⟨[], owns_lit0 _ _ _, fun i hi => by simp at hi⟩
theorem OwnL.read {w : World} {base : Nat} {v : Value} {L : List (List Int)} {n : Nat} (h : OwnL w base v L) (hn : L.length = n) : SlSS w v n L := by
  subst hn
  obtain ⟨cs, h1, h2⟩ := h
  obtain ⟨p, cap, rfl⟩ := owns_form h1
  refine ⟨p, cap, rfl, fun i hi => ?_⟩
  obtain ⟨q, cq, h3, h4⟩ := h2 i hi
  obtain ⟨g, c2, he⟩ := Go.Joins.ownsRow_form h1 (by omega)
  simp only [Value.slice.injEq] at he
  obtain ⟨rfl, _, rfl⟩ := he
  exact ⟨g, 0, q, cq, rfl, by rw [Nat.zero_add, h1.cellAt i (by omega), h3], SlI.of_owns h4⟩
theorem OwnL.own {w : World} {base : Nat} {v : Value} {L : List (List Int)} (h : OwnL w base v L) : ∃ cs, w.ownsRow base 51 1 v L.length cs := ⟨_, h.choose_spec.1⟩

theorem OwnL.mono {w : World} {b b' : Nat} {v : Value} {L : List (List Int)} (h : OwnL w b v L) (hb : b' ≤ b) : OwnL w b' v L := by
  obtain ⟨cs, h1, h2⟩ := h
  exact ⟨cs, owns_mono h1 hb, h2⟩
/-- Rows of another kind than slices of slices of integers are as they were. -/
def KeepT (w w' : World) : Prop := ∀ (b e s : Nat) (v : Value) (n : Nat) (x : List Value), e ≠ 114 → w.ownsRow b e s v n x → w'.ownsRow b e s v n x
theorem KeepT.trans {a b c : World} (h1 : KeepT a b) (h2 : KeepT b c) : KeepT a c := fun _ _ _ _ _ _ he h => h2 _ _ _ _ _ _ he (h1 _ _ _ _ _ _ he h)
theorem KeepT.of_ge {w w' : World} (h : Ge w w') : KeepT w w' := fun _ _ _ _ _ _ _ h1 => h.owns h1
/-- The rows of a list of lists, one at a time. -/
theorem OwnL.rows {w : World} {base : Nat} {v : Value} {L : List (List Int)} {n : Nat} (h : OwnL w base v L) (hn : L.length = n) :
    ∃ p cap, v = .slice p n cap ∧ ∀ i, i < n → ∃ b o q cq, p = some ⟨b, o, none⟩ ∧ w.cell? ⟨b, o + i, none⟩ = some (.slice (some q) (rowL L i).length cq) ∧ w.ownsRow 0 3 1 (.slice (some q) (rowL L i).length cq) (rowL L i).length (icells (rowL L i)) := by
  subst hn
  obtain ⟨cs, h1, h2⟩ := h
  obtain ⟨p, cap, rfl⟩ := owns_form h1
  refine ⟨p, cap, rfl, fun i hi => ?_⟩
  obtain ⟨q, cq, h3, h4⟩ := h2 i hi
  obtain ⟨g, c2, he⟩ := Go.Joins.ownsRow_form h1 (by omega)
  simp only [Value.slice.injEq] at he
  obtain ⟨rfl, _, rfl⟩ := he
  exact ⟨g, 0, q, cq, rfl, by rw [Nat.zero_add, h1.cellAt i (by omega), h3], h4⟩
end Go.Proofs.YtagiecajffhnpaaGreat

namespace Go.Proofs.YtagiecajffhnpaaGreat
set_option maxRecDepth 100000
open Go.ChangeShapes Go.WideShapes Go.ChangeAt Go.RowKit Go.Joins

/-- G: the block of the rows' slices; q i: the block of row i. -/
def OMx (w : World) (B G N c : Nat) (q cp : Nat → Nat) (R : Nat → List Int) : Prop :=
  ∃ cs : List Value, w.ownsRow B 51 1 (.slice (some ⟨G, 0, none⟩) N c) N cs ∧ ∀ i, i < N → cs[i]? = some (.slice (some ⟨q i, 0, none⟩) (R i).length (cp i)) ∧
    w.ownsRow B 3 1 (.slice (some ⟨q i, 0, none⟩) (R i).length (cp i)) (R i).length (icells (R i)) ∧ ∀ i', i' < N → i' ≠ i → q i' ≠ q i
theorem owns_tyne {w : World} {b1 e1 s1 n1 m1 c1 b2 e2 s2 n2 m2 c2 g1 g2 : Nat} {x1 x2 : List Value} (h1 : w.ownsRow b1 e1 s1 (.slice (some ⟨g1, 0, none⟩) m1 c1) n1 x1) (h2 : w.ownsRow b2 e2 s2 (.slice (some ⟨g2, 0, none⟩) m2 c2) n2 x2) (he : e1 ≠ e2) : g1 ≠ g2 := by
  intro e
  subst e
  rcases h1.2 with ⟨h, _⟩ | ⟨g, cap, cur, h, _, hg, _⟩
  · simp at h
  · rcases h2.2 with ⟨k, _⟩ | ⟨g', cap', cur', k, _, hg', _⟩
    · simp at k
    · simp only [Value.slice.injEq, Option.some.injEq, Addr.mk.injEq] at h k
      obtain ⟨⟨rfl, _⟩, _⟩ := h
      obtain ⟨⟨rfl, _⟩, _⟩ := k
      rw [hg] at hg'
      simp only [Option.some.injEq, Obj.cells.injEq] at hg'
      exact he hg'.2.1
theorem OMx.ge {w w' : World} {B G N c : Nat} {q cp : Nat → Nat} {R : Nat → List Int} (h : OMx w B G N c q cp R) (hg : Ge w w') : OMx w' B G N c q cp R := by
  obtain ⟨cs, h1, h2⟩ := h
  exact ⟨cs, hg.owns h1, fun i hi => ⟨(h2 i hi).1, hg.owns (h2 i hi).2.1, (h2 i hi).2.2⟩⟩
theorem OMx.congr {w : World} {B G N c : Nat} {q cp : Nat → Nat} {R R' : Nat → List Int} (h : OMx w B G N c q cp R) (he : ∀ i, i < N → R i = R' i) : OMx w B G N c q cp R' := by
  obtain ⟨cs, h1, h2⟩ := h
  exact ⟨cs, h1, fun i hi => by rw [← he i hi]; exact h2 i hi⟩
theorem OMx.of {w : World} {B G n : Nat} {f : Nat → Nat} {cs : List Value} {M : Nat → Nat → Int} (h : OMat w B G n f cs n M) : OMx w B G n n f (fun _ => n) (fun i => mapR n (M i)) :=
  ⟨cs, h.1, fun i hi => by
    obtain ⟨a, b, c, d⟩ := h.2 i hi
    refine ⟨by rw [mapR_length]; exact a, by rw [mapR_length]; exact b, fun i' hi' hne => d i' hi' hne⟩⟩
theorem OMx.lt {w : World} {B G N c : Nat} {q cp : Nat → Nat} {R : Nat → List Int} (h : OMx w B G N c q cp R) : B ≤ G ∧ G < w.heap.size ∧ ∀ i, i < N → B ≤ q i ∧ q i < w.heap.size ∧ q i ≠ G := by
  obtain ⟨cs, h1, h2⟩ := h
  have := h1.lt G rfl
  exact ⟨this.1, this.2, fun i hi => by have k := (h2 i hi).2.1.lt (q i) rfl; exact ⟨k.1, k.2, owns_tyne (h2 i hi).2.1 h1 (by decide)⟩⟩
theorem OMx.row {w : World} {B G N c : Nat} {q cp : Nat → Nat} {R : Nat → List Int} (h : OMx w B G N c q cp R) {i : Nat} (hi : i < N) : w.cell? ⟨G, i, none⟩ = some (.slice (some ⟨q i, 0, none⟩) (R i).length (cp i)) := by
  obtain ⟨cs, h1, h2⟩ := h
  rw [h1.cellAt i (by omega), (h2 i hi).1]
theorem OMx.frozG {w : World} {B G N c : Nat} {q cp : Nat → Nat} {R : Nat → List Int} (h : OMx w B G N c q cp R) (i : Nat) : w.frozen? ⟨G, i, none⟩ = false := by
  obtain ⟨cs, h1, h2⟩ := h
  exact h1.frozenAt i
theorem OMx.entry {w : World} {B G N c : Nat} {q cp : Nat → Nat} {R : Nat → List Int} (h : OMx w B G N c q cp R) {i j : Nat} (hi : i < N) (hj : j < (R i).length) : w.cell? ⟨q i, j, none⟩ = some (.int .i64 (nth (R i) j)) := by
  obtain ⟨cs, h1, h2⟩ := h
  exact own_nth (h2 i hi).2.1 hj
theorem OMx.froz {w : World} {B G N c : Nat} {q cp : Nat → Nat} {R : Nat → List Int} (h : OMx w B G N c q cp R) {i : Nat} (hi : i < N) (j : Nat) : w.frozen? ⟨q i, j, none⟩ = false := by
  obtain ⟨cs, h1, h2⟩ := h
  exact (h2 i hi).2.1.frozenAt j
theorem OMx.own {w : World} {B G N c : Nat} {q cp : Nat → Nat} {R : Nat → List Int} (h : OMx w B G N c q cp R) {i : Nat} (hi : i < N) : w.ownsRow B 3 1 (.slice (some ⟨q i, 0, none⟩) (R i).length (cp i)) (R i).length (icells (R i)) := by
  obtain ⟨cs, h1, h2⟩ := h
  exact (h2 i hi).2.1
theorem OMx.setE {w : World} {B G N c : Nat} {q cp : Nat → Nat} {R : Nat → List Int} (h : OMx w B G N c q cp R) {i : Nat} (j : Nat) (hi : i < N) (x : Int) :
    OMx (w.setCell ⟨q i, j, none⟩ (.int .i64 x)) B G N c q cp (fun a => if a = i then (R i).set j x else R a) := by
  have hl := h.lt
  obtain ⟨cs, h1, h2⟩ := h
  have hs := (h2 i hi).2.1.stored j (.int .i64 x)
  refine ⟨cs, h1.kept hs.2 (.inr (fun e => (hl.2.2 i hi).2.2 (by simpa [Value.ownBlock] using e.symm))), fun a ha => ?_⟩
  by_cases e : a = i
  · subst e
    have k := hs.1
    rw [icells_set] at k
    simp only [if_pos, List.length_set]
    exact ⟨(h2 a ha).1, k, (h2 a ha).2.2⟩
  · simp only [if_neg e]
    exact ⟨(h2 a ha).1, (h2 a ha).2.1.kept hs.2 (.inr (fun e2 => (h2 i hi).2.2 a ha e (by simpa [Value.ownBlock] using e2))), (h2 a ha).2.2⟩
/-- Row i has been appended to, and its slice is stored. -/
theorem OMx.appRow {w w1 w' : World} {B G N c g' c' : Nat} {q cp : Nat → Nat} {R : Nat → List Int} (h : OMx w B G N c q cp R) {i : Nat} (hi : i < N) (hg : Ge w w1) (x : Int)
    (ho : w'.ownsRow B 3 1 (.slice (some ⟨g', 0, none⟩) ((R i).length + 1) c') ((R i).length + 1) (icells (R i ++ [x]))) (hm : Mine w1 w' (.slice (some ⟨q i, 0, none⟩) (R i).length (cp i))) (hb : g' = q i ∨ w1.heap.size ≤ g') :
    OMx (w'.setCell ⟨G, i, none⟩ (.slice (some ⟨g', 0, none⟩) ((R i).length + 1) c')) B G N c (fun a => if a = i then g' else q a) (fun a => if a = i then c' else cp a) (fun a => if a = i then R i ++ [x] else R a) := by
  have hl := h.lt
  have hz := hg.size
  obtain ⟨cs, h1, h2⟩ := h
  have k1 := owns_typed (hg.owns h1) (hg.owns (h2 i hi).2.1) (by decide) hm
  have ks := k1.stored i (.slice (some ⟨g', 0, none⟩) ((R i).length + 1) c')
  have hcl : i < cs.length := by have := h1.1; omega
  have hgG : g' ≠ G := by
    rcases hb with hb | hb
    · rw [hb]; exact (hl.2.2 i hi).2.2
    · omega
  have hqg : ∀ a, a < N → a ≠ i → q a ≠ g' := fun a ha hne => by
    rcases hb with hb | hb
    · rw [hb]; exact (h2 i hi).2.2 a ha hne
    · have := (hl.2.2 a ha).2.1; omega
  refine ⟨_, ks.1, fun a ha => ?_⟩
  by_cases e : a = i
  · subst e
    simp only [if_pos, List.length_append, List.length_singleton]
    refine ⟨by simp [hcl], ho.kept ks.2 (.inr (fun e => hgG (by simpa [Value.ownBlock] using e))), fun i' hi' hne => ?_⟩
    simp only [if_neg hne]
    exact hqg i' hi' hne
  · simp only [if_neg e]
    refine ⟨?_, ?_, fun i' hi' hne => ?_⟩
    · rw [List.getElem?_set_ne (by omega)]; exact (h2 a ha).1
    · have ka := (hg.owns (h2 a ha).2.1).kept hm (.inr (fun e2 => (h2 i hi).2.2 a ha e (by simpa [Value.ownBlock] using e2)))
      exact ka.kept ks.2 (.inr (fun e2 => (hl.2.2 a ha).2.2 (by simpa [Value.ownBlock] using e2)))
    · by_cases e3 : i' = i
      · simp only [if_pos e3]; exact fun h => hqg a ha e h.symm
      · simp only [if_neg e3]; exact (h2 a ha).2.2 i' hi' hne
/-- Appending one integer; the new block is the old one or a late one. -/
theorem ap_intX {w : World} {ops : Array Oper} {rest : List Oper} {o : Oper} {a : Act} {Q : Exit → Act → World → Prop} (hgd : o.guard = none) (s x : Operand)
    (ho : o.op = .call { callee := .builtin .append, args := #[s, x], argTypes := #[51, 51] })
    (base q n cap : Nat) (l : List Int) (hs : a.eval s = .slice (some ⟨q, 0, none⟩) n cap) (hown : w.ownsRow base 3 1 (.slice (some ⟨q, 0, none⟩) n cap) n (icells l))
    (y : Int) {b0 : Nat} (hx : a.eval x = .slice (some ⟨b0, 0, none⟩) 1 1) (hb0 : b0 = w.heap.size) (hn : n < 1099511627776) (hbase : base ≤ w.heap.size)
    (h : ∀ g' c' w', w'.ownsRow base 3 1 (.slice (some ⟨g', 0, none⟩) (n + 1) c') (n + 1) (icells (l ++ [y])) → Mine w w' (.slice (some ⟨q, 0, none⟩) n cap) → (g' = q ∨ w.heap.size ≤ g') → wpList Tryz.prog ops Q rest (a.put o.dst (.slice (some ⟨g', 0, none⟩) (n + 1) c')) w') :
    wpList Tryz.prog ops Q (o :: rest) a (w.alloc (.cells #[.int .i64 y] 3)) := by
  subst hb0
  obtain ⟨i, hi1, hi2, hi3, hi4⟩ := info_parts inf_int
  refine Go.wpList_append_own_at _ hgd s x 51 ho base 3 i _ 1 8 Tryz.underlying51 hi1 hi2 hi3 hi4 rfl (by decide) _ n (icells l) hs (hown.alloc _) ⟨w.heap.size, 0, none⟩ 1 1 [.int .i64 y] hx rfl ?_ (by simp [Value.oneCell']) (by unfold maxLen; omega) ?_ (by simp; omega) ?_
  · intro j u hu
    have hadd : (⟨w.heap.size, 0, none⟩ : Addr).add j = ⟨w.heap.size, j, none⟩ := by unfold Addr.add; split <;> simp_all
    rw [hadd, cell_of_row (w.alloc (.cells #[.int .i64 y] 3)) w.heap.size j _ _ (0, 0) (heap_alloc_new w _)]
    simpa using hu
  · have : (n + 1) * 8 ≤ (n + 1) * 100 := Nat.mul_le_mul_left _ (by decide)
    omega
  · intro v' w' h2 h3 _ h5
    obtain ⟨g', c', rfl⟩ := Go.Joins.ownsRow_form h2 (by omega)
    refine h g' c' w' (by simpa [icells] using h2) (Mine.alloc _ h3) ?_
    rcases h5 with h5 | h5
    · left; simpa [Value.ownBlock] using h5
    · right; simp [Value.ownBlock] at h5; omega
/-- Appending a row that lies in a new block. -/
theorem ap_omx {w0 w : World} {ops : Array Oper} {rest : List Oper} {o : Oper} {a : Act} {Q : Exit → Act → World → Prop} (hgd : o.guard = none) (s x : Operand)
    (ho : o.op = .call { callee := .builtin .append, args := #[s, x], argTypes := #[114, 114] })
    (B G N c : Nat) (q cp : Nat → Nat) (R : Nat → List Int) (hs : a.eval s = .slice (some ⟨G, 0, none⟩) N c) (hown : OMx w0 B G N c q cp R) (hg0 : Ge w0 w)
    (Z : List Int) (r k ck : Nat) (hl : Z.length = k) (hu : w.ownsRow B 3 1 (.slice (some ⟨r, 0, none⟩) k ck) k (icells Z)) (hr : w0.heap.size ≤ r) {b0 : Nat} (hx : a.eval x = .slice (some ⟨b0, 0, none⟩) 1 1) (hb0 : b0 = w.heap.size) (hn : N < 1099511627776) (hbase : B ≤ w.heap.size)
    (h : ∀ G' c' w', OMx w' B G' (N + 1) c' (fun a => if a = N then r else q a) (fun a => if a = N then ck else cp a) (fun a => if a = N then Z else R a) → Mine w w' (.slice (some ⟨G, 0, none⟩) N c) → wpList Tryz.prog ops Q rest (a.put o.dst (.slice (some ⟨G', 0, none⟩) (N + 1) c')) w') :
    wpList Tryz.prog ops Q (o :: rest) a (w.alloc (.cells #[.slice (some ⟨r, 0, none⟩) k ck] 51)) := by
  subst hl hb0
  have hlt := hown.lt
  obtain ⟨cs, k1, k2⟩ := hown
  have h1 := hg0.owns k1
  obtain ⟨i, hi1, hi2, hi3, hi4⟩ := info_parts inf_rowI
  refine Go.wpList_append_own_at _ hgd s x 114 ho B 51 i _ 1 24 Tryz.underlying114 hi1 hi2 hi3 hi4 rfl (by decide) _ N cs hs (h1.alloc _) ⟨w.heap.size, 0, none⟩ 1 1 [.slice (some ⟨r, 0, none⟩) Z.length ck] hx rfl ?_ (by simp [Value.oneCell']) (by unfold maxLen; omega) ?_ (by simp; omega) ?_
  · intro j u hu
    have hadd : (⟨w.heap.size, 0, none⟩ : Addr).add j = ⟨w.heap.size, j, none⟩ := by unfold Addr.add; split <;> simp_all
    rw [hadd, cell_of_row (w.alloc (.cells #[.slice (some ⟨r, 0, none⟩) Z.length ck] 51)) w.heap.size j _ _ (0, 0) (heap_alloc_new w _)]
    simpa using hu
  · have : (N + 1) * 24 ≤ (N + 1) * 100 := Nat.mul_le_mul_left _ (by decide)
    omega
  · intro v' w' h2 h3 _ _
    have h4 : Mine w w' (.slice (some ⟨G, 0, none⟩) N c) := Mine.alloc _ h3
    have hcl : cs.length = N := by have := k1.1; omega
    obtain ⟨g', c', rfl⟩ := Go.Joins.ownsRow_form h2 (by omega)
    refine h g' c' w' ⟨cs ++ [.slice (some ⟨r, 0, none⟩) Z.length ck], by simpa using h2, fun i hi => ?_⟩ h4
    by_cases e : i = N
    · subst e
      simp only [if_pos]
      refine ⟨by rw [← hcl]; simp, owns_typed hu h1 (by decide) h4, fun i' hi' hne => ?_⟩
      have hi2 : i' < i := by omega
      simp only [if_neg hne]
      have := (hlt.2.2 i' hi2).2.1
      omega
    · have hi' : i < N := by omega
      simp only [if_neg e]
      refine ⟨by rw [List.getElem?_append_left (by omega)]; exact (k2 i hi').1, owns_typed (hg0.owns (k2 i hi').2.1) h1 (by decide) h4, fun i' hi2 hne => ?_⟩
      by_cases e2 : i' = N
      · simp only [if_pos e2]
        have := (hlt.2.2 i hi').2.1
        omega
      · simp only [if_neg e2]
        exact (k2 i hi').2.2 i' (by omega) hne
theorem OMx.slMM {w : World} {B G N c : Nat} {q cp : Nat → Nat} {R : Nat → List Int} {Z : Int → Int → Int} (h : OMx w B G N c q cp R) (hl : ∀ i, i < N → (R i).length = N) (hZ : ∀ a b : Nat, a < N → b < N → nth (R a) b = Z a b) : SlMM w (.slice (some ⟨G, 0, none⟩) N c) N Z := by
  refine ⟨_, _, rfl, fun i hi => ⟨G, 0, some ⟨q i, 0, none⟩, cp i, rfl, by rw [Nat.zero_add, h.row hi, hl i hi], fun j hj => ⟨q i, 0, rfl, ?_⟩⟩⟩
  rw [Nat.zero_add, h.entry hi (by rw [hl i hi]; exact hj), hZ i j hi hj]
end Go.Proofs.YtagiecajffhnpaaGreat
