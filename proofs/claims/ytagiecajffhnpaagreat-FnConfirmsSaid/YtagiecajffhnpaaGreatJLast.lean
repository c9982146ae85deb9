/- FnConfirms, walked. No condition. What all rows of this seat share: a law that returns true and leaves old memory alone meets its row's post. A slice of bytes as a law's argument. The law FnConfirms returns true for all arguments. No condition. -/
import Derived.Test.YtagiecajffhnpaaGreatJBc
import Derived.Test.YtagiecajffhnpaaGreatWBase
import Derived.ProofKit
import Derived.Lib.SmallJoins
namespace Go.Proofs.YtagiecajffhnpaaGreat
set_option maxRecDepth 100000
open Go.ChangeShapes Go.WideShapes Go.ChangeAt Go.RowKit Go.Joins

theorem conf_txt (k : List UInt8) : (⟨#[110, 101, 116, 32, 51, 47, 50, 47, 49, 58, 32, 48, 45, 50, 61, 49, 32, 49, 45, 50, 61, 50, 10, 114, 101, 115, 105, 115, 116, 32, 48, 32, 49, 10, 118, 111, 108, 116, 115, 32, 48, 32, 49, 10, 102, 101, 101, 100, 32]⟩ : ByteArray) ++ bstr k ++ ⟨#[32, 48, 10, 114, 101, 100, 117, 99, 101, 10, 108, 97, 100, 100, 101, 114, 32, 55, 32, 53, 10, 99, 117, 116, 32, 53, 32, 51, 10, 110, 101, 116, 32, 51, 47, 51, 47, 49, 58, 32, 48, 45, 49, 61, 49, 32, 48, 45, 50, 61, 50, 32, 49, 45, 50, 61, 51, 10, 115, 116, 97, 114, 32, 48, 32, 49, 32, 50, 10, 109, 101, 115, 104, 32, 51, 10, 99, 111, 109, 109, 117, 116, 101, 32, 48, 32, 49, 10, 104, 105, 100, 100, 101, 110, 10, 98, 108, 105, 110, 100, 10, 112, 117, 116, 32, 48, 32, 57, 32, 49]⟩ = bstr (confP1 ++ (k ++ confP2)) := by
  rw [← bstr_append, ← bstr_append, ByteArray.append_assoc]
  rfl
theorem conf_three (c : List UInt8) : bstr (tnth (confT c) 3) = bstr c ++ ⟨#[32, 45]⟩ ++ bstr c := by
  show bstr (c ++ ([32, 45] ++ c)) = _
  rw [← bstr_append, ← bstr_append, ByteArray.append_assoc]
  rfl
theorem SlS.at {w : World} {v : Value} {l : List (List UInt8)} {n : Nat} (h : SlS w v l) (hn : l.length = n) (h0 : 0 < n) : ∃ b o cap, v = .slice (some ⟨b, o, none⟩) n cap ∧ ∀ i, i < n → w.cell? ⟨b, o + i, none⟩ = some (.string (bstr (tnth l i))) := by
  obtain ⟨p, cap, rfl, hc⟩ := h.openN hn
  obtain ⟨b, o, rfl, _⟩ := hc 0 h0
  refine ⟨b, o, cap, rfl, fun i hi => ?_⟩
  obtain ⟨b', o', he, hx⟩ := hc i hi
  simp only [Option.some.injEq, Addr.mk.injEq, and_true] at he
  obtain ⟨rfl, rfl⟩ := he
  exact hx
theorem lit_self (l : List UInt8) : ((⟨l.toArray⟩ : ByteArray).toList == l) = true := by rw [show (⟨l.toArray⟩ : ByteArray) = bstr l from rfl, bstr_list]; exact beq_self_eq_true l
set_option maxHeartbeats 1600000 in
theorem lFnConfirms (p : Option Addr) (n0 cap : Nat) (w : World) (hb : SlB w p n0) (hm0 : n0 ≤ 9223372036854775807) : Calls Tryz.prog 3 #[.slice p n0 cap] w fun e w' => e = .returned (.bool true) ∧ Ge w w' := by
  by_cases hbig : 1048576 < n0
  · clear hb
    go_enter Tryz.func3, Tryz.ntmps3
    go_wp2_with fail
    go_ret
    exact ⟨rfl, Ge.refl _⟩
  have hn0 : n0 ≤ 1048576 := by omega
  have HB := Lib.hid hb
  clear hb hm0
  go_enter Tryz.func3, Tryz.ntmps3
  go_upto_region 4 with ((go_at_call 5; ((with_reducible refine (sMakeNum _ _ _ _ _ HB.out hn0 (by omega)).mono ?_); rintro e w1 ⟨x, rfl, x0, x1, g1⟩)))
  have ha : 1 ≤ 1 + x % 9 ∧ 1 + x % 9 ≤ 9 := by omega
  generalize 1 + x % 9 = a at *
  obtain ⟨ha1, ha9⟩ := ha
  have hC := confOk ha1 ha9
  have z3 : (bstr (fmtInt (3 * a))).size ≤ 22 := by rw [bstr_size]; exact fmtInt_length _
  have z2 : (bstr (fmtInt (2 * a))).size ≤ 22 := by rw [bstr_size]; exact fmtInt_length _
  have HRs : Hid (∀ w', Calls Tryz.prog 7 #[.string (⟨#[110, 101, 116, 32, 51, 47, 50, 47, 49, 58, 32, 48, 45, 50, 61, 49, 32, 49, 45, 50, 61, 50, 10, 114, 101, 115, 105, 115, 116, 32, 48, 32, 49, 10, 118, 111, 108, 116, 115, 32, 48, 32, 49, 10, 102, 101, 101, 100, 32]⟩ ++ bstr (fmtInt (3 * a)) ++ ⟨#[32, 48, 10, 114, 101, 100, 117, 99, 101, 10, 108, 97, 100, 100, 101, 114, 32, 55, 32, 53, 10, 99, 117, 116, 32, 53, 32, 51, 10, 110, 101, 116, 32, 51, 47, 51, 47, 49, 58, 32, 48, 45, 49, 61, 49, 32, 48, 45, 50, 61, 50, 32, 49, 45, 50, 61, 51, 10, 115, 116, 97, 114, 32, 48, 32, 49, 32, 50, 10, 109, 101, 115, 104, 32, 51, 10, 99, 111, 109, 109, 117, 116, 101, 32, 48, 32, 49, 10, 104, 105, 100, 100, 101, 110, 10, 98, 108, 105, 110, 100, 10, 112, 117, 116, 32, 48, 32, 57, 32, 49]⟩)] w' (fun r w'' => ∃ T : List UInt8, r = .returned (.tuple #[.string (bstr T), .int .i64 14]) ∧ (T.length ≤ 1048576 ∧ linesOf T = confT (fmtInt (2 * a))) ∧ Ge w' w'')) := fun w' => by
    rw [conf_txt]
    have h14 : (confL (fmtInt (3 * a))).length = 14 := rfl
    refine (iRunSession (confP1 ++ (fmtInt (3 * a) ++ confP2)) w' hC.small (by rw [hC.lines, h14]; omega) (by rw [hC.lines]; exact hC.good)).mono ?_
    rintro r w'' ⟨rfl, hg⟩
    rw [hC.lines, h14]
    exact ⟨_, rfl, hC.out, hg⟩
  clear hC
  go_upto_region 7 with (first
    | ((go_at_call 6; ((with_reducible refine (iFormatInt _ _ (by omega) (by omega)).mono ?_); rintro e w' ⟨rfl, rfl⟩)))
    | ((go_at_call 7; ((refine (HRs.out _).mono ?_); rintro r w7 ⟨T, rfl, hT, g7⟩))))
  have HSp := Lib.hid (fun w' => iSplitLines T w' hT.1)
  rw [hT.2] at HSp
  go_upto_region 8 with (go_at_call 8; ((with_reducible refine (HSp.out _).mono ?_); rintro r w8 ⟨v8, rfl, o8, g8⟩); obtain ⟨bo, oo, co, rfl, hcx⟩ := o8.at (n := 14) rfl (by decide))
  obtain ⟨t0, ht0⟩ : ∃ t : ByteArray, t = ⟨#[111, 107]⟩ := ⟨_, rfl⟩
  have x0 : w8.cell? ⟨bo, oo, none⟩ = some (.string t0) := by rw [ht0]; exact (hcx 0 (by omega))
  have e0 : (t0.toList == [111, 107]) = true := by rw [ht0]; exact lit_self [111, 107]
  clear ht0
  obtain ⟨t1, ht1⟩ : ∃ t : ByteArray, t = ⟨#[114, 101, 115, 105, 115, 116, 97, 110, 99, 101, 32, 51, 47, 50, 32, 116, 114, 101, 101, 115, 32, 50]⟩ := ⟨_, rfl⟩
  have x1 : w8.cell? ⟨bo, oo + 1, none⟩ = some (.string t1) := by rw [ht1]; exact (hcx 1 (by omega))
  have e1 : (t1.toList == [114, 101, 115, 105, 115, 116, 97, 110, 99, 101, 32, 51, 47, 50, 32, 116, 114, 101, 101, 115, 32, 50]) = true := by rw [ht1]; exact lit_self [114, 101, 115, 105, 115, 116, 97, 110, 99, 101, 32, 51, 47, 50, 32, 116, 114, 101, 101, 115, 32, 50]
  clear ht1
  obtain ⟨t2, ht2⟩ : ∃ t : ByteArray, t = ⟨#[51, 47, 50, 32, 48, 32, 49, 47, 50]⟩ := ⟨_, rfl⟩
  have x2 : w8.cell? ⟨bo, oo + 2, none⟩ = some (.string t2) := by rw [ht2]; exact (hcx 2 (by omega))
  have e2 : (t2.toList == [51, 47, 50, 32, 48, 32, 49, 47, 50]) = true := by rw [ht2]; exact lit_self [51, 47, 50, 32, 48, 32, 49, 47, 50]
  clear ht2
  obtain ⟨t3, ht3⟩ : ∃ t : ByteArray, t = (bstr (fmtInt (2 * a)) ++ ⟨#[32, 45]⟩ ++ bstr (fmtInt (2 * a))) := ⟨_, rfl⟩
  have x3 : w8.cell? ⟨bo, oo + 3, none⟩ = some (.string t3) := by rw [ht3]; exact (by rw [← conf_three]; exact hcx 3 (by omega))
  have e3 : t3.toList = (bstr (fmtInt (2 * a)) ++ ⟨#[32, 45]⟩ ++ bstr (fmtInt (2 * a))).toList := by rw [ht3]
  clear ht3
  obtain ⟨t4, ht4⟩ : ∃ t : ByteArray, t = ⟨#[50, 47, 50, 47, 51, 58, 32, 48, 45, 49, 61, 50]⟩ := ⟨_, rfl⟩
  have x4 : w8.cell? ⟨bo, oo + 4, none⟩ = some (.string t4) := by rw [ht4]; exact (hcx 4 (by omega))
  have e4 : (t4.toList == [50, 47, 50, 47, 51, 58, 32, 48, 45, 49, 61, 50]) = true := by rw [ht4]; exact lit_self [50, 47, 50, 47, 51, 58, 32, 48, 45, 49, 61, 50]
  clear ht4
  obtain ⟨t5, ht5⟩ : ∃ t : ByteArray, t = ⟨#[49, 32, 50, 32, 50]⟩ := ⟨_, rfl⟩
  have x5 : w8.cell? ⟨bo, oo + 5, none⟩ = some (.string t5) := by rw [ht5]; exact (hcx 5 (by omega))
  have e5 : (t5.toList == [49, 32, 50, 32, 50]) = true := by rw [ht5]; exact lit_self [49, 32, 50, 32, 50]
  clear ht5
  obtain ⟨t6, ht6⟩ : ∃ t : ByteArray, t = ⟨#[53, 32, 120, 32, 51, 32, 51, 64, 48, 44, 48, 32, 50, 64, 51, 44, 48, 32, 49, 64, 51, 44, 50, 32, 49, 64, 52, 44, 50]⟩ := ⟨_, rfl⟩
  have x6 : w8.cell? ⟨bo, oo + 6, none⟩ = some (.string t6) := by rw [ht6]; exact (hcx 6 (by omega))
  have e6 : (t6.toList == [53, 32, 120, 32, 51, 32, 51, 64, 48, 44, 48, 32, 50, 64, 51, 44, 48, 32, 49, 64, 51, 44, 50, 32, 49, 64, 52, 44, 50]) = true := by rw [ht6]; exact lit_self [53, 32, 120, 32, 51, 32, 51, 64, 48, 44, 48, 32, 50, 64, 51, 44, 48, 32, 49, 64, 51, 44, 50, 32, 49, 64, 52, 44, 50]
  clear ht6
  obtain ⟨t8, ht8⟩ : ∃ t : ByteArray, t = ⟨#[52, 47, 51, 47, 54, 58, 32, 48, 45, 51, 61, 50, 50, 32, 49, 45, 51, 61, 51, 51, 32, 50, 45, 51, 61, 54, 54]⟩ := ⟨_, rfl⟩
  have x8 : w8.cell? ⟨bo, oo + 8, none⟩ = some (.string t8) := by rw [ht8]; exact (hcx 8 (by omega))
  have e8 : (t8.toList == [52, 47, 51, 47, 54, 58, 32, 48, 45, 51, 61, 50, 50, 32, 49, 45, 51, 61, 51, 51, 32, 50, 45, 51, 61, 54, 54]) = true := by rw [ht8]; exact lit_self [52, 47, 51, 47, 54, 58, 32, 48, 45, 51, 61, 50, 50, 32, 49, 45, 51, 61, 51, 51, 32, 50, 45, 51, 61, 54, 54]
  clear ht8
  obtain ⟨t9, ht9⟩ : ∃ t : ByteArray, t = ⟨#[51, 47, 51, 47, 49, 58, 32, 48, 45, 49, 61, 49, 32, 48, 45, 50, 61, 50, 32, 49, 45, 50, 61, 51]⟩ := ⟨_, rfl⟩
  have x9 : w8.cell? ⟨bo, oo + 9, none⟩ = some (.string t9) := by rw [ht9]; exact (hcx 9 (by omega))
  have e9 : (t9.toList == [51, 47, 51, 47, 49, 58, 32, 48, 45, 49, 61, 49, 32, 48, 45, 50, 61, 50, 32, 49, 45, 50, 61, 51]) = true := by rw [ht9]; exact lit_self [51, 47, 51, 47, 49, 58, 32, 48, 45, 49, 61, 49, 32, 48, 45, 50, 61, 50, 32, 49, 45, 50, 61, 51]
  clear ht9
  obtain ⟨t10, ht10⟩ : ∃ t : ByteArray, t = ⟨#[54, 48, 47, 49, 49]⟩ := ⟨_, rfl⟩
  have x10 : w8.cell? ⟨bo, oo + 10, none⟩ = some (.string t10) := by rw [ht10]; exact (hcx 10 (by omega))
  have e10 : (t10.toList == [54, 48, 47, 49, 49]) = true := by rw [ht10]; exact lit_self [54, 48, 47, 49, 49]
  clear ht10
  obtain ⟨t11, ht11⟩ : ∃ t : ByteArray, t = ⟨#[110, 111, 110, 101]⟩ := ⟨_, rfl⟩
  have x11 : w8.cell? ⟨bo, oo + 11, none⟩ = some (.string t11) := by rw [ht11]; exact (hcx 11 (by omega))
  have e11 : (t11.toList == [110, 111, 110, 101]) = true := by rw [ht11]; exact lit_self [110, 111, 110, 101]
  clear ht11
  obtain ⟨t12, ht12⟩ : ∃ t : ByteArray, t = ⟨#[110, 111, 110, 101]⟩ := ⟨_, rfl⟩
  have x12 : w8.cell? ⟨bo, oo + 12, none⟩ = some (.string t12) := by rw [ht12]; exact (hcx 12 (by omega))
  have e12 : (t12.toList == [110, 111, 110, 101]) = true := by rw [ht12]; exact lit_self [110, 111, 110, 101]
  clear ht12
  obtain ⟨t13, ht13⟩ : ∃ t : ByteArray, t = ⟨#[110, 111, 110, 101]⟩ := ⟨_, rfl⟩
  have x13 : w8.cell? ⟨bo, oo + 13, none⟩ = some (.string t13) := by rw [ht13]; exact (hcx 13 (by omega))
  have e13 : (t13.toList == [110, 111, 110, 101]) = true := by rw [ht13]; exact lit_self [110, 111, 110, 101]
  clear ht13
  clear hcx o8
  simp only [List.append]
  go_wp2_with fail
  go_ret
  exact ⟨rfl, g1.trans (g7.trans g8)⟩
end Go.Proofs.YtagiecajffhnpaaGreat

namespace Go.Proofs.YtagiecajffhnpaaGreat

open Go.ChangeShapes Go.WideShapes Go.ChangeAt Go.RowKit Go.Joins

theorem own_knob : ownKnob Tryz.prog.godebug = none := by kernel_rfl
theorem laid_out : laidOutB Tryz.prog = true := by kernel_rfl
/-- Arguments read as they did. -/
theorem trodAll_stays {H : Type} {enc : TypeId × Value → H} {P : Program} (hl : laidOutB P = true) {W W' : World} (hg : Ge W W') :
    ∀ (ts : List TypeId) (vs : List Value) (ds : List (DataW H)) (p : List MemPlace), (∀ t ∈ ts, P.readableRec t = true ∧ t < P.types.size) →
      DataW.TrodAll enc P W 0 (fun _ => true) true ts vs ds p → (∀ x ∈ p, x.block < W.heap.size) →
      DataW.TrodAll enc P W' 0 (fun b => decide (b < W.heap.size)) true ts vs ds p := by
  intro ts
  induction ts with
  | nil =>
    intro vs ds p _ h _
    cases vs with
    | nil => cases ds with
      | nil => exact h
      | cons => exact h.elim
    | cons => exact h.elim
  | cons t ts ih =>
    intro vs ds p ht h hlt
    cases vs with
    | nil => exact h.elim
    | cons v vs => cases ds with
      | nil => exact h.elim
      | cons d ds =>
        obtain ⟨p1, p2, h1, h2, rfl⟩ := h
        obtain ⟨r1, r2⟩ := ht t (by simp)
        exact ⟨p1, p2, Below.trod hl r1 r2 h1 hg (fun x hx => hlt x (List.mem_append.2 (.inl hx))),
          ih vs ds p2 (fun t' h' => ht t' (List.mem_cons_of_mem _ h')) h2 (fun x hx => hlt x (List.mem_append.2 (.inr hx))), rfl⟩

/-- The end of a law: true came back, nothing that was there has turned. -/
theorem law_done {H : Type} {enc : TypeId × Value → H} {P : Program} {f : Func} {s : ChangeSpec} {W W' : World} {args : Array Value} {ds gs : List (DataW H)} {before : List MemPlace} {B : TypeId} {e : Ending}
    (he : e = .returned (.bool true)) (hl : laidOutB P = true) (hrt : f.resultTypes = #[B]) (hB : P.underlying B = some .bool)
    (hread : f.params.toList.all (fun t => P.readableRec t && decide (t < P.types.size)) = true)
    (hW : DataW.Whole enc P f.params.toList s.vars false W args.toList ds gs before) (hv : s.vars = [])
    (hfn : s.fn H (ds ++ gs) = { results := [.lit (.bool true)], args := ds }) (hg : Ge W W') :
    ∃ v, e = .returned v ∧ s.post enc P f false true false false W args v W' := by
  subst he
  refine ⟨.bool true, rfl, ?_⟩
  have hlt := fun x hx => hW.lt x hx
  have hW' := hW
  obtain ⟨p, q, hA, hV, rfl, hfz, hnd⟩ := hW'
  have hq : q = [] ∧ gs = [] := by
    rw [hv] at hV
    cases gs with
    | nil => exact ⟨hV, rfl⟩
    | cons => exact hV.elim
  obtain ⟨rfl, rfl⟩ := hq
  rw [List.all_eq_true] at hread
  have hread' : ∀ t ∈ f.params.toList, P.readableRec t = true ∧ t < P.types.size := by
    intro t ht
    have := hread t ht
    simp at this
    exact this
  refine ⟨ds, [], p ++ [], [], p, [], hW, ?_, ?_, ?_, Below.frame hg _, fun h => by cases h⟩
  · rw [hfn, hrt]
    exact trodAll_mk1 (shut_bool hB true)
  · rw [hfn]
    exact trodAll_stays hl hg _ _ _ _ hread' hA (fun x hx => hlt x (List.mem_append.2 (.inl hx)))
  · rw [hv, hfn]
    exact rfl
end Go.Proofs.YtagiecajffhnpaaGreat

namespace Go.Proofs.YtagiecajffhnpaaGreat

open Go.ChangeShapes Go.WideShapes Go.ChangeAt Go.RowKit Go.Joins

theorem u8_of_wf {x : Int} (h : (Lit.int .u8 x).wf = true) : 0 ≤ x ∧ x ≤ 255 := by
  simp [Lit.wf, IntKind.min, IntKind.max, IntKind.signed, IntKind.bits] at h
  omega

theorem arg_bytes {H : Type} {enc : TypeId × Value → H} {P : Program} {W : World} {r : Reach} {b0 : Nat} {t e : TypeId} {v : Value} {d : DataW H} {ps : List MemPlace}
    (ht : P.underlying t = some (.slice e)) (he : P.underlying e = some (.int .u8)) (hc : P.cellsOf e = 1) (hval : Value.okWide P W r b0 t v)
    (h : DataW.Trod enc P W 0 (fun _ => true) true t v d ps) : ∃ p n cap, v = .slice p n cap ∧ SlB W p n ∧ n ≤ 9223372036854775807 := by
  obtain ⟨a0, len, cap, rfl⟩ := okWide_slice ht hval
  obtain ⟨fuel, hf⟩ := h
  rcases open_ints ht he hc hf with ⟨hcs, hx⟩ | ⟨a, len', cap', zs, hcs, _, hl, hm, hz, hx, hcell, hwz⟩
  · simp [Value.cells] at hcs
    obtain ⟨rfl, rfl, rfl⟩ := hcs
    exact ⟨_, _, _, rfl, fun i hi => by omega, by omega⟩
  · simp [Value.cells] at hcs
    obtain ⟨rfl, rfl, rfl⟩ := hcs
    simp only [if_true] at hz
    unfold maxLen at hm
    refine ⟨_, _, _, rfl, fun i hi => ?_, by omega⟩
    have hc' := hcell i (by omega)
    obtain ⟨b, off, spot⟩ := a
    have hspot : spot = none := World.cell?_spot (by simpa [Addr.add] using hcell 0 (by omega))
    subst hspot
    have hadd : (⟨b, off, none⟩ : Addr).add i = ⟨b, off + i, none⟩ := by unfold Addr.add; split <;> simp_all
    rw [hadd] at hc'
    have hmem : zs.getD i 0 ∈ zs := by
      simp only [List.getD]
      rw [List.getElem?_eq_getElem (by omega)]
      exact List.getElem_mem _
    have hb := u8_of_wf (hwz _ hmem)
    exact ⟨b, off, _, rfl, hc', hb.1, hb.2⟩
end Go.Proofs.YtagiecajffhnpaaGreat

namespace Go.Proofs.YtagiecajffhnpaaGreat

open Go.ChangeShapes Go.WideShapes Go.ChangeAt Go.RowKit Go.Joins

theorem fnConfirms_cells_byte : Tryz.prog.cellsOf 5 = 1 := by kernel_rfl

set_option maxRecDepth 100000 in
theorem fnConfirms_lifted (os : Os) (started : os.Started) (H : Type) (enc : TypeId × Value → H) :
    ReturnsInHanded {} Tryz.checked os 3 .any (Rows.fnConfirmsSpec.pre6 enc Tryz.prog Tryz.f3 Rows.fnConfirmsRow.domain false) (Rows.fnConfirmsSpec.post enc Tryz.prog Tryz.f3 false true false false) := by
  refine returnsInHanded_of_change (C := Tryz.checked) own_knob started (by kernel_rfl) Tryz.func3
    (ChangeSpec.witness6 (enc := enc) (C := Tryz.checked) false ⟨#[], #[.slice none 0 0], []⟩ 8 (by kernel_rfl) (by kernel_rfl) (by kernel_rfl) (by kernel_rfl)) ?_
  intro W base args ds gs before hval0 hW hcnd _
  have hval : ∀ (j : Nat) t v, Tryz.f3.params[j]? = some t → args[j]? = some v → Value.okWide Tryz.prog W .any base t v := hval0
  have hW' := hW
  obtain ⟨p, q, hA0, hV, rfl, hfz, hnd⟩ := hW
  have hA : DataW.TrodAll enc Tryz.prog W 0 (fun _ => true) true Tryz.f3.params.toList args.toList ds p := hA0
  rw [Tryz.params3] at hA hval
  obtain ⟨v0, d0, rfl, rfl, h0⟩ := trodAll_one hA
  obtain ⟨rfl, rfl⟩ := trodVars_none hV
  obtain ⟨pa, na, ca, rfl, sa, ma⟩ := arg_bytes Tryz.underlying22 Tryz.underlying5 fnConfirms_cells_byte (hval 0 22 v0 rfl rfl) h0
  clear hA0 hval0
  exact (lFnConfirms pa na ca W sa ma).mono fun e W' ⟨he, hg⟩ =>
    law_done (B := 4) he laid_out (by kernel_rfl) Tryz.underlying4 (by kernel_rfl) hW' rfl rfl hg

theorem fnConfirms_holds : Rows.FnConfirmsSaid :=
  OpenClaim.holds_of_wide 3 Tryz.f3 rfl rfl rfl rfl rfl rfl rfl ⟨rfl, rfl, rfl, rfl, rfl⟩ rfl rfl rfl rfl rfl (by kernel_rfl) Tryz.func3 (by kernel_rfl)
    (of_decide_eq_true (by kernel_rfl)) (by unfold Func.isWrapper; first | (rw [if_pos (by decide +kernel)]; kernel_rfl) | (rw [if_neg (by decide +kernel)]; exact ⟨rfl, rfl⟩))
    (fun os started H enc _ => fnConfirms_lifted os started H enc)
#print axioms fnConfirms_holds

end Go.Proofs.YtagiecajffhnpaaGreat
