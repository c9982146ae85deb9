/- StarMesh, DropNode of impl, for all arguments, at a valid network. No condition. l06Top, l06Down, ResponseOf of the reference. No condition. NetLines of impl and of the reference. No condition. ParseInts of impl and of spec, and its law. No condition. Plain law: a network is read back from its text. No program in sight but in the imports. What ParseNet gives; worlds that differ in one cell. No condition. -/
import Derived.Test.YtagiecajffhnpaaGreatJAg
import Derived.Test.YtagiecajffhnpaaGreatJAr
import Derived.Test.YtagiecajffhnpaaGreatJAi
import Derived.Test.YtagiecajffhnpaaGreatJAe
import Derived.Test.YtagiecajffhnpaaGreatJAc
import Derived.Test.YtagiecajffhnpaaGreatJAf
import Derived.Test.YtagiecajffhnpaaGreatJAo
import Derived.Test.YtagiecajffhnpaaGreatWStr
import Derived.Test.YtagiecajffhnpaaGreatJAa
import Derived.Test.YtagiecajffhnpaaGreatWTyInt
import Derived.Test.YtagiecajffhnpaaGreatWEqInt
namespace Go.Proofs.YtagiecajffhnpaaGreat
set_option maxRecDepth 100000
open Go.ChangeShapes Go.WideShapes Go.ChangeAt Go.RowKit Go.Joins

def inG (n e : Nat) (v : Int) : Prop := (e : Int) ≤ v ∧ v < n
instance (n e : Nat) (v : Int) : Decidable (inG n e v) := by unfold inG; infer_instance
noncomputable def starB (n e : Nat) (S : Int) (L : List Wr) (v : Int) : Bool := decide (inG n e v) && redB n e S L v.toNat
theorem starB_f {n e : Nat} {S : Int} {L : List Wr} {v : Int} (h : ¬ inG n e v) : starB n e S L v = false := by simp [starB, h]
theorem starB_t {n e : Nat} {S : Int} {L : List Wr} {v : Int} (h : inG n e v) : starB n e S L v = redB n e S L v.toNat := by simp [starB, h]
def nearC (n : Nat) (L : List Wr) (v : Int) : Nat := (nearX L.length (flatW L) v.toNat n).length
noncomputable def dropB (n e : Nat) (S : Int) (L : List Wr) (v : Int) : Bool := decide (inG n e v) && (decide (1 ≤ nearC n L v ∧ nearC n L v ≤ 2) && redB n e S L v.toNat)
theorem dropB_f {n e : Nat} {S : Int} {L : List Wr} {v : Int} (h : ¬ inG n e v) : dropB n e S L v = false := by simp [dropB, h]
theorem dropB_f2 {n e : Nat} {S : Int} {L : List Wr} {v : Int} (h : ¬ (1 ≤ nearC n L v ∧ nearC n L v ≤ 2)) : dropB n e S L v = false := by unfold dropB; rw [decide_eq_false h]; simp
theorem dropB_t {n e : Nat} {S : Int} {L : List Wr} {v : Int} (h : inG n e v) (h2 : 1 ≤ nearC n L v ∧ nearC n L v ≤ 2) : dropB n e S L v = redB n e S L v.toNat := by simp [dropB, h, h2]

set_option maxHeartbeats 3200000 in
theorem iStarMeshA (n e : Nat) (S v : Int) (s : Value) (L : List Wr) (w : World) (hs : SlF w s L.length 3 (flatW L)) (hB : netB n e S L.length (flatW L) = true) :
    Calls Tryz.prog 38 #[.agg #[.int .i64 (n : Int), .int .i64 (e : Int), .int .i64 S, s], .int .i64 v] w (GivesO w (starB n e S L v) ((n - 1 : Nat) : Int) e (redS n S L v.toNat) (redL n S L v.toNat)) := by
  obtain ⟨⟨h1, h5⟩, ⟨e1, e2⟩, ⟨s1, s2⟩, hok, _⟩ := netP_of hB
  have hm : L.length ≤ 10 := prs_len (by omega) hok
  by_cases hG : inG n e v
  · obtain ⟨v, rfl⟩ := Int.eq_ofNat_of_zero_le (show 0 ≤ v by unfold inG at hG; omega)
    rw [starB_t hG]
    unfold inG at hG
    exact iStarMesh n v e S s L w hs hB (by omega) (by omega) (wat_conn hB (by omega) ⟨by omega, by omega⟩)
  · rw [starB_f hG]
    have HT := Lib.hid (fun w' g => GivesO.f (w := w) (w' := w') (b := false) (N := ((n - 1 : Nat) : Int)) (E := e) (S := redS n S L v.toNat) (L := redL n S L v.toNat) rfl g)
    obtain ⟨p, cap, rfl, _⟩ := hs.open
    have HV := Lib.hid hs
    have HNo := Lib.hid (fun w' (g : Ge w w') => iNetOk n e S (.slice p L.length cap) L.length (flatW L) w' (HV.out.ge g) (by omega))
    rw [hB] at HNo
    obtain ⟨NB0, R0⟩ := in_res w n e S (.slice p L.length cap)
    have zR : w.heap.size + 1 < ((w.alloc (.cells #[.int .i64 n, .int .i64 e, .int .i64 S, .slice p L.length cap] 33)).alloc (.cells #[.int .i64 0, .int .i64 0, .int .i64 0, .slice none 0 0] 33)).heap.size := by simp
    generalize redS n S L v.toNat = SS at *
    generalize redL n S L v.toNat = LL at *
    generalize L.length = m at *
    clear hs hB hok
    by_cases hv : v < (e : Int)
    · have t1 : decide (v < (e : Int)) = true := by simpa using hv
      go_enter Tryz.func38, Tryz.ntmps38
      go_wp2_with ((go_at_call 43; ((with_reducible refine (HNo.out _ (kge)).mono ?_); rintro r w1 ⟨rfl, g1⟩)); have NB1 := NB0.ge g1; have R1 := R0.ge g1; have gw1 : Ge w w1 := (kge); obtain ⟨b0, b1, b2, b3⟩ := NB1; obtain ⟨r0, p0, f0⟩ := R1 0 (by omega); obtain ⟨r1, p1, f1⟩ := R1 1 (by omega); obtain ⟨r2, p2, f2⟩ := R1 2 (by omega); obtain ⟨r3, p3, f3⟩ := R1 3 (by omega); have z1 := Nat.lt_of_lt_of_le zR g1.size)
      exact bodyPost_ret (v := .tuple #[.agg #[.int .i64 0, .int .i64 0, .int .i64 0, .slice none 0 0], .bool false]) (by simp [results, Tryz.results38, go_sem, *]) rfl (HT.out _ (kge))
    · have t1 : decide (v < (e : Int)) = false := by simpa using hv
      have t2 : decide ((n : Int) ≤ v) = true := by simp; unfold inG at hG; omega
      go_enter Tryz.func38, Tryz.ntmps38
      go_wp2_with ((go_at_call 43; ((with_reducible refine (HNo.out _ (kge)).mono ?_); rintro r w1 ⟨rfl, g1⟩)); have NB1 := NB0.ge g1; have R1 := R0.ge g1; have gw1 : Ge w w1 := (kge); obtain ⟨b0, b1, b2, b3⟩ := NB1; obtain ⟨r0, p0, f0⟩ := R1 0 (by omega); obtain ⟨r1, p1, f1⟩ := R1 1 (by omega); obtain ⟨r2, p2, f2⟩ := R1 2 (by omega); obtain ⟨r3, p3, f3⟩ := R1 3 (by omega); have z1 := Nat.lt_of_lt_of_le zR g1.size)
      exact bodyPost_ret (v := .tuple #[.agg #[.int .i64 0, .int .i64 0, .int .i64 0, .slice none 0 0], .bool false]) (by simp [results, Tryz.results38, go_sem, *]) rfl (HT.out _ (kge))

set_option maxHeartbeats 3200000 in
theorem iDropNodeA (n e : Nat) (S v : Int) (s : Value) (L : List Wr) (w : World) (hs : SlF w s L.length 3 (flatW L)) (hB : netB n e S L.length (flatW L) = true) :
    Calls Tryz.prog 37 #[.agg #[.int .i64 (n : Int), .int .i64 (e : Int), .int .i64 S, s], .int .i64 v] w (GivesO w (dropB n e S L v) ((n - 1 : Nat) : Int) e (redS n S L v.toNat) (redL n S L v.toNat)) := by
  obtain ⟨⟨h1, h5⟩, ⟨e1, e2⟩, ⟨s1, s2⟩, hok, _⟩ := netP_of hB
  have hm : L.length ≤ 10 := prs_len (by omega) hok
  by_cases hG : inG n e v
  · by_cases hc : 1 ≤ nearC n L v ∧ nearC n L v ≤ 2
    · rw [dropB_t hG hc]
      obtain ⟨v, rfl⟩ := Int.eq_ofNat_of_zero_le (show 0 ≤ v by unfold inG at hG; omega)
      unfold inG at hG
      exact iDropNode n v e (nearC n L v) S s L w hs hB (by omega) (by omega) rfl hc.1 hc.2
    · rw [dropB_f2 hc]
      have HT := Lib.hid (fun w' g => GivesO.f (w := w) (w' := w') (b := false) (N := ((n - 1 : Nat) : Int)) (E := e) (S := redS n S L v.toNat) (L := redL n S L v.toNat) rfl g)
      obtain ⟨v, rfl⟩ := Int.eq_ofNat_of_zero_le (show 0 ≤ v by unfold inG at hG; omega)
      obtain ⟨p, cap, rfl, _⟩ := hs.open
      have HV := Lib.hid hs
      have HNo := Lib.hid (fun w' (g : Ge w w') => iNetOk n e S (.slice p L.length cap) L.length (flatW L) w' (HV.out.ge g) (by omega))
      have HWi := Lib.hid (fun w' (g : Ge w w') => iWiresAt n e S (.slice p L.length cap) L.length (flatW L) v w' (HV.out.ge g) hB (by unfold inG at hG; omega) (by unfold inG at hG; omega))
      rw [hB] at HNo
      have hcc : (nearX L.length (flatW L) v n).length = nearC n L v := rfl
      rw [hcc] at HWi
      obtain ⟨NB0, R0⟩ := in_res w n e S (.slice p L.length cap)
      have zR : w.heap.size + 1 < ((w.alloc (.cells #[.int .i64 n, .int .i64 e, .int .i64 S, .slice p L.length cap] 33)).alloc (.cells #[.int .i64 0, .int .i64 0, .int .i64 0, .slice none 0 0] 33)).heap.size := by simp
      have t1 : decide ((v : Int) < (e : Int)) = false := by simp; unfold inG at hG; omega
      have t1' : decide (v < e) = false := by simp; unfold inG at hG; omega
      have t2 : decide ((n : Int) ≤ (v : Int)) = false := by simp; unfold inG at hG; omega
      have t2' : decide (n ≤ v) = false := by simp; unfold inG at hG; omega
      generalize redS n S L (v : Int).toNat = SS at *
      generalize redL n S L (v : Int).toNat = LL at *
      generalize hC : nearC n L (v : Int) = C at *
      generalize nearX L.length (flatW L) v n = NX at *
      clear hC hcc
      generalize L.length = m at *
      clear hs hok hB
      by_cases hc1 : C < 1
      · have t3 : decide ((C : Int) < 1) = true := by simp; omega
        have t4 : C = 0 := by omega
        subst t4
        go_enter Tryz.func37, Tryz.ntmps37
        go_wp2_with (first | ((go_at_call 43; ((with_reducible refine (HNo.out _ (kge)).mono ?_); rintro r w1 ⟨rfl, g1⟩)); have NB1 := NB0.ge g1; have R1 := R0.ge g1; have gw1 : Ge w w1 := (kge); obtain ⟨b0, b1, b2, b3⟩ := NB1; obtain ⟨r0, p0, f0⟩ := R1 0 (by omega); obtain ⟨r1, p1, f1⟩ := R1 1 (by omega); obtain ⟨r2, p2, f2⟩ := R1 2 (by omega); obtain ⟨r3, p3, f3⟩ := R1 3 (by omega); have z1 := Nat.lt_of_lt_of_le zR g1.size) | ((go_at_call 73; ((with_reducible refine (HWi.out _ gw1).mono ?_); rintro r w2 ⟨v2, rfl, o2, g2⟩)); obtain ⟨p2, cc2, rfl⟩ := owns_form o2; have gw1 := Ge.trans gw1 g2; have b0 := Ge.keep g2 b0; have b1 := Ge.keep g2 b1; have b2 := Ge.keep g2 b2; have b3 := Ge.keep g2 b3; have R1 := R1.ge g2; obtain ⟨r0, p0, f0⟩ := R1 0 (by omega); obtain ⟨r1, p1, f1⟩ := R1 1 (by omega); obtain ⟨r2, p2, f2⟩ := R1 2 (by omega); obtain ⟨r3, p3, f3⟩ := R1 3 (by omega); have z1 := Nat.lt_of_lt_of_le z1 g2.size))
        exact bodyPost_ret (v := .tuple #[.agg #[.int .i64 0, .int .i64 0, .int .i64 0, .slice none 0 0], .bool false]) (by simp [results, Tryz.results37, go_sem, *]) rfl (HT.out _ (kge))
      · have t3 : decide ((C : Int) < 1) = false := by simp; omega
        have t4 : decide ((2 : Int) < (C : Int)) = true := by simp; omega
        have t5 : decide (C < 1) = false := by simp; omega
        have t6 : decide (2 < C) = true := by simp; omega
        have t7 : (C == 0) = false := by simp; omega
        have t8 : decide (C = 0) = false := by simp; omega
        go_enter Tryz.func37, Tryz.ntmps37
        go_wp2_with (first | ((go_at_call 43; ((with_reducible refine (HNo.out _ (kge)).mono ?_); rintro r w1 ⟨rfl, g1⟩)); have NB1 := NB0.ge g1; have R1 := R0.ge g1; have gw1 : Ge w w1 := (kge); obtain ⟨b0, b1, b2, b3⟩ := NB1; obtain ⟨r0, p0, f0⟩ := R1 0 (by omega); obtain ⟨r1, p1, f1⟩ := R1 1 (by omega); obtain ⟨r2, p2, f2⟩ := R1 2 (by omega); obtain ⟨r3, p3, f3⟩ := R1 3 (by omega); have z1 := Nat.lt_of_lt_of_le zR g1.size) | ((go_at_call 73; ((with_reducible refine (HWi.out _ gw1).mono ?_); rintro r w2 ⟨v2, rfl, o2, g2⟩)); obtain ⟨p2, cc2, rfl⟩ := owns_form o2; have gw1 := Ge.trans gw1 g2; have b0 := Ge.keep g2 b0; have b1 := Ge.keep g2 b1; have b2 := Ge.keep g2 b2; have b3 := Ge.keep g2 b3; have R1 := R1.ge g2; obtain ⟨r0, p0, f0⟩ := R1 0 (by omega); obtain ⟨r1, p1, f1⟩ := R1 1 (by omega); obtain ⟨r2, p2, f2⟩ := R1 2 (by omega); obtain ⟨r3, p3, f3⟩ := R1 3 (by omega); have z1 := Nat.lt_of_lt_of_le z1 g2.size))
        exact bodyPost_ret (v := .tuple #[.agg #[.int .i64 0, .int .i64 0, .int .i64 0, .slice none 0 0], .bool false]) (by simp [results, Tryz.results37, go_sem, *]) rfl (HT.out _ (kge))
  · rw [dropB_f hG]
    have HT := Lib.hid (fun w' g => GivesO.f (w := w) (w' := w') (b := false) (N := ((n - 1 : Nat) : Int)) (E := e) (S := redS n S L v.toNat) (L := redL n S L v.toNat) rfl g)
    obtain ⟨p, cap, rfl, _⟩ := hs.open
    have HV := Lib.hid hs
    have HNo := Lib.hid (fun w' (g : Ge w w') => iNetOk n e S (.slice p L.length cap) L.length (flatW L) w' (HV.out.ge g) (by omega))
    rw [hB] at HNo
    obtain ⟨NB0, R0⟩ := in_res w n e S (.slice p L.length cap)
    have zR : w.heap.size + 1 < ((w.alloc (.cells #[.int .i64 n, .int .i64 e, .int .i64 S, .slice p L.length cap] 33)).alloc (.cells #[.int .i64 0, .int .i64 0, .int .i64 0, .slice none 0 0] 33)).heap.size := by simp
    generalize redS n S L v.toNat = SS at *
    generalize redL n S L v.toNat = LL at *
    generalize L.length = m at *
    clear hs hB hok
    by_cases hv : v < (e : Int)
    · have t1 : decide (v < (e : Int)) = true := by simpa using hv
      go_enter Tryz.func37, Tryz.ntmps37
      go_wp2_with ((go_at_call 43; ((with_reducible refine (HNo.out _ (kge)).mono ?_); rintro r w1 ⟨rfl, g1⟩)); have NB1 := NB0.ge g1; have R1 := R0.ge g1; have gw1 : Ge w w1 := (kge); obtain ⟨b0, b1, b2, b3⟩ := NB1; obtain ⟨r0, p0, f0⟩ := R1 0 (by omega); obtain ⟨r1, p1, f1⟩ := R1 1 (by omega); obtain ⟨r2, p2, f2⟩ := R1 2 (by omega); obtain ⟨r3, p3, f3⟩ := R1 3 (by omega); have z1 := Nat.lt_of_lt_of_le zR g1.size)
      exact bodyPost_ret (v := .tuple #[.agg #[.int .i64 0, .int .i64 0, .int .i64 0, .slice none 0 0], .bool false]) (by simp [results, Tryz.results37, go_sem, *]) rfl (HT.out _ (kge))
    · have t1 : decide (v < (e : Int)) = false := by simpa using hv
      have t2 : decide ((n : Int) ≤ v) = true := by simp; unfold inG at hG; omega
      go_enter Tryz.func37, Tryz.ntmps37
      go_wp2_with ((go_at_call 43; ((with_reducible refine (HNo.out _ (kge)).mono ?_); rintro r w1 ⟨rfl, g1⟩)); have NB1 := NB0.ge g1; have R1 := R0.ge g1; have gw1 : Ge w w1 := (kge); obtain ⟨b0, b1, b2, b3⟩ := NB1; obtain ⟨r0, p0, f0⟩ := R1 0 (by omega); obtain ⟨r1, p1, f1⟩ := R1 1 (by omega); obtain ⟨r2, p2, f2⟩ := R1 2 (by omega); obtain ⟨r3, p3, f3⟩ := R1 3 (by omega); have z1 := Nat.lt_of_lt_of_le zR g1.size)
      exact bodyPost_ret (v := .tuple #[.agg #[.int .i64 0, .int .i64 0, .int .i64 0, .slice none 0 0], .bool false]) (by simp [results, Tryz.results37, go_sem, *]) rfl (HT.out _ (kge))
end Go.Proofs.YtagiecajffhnpaaGreat

namespace Go.Proofs.YtagiecajffhnpaaGreat
set_option maxRecDepth 100000
open Go.ChangeShapes Go.WideShapes Go.ChangeAt Go.RowKit Go.Joins

/-- The rows of out. -/
def RowsT (w : World) (B n : Nat) (u : Value) (cs : List Value) (k : Nat) (D : Nat → List Int) : Prop :=
  w.ownsRow B 78 1 u k cs ∧ ∀ i, i < k → ∃ pr cr, cs[i]? = some (.slice pr n cr) ∧ w.ownsRow B 86 2 (.slice pr n cr) n (icells (D i)) ∧ (∀ q, u.ownBlock = some q → (Value.slice pr n cr).ownBlock ≠ some q)
theorem RowsT.ge {w w' : World} {B n : Nat} {u : Value} {cs : List Value} {k : Nat} {D : Nat → List Int} (h : RowsT w B n u cs k D) (hg : Ge w w') : RowsT w' B n u cs k D :=
  ⟨hg.owns h.1, fun i hi => by obtain ⟨pr, cr, h1, h2, h3⟩ := h.2 i hi; exact ⟨pr, cr, h1, hg.owns h2, h3⟩⟩
theorem RowsT.snoc {w0 w w' : World} {B n : Nat} {u v' row : Value} {cs : List Value} {k : Nat} {D : Nat → List Int} (h : RowsT w0 B n u cs k D) (hg : Ge w0 w)
    (hrow : w.ownsRow w0.heap.size 86 2 row n (icells (D k))) (hn : 0 < n) (hB : B ≤ w0.heap.size) (h2 : w'.ownsRow B 78 1 v' (k + 1) (cs ++ [row])) (hm : Mine w w' u)
    (hat : v'.ownBlock = u.ownBlock ∨ ∃ q, v'.ownBlock = some q ∧ w.heap.size ≤ q) : RowsT w' B n v' (cs ++ [row]) (k + 1) D := by
  have hcl : cs.length = k := by have := h.1.1; omega
  obtain ⟨g, cap, rfl⟩ := Go.Joins.ownsRow_form hrow hn
  have hlr := hrow.lt g rfl
  refine ⟨h2, fun i hi => ?_⟩
  by_cases e : i = k
  · subst e
    refine ⟨some ⟨g, 0, none⟩, cap, by rw [List.getElem?_append_right (by omega)]; simp [hcl], ?_, fun q hq e => ?_⟩
    · refine owns_mono (hrow.kept hm ?_) hB
      right
      intro e
      have := (h.1.lt g e.symm).2
      omega
    · have e' : q = g := by simp [Value.ownBlock] at e; exact e.symm
      subst e'
      rcases hat with hat | ⟨k', hk', hle⟩
      · rw [hat] at hq
        have := (h.1.lt q hq).2
        omega
      · rw [hk'] at hq
        have : k' = q := by simpa using hq
        omega
  · obtain ⟨pr, cr, h1, h3, h4⟩ := (h.ge hg).2 i (by omega)
    have hold := (h.2 i (by omega))
    refine ⟨pr, cr, by rw [List.getElem?_append_left (by omega)]; exact h1, ?_, fun q hq e => ?_⟩
    · refine h3.kept hm ?_
      right
      intro e
      cases hu : u.ownBlock with
      | none =>
        rw [hu] at e
        obtain ⟨g', cap', e'⟩ := Go.Joins.ownsRow_form h3 hn
        rw [e'] at e; simp [Value.ownBlock] at e
      | some q => exact h4 q hu (by rw [e, hu])
    · rcases hat with hat | ⟨k', hk', hle⟩
      · rw [hat] at hq
        exact h4 q hq e
      · rw [hk'] at hq
        have e' : k' = q := by simpa using hq
        have := (h3.lt q e).2
        omega
theorem RowsT.rows {w : World} {B n : Nat} {u : Value} {cs : List Value} {D : Nat → List Int} (h : RowsT w B n u cs n D) (hn : 0 < n) : SlRows w u n 2 D := by
  obtain ⟨g, cap, rfl⟩ := Go.Joins.ownsRow_form h.1 hn
  refine ⟨g, 0, cap, rfl, fun i hi => ?_⟩
  obtain ⟨pr, cr, h1, h2, _⟩ := h.2 i hi
  exact ⟨pr, cr, by rw [Nat.zero_add, h.1.cellAt i (by omega), h1], Sl.of_owns h2⟩

end Go.Proofs.YtagiecajffhnpaaGreat

namespace Go.Proofs.YtagiecajffhnpaaGreat
set_option maxRecDepth 100000
open Go.ChangeShapes Go.WideShapes Go.ChangeAt Go.RowKit Go.Joins

theorem ratioOf_inR (n d : Int) : (-9223372036854775808 ≤ (ratioOf n d).n ∧ (ratioOf n d).n ≤ 9223372036854775807) ∧ (-9223372036854775808 ≤ (ratioOf n d).d ∧ (ratioOf n d).d ≤ 9223372036854775807) := by
  rcases ratioOf_ok n d with h | h
  · rw [h]; decide
  · exact ratio_sm h
theorem respL_in (n e m : Nat) (S : Int) (xs : List Int) (a : Nat) : ∀ k, ∀ x ∈ respL n e m S xs a k, -9223372036854775808 ≤ x ∧ x ≤ 9223372036854775807
  | 0 => fun x hx => by simp [respL] at hx
  | k + 1 => fun x hx => by
    simp only [respL, List.mem_append, List.mem_cons, List.not_mem_nil, or_false] at hx
    have := ratioOf_inR (topZ n e m xs a k) (S * dwnZ n e m xs)
    rcases hx with h | h | h
    · exact respL_in n e m S xs a k x h
    · rw [h]; exact this.1
    · rw [h]; exact this.2
theorem nth_inR {l : List Int} (h : ∀ x ∈ l, -9223372036854775808 ≤ x ∧ x ≤ 9223372036854775807) (j : Nat) : -9223372036854775808 ≤ nth l j ∧ nth l j ≤ 9223372036854775807 := by
  by_cases hj : j < l.length
  · rw [nth_eq l j hj]; exact h _ (List.getElem_mem hj)
  · have : nth l j = 0 := by unfold nth; simp [List.getD_eq_getElem?_getD, List.getElem?_eq_none (by omega : l.length ≤ j)]
    omega
def termT (F R : List UInt8) : List UInt8 := [116, 101, 114, 109, 105, 110, 97, 108, 32] ++ F ++ [58, 32] ++ R
theorem term_eq (F R : List UInt8) : (⟨#[116, 101, 114, 109, 105, 110, 97, 108, 32]⟩ : ByteArray) ++ bstr F ++ ⟨#[58, 32]⟩ ++ bstr R = bstr (termT F R) := by
  rw [show (⟨#[116, 101, 114, 109, 105, 110, 97, 108, 32]⟩ : ByteArray) = bstr [116, 101, 114, 109, 105, 110, 97, 108, 32] from rfl, show (⟨#[58, 32]⟩ : ByteArray) = bstr [58, 32] from rfl, bstr_append, bstr_append, bstr_append]; rfl
/-- The first lines. -/
noncomputable def netLs (n e m : Nat) (S : Int) (xs : List Int) : Nat → List (List UInt8)
  | 0 => [netTxt n e S m xs]
  | k + 1 => netLs n e m S xs k ++ [termT (fmtInt (k : Int)) (rowLine e (respL n e m S xs k e))]
theorem netLs_length (n e m : Nat) (S : Int) (xs : List Int) : ∀ k, (netLs n e m S xs k).length = k + 1
  | 0 => rfl
  | k + 1 => by simp [netLs, netLs_length n e m S xs k]
noncomputable def netLines (N E S : Int) (m : Nat) (xs : List Int) : List (List UInt8) := if netB N E S m xs = true then netLs N.toNat E.toNat m S xs E.toNat else []
theorem netLines_f {N E S : Int} {m : Nat} {xs : List Int} (h : netB N E S m xs = false) : netLines N E S m xs = [] := by simp [netLines, h]
theorem netLines_t {n e : Nat} {S : Int} {m : Nat} {xs : List Int} (h : netB n e S m xs = true) : netLines n e S m xs = netLs n e m S xs e := by simp [netLines, h]
/-- Lines of its own memory. -/
def GivesT (w : World) (l : List (List UInt8)) (e : Ending) (w' : World) : Prop := ∃ v, e = .returned v ∧ w'.ownsRow w.heap.size 9 1 v l.length (scells l) ∧ Ge w w'
theorem owns_oneS {w : World} {b base : Nat} {y : List UInt8} (hb : b = w.heap.size) (h : base ≤ b) : (w.alloc (.cells #[.string (bstr y)] 9)).ownsRow base 9 1 (.slice (some ⟨b, 0, none⟩) 1 1) 1 (scells [y]) := by
  subst hb
  exact ⟨rfl, .inr ⟨w.heap.size, 1, _, rfl, h, heap_alloc_new w _, Nat.le_refl _, by unfold maxLen; omega, rfl, rfl⟩⟩
theorem ap_strX {w : World} {ops : Array Oper} {rest : List Oper} {o : Oper} {a : Act} {Q : Exit → Act → World → Prop} (hgd : o.guard = none) (s x : Operand)
    (ho : o.op = .call { callee := .builtin .append, args := #[s, x], argTypes := #[27, 27] })
    (base : Nat) (v : Value) (l : List (List UInt8)) (k : Nat) (hk : l.length = k) (hs : a.eval s = v) (hown : w.ownsRow base 9 1 v k (scells l))
    (X : ByteArray) (y : List UInt8) (hX : X = bstr y) (hx : a.eval x = .slice (some ⟨w.heap.size, 0, none⟩) 1 1) (hn : k < 1099511627776) (hbase : base ≤ w.heap.size)
    (h : ∀ v' w', w'.ownsRow base 9 1 v' (k + 1) (scells (l ++ [y])) → Mine w w' v → wpList Tryz.prog ops Q rest (a.put o.dst v') w') :
    wpList Tryz.prog ops Q (o :: rest) a (w.alloc (.cells #[.string X] 9)) := by
  subst hX
  subst hk
  exact ap_str hgd s x ho base v l hs hown y hx hn hbase (fun v' w' h1 h2 => h v' w' (by simpa using h1) h2)

set_option maxHeartbeats 1600000 in
theorem iNetLinesF (N E S : Int) (s : Value) (m : Nat) (xs : List Int) (w : World) (hs : SlF w s m 3 xs) (hm : m ≤ 9223372036854775807) (hB : netB N E S m xs = false) :
    Calls Tryz.prog 47 #[.agg #[.int .i64 N, .int .i64 E, .int .i64 S, s]] w (GivesT w (netLines N E S m xs)) := by
  obtain ⟨p, cap, rfl, hc⟩ := hs.open
  have HV := Lib.hid hs
  clear hs hc
  have HR := Lib.hid (fun w' (g : Ge w w') => iResponseOfF N E S (.slice p m cap) m xs w' (HV.out.ge g) hm hB)
  rw [netLines_f hB]
  go_enter Tryz.func47, Tryz.ntmps47
  go_wp2_with (go_at_call 83; ((with_reducible refine (HR.out _ (kge)).mono ?_); rintro r w1 ⟨rfl, g1⟩))
  go_ret
  exact ⟨_, rfl, ⟨rfl, .inl ⟨rfl, rfl⟩⟩, kge⟩

set_option maxHeartbeats 3200000 in
theorem iNetLinesT (n e : Nat) (S : Int) (s : Value) (m : Nat) (xs : List Int) (w : World) (hs : SlF w s m 3 xs) (hm : m ≤ 9223372036854775807) (hB : netB n e S m xs = true) :
    Calls Tryz.prog 47 #[.agg #[.int .i64 (n : Int), .int .i64 (e : Int), .int .i64 S, s]] w (GivesT w (netLines n e S m xs)) := by
  obtain ⟨⟨h1, h5⟩, ⟨e1, e2⟩, ⟨s1, s2⟩, hok, _⟩ := netP_of hB
  obtain ⟨p, cap, rfl, hc⟩ := hs.open
  have HV := Lib.hid hs
  have HR := Lib.hid (fun w' (g : Ge w w') => iResponseOfT n e S (.slice p m cap) m xs w' (HV.out.ge g) hm hB)
  have HF := Lib.hid (fun w' (g : Ge w w') => iFormatNet n e S (.slice p m cap) m xs w' (HV.out.ge g) hm)
  have HL := Lib.hid (netLines_t hB)
  have HL0 : Hid (netLs n e m S xs 0 = [netTxt n e S m xs]) := rfl
  have HLs : Hid (∀ k : Nat, netLs n e m S xs (k + 1) = netLs n e m S xs k ++ [termT (fmtInt (k : Int)) (rowLine e (respL n e m S xs k e))]) := fun _ => rfl
  have HLn := Lib.hid (netLs_length n e m S xs)
  have HIn := Lib.hid (fun a => nth_inR (respL_in n e m S xs a e))
  clear hs hc hok hB
  obtain ⟨L, hL⟩ : ∃ L, netLs n e m S xs = L := ⟨_, rfl⟩
  obtain ⟨R, hR⟩ : ∃ R : Nat → List Int, R = fun a => respL n e m S xs a e := ⟨_, rfl⟩
  have hR' : ∀ a, respL n e m S xs a e = R a := fun a => by rw [hR]
  rw [hL] at HL0 HLs HLn HL
  simp only [hR'] at HLs HIn HR
  clear hL hR hR'
  generalize netTxt n e S m xs = NT at *
  go_enter Tryz.func47, Tryz.ntmps47
  go_wp2_with (first
    | ((go_at_call 83; ((with_reducible refine (HR.out _ (kge)).mono ?_); rintro r w1 ⟨vm, rfl, hM, g1⟩)); obtain ⟨bm, om, cm, rfl, hrow⟩ := hM; replace hrow := Lib.hid hrow; have b0 := Ge.keep g1 (cell_new (i := 0) rfl rfl); have b1 := Ge.keep g1 (cell_new (i := 1) rfl rfl); have b2 := Ge.keep g1 (cell_new (i := 2) rfl rfl); have b3 := Ge.keep g1 (cell_new (i := 3) rfl rfl); have z1 := g1.size; (simp at b0 b1 b2 b3 z1); have G1 : Ge w w1 := (kge))
    | ((go_at_call 23; ((with_reducible refine (HF.out _ (kge)).mono ?_); rintro r w2 ⟨rfl, g2⟩)); have G2 : Ge w w2 := (kge); have z2 := g2.size))
  go_loopw [5, 20] (fun o i wr => ∃ a : Nat, a ≤ e ∧ i = .int .i64 a ∧ wr.ownsRow w2.heap.size 9 1 o (a + 1) (scells (L a)) ∧ Ge w2 wr) (fun _ i _ => e - (intOf i).toNat)
  case atStart => exact ⟨0, Nat.zero_le _, rfl, by rw [HL0.out]; exact owns_oneS rfl (Nat.le_refl _), Ge.alloc (Ge.refl _) _⟩
  case round =>
    obtain ⟨a, ha, rfl, hown, hg⟩ := hrel
    have zg := hg.size
    by_cases hlt : a < e
    · obtain ⟨pr, cr, x0, hrw⟩ := hrow.out a hlt
      have x0r := hg.keep (g2.keep x0)
      have HRw := Lib.hid (Sl.ge hrw (Ge.trans g2 hg))
      have HO := Lib.hid hown
      have HS := Lib.hid (HLs.out a)
      have hLn := Lib.hid (HLn.out a)
      have HFr := Lib.hid (fun w' (g : Ge wr w') => iFormatRow (.slice pr e cr) e (R a) w' (HRw.out.ge g) (by omega) (HIn.out a))
      have HFi := Lib.hid (fun w' => iFormatInt (a : Int) w' (by omega) (by omega))
      have f1 := fmtInt_length (a : Int)
      have f2 := rowLine_le e (R a)
      rw [← bstr_size] at f1 f2
      clear hown x0 hrw
      generalize rowLine e (R a) = TR at *
      generalize fmtInt (a : Int) = TF at *
      have HTm := Lib.hid (term_eq TF TR)
      have u0 : ¬ (9223372036854775807 < 9 + (bstr TF).size) := by omega
      have u1 : ¬ (9223372036854775807 < 9 + (bstr TF).size + 2) := by omega
      have u2 : ¬ (9223372036854775807 < 9 + (bstr TF).size + 2 + (bstr TR).size) := by omega
      generalize L a = LA at *
      go_wp2_with (first
        | (go_at_call 6; ((with_reducible refine (HFi.out _).mono ?_); rintro r w5 ⟨rfl, rfl⟩))
        | ((go_at_call 46; ((with_reducible refine (HFr.out _ (Ge.refl _)).mono ?_); rintro r w6 ⟨rfl, g6⟩)); have G6 : Ge wr w6 := g6; have own6 := G6.owns HO.out; have z6 := G6.size)
        | (at_builtin; refine ap_strX rfl _ _ rfl w2.heap.size _ LA (a + 1) hLn.out rfl own6 _ (termT TF TR) HTm.out rfl (by omega) (by omega) ?_; intro v8 w8 own8 m8))
      go_roundw
      case rel => exact ⟨a + 1, by omega, by go_num, by rw [HS.out]; exact own8, (Ge.trans hg G6).mine own6 (Nat.le_refl _) m8⟩
      case measure => simp [intOf]; omega
    · have hae : a = e := by omega
      subst hae
      have HO := Lib.hid hown
      clear hown
      go_wp2_with fail
      go_ret
      exact ⟨_, rfl, by rw [HL.out, HLn.out]; exact owns_mono HO.out G2.size, kge⟩

theorem iNetLines (N E S : Int) (s : Value) (m : Nat) (xs : List Int) (w : World) (hs : SlF w s m 3 xs) (hm : m ≤ 9223372036854775807) :
    Calls Tryz.prog 47 #[.agg #[.int .i64 N, .int .i64 E, .int .i64 S, s]] w (GivesT w (netLines N E S m xs)) := by
  cases hB : netB N E S m xs with
  | false => exact iNetLinesF N E S s m xs w hs hm hB
  | true =>
    obtain ⟨⟨h1, h5⟩, ⟨e1, e2⟩, _⟩ := netP_of hB
    obtain ⟨n, rfl⟩ : ∃ n : Nat, N = (n : Int) := ⟨N.toNat, by omega⟩
    obtain ⟨e, rfl⟩ : ∃ e : Nat, E = (e : Int) := ⟨E.toNat, by omega⟩
    exact iNetLinesT n e S s m xs w hs hm hB

end Go.Proofs.YtagiecajffhnpaaGreat

namespace Go.Proofs.YtagiecajffhnpaaGreat
set_option maxRecDepth 100000
open Go.ChangeShapes Go.WideShapes Go.ChangeAt Go.RowKit Go.Joins

theorem mem_pieces {b s x : List UInt8} : ∀ k, x ∈ (spl b s k).1 → x.length ≤ s.length
  | 0, h => by simp [spl] at h
  | k + 1, h => by
    simp only [spl] at h
    split at h
    · rcases List.mem_append.1 h with h | h
      · exact mem_pieces k h
      · simp only [List.mem_singleton] at h
        subst h
        simp; omega
    · exact mem_pieces k h
theorem pieces_le {b s : List UInt8} : ∀ x ∈ pieces b s, x.length ≤ s.length := fun x hx => by
  unfold pieces at hx
  rcases List.mem_append.1 hx with h | h
  · exact mem_pieces _ h
  · simp only [List.mem_singleton] at h
    subst h
    simp
theorem pieces_len (b s : List UInt8) : (pieces b s).length ≤ s.length + 1 := by
  have := (spl_le b s s.length).2
  simp [pieces]; omega

noncomputable def nums (l : List (List UInt8)) (k : Nat) : List Int := (List.range k).map fun i => pv (tnth l i)
theorem nums_succ (l : List (List UInt8)) (k : Nat) : nums l (k + 1) = nums l k ++ [pv (tnth l k)] := by simp [nums, List.range_succ]
theorem nums_length (l : List (List UInt8)) (k : Nat) : (nums l k).length = k := by simp [nums]
noncomputable def allB (l : List (List UInt8)) : Bool := (List.range l.length).all fun i => pb (tnth l i)
noncomputable def numsR (l : List (List UInt8)) : List Int := if allB l = true then nums l l.length else []
theorem all_t {l : List (List UInt8)} (h : ∀ i, i < l.length → pb (tnth l i) = true) : allB l = true ∧ numsR l = nums l l.length := by
  have : allB l = true := by simp only [allB, List.all_eq_true, List.mem_range]; exact h
  exact ⟨this, by simp [numsR, this]⟩
theorem all_f {l : List (List UInt8)} {i : Nat} (hi : i < l.length) (h : pb (tnth l i) = false) : allB l = false ∧ numsR l = [] := by
  have : allB l = false := by
    cases c : allB l with
    | false => rfl
    | true =>
      simp only [allB, List.all_eq_true, List.mem_range] at c
      rw [c i hi] at h; cases h
  exact ⟨this, by simp [numsR, this]⟩
def GivesN (w : World) (l : List (List UInt8)) (e : Ending) (w' : World) : Prop :=
  ∃ v, e = .returned (.tuple #[v, .bool (allB l)]) ∧ w'.ownsRow w.heap.size 3 1 v (numsR l).length (icells (numsR l)) ∧ Ge w w'
theorem good_num {l : List (List UInt8)} {k : Nat} (h : Hid (∀ i, i < k → pb (tnth l i) = true)) (hk : pb (tnth l k) = true) : Hid (∀ i, i < k + 1 → pb (tnth l i) = true) := fun i hi => by
  by_cases e : i = k
  · subst e; exact hk
  · exact h.out i (by omega)
theorem owns_nil (w : World) (base : Nat) (e : TypeId) : w.ownsRow base e 1 (.slice none 0 0) 0 [] := ⟨rfl, .inl ⟨rfl, rfl⟩⟩

set_option maxHeartbeats 1600000 in
theorem iInts (v : Value) (l : List (List UInt8)) (w : World) (hv : SlS w v l) (hm : l.length ≤ 2000000) (hl : ∀ x ∈ l, x.length ≤ 1048576) :
    Calls Tryz.prog 21 #[v] w (GivesN w l) := by
  obtain ⟨n, hn⟩ : ∃ n, l.length = n := ⟨_, rfl⟩
  obtain ⟨p, cap, rfl, hc⟩ := hv.openN hn
  have HC := Lib.hid hc
  have HN := Lib.hid hn
  have HL := Lib.hid (fun i (h : i < n) => hl (tnth l i) (by rw [tnth_eq l i (by rw [hn]; exact h)]; exact List.getElem_mem _))
  rw [hn] at hm
  clear hv hc hn hl
  go_enter Tryz.func21, Tryz.ntmps21
  go_wp2_with fail
  go_loopw [4, 12] (fun v i wr => ∃ k : Nat, k ≤ n ∧ i = .int .i64 k ∧ wr.ownsRow w.heap.size 3 1 v (nums l k).length (icells (nums l k)) ∧ Hid (∀ i, i < k → pb (tnth l i) = true) ∧ Ge w wr) (fun _ i _ => n - (intOf i).toNat)
  case atStart => exact ⟨0, Nat.zero_le _, rfl, owns_lit0 _ _ _, fun i hi => by omega, kge⟩
  case round =>
    obtain ⟨k, hk, rfl, hown, HG, hg⟩ := hrel
    by_cases hlt : k < n
    · obtain ⟨b, o, rfl, x0⟩ := HC.out k hlt
      have y0 := hg.keep x0
      clear x0
      have hlk := HL.out k hlt
      have HP := Lib.hid (fun w => iParseInt (tnth l k) w hlk)
      cases c : pb (tnth l k) with
      | false =>
        have HF := Lib.hid (all_f (l := l) (i := k) (by rw [HN.out]; exact hlt) c)
        rw [c] at HP
        generalize tnth l k = T at *
        go_wp2_with ((go_at_call 33; ((with_reducible refine (HP.out _).mono ?_); rintro e w' ⟨rfl, rfl⟩)))
        exact bodyPost_ret (v := .tuple #[.slice none 0 0, .bool false]) (by simp [results, Tryz.results21, go_sem]) rfl ⟨_, by rw [HF.out.1], by rw [HF.out.2]; exact owns_nil _ _ _, kge⟩
      | true =>
        have HG2 := Lib.hid (good_num HG c)
        have HS : Hid (nums l k ++ [pv (tnth l k)] = nums l (k + 1)) := (nums_succ _ _).symm
        have HLn : Hid ((nums l k).length < 1099511627776) := by
          show _ < _
          rw [nums_length]; omega
        rw [c] at HP
        generalize pv (tnth l k) = X at *
        generalize tnth l k = T at *
        generalize nums l k = L at *
        have zg := hg.size
        go_wp2_with (first
          | ((go_at_call 33; ((with_reducible refine (HP.out _).mono ?_); rintro e w' ⟨rfl, rfl⟩)))
          | (at_builtin; refine ap_int rfl _ _ rfl w.heap.size u4 L rfl hown X rfl HLn.out zg ?_; intro v' w6 own6 hm6))
        go_roundw
        case rel => exact ⟨k + 1, by omega, by go_num, by rw [← HS.out]; exact own6, HG2.out, hg.mine hown (Nat.le_refl _) hm6⟩
        case measure => simp [intOf]; omega
    · have hkn : k = n := by omega
      subst hkn
      have HF := Lib.hid (all_t (l := l) (fun i hi => HG.out i (by rw [← HN.out]; exact hi)))
      go_wp2_with fail
      exact bodyPost_ret (v := .tuple #[u4, .bool true]) (by simp [results, Tryz.results21, go_sem]) rfl ⟨_, by rw [HF.out.1], by rw [HF.out.2, HN.out]; exact hown, kge⟩

end Go.Proofs.YtagiecajffhnpaaGreat

namespace Go.Proofs.YtagiecajffhnpaaGreat

open Go.RowKit

theorem spl_free {b s : List UInt8} : ∀ k, (∀ i, i < k → ¬ bnth s i ∈ b) → spl b s k = ([], 0)
  | 0, _ => rfl
  | k + 1, h => by rw [spl_out (h k (by omega)), spl_free k (fun i hi => h i (by omega))]
theorem bnth_left {x y : List UInt8} {i : Nat} (h : i < x.length) : bnth (x ++ y) i ∈ x := by
  have : bnth (x ++ y) i = x[i] := by simp [bnth, List.getD_eq_getElem?_getD, List.getElem?_append_left h, h]
  rw [this]; exact List.getElem_mem h
theorem bnth_mid {x y : List UInt8} {c : UInt8} : bnth (x ++ c :: y) x.length = c := by simp [bnth, List.getD_eq_getElem?_getD]
theorem bnth_right {x y : List UInt8} {c : UInt8} (j : Nat) : bnth (x ++ c :: y) (x.length + 1 + j) = bnth y j := by
  unfold bnth
  rw [List.getD_eq_getElem?_getD, List.getD_eq_getElem?_getD, List.getElem?_append_right (by omega), show x.length + 1 + j - x.length = j + 1 by omega, List.getElem?_cons_succ]
theorem drop_right {x y : List UInt8} {c : UInt8} (q : Nat) : (x ++ c :: y).drop (x.length + 1 + q) = y.drop q := by
  rw [show x ++ c :: y = (x ++ [c]) ++ y by simp, List.drop_append, List.drop_eq_nil_of_le (by simp)]
  simp
theorem spl_right {b x y : List UInt8} {c : UInt8} (hx : ∀ z ∈ x, ¬ z ∈ b) (hc : c ∈ b) : ∀ j, spl b (x ++ c :: y) (x.length + 1 + j) = (x :: (spl b y j).1, x.length + 1 + (spl b y j).2)
  | 0 => by
    have h0 : spl b (x ++ c :: y) x.length = ([], 0) := spl_free _ (fun i hi => hx _ (bnth_left hi))
    rw [Nat.add_zero, spl_in (by rw [bnth_mid]; exact hc), h0]
    simp [spl]
  | j + 1 => by
    have ih := spl_right hx hc j (y := y)
    by_cases h : bnth y j ∈ b
    · rw [show x.length + 1 + (j + 1) = (x.length + 1 + j) + 1 by omega, spl_in (by rw [bnth_right]; exact h), ih, spl_in h]
      simp only [drop_right, List.cons_append, Prod.mk.injEq]
      refine ⟨?_, by omega⟩
      rw [show x.length + 1 + j - (x.length + 1 + (spl b y j).2) = j - (spl b y j).2 by omega]
    · rw [show x.length + 1 + (j + 1) = (x.length + 1 + j) + 1 by omega, spl_out (by rw [bnth_right]; exact h), ih, spl_out h]
theorem pieces_cons {b x y : List UInt8} {c : UInt8} (hx : ∀ z ∈ x, ¬ z ∈ b) (hc : c ∈ b) : pieces b (x ++ c :: y) = x :: pieces b y := by
  unfold pieces
  have e : (x ++ c :: y).length = x.length + 1 + y.length := by simp; omega
  rw [e, spl_right hx hc]
  simp only [drop_right, List.cons_append]
theorem pieces_none {b x : List UInt8} (hx : ∀ z ∈ x, ¬ z ∈ b) : pieces b x = [x] := by
  unfold pieces
  rw [spl_free _ (fun i hi => hx _ (by have := bnth_left (y := []) hi; simpa using this))]
  simp

theorem fmt_chars {n : Int} (hn : in64 n) : ∀ c ∈ fmtInt n, c.toNat = 45 ∨ isDig c := fun c hc => by
  unfold in64 at hn
  obtain ⟨h1, _, _, _⟩ := fmtNat_facts 19 n.natAbs (by omega) (by omega) (by omega)
  unfold fmtInt at hc
  split at hc
  · rcases List.mem_cons.1 hc with h | h
    · left; rw [h]; rfl
    · exact Or.inr (h1 c h)
  · exact Or.inr (h1 c hc)
theorem fmt_not {n : Int} (hn : in64 n) (b : List UInt8) (hb : ∀ c ∈ b, c.toNat ≠ 45 ∧ ¬ isDig c) : ∀ z ∈ fmtInt n, ¬ z ∈ b := fun z hz hzb => by
  rcases fmt_chars hn z hz with h | h
  · exact (hb z hzb).1 h
  · exact (hb z hzb).2 h
theorem seps_ok : (∀ c ∈ [(32 : UInt8)], c.toNat ≠ 45 ∧ ¬ isDig c) ∧ (∀ c ∈ [(47 : UInt8)], c.toNat ≠ 45 ∧ ¬ isDig c) ∧ (∀ c ∈ [(47 : UInt8), 58], c.toNat ≠ 45 ∧ ¬ isDig c) := by
  unfold isDig
  simp
theorem trim_58 (a : List UInt8) : Lib.trimSuffix (a ++ [58]) [58] = a := by
  unfold Lib.trimSuffix Lib.hasSuffix
  have : ([58] : List UInt8).isSuffixOf (a ++ [58]) = true := by rw [List.isSuffixOf_iff_suffix]; exact List.suffix_append _ _
  rw [if_pos this]
  simp
theorem head_i {N E S : Int} (hN : in64 N) (hE : in64 E) (hS : in64 S) : pieces [47] (Lib.trimSuffix (netHead N E S) [58]) = [fmtInt N, fmtInt E, fmtInt S] := by
  unfold netHead
  rw [trim_58]
  have e : fmtInt N ++ [47] ++ fmtInt E ++ [47] ++ fmtInt S = fmtInt N ++ 47 :: (fmtInt E ++ 47 :: fmtInt S) := by simp
  rw [e, pieces_cons (fmt_not hN _ seps_ok.2.1) (by simp), pieces_cons (fmt_not hE _ seps_ok.2.1) (by simp), pieces_none (fmt_not hS _ seps_ok.2.1)]
theorem head_s {N E S : Int} (hN : in64 N) (hE : in64 E) (hS : in64 S) : (pieces [47, 58] (netHead N E S)).take 3 = [fmtInt N, fmtInt E, fmtInt S] := by
  unfold netHead
  have e : fmtInt N ++ [47] ++ fmtInt E ++ [47] ++ fmtInt S ++ [58] = fmtInt N ++ 47 :: (fmtInt E ++ 47 :: (fmtInt S ++ 58 :: [])) := by simp
  rw [e, pieces_cons (fmt_not hN _ seps_ok.2.2) (by simp), pieces_cons (fmt_not hE _ seps_ok.2.2) (by simp), pieces_cons (fmt_not hS _ seps_ok.2.2) (by simp)]
  rfl
theorem part_head (N E S : Int) (xs : List Int) : ∀ m, ∃ r, netPart N E S xs m = netHead N E S ++ r ∧ (r = [] ∨ ∃ y, r = 32 :: y)
  | 0 => ⟨[], by simp [netPart], Or.inl rfl⟩
  | m + 1 => by
    obtain ⟨r, h1, h2⟩ := part_head N E S xs m
    refine ⟨r ++ wireTxt xs m, by simp only [netPart, h1, List.append_assoc], Or.inr ?_⟩
    rcases h2 with rfl | ⟨y, rfl⟩
    · exact ⟨_, by simp only [wireTxt, List.nil_append, List.cons_append, List.append_assoc]; rfl⟩
    · exact ⟨y ++ wireTxt xs m, by simp⟩
theorem head_no32 {N E S : Int} (hN : in64 N) (hE : in64 E) (hS : in64 S) : ∀ z ∈ netHead N E S, ¬ z ∈ [(32 : UInt8)] := fun z hz h => by
  simp only [netHead, List.mem_append, List.mem_cons, List.not_mem_nil, or_false] at hz
  simp only [List.mem_cons, List.not_mem_nil, or_false] at h
  subst h
  rcases hz with ((((h | h) | h) | h) | h) | h
  · exact fmt_not hN _ seps_ok.1 _ h (by simp)
  · exact absurd h (by decide)
  · exact fmt_not hE _ seps_ok.1 _ h (by simp)
  · exact absurd h (by decide)
  · exact fmt_not hS _ seps_ok.1 _ h (by simp)
  · exact absurd h (by decide)
theorem first_word {N E S : Int} (hN : in64 N) (hE : in64 E) (hS : in64 S) (xs : List Int) (m : Nat) : tnth (pieces [32] (netPart N E S xs m)) 0 = netHead N E S := by
  obtain ⟨r, h1, h2⟩ := part_head N E S xs m
  rw [h1]
  rcases h2 with rfl | ⟨y, rfl⟩
  · rw [List.append_nil, pieces_none (head_no32 hN hE hS)]; rfl
  · rw [pieces_cons (head_no32 hN hE hS) (by simp)]; rfl
/-- The heads that the two sides read. -/
def hdI (s : List UInt8) : List (List UInt8) := pieces [47] (Lib.trimSuffix (tnth (pieces [32] s) 0) [58])
def hdS (s : List UInt8) : List (List UInt8) := (pieces [47, 58] (tnth (pieces [32] s) 0)).take 3
noncomputable def hdOk (h : List (List UInt8)) : Bool := allB h && decide (h.length = 3)
/-- The numbers of the first k wires. -/
noncomputable def wX (l : List (List UInt8)) : Nat → List Int
  | 0 => []
  | k + 1 => wX l k ++ [pv (tnth (pieces [45, 61] (tnth l (k + 1))) 0), pv (tnth (pieces [45, 61] (tnth l (k + 1))) 1), pv (tnth (pieces [45, 61] (tnth l (k + 1))) 2)]
noncomputable def wiresOk (l : List (List UInt8)) (m : Nat) : Bool := (List.range m).all fun j => hdOk (pieces [45, 61] (tnth l (j + 1)))
theorem wiresOk_t {l : List (List UInt8)} {m : Nat} (h : ∀ j, j < m → hdOk (pieces [45, 61] (tnth l (j + 1))) = true) : wiresOk l m = true := by
  simp only [wiresOk, List.all_eq_true, List.mem_range]; exact h
theorem wiresOk_f {l : List (List UInt8)} {m j : Nat} (hj : j < m) (h : hdOk (pieces [45, 61] (tnth l (j + 1))) = false) : wiresOk l m = false := by
  cases c : wiresOk l m with
  | false => rfl
  | true =>
    simp only [wiresOk, List.all_eq_true, List.mem_range] at c
    rw [c j hj] at h; cases h
noncomputable def pnB (h : List (List UInt8)) (s : List UInt8) : Bool :=
  hdOk h && (wiresOk (pieces [32] s) ((pieces [32] s).length - 1) && decide (netTxt (pv (tnth h 0)) (pv (tnth h 1)) (pv (tnth h 2)) ((pieces [32] s).length - 1) (wX (pieces [32] s) ((pieces [32] s).length - 1)) = s))
theorem pnB_hd {h : List (List UInt8)} {s : List UInt8} (c : hdOk h = false) : pnB h s = false := by unfold pnB; rw [c]; rfl
theorem pnB_w {h : List (List UInt8)} {s : List UInt8} (c : wiresOk (pieces [32] s) ((pieces [32] s).length - 1) = false) : pnB h s = false := by unfold pnB; rw [c]; simp
theorem net_in {N E S : Int} {m : Nat} {xs : List Int} (h : netB N E S m xs = true) : in64 N ∧ in64 E ∧ in64 S := by
  obtain ⟨h1, h2, h3, _⟩ := netP_of h
  unfold in64
  omega
/-- A text that is read is that of a valid network; both heads are the same. -/
theorem pn_facts {h : List (List UInt8)} {s : List UInt8} (hh : h = hdI s ∨ h = hdS s) (c : pnB h s = true) :
    netB (pv (tnth h 0)) (pv (tnth h 1)) (pv (tnth h 2)) ((pieces [32] s).length - 1) (wX (pieces [32] s) ((pieces [32] s).length - 1)) = true ∧ hdI s = h ∧ hdS s = h := by
  unfold pnB at c
  simp only [Bool.and_eq_true, decide_eq_true_eq] at c
  obtain ⟨c1, c2, c3⟩ := c
  generalize wX (pieces [32] s) ((pieces [32] s).length - 1) = xs at c3 ⊢
  generalize ((pieces [32] s).length - 1) = m at c2 c3 ⊢
  have hlen : h.length = 3 := by unfold hdOk at c1; simp only [Bool.and_eq_true, decide_eq_true_eq] at c1; exact c1.2
  cases hB : netB (pv (tnth h 0)) (pv (tnth h 1)) (pv (tnth h 2)) m xs with
  | false =>
    exfalso
    have : s = [] := by rw [← c3]; unfold netTxt; rw [hB]; rfl
    subst this
    have e : pieces [32] ([] : List UInt8) = [[]] := rfl
    rcases hh with rfl | rfl
    · have : hdI [] = [[]] := rfl
      rw [this] at hlen; simp at hlen
    · have : hdS [] = [[]] := rfl
      rw [this] at hlen; simp at hlen
  | true =>
    obtain ⟨iN, iE, iS⟩ := net_in hB
    have hs : s = netPart (pv (tnth h 0)) (pv (tnth h 1)) (pv (tnth h 2)) xs m := by rw [← c3]; unfold netTxt; rw [hB]; rfl
    have hw : tnth (pieces [32] s) 0 = netHead (pv (tnth h 0)) (pv (tnth h 1)) (pv (tnth h 2)) := by rw [hs]; exact first_word iN iE iS xs m
    have eI : hdI s = [fmtInt (pv (tnth h 0)), fmtInt (pv (tnth h 1)), fmtInt (pv (tnth h 2))] := by unfold hdI; rw [hw]; exact head_i iN iE iS
    have eS : hdS s = [fmtInt (pv (tnth h 0)), fmtInt (pv (tnth h 1)), fmtInt (pv (tnth h 2))] := by unfold hdS; rw [hw]; exact head_s iN iE iS
    refine ⟨rfl, ?_, ?_⟩
    · rcases hh with e | e
      · exact e.symm
      · rw [eI, ← eS]; exact e.symm
    · rcases hh with e | e
      · rw [eS, ← eI]; exact e.symm
      · exact e.symm
end Go.Proofs.YtagiecajffhnpaaGreat

namespace Go.Proofs.YtagiecajffhnpaaGreat
set_option maxRecDepth 100000
open Go.ChangeShapes Go.WideShapes Go.ChangeAt Go.RowKit Go.Joins

noncomputable def pnV (s : List UInt8) (i : Nat) : Int := if pnB (hdI s) s = true then pv (tnth (hdI s) i) else 0
noncomputable def pnM (s : List UInt8) : Nat := if pnB (hdI s) s = true then (pieces [32] s).length - 1 else 0
noncomputable def pnX (s : List UInt8) : List Int := if pnB (hdI s) s = true then wX (pieces [32] s) ((pieces [32] s).length - 1) else []
theorem pn_f {s : List UInt8} (h : pnB (hdI s) s = false) : (∀ i, pnV s i = 0) ∧ pnM s = 0 ∧ pnX s = [] := by simp [pnV, pnM, pnX, h]
theorem pn_t {s : List UInt8} (h : pnB (hdI s) s = true) : (∀ i, pnV s i = pv (tnth (hdI s) i)) ∧ pnM s = (pieces [32] s).length - 1 ∧ pnX s = wX (pieces [32] s) ((pieces [32] s).length - 1) := by simp [pnV, pnM, pnX, h]
/-- A network and whether there is one: that of the text s. -/
def GivesP (w : World) (s : List UInt8) (e : Ending) (w' : World) : Prop :=
  ∃ v, e = .returned (.tuple #[.agg #[.int .i64 (pnV s 0), .int .i64 (pnV s 1), .int .i64 (pnV s 2), v], .bool (pnB (hdI s) s)]) ∧ w'.ownsRow w.heap.size 45 3 v (pnM s) (icells (pnX s)) ∧ Ge w w'
theorem owns_nil3 (w : World) (base : Nat) (e : TypeId) : w.ownsRow base e 3 (.slice none 0 0) 0 [] := ⟨rfl, .inl ⟨rfl, rfl⟩⟩
theorem gives_f {w w' : World} {s : List UInt8} (h : pnB (hdI s) s = false) (hg : Ge w w') : GivesP w s (.returned (.tuple #[.agg #[.int .i64 0, .int .i64 0, .int .i64 0, .slice none 0 0], .bool false])) w' := by
  obtain ⟨h1, h2, h3⟩ := pn_f h
  exact ⟨_, by rw [h1, h1, h1, h], by rw [h2, h3]; exact owns_nil3 _ _ _, hg⟩
theorem trimS (x : List UInt8) (w : World) (hx : x.length ≤ 1048576) : Calls Tryz.prog 32 #[.string (bstr x), .string ⟨#[58]⟩] w fun e w' => e = .returned (.string (bstr (Lib.trimSuffix x [58]))) ∧ w = w' :=
  (Tryz.strings_TrimSuffix (bstr x) ⟨#[58]⟩ w (by rw [bstr_size]; omega)).mono fun e w' ⟨he, hw⟩ => ⟨by rw [he, bstr_data]; rfl, hw.symm⟩
theorem trimS_le (x : List UInt8) : (Lib.trimSuffix x [58]).length ≤ x.length := by
  unfold Lib.trimSuffix
  split
  · simp
  · omega
theorem own_strP {w : World} {base g n cap : Nat} {e : TypeId} {l : List (List UInt8)} (h : w.ownsRow base e 1 (.slice (some ⟨g, 0, none⟩) n cap) n (scells l)) {j : Nat} (hj : j < n) : w.cell? ⟨g, j, none⟩ = some (.string (bstr (tnth l j))) := by
  have hl : l.length = n := by have := h.1; rw [scells_length] at this; omega
  rw [h.cellAt j (by omega)]
  simp [scells, hl, hj, tnth_eq]
/-- All but one cell is as it was. -/
def GeX (b : Addr) (w w' : World) : Prop := (∀ a v, a ≠ b → w.cell? a = some v → w'.cell? a = some v) ∧ (∀ a v, w.cell? a = some v → w.frozen? a = false → w'.frozen? a = false) ∧ w.heap.size ≤ w'.heap.size
theorem GeX.refl (b : Addr) (w : World) : GeX b w w := ⟨fun _ _ _ h => h, fun _ _ _ h => h, Nat.le_refl _⟩
theorem GeX.ge {b : Addr} {w w' w'' : World} (h : GeX b w w') (hb : ∃ u, w'.cell? b = some u) (hg : Ge w' w'') : GeX b w w'' := by
  refine ⟨fun a v hne hc => hg.keep (h.1 a v hne hc), fun a v hc hf => ?_, Nat.le_trans h.2.2 hg.size⟩
  by_cases e : a = b
  · subst e
    obtain ⟨u, hu⟩ := hb
    exact hg.keepF hu (h.2.1 a v hc hf)
  · exact hg.keepF (h.1 a v e hc) (h.2.1 a v hc hf)
theorem GeX.set {b : Addr} {w w' : World} (h : GeX b w w') (x : Value) : GeX b w (w'.setCell b x) := by
  refine ⟨fun a v hne hc => ?_, fun a v hc hf => ?_, by simpa using h.2.2⟩
  · rw [World.cell?_setCell_other _ _ _ _ (fun e => hne e.symm)]; exact h.1 a v hne hc
  · have := h.2.1 a v hc hf
    simpa using this
theorem GeX.mine {b : Addr} {w w' w'' : World} {base e n : Nat} {v : Value} {xs : List Value} (h : GeX b w w') (ho : w'.ownsRow base e 3 v n xs) (hb : w.heap.size ≤ base) (hm : Mine w' w'' v) : GeX b w w'' := by
  refine ⟨fun a u hne hc => mine_cell hm (h.1 a u hne hc) (before_row ho (Nat.lt_of_lt_of_le (World.block_lt_of_cell? _ _ hc) hb)), fun a u hc hf => ?_, Nat.le_trans h.2.2 (World.grownBy.size hm)⟩
  have hlt := World.block_lt_of_cell? _ _ hc
  have hne := before_row ho (b := a.block) (Nat.lt_of_lt_of_le hlt hb)
  rw [World.frozen?_of_block (World.grownBy.block hm a.block (Nat.lt_of_lt_of_le hlt h.2.2) (fun e => hne _ e.symm rfl))]
  exact h.2.1 a u hc hf
end Go.Proofs.YtagiecajffhnpaaGreat
