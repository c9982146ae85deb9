/- StarMesh, DropNode of impl, for all arguments, at a valid network. No condition. l06Top, l06Down, ResponseOf of the reference. No condition. NetLines of impl and of the reference. No condition. Plain law: an integer's text read back. No program in sight. IsDigits, ParseInt. No condition. ParseInt of spec. No condition. SplitAny of impl and of spec. No condition. ParseInts of impl and of spec, and its law. No condition. -/
import Derived.Test.YtagiecajffhnpaaGreatJAg
import Derived.Test.YtagiecajffhnpaaGreatJAq
import Derived.Test.YtagiecajffhnpaaGreatJAh
import Derived.Test.YtagiecajffhnpaaGreatJAd
import Derived.Test.YtagiecajffhnpaaGreatJAa
import Derived.Test.YtagiecajffhnpaaGreatJAe
import Derived.Test.YtagiecajffhnpaaGreatJAn
import Derived.Test.YtagiecajffhnpaaGreatWLaw
import Derived.Test.YtagiecajffhnpaaGreatWTyInt
import Derived.Test.YtagiecajffhnpaaGreatWEqInt
import Derived.Deep.DeepCutAuto
namespace Go.Proofs.YtagiecajffhnpaaGreat
set_option maxRecDepth 100000
open Go.ChangeShapes Go.WideShapes Go.ChangeAt Go.RowKit Go.Joins

def inG (n e : Nat) (v : Int) : Prop := (e : Int) ≤ v ∧ v < n
instance (n e : Nat) (v : Int) : Decidable (inG n e v) := by unfold inG; infer_instance
noncomputable def starB (n e : Nat) (S : Int) (L : List Wr) (v : Int) : Bool := decide (inG n e v) && redB n e S L v.toNat
theorem starB_f {n e : Nat} {S : Int} {L : List Wr} {v : Int} (h : ¬ inG n e v) : starB n e S L v = false := by simp [starB, h]
theorem starB_t {n e : Nat} {S : Int} {L : List Wr} {v : Int} (h : inG n e v) : starB n e S L v = redB n e S L v.toNat := by simp [starB, h]
def nearC (n : Nat) (L : List Wr) (v : Int) : Nat := (nearX L.length (flatW L) v.toNat n).length
noncomputable def dropB (n e : Nat) (S : Int) (L : List Wr) (v : Int) : Bool := decide (inG n e v) && (decide (1 ≤ nearC n L v ∧ nearC n L v ≤ 2) && redB n e S L v.toNat)
theorem dropB_f {n e : Nat} {S : Int} {L : List Wr} {v : Int} (h : ¬ inG n e v) : dropB n e S L v = false := by simp [dropB, h]
theorem dropB_f2 {n e : Nat} {S : Int} {L : List Wr} {v : Int} (h : ¬ (1 ≤ nearC n L v ∧ nearC n L v ≤ 2)) : dropB n e S L v = false := by unfold dropB; rw [decide_eq_false h]; simp
theorem dropB_t {n e : Nat} {S : Int} {L : List Wr} {v : Int} (h : inG n e v) (h2 : 1 ≤ nearC n L v ∧ nearC n L v ≤ 2) : dropB n e S L v = redB n e S L v.toNat := by simp [dropB, h, h2]

set_option maxHeartbeats 3200000 in
theorem iStarMeshA (n e : Nat) (S v : Int) (s : Value) (L : List Wr) (w : World) (hs : SlF w s L.length 3 (flatW L)) (hB : netB n e S L.length (flatW L) = true) :
    Calls Tryz.prog 38 #[.agg #[.int .i64 (n : Int), .int .i64 (e : Int), .int .i64 S, s], .int .i64 v] w (GivesO w (starB n e S L v) ((n - 1 : Nat) : Int) e (redS n S L v.toNat) (redL n S L v.toNat)) := by
  obtain ⟨⟨h1, h5⟩, ⟨e1, e2⟩, ⟨s1, s2⟩, hok, _⟩ := netP_of hB
  have hm : L.length ≤ 10 := prs_len (by omega) hok
  by_cases hG : inG n e v
  · obtain ⟨v, rfl⟩ := Int.eq_ofNat_of_zero_le (show 0 ≤ v by unfold inG at hG; omega)
    rw [starB_t hG]
    unfold inG at hG
    exact iStarMesh n v e S s L w hs hB (by omega) (by omega) (wat_conn hB (by omega) ⟨by omega, by omega⟩)
  · rw [starB_f hG]
    have HT := Lib.hid (fun w' g => GivesO.f (w := w) (w' := w') (b := false) (N := ((n - 1 : Nat) : Int)) (E := e) (S := redS n S L v.toNat) (L := redL n S L v.toNat) rfl g)
    obtain ⟨p, cap, rfl, _⟩ := hs.open
    have HV := Lib.hid hs
    have HNo := Lib.hid (fun w' (g : Ge w w') => iNetOk n e S (.slice p L.length cap) L.length (flatW L) w' (HV.out.ge g) (by omega))
    rw [hB] at HNo
    obtain ⟨NB0, R0⟩ := in_res w n e S (.slice p L.length cap)
    have zR : w.heap.size + 1 < ((w.alloc (.cells #[.int .i64 n, .int .i64 e, .int .i64 S, .slice p L.length cap] 33)).alloc (.cells #[.int .i64 0, .int .i64 0, .int .i64 0, .slice none 0 0] 33)).heap.size := by simp
    generalize redS n S L v.toNat = SS at *
    generalize redL n S L v.toNat = LL at *
    generalize L.length = m at *
    clear hs hB hok
    by_cases hv : v < (e : Int)
    · have t1 : decide (v < (e : Int)) = true := by simpa using hv
      go_enter Tryz.func38, Tryz.ntmps38
      go_wp2_with ((go_at_call 43; ((with_reducible refine (HNo.out _ (kge)).mono ?_); rintro r w1 ⟨rfl, g1⟩)); have NB1 := NB0.ge g1; have R1 := R0.ge g1; have gw1 : Ge w w1 := (kge); obtain ⟨b0, b1, b2, b3⟩ := NB1; obtain ⟨r0, p0, f0⟩ := R1 0 (by omega); obtain ⟨r1, p1, f1⟩ := R1 1 (by omega); obtain ⟨r2, p2, f2⟩ := R1 2 (by omega); obtain ⟨r3, p3, f3⟩ := R1 3 (by omega); have z1 := Nat.lt_of_lt_of_le zR g1.size)
      exact bodyPost_ret (v := .tuple #[.agg #[.int .i64 0, .int .i64 0, .int .i64 0, .slice none 0 0], .bool false]) (by simp [results, Tryz.results38, go_sem, *]) rfl (HT.out _ (kge))
    · have t1 : decide (v < (e : Int)) = false := by simpa using hv
      have t2 : decide ((n : Int) ≤ v) = true := by simp; unfold inG at hG; omega
      go_enter Tryz.func38, Tryz.ntmps38
      go_wp2_with ((go_at_call 43; ((with_reducible refine (HNo.out _ (kge)).mono ?_); rintro r w1 ⟨rfl, g1⟩)); have NB1 := NB0.ge g1; have R1 := R0.ge g1; have gw1 : Ge w w1 := (kge); obtain ⟨b0, b1, b2, b3⟩ := NB1; obtain ⟨r0, p0, f0⟩ := R1 0 (by omega); obtain ⟨r1, p1, f1⟩ := R1 1 (by omega); obtain ⟨r2, p2, f2⟩ := R1 2 (by omega); obtain ⟨r3, p3, f3⟩ := R1 3 (by omega); have z1 := Nat.lt_of_lt_of_le zR g1.size)
      exact bodyPost_ret (v := .tuple #[.agg #[.int .i64 0, .int .i64 0, .int .i64 0, .slice none 0 0], .bool false]) (by simp [results, Tryz.results38, go_sem, *]) rfl (HT.out _ (kge))

set_option maxHeartbeats 3200000 in
theorem iDropNodeA (n e : Nat) (S v : Int) (s : Value) (L : List Wr) (w : World) (hs : SlF w s L.length 3 (flatW L)) (hB : netB n e S L.length (flatW L) = true) :
    Calls Tryz.prog 37 #[.agg #[.int .i64 (n : Int), .int .i64 (e : Int), .int .i64 S, s], .int .i64 v] w (GivesO w (dropB n e S L v) ((n - 1 : Nat) : Int) e (redS n S L v.toNat) (redL n S L v.toNat)) := by
  obtain ⟨⟨h1, h5⟩, ⟨e1, e2⟩, ⟨s1, s2⟩, hok, _⟩ := netP_of hB
  have hm : L.length ≤ 10 := prs_len (by omega) hok
  by_cases hG : inG n e v
  · by_cases hc : 1 ≤ nearC n L v ∧ nearC n L v ≤ 2
    · rw [dropB_t hG hc]
      obtain ⟨v, rfl⟩ := Int.eq_ofNat_of_zero_le (show 0 ≤ v by unfold inG at hG; omega)
      unfold inG at hG
      exact iDropNode n v e (nearC n L v) S s L w hs hB (by omega) (by omega) rfl hc.1 hc.2
    · rw [dropB_f2 hc]
      have HT := Lib.hid (fun w' g => GivesO.f (w := w) (w' := w') (b := false) (N := ((n - 1 : Nat) : Int)) (E := e) (S := redS n S L v.toNat) (L := redL n S L v.toNat) rfl g)
      obtain ⟨v, rfl⟩ := Int.eq_ofNat_of_zero_le (show 0 ≤ v by unfold inG at hG; omega)
      obtain ⟨p, cap, rfl, _⟩ := hs.open
      have HV := Lib.hid hs
      have HNo := Lib.hid (fun w' (g : Ge w w') => iNetOk n e S (.slice p L.length cap) L.length (flatW L) w' (HV.out.ge g) (by omega))
      have HWi := Lib.hid (fun w' (g : Ge w w') => iWiresAt n e S (.slice p L.length cap) L.length (flatW L) v w' (HV.out.ge g) hB (by unfold inG at hG; omega) (by unfold inG at hG; omega))
      rw [hB] at HNo
      have hcc : (nearX L.length (flatW L) v n).length = nearC n L v := rfl
      rw [hcc] at HWi
      obtain ⟨NB0, R0⟩ := in_res w n e S (.slice p L.length cap)
      have zR : w.heap.size + 1 < ((w.alloc (.cells #[.int .i64 n, .int .i64 e, .int .i64 S, .slice p L.length cap] 33)).alloc (.cells #[.int .i64 0, .int .i64 0, .int .i64 0, .slice none 0 0] 33)).heap.size := by simp
      have t1 : decide ((v : Int) < (e : Int)) = false := by simp; unfold inG at hG; omega
      have t1' : decide (v < e) = false := by simp; unfold inG at hG; omega
      have t2 : decide ((n : Int) ≤ (v : Int)) = false := by simp; unfold inG at hG; omega
      have t2' : decide (n ≤ v) = false := by simp; unfold inG at hG; omega
      generalize redS n S L (v : Int).toNat = SS at *
      generalize redL n S L (v : Int).toNat = LL at *
      generalize hC : nearC n L (v : Int) = C at *
      generalize nearX L.length (flatW L) v n = NX at *
      clear hC hcc
      generalize L.length = m at *
      clear hs hok hB
      by_cases hc1 : C < 1
      · have t3 : decide ((C : Int) < 1) = true := by simp; omega
        have t4 : C = 0 := by omega
        subst t4
        go_enter Tryz.func37, Tryz.ntmps37
        go_wp2_with (first | ((go_at_call 43; ((with_reducible refine (HNo.out _ (kge)).mono ?_); rintro r w1 ⟨rfl, g1⟩)); have NB1 := NB0.ge g1; have R1 := R0.ge g1; have gw1 : Ge w w1 := (kge); obtain ⟨b0, b1, b2, b3⟩ := NB1; obtain ⟨r0, p0, f0⟩ := R1 0 (by omega); obtain ⟨r1, p1, f1⟩ := R1 1 (by omega); obtain ⟨r2, p2, f2⟩ := R1 2 (by omega); obtain ⟨r3, p3, f3⟩ := R1 3 (by omega); have z1 := Nat.lt_of_lt_of_le zR g1.size) | ((go_at_call 73; ((with_reducible refine (HWi.out _ gw1).mono ?_); rintro r w2 ⟨v2, rfl, o2, g2⟩)); obtain ⟨p2, cc2, rfl⟩ := owns_form o2; have gw1 := Ge.trans gw1 g2; have b0 := Ge.keep g2 b0; have b1 := Ge.keep g2 b1; have b2 := Ge.keep g2 b2; have b3 := Ge.keep g2 b3; have R1 := R1.ge g2; obtain ⟨r0, p0, f0⟩ := R1 0 (by omega); obtain ⟨r1, p1, f1⟩ := R1 1 (by omega); obtain ⟨r2, p2, f2⟩ := R1 2 (by omega); obtain ⟨r3, p3, f3⟩ := R1 3 (by omega); have z1 := Nat.lt_of_lt_of_le z1 g2.size))
        exact bodyPost_ret (v := .tuple #[.agg #[.int .i64 0, .int .i64 0, .int .i64 0, .slice none 0 0], .bool false]) (by simp [results, Tryz.results37, go_sem, *]) rfl (HT.out _ (kge))
      · have t3 : decide ((C : Int) < 1) = false := by simp; omega
        have t4 : decide ((2 : Int) < (C : Int)) = true := by simp; omega
        have t5 : decide (C < 1) = false := by simp; omega
        have t6 : decide (2 < C) = true := by simp; omega
        have t7 : (C == 0) = false := by simp; omega
        have t8 : decide (C = 0) = false := by simp; omega
        go_enter Tryz.func37, Tryz.ntmps37
        go_wp2_with (first | ((go_at_call 43; ((with_reducible refine (HNo.out _ (kge)).mono ?_); rintro r w1 ⟨rfl, g1⟩)); have NB1 := NB0.ge g1; have R1 := R0.ge g1; have gw1 : Ge w w1 := (kge); obtain ⟨b0, b1, b2, b3⟩ := NB1; obtain ⟨r0, p0, f0⟩ := R1 0 (by omega); obtain ⟨r1, p1, f1⟩ := R1 1 (by omega); obtain ⟨r2, p2, f2⟩ := R1 2 (by omega); obtain ⟨r3, p3, f3⟩ := R1 3 (by omega); have z1 := Nat.lt_of_lt_of_le zR g1.size) | ((go_at_call 73; ((with_reducible refine (HWi.out _ gw1).mono ?_); rintro r w2 ⟨v2, rfl, o2, g2⟩)); obtain ⟨p2, cc2, rfl⟩ := owns_form o2; have gw1 := Ge.trans gw1 g2; have b0 := Ge.keep g2 b0; have b1 := Ge.keep g2 b1; have b2 := Ge.keep g2 b2; have b3 := Ge.keep g2 b3; have R1 := R1.ge g2; obtain ⟨r0, p0, f0⟩ := R1 0 (by omega); obtain ⟨r1, p1, f1⟩ := R1 1 (by omega); obtain ⟨r2, p2, f2⟩ := R1 2 (by omega); obtain ⟨r3, p3, f3⟩ := R1 3 (by omega); have z1 := Nat.lt_of_lt_of_le z1 g2.size))
        exact bodyPost_ret (v := .tuple #[.agg #[.int .i64 0, .int .i64 0, .int .i64 0, .slice none 0 0], .bool false]) (by simp [results, Tryz.results37, go_sem, *]) rfl (HT.out _ (kge))
  · rw [dropB_f hG]
    have HT := Lib.hid (fun w' g => GivesO.f (w := w) (w' := w') (b := false) (N := ((n - 1 : Nat) : Int)) (E := e) (S := redS n S L v.toNat) (L := redL n S L v.toNat) rfl g)
    obtain ⟨p, cap, rfl, _⟩ := hs.open
    have HV := Lib.hid hs
    have HNo := Lib.hid (fun w' (g : Ge w w') => iNetOk n e S (.slice p L.length cap) L.length (flatW L) w' (HV.out.ge g) (by omega))
    rw [hB] at HNo
    obtain ⟨NB0, R0⟩ := in_res w n e S (.slice p L.length cap)
    have zR : w.heap.size + 1 < ((w.alloc (.cells #[.int .i64 n, .int .i64 e, .int .i64 S, .slice p L.length cap] 33)).alloc (.cells #[.int .i64 0, .int .i64 0, .int .i64 0, .slice none 0 0] 33)).heap.size := by simp
    generalize redS n S L v.toNat = SS at *
    generalize redL n S L v.toNat = LL at *
    generalize L.length = m at *
    clear hs hB hok
    by_cases hv : v < (e : Int)
    · have t1 : decide (v < (e : Int)) = true := by simpa using hv
      go_enter Tryz.func37, Tryz.ntmps37
      go_wp2_with ((go_at_call 43; ((with_reducible refine (HNo.out _ (kge)).mono ?_); rintro r w1 ⟨rfl, g1⟩)); have NB1 := NB0.ge g1; have R1 := R0.ge g1; have gw1 : Ge w w1 := (kge); obtain ⟨b0, b1, b2, b3⟩ := NB1; obtain ⟨r0, p0, f0⟩ := R1 0 (by omega); obtain ⟨r1, p1, f1⟩ := R1 1 (by omega); obtain ⟨r2, p2, f2⟩ := R1 2 (by omega); obtain ⟨r3, p3, f3⟩ := R1 3 (by omega); have z1 := Nat.lt_of_lt_of_le zR g1.size)
      exact bodyPost_ret (v := .tuple #[.agg #[.int .i64 0, .int .i64 0, .int .i64 0, .slice none 0 0], .bool false]) (by simp [results, Tryz.results37, go_sem, *]) rfl (HT.out _ (kge))
    · have t1 : decide (v < (e : Int)) = false := by simpa using hv
      have t2 : decide ((n : Int) ≤ v) = true := by simp; unfold inG at hG; omega
      go_enter Tryz.func37, Tryz.ntmps37
      go_wp2_with ((go_at_call 43; ((with_reducible refine (HNo.out _ (kge)).mono ?_); rintro r w1 ⟨rfl, g1⟩)); have NB1 := NB0.ge g1; have R1 := R0.ge g1; have gw1 : Ge w w1 := (kge); obtain ⟨b0, b1, b2, b3⟩ := NB1; obtain ⟨r0, p0, f0⟩ := R1 0 (by omega); obtain ⟨r1, p1, f1⟩ := R1 1 (by omega); obtain ⟨r2, p2, f2⟩ := R1 2 (by omega); obtain ⟨r3, p3, f3⟩ := R1 3 (by omega); have z1 := Nat.lt_of_lt_of_le zR g1.size)
      exact bodyPost_ret (v := .tuple #[.agg #[.int .i64 0, .int .i64 0, .int .i64 0, .slice none 0 0], .bool false]) (by simp [results, Tryz.results37, go_sem, *]) rfl (HT.out _ (kge))
end Go.Proofs.YtagiecajffhnpaaGreat

namespace Go.Proofs.YtagiecajffhnpaaGreat
set_option maxRecDepth 100000
open Go.ChangeShapes Go.WideShapes Go.ChangeAt Go.RowKit Go.Joins

/-- The rows of out. -/
def RowsT (w : World) (B n : Nat) (u : Value) (cs : List Value) (k : Nat) (D : Nat → List Int) : Prop :=
  w.ownsRow B 78 1 u k cs ∧ ∀ i, i < k → ∃ pr cr, cs[i]? = some (.slice pr n cr) ∧ w.ownsRow B 86 2 (.slice pr n cr) n (icells (D i)) ∧ (∀ q, u.ownBlock = some q → (Value.slice pr n cr).ownBlock ≠ some q)
theorem RowsT.ge {w w' : World} {B n : Nat} {u : Value} {cs : List Value} {k : Nat} {D : Nat → List Int} (h : RowsT w B n u cs k D) (hg : Ge w w') : RowsT w' B n u cs k D :=
  ⟨hg.owns h.1, fun i hi => by obtain ⟨pr, cr, h1, h2, h3⟩ := h.2 i hi; exact ⟨pr, cr, h1, hg.owns h2, h3⟩⟩
theorem RowsT.snoc {w0 w w' : World} {B n : Nat} {u v' row : Value} {cs : List Value} {k : Nat} {D : Nat → List Int} (h : RowsT w0 B n u cs k D) (hg : Ge w0 w)
    (hrow : w.ownsRow w0.heap.size 86 2 row n (icells (D k))) (hn : 0 < n) (hB : B ≤ w0.heap.size) (h2 : w'.ownsRow B 78 1 v' (k + 1) (cs ++ [row])) (hm : Mine w w' u)
    (hat : v'.ownBlock = u.ownBlock ∨ ∃ q, v'.ownBlock = some q ∧ w.heap.size ≤ q) : RowsT w' B n v' (cs ++ [row]) (k + 1) D := by
  have hcl : cs.length = k := by have := h.1.1; omega
  obtain ⟨g, cap, rfl⟩ := Go.Joins.ownsRow_form hrow hn
  have hlr := hrow.lt g rfl
  refine ⟨h2, fun i hi => ?_⟩
  by_cases e : i = k
  · subst e
    refine ⟨some ⟨g, 0, none⟩, cap, by rw [List.getElem?_append_right (by omega)]; simp [hcl], ?_, fun q hq e => ?_⟩
    · refine owns_mono (hrow.kept hm ?_) hB
      right
      intro e
      have := (h.1.lt g e.symm).2
      omega
    · have e' : q = g := by simp [Value.ownBlock] at e; exact e.symm
      subst e'
      rcases hat with hat | ⟨k', hk', hle⟩
      · rw [hat] at hq
        have := (h.1.lt q hq).2
        omega
      · rw [hk'] at hq
        have : k' = q := by simpa using hq
        omega
  · obtain ⟨pr, cr, h1, h3, h4⟩ := (h.ge hg).2 i (by omega)
    have hold := (h.2 i (by omega))
    refine ⟨pr, cr, by rw [List.getElem?_append_left (by omega)]; exact h1, ?_, fun q hq e => ?_⟩
    · refine h3.kept hm ?_
      right
      intro e
      cases hu : u.ownBlock with
      | none =>
        rw [hu] at e
        obtain ⟨g', cap', e'⟩ := Go.Joins.ownsRow_form h3 hn
        rw [e'] at e; simp [Value.ownBlock] at e
      | some q => exact h4 q hu (by rw [e, hu])
    · rcases hat with hat | ⟨k', hk', hle⟩
      · rw [hat] at hq
        exact h4 q hq e
      · rw [hk'] at hq
        have e' : k' = q := by simpa using hq
        have := (h3.lt q e).2
        omega
theorem RowsT.rows {w : World} {B n : Nat} {u : Value} {cs : List Value} {D : Nat → List Int} (h : RowsT w B n u cs n D) (hn : 0 < n) : SlRows w u n 2 D := by
  obtain ⟨g, cap, rfl⟩ := Go.Joins.ownsRow_form h.1 hn
  refine ⟨g, 0, cap, rfl, fun i hi => ?_⟩
  obtain ⟨pr, cr, h1, h2, _⟩ := h.2 i hi
  exact ⟨pr, cr, by rw [Nat.zero_add, h.1.cellAt i (by omega), h1], Sl.of_owns h2⟩

end Go.Proofs.YtagiecajffhnpaaGreat

namespace Go.Proofs.YtagiecajffhnpaaGreat
set_option maxRecDepth 100000
open Go.ChangeShapes Go.WideShapes Go.ChangeAt Go.RowKit Go.Joins

theorem ratioOf_inR (n d : Int) : (-9223372036854775808 ≤ (ratioOf n d).n ∧ (ratioOf n d).n ≤ 9223372036854775807) ∧ (-9223372036854775808 ≤ (ratioOf n d).d ∧ (ratioOf n d).d ≤ 9223372036854775807) := by
  rcases ratioOf_ok n d with h | h
  · rw [h]; decide
  · exact ratio_sm h
theorem respL_in (n e m : Nat) (S : Int) (xs : List Int) (a : Nat) : ∀ k, ∀ x ∈ respL n e m S xs a k, -9223372036854775808 ≤ x ∧ x ≤ 9223372036854775807
  | 0 => fun x hx => by simp [respL] at hx
  | k + 1 => fun x hx => by
    simp only [respL, List.mem_append, List.mem_cons, List.not_mem_nil, or_false] at hx
    have := ratioOf_inR (topZ n e m xs a k) (S * dwnZ n e m xs)
    rcases hx with h | h | h
    · exact respL_in n e m S xs a k x h
    · rw [h]; exact this.1
    · rw [h]; exact this.2
theorem nth_inR {l : List Int} (h : ∀ x ∈ l, -9223372036854775808 ≤ x ∧ x ≤ 9223372036854775807) (j : Nat) : -9223372036854775808 ≤ nth l j ∧ nth l j ≤ 9223372036854775807 := by
  by_cases hj : j < l.length
  · rw [nth_eq l j hj]; exact h _ (List.getElem_mem hj)
  · have : nth l j = 0 := by unfold nth; simp [List.getD_eq_getElem?_getD, List.getElem?_eq_none (by omega : l.length ≤ j)]
    omega
def termT (F R : List UInt8) : List UInt8 := [116, 101, 114, 109, 105, 110, 97, 108, 32] ++ F ++ [58, 32] ++ R
theorem term_eq (F R : List UInt8) : (⟨#[116, 101, 114, 109, 105, 110, 97, 108, 32]⟩ : ByteArray) ++ bstr F ++ ⟨#[58, 32]⟩ ++ bstr R = bstr (termT F R) := by
  rw [show (⟨#[116, 101, 114, 109, 105, 110, 97, 108, 32]⟩ : ByteArray) = bstr [116, 101, 114, 109, 105, 110, 97, 108, 32] from rfl, show (⟨#[58, 32]⟩ : ByteArray) = bstr [58, 32] from rfl, bstr_append, bstr_append, bstr_append]; rfl
/-- The first lines. -/
noncomputable def netLs (n e m : Nat) (S : Int) (xs : List Int) : Nat → List (List UInt8)
  | 0 => [netTxt n e S m xs]
  | k + 1 => netLs n e m S xs k ++ [termT (fmtInt (k : Int)) (rowLine e (respL n e m S xs k e))]
theorem netLs_length (n e m : Nat) (S : Int) (xs : List Int) : ∀ k, (netLs n e m S xs k).length = k + 1
  | 0 => rfl
  | k + 1 => by simp [netLs, netLs_length n e m S xs k]
noncomputable def netLines (N E S : Int) (m : Nat) (xs : List Int) : List (List UInt8) := if netB N E S m xs = true then netLs N.toNat E.toNat m S xs E.toNat else []
theorem netLines_f {N E S : Int} {m : Nat} {xs : List Int} (h : netB N E S m xs = false) : netLines N E S m xs = [] := by simp [netLines, h]
theorem netLines_t {n e : Nat} {S : Int} {m : Nat} {xs : List Int} (h : netB n e S m xs = true) : netLines n e S m xs = netLs n e m S xs e := by simp [netLines, h]
/-- Lines of its own memory. -/
def GivesT (w : World) (l : List (List UInt8)) (e : Ending) (w' : World) : Prop := ∃ v, e = .returned v ∧ w'.ownsRow w.heap.size 9 1 v l.length (scells l) ∧ Ge w w'
theorem owns_oneS {w : World} {b base : Nat} {y : List UInt8} (hb : b = w.heap.size) (h : base ≤ b) : (w.alloc (.cells #[.string (bstr y)] 9)).ownsRow base 9 1 (.slice (some ⟨b, 0, none⟩) 1 1) 1 (scells [y]) := by
  subst hb
  exact ⟨rfl, .inr ⟨w.heap.size, 1, _, rfl, h, heap_alloc_new w _, Nat.le_refl _, by unfold maxLen; omega, rfl, rfl⟩⟩
theorem ap_strX {w : World} {ops : Array Oper} {rest : List Oper} {o : Oper} {a : Act} {Q : Exit → Act → World → Prop} (hgd : o.guard = none) (s x : Operand)
    (ho : o.op = .call { callee := .builtin .append, args := #[s, x], argTypes := #[27, 27] })
    (base : Nat) (v : Value) (l : List (List UInt8)) (k : Nat) (hk : l.length = k) (hs : a.eval s = v) (hown : w.ownsRow base 9 1 v k (scells l))
    (X : ByteArray) (y : List UInt8) (hX : X = bstr y) (hx : a.eval x = .slice (some ⟨w.heap.size, 0, none⟩) 1 1) (hn : k < 1099511627776) (hbase : base ≤ w.heap.size)
    (h : ∀ v' w', w'.ownsRow base 9 1 v' (k + 1) (scells (l ++ [y])) → Mine w w' v → wpList Tryz.prog ops Q rest (a.put o.dst v') w') :
    wpList Tryz.prog ops Q (o :: rest) a (w.alloc (.cells #[.string X] 9)) := by
  subst hX
  subst hk
  exact ap_str hgd s x ho base v l hs hown y hx hn hbase (fun v' w' h1 h2 => h v' w' (by simpa using h1) h2)

set_option maxHeartbeats 1600000 in
theorem iNetLinesF (N E S : Int) (s : Value) (m : Nat) (xs : List Int) (w : World) (hs : SlF w s m 3 xs) (hm : m ≤ 9223372036854775807) (hB : netB N E S m xs = false) :
    Calls Tryz.prog 47 #[.agg #[.int .i64 N, .int .i64 E, .int .i64 S, s]] w (GivesT w (netLines N E S m xs)) := by
  obtain ⟨p, cap, rfl, hc⟩ := hs.open
  have HV := Lib.hid hs
  clear hs hc
  have HR := Lib.hid (fun w' (g : Ge w w') => iResponseOfF N E S (.slice p m cap) m xs w' (HV.out.ge g) hm hB)
  rw [netLines_f hB]
  go_enter Tryz.func47, Tryz.ntmps47
  go_wp2_with (go_at_call 83; ((with_reducible refine (HR.out _ (kge)).mono ?_); rintro r w1 ⟨rfl, g1⟩))
  go_ret
  exact ⟨_, rfl, ⟨rfl, .inl ⟨rfl, rfl⟩⟩, kge⟩

set_option maxHeartbeats 3200000 in
theorem iNetLinesT (n e : Nat) (S : Int) (s : Value) (m : Nat) (xs : List Int) (w : World) (hs : SlF w s m 3 xs) (hm : m ≤ 9223372036854775807) (hB : netB n e S m xs = true) :
    Calls Tryz.prog 47 #[.agg #[.int .i64 (n : Int), .int .i64 (e : Int), .int .i64 S, s]] w (GivesT w (netLines n e S m xs)) := by
  obtain ⟨⟨h1, h5⟩, ⟨e1, e2⟩, ⟨s1, s2⟩, hok, _⟩ := netP_of hB
  obtain ⟨p, cap, rfl, hc⟩ := hs.open
  have HV := Lib.hid hs
  have HR := Lib.hid (fun w' (g : Ge w w') => iResponseOfT n e S (.slice p m cap) m xs w' (HV.out.ge g) hm hB)
  have HF := Lib.hid (fun w' (g : Ge w w') => iFormatNet n e S (.slice p m cap) m xs w' (HV.out.ge g) hm)
  have HL := Lib.hid (netLines_t hB)
  have HL0 : Hid (netLs n e m S xs 0 = [netTxt n e S m xs]) := rfl
  have HLs : Hid (∀ k : Nat, netLs n e m S xs (k + 1) = netLs n e m S xs k ++ [termT (fmtInt (k : Int)) (rowLine e (respL n e m S xs k e))]) := fun _ => rfl
  have HLn := Lib.hid (netLs_length n e m S xs)
  have HIn := Lib.hid (fun a => nth_inR (respL_in n e m S xs a e))
  clear hs hc hok hB
  obtain ⟨L, hL⟩ : ∃ L, netLs n e m S xs = L := ⟨_, rfl⟩
  obtain ⟨R, hR⟩ : ∃ R : Nat → List Int, R = fun a => respL n e m S xs a e := ⟨_, rfl⟩
  have hR' : ∀ a, respL n e m S xs a e = R a := fun a => by rw [hR]
  rw [hL] at HL0 HLs HLn HL
  simp only [hR'] at HLs HIn HR
  clear hL hR hR'
  generalize netTxt n e S m xs = NT at *
  go_enter Tryz.func47, Tryz.ntmps47
  go_wp2_with (first
    | ((go_at_call 83; ((with_reducible refine (HR.out _ (kge)).mono ?_); rintro r w1 ⟨vm, rfl, hM, g1⟩)); obtain ⟨bm, om, cm, rfl, hrow⟩ := hM; replace hrow := Lib.hid hrow; have b0 := Ge.keep g1 (cell_new (i := 0) rfl rfl); have b1 := Ge.keep g1 (cell_new (i := 1) rfl rfl); have b2 := Ge.keep g1 (cell_new (i := 2) rfl rfl); have b3 := Ge.keep g1 (cell_new (i := 3) rfl rfl); have z1 := g1.size; (simp at b0 b1 b2 b3 z1); have G1 : Ge w w1 := (kge))
    | ((go_at_call 23; ((with_reducible refine (HF.out _ (kge)).mono ?_); rintro r w2 ⟨rfl, g2⟩)); have G2 : Ge w w2 := (kge); have z2 := g2.size))
  go_loopw [5, 20] (fun o i wr => ∃ a : Nat, a ≤ e ∧ i = .int .i64 a ∧ wr.ownsRow w2.heap.size 9 1 o (a + 1) (scells (L a)) ∧ Ge w2 wr) (fun _ i _ => e - (intOf i).toNat)
  case atStart => exact ⟨0, Nat.zero_le _, rfl, by rw [HL0.out]; exact owns_oneS rfl (Nat.le_refl _), Ge.alloc (Ge.refl _) _⟩
  case round =>
    obtain ⟨a, ha, rfl, hown, hg⟩ := hrel
    have zg := hg.size
    by_cases hlt : a < e
    · obtain ⟨pr, cr, x0, hrw⟩ := hrow.out a hlt
      have x0r := hg.keep (g2.keep x0)
      have HRw := Lib.hid (Sl.ge hrw (Ge.trans g2 hg))
      have HO := Lib.hid hown
      have HS := Lib.hid (HLs.out a)
      have hLn := Lib.hid (HLn.out a)
      have HFr := Lib.hid (fun w' (g : Ge wr w') => iFormatRow (.slice pr e cr) e (R a) w' (HRw.out.ge g) (by omega) (HIn.out a))
      have HFi := Lib.hid (fun w' => iFormatInt (a : Int) w' (by omega) (by omega))
      have f1 := fmtInt_length (a : Int)
      have f2 := rowLine_le e (R a)
      rw [← bstr_size] at f1 f2
      clear hown x0 hrw
      generalize rowLine e (R a) = TR at *
      generalize fmtInt (a : Int) = TF at *
      have HTm := Lib.hid (term_eq TF TR)
      have u0 : ¬ (9223372036854775807 < 9 + (bstr TF).size) := by omega
      have u1 : ¬ (9223372036854775807 < 9 + (bstr TF).size + 2) := by omega
      have u2 : ¬ (9223372036854775807 < 9 + (bstr TF).size + 2 + (bstr TR).size) := by omega
      generalize L a = LA at *
      go_wp2_with (first
        | (go_at_call 6; ((with_reducible refine (HFi.out _).mono ?_); rintro r w5 ⟨rfl, rfl⟩))
        | ((go_at_call 46; ((with_reducible refine (HFr.out _ (Ge.refl _)).mono ?_); rintro r w6 ⟨rfl, g6⟩)); have G6 : Ge wr w6 := g6; have own6 := G6.owns HO.out; have z6 := G6.size)
        | (at_builtin; refine ap_strX rfl _ _ rfl w2.heap.size _ LA (a + 1) hLn.out rfl own6 _ (termT TF TR) HTm.out rfl (by omega) (by omega) ?_; intro v8 w8 own8 m8))
      go_roundw
      case rel => exact ⟨a + 1, by omega, by go_num, by rw [HS.out]; exact own8, (Ge.trans hg G6).mine own6 (Nat.le_refl _) m8⟩
      case measure => simp [intOf]; omega
    · have hae : a = e := by omega
      subst hae
      have HO := Lib.hid hown
      clear hown
      go_wp2_with fail
      go_ret
      exact ⟨_, rfl, by rw [HL.out, HLn.out]; exact owns_mono HO.out G2.size, kge⟩

theorem iNetLines (N E S : Int) (s : Value) (m : Nat) (xs : List Int) (w : World) (hs : SlF w s m 3 xs) (hm : m ≤ 9223372036854775807) :
    Calls Tryz.prog 47 #[.agg #[.int .i64 N, .int .i64 E, .int .i64 S, s]] w (GivesT w (netLines N E S m xs)) := by
  cases hB : netB N E S m xs with
  | false => exact iNetLinesF N E S s m xs w hs hm hB
  | true =>
    obtain ⟨⟨h1, h5⟩, ⟨e1, e2⟩, _⟩ := netP_of hB
    obtain ⟨n, rfl⟩ : ∃ n : Nat, N = (n : Int) := ⟨N.toNat, by omega⟩
    obtain ⟨e, rfl⟩ : ∃ e : Nat, E = (e : Int) := ⟨E.toNat, by omega⟩
    exact iNetLinesT n e S s m xs w hs hm hB

end Go.Proofs.YtagiecajffhnpaaGreat

namespace Go.Proofs.YtagiecajffhnpaaGreat

/-- The byte number k of a text. -/
def bnth (t : List UInt8) (k : Nat) : UInt8 := t.getD k 0
theorem bnth_eq (t : List UInt8) (k : Nat) (h : k < t.length) : bnth t k = t[k] := by simp [bnth, List.getD, h]
def isDig (c : UInt8) : Prop := 48 ≤ c.toNat ∧ c.toNat ≤ 57
instance (c : UInt8) : Decidable (isDig c) := by unfold isDig; infer_instance
def digsP (t : List UInt8) : Prop := t ≠ [] ∧ ∀ c ∈ t, isDig c
/-- The value of a text of digits. -/
def dval (t : List UInt8) : Int := t.foldl (fun a c => 10 * a + ((c.toNat : Int) - 48)) 0
theorem dval_snoc (t : List UInt8) (c : UInt8) : dval (t ++ [c]) = 10 * dval t + ((c.toNat : Int) - 48) := by simp [dval, List.foldl_append]
theorem dval_take (t : List UInt8) (k : Nat) (h : k < t.length) : dval (t.take (k + 1)) = 10 * dval (t.take k) + (((bnth t k).toNat : Int) - 48) := by
  rw [List.take_succ_eq_append_getElem h, dval_snoc, bnth_eq t k h]
theorem dig_toNat (n : Nat) (h : n < 10) : ((48 + n).toUInt8).toNat = 48 + n := by
  have : n = 0 ∨ n = 1 ∨ n = 2 ∨ n = 3 ∨ n = 4 ∨ n = 5 ∨ n = 6 ∨ n = 7 ∨ n = 8 ∨ n = 9 := by omega
  rcases this with rfl | rfl | rfl | rfl | rfl | rfl | rfl | rfl | rfl | rfl <;> rfl
theorem fmtNat_facts : ∀ (k n : Nat), 1 ≤ k → k ≤ 20 → n < 10 ^ k → (∀ c ∈ fmtNat n, isDig c) ∧ (fmtNat n).length ≤ k ∧ dval (fmtNat n) = n ∧ fmtNat n ≠ [] := by
  intro k
  induction k with
  | zero => intro n h; omega
  | succ k ih =>
    intro n _ hk hn
    by_cases h10 : n < 10
    · rw [fmtNat_small n h10]
      refine ⟨fun c hc => ?_, by simp, ?_, by simp⟩
      · simp only [List.mem_singleton] at hc
        subst hc
        have := dig_toNat n h10
        unfold isDig; omega
      · have := dig_toNat n h10
        simp only [dval, List.foldl_cons, List.foldl_nil]
        omega
    · have hk1 : 1 ≤ k := by
        cases k with
        | zero => simp at hn; omega
        | succ k => omega
      have hlt : n / 10 < 10 ^ k := by
        rw [Nat.div_lt_iff_lt_mul (by omega)]; rw [Nat.pow_succ] at hn; exact hn
      obtain ⟨h1, h2, h3, h4⟩ := ih (n / 10) hk1 (by omega) hlt
      have hb : n < 10 ^ 20 := Nat.lt_of_lt_of_le hn (Nat.pow_le_pow_right (by omega) hk)
      rw [fmtNat_step n (by omega) hb]
      have hd := dig_toNat (n % 10) (by omega)
      refine ⟨fun c hc => ?_, by simp; omega, ?_, by simp⟩
      · rcases List.mem_append.1 hc with h | h
        · exact h1 c h
        · simp only [List.mem_singleton] at h
          subst h
          unfold isDig; omega
      · rw [dval_snoc, h3, hd]; omega

/-- An integer of 64 bits. -/
def in64 (x : Int) : Prop := -9223372036854775808 ≤ x ∧ x ≤ 9223372036854775807
/-- The text without a leading minus. -/
def tailP (s : List UInt8) : List UInt8 := match s with
  | 45 :: t => t
  | s => s
theorem tailP_minus (t : List UInt8) : tailP (45 :: t) = t := rfl
theorem tailP_other {s : List UInt8} (h : ∀ t, s ≠ 45 :: t) : tailP s = s := by
  unfold tailP
  split
  · exact absurd rfl (h _)
  · rfl
/-- What is read, where the text is that of an integer. -/
theorem read_back {n : Int} {s : List UInt8} (hn : in64 n) (h : fmtInt n = s) :
    digsP (tailP s) ∧ (tailP s).length ≤ 19 ∧ ((tailP s).length = s.length → dval (tailP s) = n) ∧ (¬ (tailP s).length = s.length → dval (tailP s) = -n) := by
  subst h
  unfold in64 at hn
  have hf := fmtNat_facts 19 n.natAbs (by omega) (by omega) (by omega)
  obtain ⟨h1, h2, h3, h4⟩ := hf
  by_cases hneg : n < 0
  · have e : fmtInt n = 45 :: fmtNat n.natAbs := by unfold fmtInt; rw [if_pos hneg]
    rw [e, tailP_minus]
    refine ⟨⟨h4, h1⟩, h2, fun h => by simp at h, fun _ => by rw [h3]; omega⟩
  · have e : fmtInt n = fmtNat n.natAbs := by unfold fmtInt; rw [if_neg hneg]
    have hne : ∀ t, fmtNat n.natAbs ≠ 45 :: t := fun t ht => by
      have := h1 45 (by rw [ht]; simp)
      unfold isDig at this
      have h45 : (45 : UInt8).toNat = 45 := rfl
      omega
    rw [e, tailP_other hne]
    exact ⟨⟨h4, h1⟩, h2, fun _ => by rw [h3]; omega, fun h => absurd rfl h⟩

open Classical in

/-- The integer of which s is the text, if there is one. -/
noncomputable def parseI (s : List UInt8) : Option Int := if h : ∃ n, in64 n ∧ fmtInt n = s then some h.choose else none
theorem fmtInt_uniq {n m : Int} (hn : in64 n) (hm : in64 m) (h : fmtInt n = fmtInt m) : n = m := by
  obtain ⟨_, _, a1, a2⟩ := read_back hn rfl
  obtain ⟨_, _, b1, b2⟩ := read_back hm rfl
  rw [h] at a1 a2
  by_cases e : (tailP (fmtInt m)).length = (fmtInt m).length
  · have := a1 e; have := b1 e; omega
  · have := a2 e; have := b2 e; omega
theorem parseI_some {n : Int} {s : List UInt8} (hn : in64 n) (h : fmtInt n = s) : parseI s = some n := by
  have hex : ∃ n, in64 n ∧ fmtInt n = s := ⟨n, hn, h⟩
  unfold parseI
  rw [dif_pos hex]
  exact congrArg some (fmtInt_uniq hex.choose_spec.1 hn (hex.choose_spec.2.trans h.symm))
theorem parseI_none {s : List UInt8} (h : ∀ n, in64 n → fmtInt n ≠ s) : parseI s = none := by
  unfold parseI
  rw [dif_neg (fun ⟨n, hn, he⟩ => h n hn he)]
noncomputable def pv (s : List UInt8) : Int := (parseI s).getD 0
noncomputable def pb (s : List UInt8) : Bool := (parseI s).isSome
theorem p_some {n : Int} {s : List UInt8} (hn : in64 n) (h : fmtInt n = s) : pv s = n ∧ pb s = true := by
  simp [pv, pb, parseI_some hn h]
theorem p_none {s : List UInt8} (h : ∀ n, in64 n → fmtInt n ≠ s) : pv s = 0 ∧ pb s = false := by
  simp [pv, pb, parseI_none h]
theorem p_bad {s : List UInt8} (h : ¬ digsP (tailP s) ∨ 19 < (tailP s).length) : pv s = 0 ∧ pb s = false :=
  p_none (fun n hn e => by
    obtain ⟨h1, h2, _⟩ := read_back hn e
    rcases h with h | h
    · exact h h1
    · omega)

end Go.Proofs.YtagiecajffhnpaaGreat

namespace Go.Proofs.YtagiecajffhnpaaGreat
set_option maxRecDepth 100000
open Go.ChangeShapes Go.WideShapes Go.ChangeAt Go.RowKit Go.Joins

theorem bstr_at (t : List UInt8) (k : Nat) (h : k < (bstr t).size) : (bstr t)[k]'h = bnth t k := by
  have h' : k < t.length := by rwa [bstr_size] at h
  rw [bnth_eq t k h']
  simp [bstr, ByteArray.getElem_eq_getElem_data]
def digsB (t : List UInt8) : Bool := !t.isEmpty && t.all fun c => decide (isDig c)
theorem digsB_t {t : List UInt8} (h0 : 0 < t.length) (h : ∀ j, j < t.length → isDig (bnth t j)) : digsB t = true := by
  cases t with
  | nil => simp at h0
  | cons x t =>
    simp only [digsB, Bool.and_eq_true, List.all_eq_true, decide_eq_true_eq]
    refine ⟨rfl, fun c hc => ?_⟩
    obtain ⟨j, hj, e⟩ := List.getElem_of_mem hc
    rw [← e, ← bnth_eq _ j hj]; exact h j hj
theorem digsB_f {t : List UInt8} {k : Nat} (hk : k < t.length) (h : ¬ isDig (bnth t k)) : digsB t = false := by
  cases c : digsB t with
  | false => rfl
  | true =>
    simp only [digsB, Bool.and_eq_true, List.all_eq_true, decide_eq_true_eq] at c
    exact absurd (c.2 (bnth t k) (by rw [bnth_eq t k hk]; exact List.getElem_mem _)) h
theorem digsB_iff {t : List UInt8} : digsB t = true ↔ digsP t := by
  simp [digsB, digsP]
theorem dig_step {t : List UInt8} {k : Nat} (h : Hid (∀ j, j < k → isDig (bnth t j))) (hk : isDig (bnth t k)) : Hid (∀ j, j < k + 1 → isDig (bnth t j)) := fun j hj => by
  by_cases e : j = k
  · subst e; exact hk
  · exact h.out j (by omega)
theorem loop_ne2 (bs : ByteArray) : ∀ (d i : Nat) (r : List UInt8), bs.size - i = d → r ≠ [] → ByteArray.toList.loop bs i r ≠ [] := by
  intro d
  induction d with
  | zero =>
    intro i r hd hr
    rw [ByteArray.toList.loop, if_neg (by omega)]
    simpa using hr
  | succ d ih =>
    intro i r hd hr
    rw [ByteArray.toList.loop, if_pos (by omega)]
    exact ih (i + 1) _ (by omega) (by simp)
theorem bstr_nil_ne {l : List UInt8} (h : 0 < l.length) : (bstr l).toList.isEmpty = false := by
  have hs : 0 < (bstr l).size := by rw [bstr_size]; exact h
  have : (bstr l).toList ≠ [] := by
    unfold ByteArray.toList
    rw [ByteArray.toList.loop, if_pos hs]
    exact loop_ne2 _ _ _ _ rfl (by simp)
  cases e : (bstr l).toList with
  | nil => exact absurd e this
  | cons => rfl

set_option maxHeartbeats 800000 in
theorem iIsDigits (t : List UInt8) (w : World) (hm : t.length ≤ 9223372036854775807) :
    Calls Tryz.prog 68 #[.string (bstr t)] w fun e w' => e = .returned (.bool (digsB t)) ∧ w = w' := by
  obtain ⟨n, hn⟩ : ∃ n, t.length = n := ⟨_, rfl⟩
  have hs : (bstr t).size = n := by rw [bstr_size, hn]
  have HN := Lib.hid hn
  have HAt := Lib.hid (fun k h => bstr_at t k h)
  rw [hn] at hm
  clear hn
  go_enter Tryz.func68, Tryz.ntmps68
  go_wp2_with fail
  go_loop [6] (fun i => ∃ k : Nat, k ≤ n ∧ i = .int .i64 k ∧ Hid (∀ j, j < k → isDig (bnth t j))) (fun i => n - (intOf i).toNat)
  case atStart => exact ⟨0, Nat.zero_le _, rfl, fun j hj => by omega⟩
  case round =>
    obtain ⟨k, hk, rfl, HA⟩ := hrel
    by_cases hlt : k < n
    · have hx := HAt.out k (by omega)
      obtain ⟨c, hc⟩ : ∃ c : Nat, (bnth t k).toNat = c := ⟨_, rfl⟩
      by_cases h1 : c < 48
      · have HF : Hid (digsB t = false) := digsB_f (k := k) (by rw [HN.out]; exact hlt) (by unfold isDig; omega)
        go_wp2_with fail
        go_ret
        exact ⟨ret_bool HF.out.symm, rfl⟩
      · by_cases h2 : 57 < c
        · have HF : Hid (digsB t = false) := digsB_f (k := k) (by rw [HN.out]; exact hlt) (by unfold isDig; omega)
          go_wp2_with fail
          go_ret
          exact ⟨ret_bool HF.out.symm, rfl⟩
        · have HD := dig_step HA (show isDig (bnth t k) by unfold isDig; omega)
          go_wp2_with fail
          go_round
          case rel => exact ⟨k + 1, by omega, by go_num, HD.out⟩
          case measure => simp [intOf]; omega
    · have hkn : k = n := by omega
      subst hkn
      by_cases h0 : k = 0
      · have HF : Hid (digsB t = false) := by
          have : t = [] := List.length_eq_zero_iff.1 (HN.out.trans h0)
          rw [this]; exact rfl
        have ht : bstr t = (⟨#[]⟩ : ByteArray) := by
          have : t = [] := List.length_eq_zero_iff.1 (HN.out.trans h0)
          rw [this]; rfl
        go_wp2_with fail
        go_ret
        exact ⟨ret_bool HF.out.symm, rfl⟩
      · have HF : Hid (digsB t = true) := digsB_t (by rw [HN.out]; omega) (by rw [HN.out]; exact HA.out)
        have hne := bstr_nil_ne (l := t) (by rw [HN.out]; omega)
        have hk0 : (0 : Int) < (k : Int) := by omega
        go_wp2_with fail
        go_ret
        first
          | exact ⟨ret_bool HF.out.symm, rfl⟩
          | exact ⟨ret_bool (by rw [HF.out]; simp; omega), rfl⟩

theorem loop_all (bs : ByteArray) : ∀ (d i : Nat) (r : List UInt8), bs.size - i = d → ByteArray.toList.loop bs i r = r.reverse ++ bs.data.toList.drop i := by
  intro d
  induction d with
  | zero =>
    intro i r hd
    have hl : bs.data.toList.length = bs.size := Array.length_toList
    rw [ByteArray.toList.loop, if_neg (by omega), List.drop_eq_nil_of_le (by omega)]
    simp
  | succ d ih =>
    intro i r hd
    have hi : i < bs.data.toList.length := by
      have : bs.data.toList.length = bs.size := Array.length_toList
      omega
    rw [ByteArray.toList.loop, if_pos (by omega), ih (i + 1) _ (by omega), List.drop_eq_getElem_cons hi]
    have hg : bs.get! i = bs.data.toList[i] := by
      cases bs with
      | mk a =>
        have ha : i < a.size := by simpa using hi
        simp [ByteArray.get!, ha]
    rw [hg]; simp
theorem bstr_list (l : List UInt8) : (bstr l).toList = l := by
  unfold ByteArray.toList
  rw [loop_all _ _ _ _ rfl]
  simp [bstr]
theorem bstr_neq {a b : List UInt8} (h : ¬ a = b) : ((bstr a).toList == (bstr b).toList) = false := by
  rw [bstr_list, bstr_list]; simpa using h
theorem trim_tail (s : List UInt8) : Lib.trimPrefix s [45] = tailP s := by
  cases s with
  | nil => rfl
  | cons c s =>
    by_cases h : c = 45
    · subst h; simp [Lib.trimPrefix, Lib.hasPrefix, tailP]
    · rw [tailP_other (fun t ht => h (by simpa using (List.cons.inj ht).1))]
      simp [Lib.trimPrefix, Lib.hasPrefix]; intro e; exact absurd e.symm h
theorem tailP_le (s : List UInt8) : (tailP s).length ≤ s.length := by
  unfold tailP
  split <;> simp
theorem trimP (s : List UInt8) (w : World) : Calls Tryz.prog 67 #[.string (bstr s), .string ⟨#[45]⟩] w fun e w' => e = .returned (.string (bstr (tailP s))) ∧ w = w' :=
  (Tryz.strings_TrimPrefix (bstr s) ⟨#[45]⟩ w).mono fun e w' ⟨he, hw⟩ => ⟨by rw [he, bstr_data, trim_tail]; rfl, hw.symm⟩
theorem wrap_dig (V d : Int) : IntKind.i64.wrap (IntKind.i64.wrap (10 * IntKind.i64.wrap (-V)) - d) = IntKind.i64.wrap (-(10 * V + d)) := by
  rw [IntKind.wrap_i64, IntKind.wrap_i64, IntKind.wrap_i64, IntKind.wrap_i64]; omega
theorem w64 (x : Int) : wrap64 x = IntKind.i64.wrap x := by unfold wrap64; rw [IntKind.wrap_i64]
theorem wrap_in (x : Int) : -9223372036854775808 ≤ IntKind.i64.wrap x ∧ IntKind.i64.wrap x ≤ 9223372036854775807 := by
  rw [IntKind.wrap_i64]; omega
theorem wrap_back {D m : Int} (hm : in64 m) (h : D = m) : IntKind.i64.wrap (-(IntKind.i64.wrap (-D))) = m := by
  subst h; unfold in64 at hm
  rw [IntKind.wrap_i64, IntKind.wrap_i64]; omega
theorem wrap_back2 {D m : Int} (hm : in64 m) (h : D = -m) : IntKind.i64.wrap (-D) = m := by
  subst h; unfold in64 at hm
  rw [IntKind.wrap_i64]; omega
theorem ret_ib2 {a b : Int} {x y : Bool} (h : a = b ∧ x = y) : Ending.returned (.tuple #[.int .i64 a, .bool x]) = .returned (.tuple #[.int .i64 b, .bool y]) := by rw [h.1, h.2]

set_option maxHeartbeats 1600000 in
theorem iParseInt (s : List UInt8) (w : World) (hm : s.length ≤ 1048576) :
    Calls Tryz.prog 33 #[.string (bstr s)] w fun e w' => e = .returned (.tuple #[.int .i64 (pv s), .bool (pb s)]) ∧ w = w' := by
  have htl := tailP_le s
  have hsz : (bstr s).size = s.length := bstr_size s
  have hst : (bstr (tailP s)).size = (tailP s).length := bstr_size _
  have HTr := Lib.hid (fun w => trimP s w)
  obtain ⟨t, ht⟩ : ∃ t, t = tailP s := ⟨_, rfl⟩
  rw [← ht] at htl hst HTr
  have HTt := Lib.hid ht
  clear ht
  cases hd : digsB t with
  | false =>
    have HF := Lib.hid (p_bad (s := s) (Or.inl (fun h => by rw [← HTt.out, ← digsB_iff, hd] at h; cases h)))
    go_enter Tryz.func33, Tryz.ntmps33
    go_wp2_with (first | (go_at_call 67; ((with_reducible refine (HTr.out _).mono ?_); rintro e w' ⟨rfl, rfl⟩)) | ((go_at_call 68; ((with_reducible refine (iIsDigits t _ (by omega)).mono ?_); rintro e w' ⟨rfl, rfl⟩)); rw [hd]))
    exact bodyPost_ret (v := .tuple #[.int .i64 0, .bool false]) (by simp [results, Tryz.results33, go_sem]) rfl ⟨ret_ib2 ⟨HF.out.1.symm, HF.out.2.symm⟩, rfl⟩
  | true =>
    have hdp := digsB_iff.1 hd
    by_cases h19 : 19 < t.length
    · have HF := Lib.hid (p_bad (s := s) (Or.inr (by rw [← HTt.out]; exact h19)))
      go_enter Tryz.func33, Tryz.ntmps33
      go_wp2_with (first | (go_at_call 67; ((with_reducible refine (HTr.out _).mono ?_); rintro e w' ⟨rfl, rfl⟩)) | (go_at_call 68; ((with_reducible refine (iIsDigits t _ (by omega)).mono ?_); rintro e w' ⟨rfl, rfl⟩)); rw [hd])
      exact bodyPost_ret (v := .tuple #[.int .i64 0, .bool false]) (by simp [results, Tryz.results33, go_sem]) rfl ⟨ret_ib2 ⟨HF.out.1.symm, HF.out.2.symm⟩, rfl⟩
    · have HAt := Lib.hid (fun k h => bstr_at t k h)
      obtain ⟨n, hn⟩ : ∃ n, t.length = n := ⟨_, rfl⟩
      rw [hn] at htl hst h19
      have HDp := Lib.hid hdp.2
      have HN := Lib.hid hn
      clear hdp
      go_enter Tryz.func33, Tryz.ntmps33
      go_wp2_with (first | (go_at_call 67; ((with_reducible refine (HTr.out _).mono ?_); rintro e w' ⟨rfl, rfl⟩)) | (go_at_call 68; ((with_reducible refine (iIsDigits t _ (by omega)).mono ?_); rintro e w' ⟨rfl, rfl⟩)); rw [hd])
      go_loop [5, 19] (fun x i => ∃ k : Nat, k ≤ n ∧ i = .int .i64 k ∧ x = .int .i64 (IntKind.i64.wrap (-(dval (t.take k))))) (fun _ i => n - (intOf i).toNat)
      case atStart => exact ⟨0, Nat.zero_le _, rfl, by simp [dval]; rfl⟩
      case round =>
        obtain ⟨k, hk, rfl, rfl⟩ := hrel
        by_cases hlt : k < n
        · have hx := HAt.out k (by omega)
          have hkl : k < t.length := by rw [HN.out]; exact hlt
          have hdg : isDig (bnth t k) := HDp.out _ (by rw [bnth_eq t k hkl]; exact List.getElem_mem _)
          obtain ⟨c, hc⟩ : ∃ c : Nat, (bnth t k).toNat = c := ⟨_, rfl⟩
          unfold isDig at hdg
          rw [hc] at hdg
          obtain ⟨d0, d1⟩ := hdg
          have HS : Hid (IntKind.i64.wrap (IntKind.i64.wrap (10 * IntKind.i64.wrap (-(dval (t.take k)))) - ((c : Int) - 48)) = IntKind.i64.wrap (-(dval (t.take (k + 1))))) := by
            show _ = _
            rw [dval_take t k hkl, hc, wrap_dig]
          obtain ⟨X0, X1⟩ := wrap_in (-(dval (t.take k)))
          generalize IntKind.i64.wrap (-(dval (t.take k))) = X at *
          go_wp2_with fail
          go_round
          case rel => exact ⟨k + 1, by omega, by go_num, congrArg _ (by rw [w64, w64]; exact HS.out)⟩
          case measure => simp [intOf]; omega
        · have hkn : k = n := by omega
          subst hkn
          have htk : t.take k = t := by rw [← HN.out]; exact List.take_length
          obtain ⟨X0, X1⟩ := wrap_in (-(dval (t.take k)))
          rw [htk] at *
          obtain ⟨X, hX⟩ : ∃ X, IntKind.i64.wrap (-(dval t)) = X := ⟨_, rfl⟩
          rw [hX] at X0 X1 ⊢
          have HX := Lib.hid hX
          clear hX htk hn
          by_cases hlen : k = s.length
          · have tl : ((k : Int) == (s.length : Int)) = true := by simp [hlen]
            have HY : Hid (-9223372036854775808 ≤ wrap64 (-X) ∧ wrap64 (-X) ≤ 9223372036854775807) := by rw [w64]; exact wrap_in _
            have HU : Hid (∀ m, in64 m → fmtInt m = s → wrap64 (-X) = m) := fun m hm e => by
              obtain ⟨_, _, r1, r2⟩ := read_back hm e
              rw [← HTt.out, HN.out] at r1 r2
              rw [w64, ← HX.out]; exact wrap_back hm (r1 hlen)
            by_cases hE : fmtInt (wrap64 (-X)) = s
            · have HF := Lib.hid (p_some (s := s) HY.out hE)
              have hE1 : bstr (fmtInt (wrap64 (-X))) = bstr s := by rw [hE]
              clear hE
              go_wp2_with ((go_at_call 6; ((with_reducible refine (iFormatInt _ _ HY.out.1 HY.out.2).mono ?_); rintro e w' ⟨rfl, rfl⟩)))
              exact bodyPost_ret (v := .tuple #[.int .i64 (wrap64 (-X)), .bool true]) (by simp [results, Tryz.results33, go_sem]) rfl ⟨ret_ib2 ⟨HF.out.1.symm, HF.out.2.symm⟩, rfl⟩
            · have HF := Lib.hid (p_none (s := s) (fun m hm e => hE (by rw [HU.out m hm e]; exact e)))
              have hE1 := bstr_neq hE
              clear hE
              go_wp2_with ((go_at_call 6; ((with_reducible refine (iFormatInt _ _ HY.out.1 HY.out.2).mono ?_); rintro e w' ⟨rfl, rfl⟩)))
              exact bodyPost_ret (v := .tuple #[.int .i64 0, .bool false]) (by simp [results, Tryz.results33, go_sem]) rfl ⟨ret_ib2 ⟨HF.out.1.symm, HF.out.2.symm⟩, rfl⟩
          · have tl : ((k : Int) == (s.length : Int)) = false := by simp; omega
            have HY : Hid (-9223372036854775808 ≤ X ∧ X ≤ 9223372036854775807) := ⟨X0, X1⟩
            have HU : Hid (∀ m, in64 m → fmtInt m = s → X = m) := fun m hm e => by
              obtain ⟨_, _, r1, r2⟩ := read_back hm e
              rw [← HTt.out, HN.out] at r1 r2
              rw [← HX.out]; exact wrap_back2 hm (r2 hlen)
            by_cases hE : fmtInt (X) = s
            · have HF := Lib.hid (p_some (s := s) HY.out hE)
              have hE1 : bstr (fmtInt (X)) = bstr s := by rw [hE]
              clear hE
              go_wp2_with ((go_at_call 6; ((with_reducible refine (iFormatInt _ _ HY.out.1 HY.out.2).mono ?_); rintro e w' ⟨rfl, rfl⟩)))
              exact bodyPost_ret (v := .tuple #[.int .i64 (X), .bool true]) (by simp [results, Tryz.results33, go_sem]) rfl ⟨ret_ib2 ⟨HF.out.1.symm, HF.out.2.symm⟩, rfl⟩
            · have HF := Lib.hid (p_none (s := s) (fun m hm e => hE (by rw [HU.out m hm e]; exact e)))
              have hE1 := bstr_neq hE
              clear hE
              go_wp2_with ((go_at_call 6; ((with_reducible refine (iFormatInt _ _ HY.out.1 HY.out.2).mono ?_); rintro e w' ⟨rfl, rfl⟩)))
              exact bodyPost_ret (v := .tuple #[.int .i64 0, .bool false]) (by simp [results, Tryz.results33, go_sem]) rfl ⟨ret_ib2 ⟨HF.out.1.symm, HF.out.2.symm⟩, rfl⟩
end Go.Proofs.YtagiecajffhnpaaGreat

namespace Go.Proofs.YtagiecajffhnpaaGreat
set_option maxRecDepth 100000
open Go.ChangeShapes Go.WideShapes Go.ChangeAt Go.RowKit Go.Joins

theorem bstr_extract (l : List UInt8) (i j : Nat) : (bstr l).extract i j = bstr ((l.drop i).take (j - i)) := by
  apply ByteArray.ext
  simp [bstr]
end Go.Proofs.YtagiecajffhnpaaGreat

namespace Go.Proofs.YtagiecajffhnpaaGreat
set_option maxRecDepth 100000
open Go.ChangeShapes Go.WideShapes Go.ChangeAt Go.RowKit Go.Joins

/-- The pieces before place k, and where the next one begins. -/
def spl (b s : List UInt8) : Nat → List (List UInt8) × Nat
  | 0 => ([], 0)
  | k + 1 => if bnth s k ∈ b then ((spl b s k).1 ++ [(s.drop (spl b s k).2).take (k - (spl b s k).2)], k + 1) else spl b s k
def pieces (b s : List UInt8) : List (List UInt8) := (spl b s s.length).1 ++ [s.drop (spl b s s.length).2]
theorem spl_le (b s : List UInt8) : ∀ k, (spl b s k).2 ≤ k ∧ (spl b s k).1.length ≤ k
  | 0 => by simp [spl]
  | k + 1 => by
    have := spl_le b s k
    simp only [spl]
    split
    · simp; omega
    · omega
theorem spl_in {b s : List UInt8} {k : Nat} (h : bnth s k ∈ b) : spl b s (k + 1) = ((spl b s k).1 ++ [(s.drop (spl b s k).2).take (k - (spl b s k).2)], k + 1) := by simp only [spl, if_pos h]
theorem spl_out {b s : List UInt8} {k : Nat} (h : ¬ bnth s k ∈ b) : spl b s (k + 1) = spl b s k := by simp only [spl, if_neg h]
theorem index_mem (b : List UInt8) (c : UInt8) : 0 ≤ Lib.indexByte b c ↔ c ∈ b := by
  induction b with
  | nil => simp [Lib.indexByte]
  | cons x b ih =>
    have hg := Lib.indexByte_ge b c
    simp only [Lib.indexByte]
    by_cases h : x = c
    · subst h; simp
    · have h' : (x == c) = false := by simpa using h
      rw [h']
      simp only [Bool.false_eq_true, if_false, List.mem_cons]
      by_cases e : Lib.indexByte b c = -1
      · rw [e] at ih ⊢
        simp at ih ⊢
        exact ⟨fun e => h e.symm, ih⟩
      · have e' : (Lib.indexByte b c == -1) = false := by simpa using e
        rw [e']
        simp only [Bool.false_eq_true, if_false]
        constructor
        · intro _; exact Or.inr (ih.1 (by omega))
        · intro hh
          rcases hh with hh | hh
          · exact absurd hh.symm h
          · have := ih.2 hh; omega
theorem u8_back (c : UInt8) : ((c.toNat : Int).toNat).toUInt8 = c := by
  simp
theorem idxB (b : List UInt8) (c : UInt8) (w : World) : Calls Tryz.prog 26 #[.string (bstr b), .int .u8 (c.toNat : Int)] w fun e w' => e = .returned (.int .i64 (Lib.indexByte b c)) ∧ w = w' :=
  (Tryz.strings_IndexByte (bstr b) (c.toNat : Int) w).mono fun e w' ⟨he, hw⟩ => ⟨by rw [he, bstr_data, u8_back], hw.symm⟩
def GivesS (w : World) (l : List (List UInt8)) (e : Ending) (w' : World) : Prop := ∃ v, e = .returned v ∧ w'.ownsRow w.heap.size 9 1 v l.length (scells l) ∧ Ge w w'

set_option maxHeartbeats 1600000 in
theorem iSplitAny (s b : List UInt8) (w : World) (hm : s.length ≤ 1048576) :
    Calls Tryz.prog 15 #[.string (bstr s), .string (bstr b)] w (GivesS w (pieces b s)) := by
  obtain ⟨n, hn⟩ : ∃ n, s.length = n := ⟨_, rfl⟩
  have hsz : (bstr s).size = n := by rw [bstr_size, hn]
  have HN := Lib.hid hn
  have HAt := Lib.hid (fun k h => bstr_at s k h)
  have HI := Lib.hid (fun c w => idxB b c w)
  rw [hn] at hm
  clear hn
  go_enter Tryz.func15, Tryz.ntmps15
  go_wp2_with fail
  go_loopw [5, 6, 11] (fun v f i wr => ∃ k : Nat, k ≤ n ∧ i = .int .i64 k ∧ f = .int .i64 ((spl b s k).2 : Nat) ∧ wr.ownsRow w.heap.size 9 1 v (spl b s k).1.length (scells (spl b s k).1) ∧ Ge w wr) (fun _ _ i _ => n - (intOf i).toNat)
  case atStart => exact ⟨0, Nat.zero_le _, rfl, rfl, owns_lit0 _ _ _, kge⟩
  case round =>
    obtain ⟨k, hk, rfl, rfl, hown, hg⟩ := hrel
    obtain ⟨l1, l2⟩ := spl_le b s k
    by_cases hlt : k < n
    · have hx := HAt.out k (by omega)
      by_cases hin : bnth s k ∈ b
      · have hi := (index_mem b (bnth s k)).2 hin
        have HS := Lib.hid (spl_in hin)
        have he := bstr_extract s (spl b s k).2 k
        have zg := hg.size
        obtain ⟨f, hf⟩ : ∃ f, (spl b s k).2 = f := ⟨_, rfl⟩
        rw [hf] at HS he l1
        have HF := Lib.hid hf
        generalize (spl b s k).1 = L at *
        rw [hf]
        clear hin hf
        generalize bnth s k = c at *
        go_wp2_with (first
          | (go_at_call 26; ((with_reducible refine (HI.out c _).mono ?_); rintro e w' ⟨rfl, rfl⟩))
          | (at_builtin; refine ap_str rfl _ _ rfl w.heap.size _ L rfl hown _ rfl (by omega) zg ?_; intro v' w6 own6 hm6))
        go_roundw
        case rel => exact ⟨k + 1, by omega, by go_num, by rw [HS.out]; exact rfl, by rw [HS.out]; exact own6, hg.mine hown (Nat.le_refl _) hm6⟩
        case measure => simp [intOf]; omega
      · have hi : ¬ 0 ≤ Lib.indexByte b (bnth s k) := fun h => hin ((index_mem b (bnth s k)).1 h)
        have HS := Lib.hid (spl_out hin)
        clear hin
        generalize bnth s k = c at *
        go_wp2_with ((go_at_call 26; ((with_reducible refine (HI.out c _).mono ?_); rintro e w' ⟨rfl, rfl⟩)))
        go_roundw
        case rel => exact ⟨k + 1, by omega, by go_num, by rw [HS.out], by rw [HS.out]; exact hown, hg⟩
        case measure => simp [intOf]; omega
    · have hkn : k = n := by omega
      subst hkn
      have he := bstr_extract s (spl b s k).2 k
      have zg := hg.size
      have HP : Hid (pieces b s = (spl b s k).1 ++ [s.drop (spl b s k).2]) := by
        show _ = _
        unfold pieces; rw [HN.out]
      have ht : (s.drop (spl b s k).2).take (k - (spl b s k).2) = s.drop (spl b s k).2 := by
        apply List.take_of_length_le
        rw [List.length_drop, HN.out]; exact Nat.le_refl _
      rw [ht] at he
      clear ht
      go_wp2_with ((at_builtin; refine ap_str rfl _ _ rfl w.heap.size _ (spl b s k).1 rfl hown _ rfl (by omega) zg ?_; intro v' w6 own6 hm6))
      go_ret
      exact ⟨_, rfl, by rw [HP.out]; exact own6, hg.mine hown (Nat.le_refl _) hm6⟩

end Go.Proofs.YtagiecajffhnpaaGreat

namespace Go.Proofs.YtagiecajffhnpaaGreat
set_option maxRecDepth 100000
open Go.ChangeShapes Go.WideShapes Go.ChangeAt Go.RowKit Go.Joins

theorem mem_pieces {b s x : List UInt8} : ∀ k, x ∈ (spl b s k).1 → x.length ≤ s.length
  | 0, h => by simp [spl] at h
  | k + 1, h => by
    simp only [spl] at h
    split at h
    · rcases List.mem_append.1 h with h | h
      · exact mem_pieces k h
      · simp only [List.mem_singleton] at h
        subst h
        simp; omega
    · exact mem_pieces k h
theorem pieces_le {b s : List UInt8} : ∀ x ∈ pieces b s, x.length ≤ s.length := fun x hx => by
  unfold pieces at hx
  rcases List.mem_append.1 hx with h | h
  · exact mem_pieces _ h
  · simp only [List.mem_singleton] at h
    subst h
    simp
theorem pieces_len (b s : List UInt8) : (pieces b s).length ≤ s.length + 1 := by
  have := (spl_le b s s.length).2
  simp [pieces]; omega

noncomputable def nums (l : List (List UInt8)) (k : Nat) : List Int := (List.range k).map fun i => pv (tnth l i)
theorem nums_succ (l : List (List UInt8)) (k : Nat) : nums l (k + 1) = nums l k ++ [pv (tnth l k)] := by simp [nums, List.range_succ]
theorem nums_length (l : List (List UInt8)) (k : Nat) : (nums l k).length = k := by simp [nums]
noncomputable def allB (l : List (List UInt8)) : Bool := (List.range l.length).all fun i => pb (tnth l i)
noncomputable def numsR (l : List (List UInt8)) : List Int := if allB l = true then nums l l.length else []
theorem all_t {l : List (List UInt8)} (h : ∀ i, i < l.length → pb (tnth l i) = true) : allB l = true ∧ numsR l = nums l l.length := by
  have : allB l = true := by simp only [allB, List.all_eq_true, List.mem_range]; exact h
  exact ⟨this, by simp [numsR, this]⟩
theorem all_f {l : List (List UInt8)} {i : Nat} (hi : i < l.length) (h : pb (tnth l i) = false) : allB l = false ∧ numsR l = [] := by
  have : allB l = false := by
    cases c : allB l with
    | false => rfl
    | true =>
      simp only [allB, List.all_eq_true, List.mem_range] at c
      rw [c i hi] at h; cases h
  exact ⟨this, by simp [numsR, this]⟩
def GivesN (w : World) (l : List (List UInt8)) (e : Ending) (w' : World) : Prop :=
  ∃ v, e = .returned (.tuple #[v, .bool (allB l)]) ∧ w'.ownsRow w.heap.size 3 1 v (numsR l).length (icells (numsR l)) ∧ Ge w w'
theorem good_num {l : List (List UInt8)} {k : Nat} (h : Hid (∀ i, i < k → pb (tnth l i) = true)) (hk : pb (tnth l k) = true) : Hid (∀ i, i < k + 1 → pb (tnth l i) = true) := fun i hi => by
  by_cases e : i = k
  · subst e; exact hk
  · exact h.out i (by omega)
theorem owns_nil (w : World) (base : Nat) (e : TypeId) : w.ownsRow base e 1 (.slice none 0 0) 0 [] := ⟨rfl, .inl ⟨rfl, rfl⟩⟩

set_option maxHeartbeats 1600000 in
theorem iInts (v : Value) (l : List (List UInt8)) (w : World) (hv : SlS w v l) (hm : l.length ≤ 2000000) (hl : ∀ x ∈ l, x.length ≤ 1048576) :
    Calls Tryz.prog 21 #[v] w (GivesN w l) := by
  obtain ⟨n, hn⟩ : ∃ n, l.length = n := ⟨_, rfl⟩
  obtain ⟨p, cap, rfl, hc⟩ := hv.openN hn
  have HC := Lib.hid hc
  have HN := Lib.hid hn
  have HL := Lib.hid (fun i (h : i < n) => hl (tnth l i) (by rw [tnth_eq l i (by rw [hn]; exact h)]; exact List.getElem_mem _))
  rw [hn] at hm
  clear hv hc hn hl
  go_enter Tryz.func21, Tryz.ntmps21
  go_wp2_with fail
  go_loopw [4, 12] (fun v i wr => ∃ k : Nat, k ≤ n ∧ i = .int .i64 k ∧ wr.ownsRow w.heap.size 3 1 v (nums l k).length (icells (nums l k)) ∧ Hid (∀ i, i < k → pb (tnth l i) = true) ∧ Ge w wr) (fun _ i _ => n - (intOf i).toNat)
  case atStart => exact ⟨0, Nat.zero_le _, rfl, owns_lit0 _ _ _, fun i hi => by omega, kge⟩
  case round =>
    obtain ⟨k, hk, rfl, hown, HG, hg⟩ := hrel
    by_cases hlt : k < n
    · obtain ⟨b, o, rfl, x0⟩ := HC.out k hlt
      have y0 := hg.keep x0
      clear x0
      have hlk := HL.out k hlt
      have HP := Lib.hid (fun w => iParseInt (tnth l k) w hlk)
      cases c : pb (tnth l k) with
      | false =>
        have HF := Lib.hid (all_f (l := l) (i := k) (by rw [HN.out]; exact hlt) c)
        rw [c] at HP
        generalize tnth l k = T at *
        go_wp2_with ((go_at_call 33; ((with_reducible refine (HP.out _).mono ?_); rintro e w' ⟨rfl, rfl⟩)))
        exact bodyPost_ret (v := .tuple #[.slice none 0 0, .bool false]) (by simp [results, Tryz.results21, go_sem]) rfl ⟨_, by rw [HF.out.1], by rw [HF.out.2]; exact owns_nil _ _ _, kge⟩
      | true =>
        have HG2 := Lib.hid (good_num HG c)
        have HS : Hid (nums l k ++ [pv (tnth l k)] = nums l (k + 1)) := (nums_succ _ _).symm
        have HLn : Hid ((nums l k).length < 1099511627776) := by
          show _ < _
          rw [nums_length]; omega
        rw [c] at HP
        generalize pv (tnth l k) = X at *
        generalize tnth l k = T at *
        generalize nums l k = L at *
        have zg := hg.size
        go_wp2_with (first
          | ((go_at_call 33; ((with_reducible refine (HP.out _).mono ?_); rintro e w' ⟨rfl, rfl⟩)))
          | (at_builtin; refine ap_int rfl _ _ rfl w.heap.size u4 L rfl hown X rfl HLn.out zg ?_; intro v' w6 own6 hm6))
        go_roundw
        case rel => exact ⟨k + 1, by omega, by go_num, by rw [← HS.out]; exact own6, HG2.out, hg.mine hown (Nat.le_refl _) hm6⟩
        case measure => simp [intOf]; omega
    · have hkn : k = n := by omega
      subst hkn
      have HF := Lib.hid (all_t (l := l) (fun i hi => HG.out i (by rw [← HN.out]; exact hi)))
      go_wp2_with fail
      exact bodyPost_ret (v := .tuple #[u4, .bool true]) (by simp [results, Tryz.results21, go_sem]) rfl ⟨_, by rw [HF.out.1], by rw [HF.out.2, HN.out]; exact hown, kge⟩

end Go.Proofs.YtagiecajffhnpaaGreat
