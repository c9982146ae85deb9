/- LeastUnits of both sides. No condition. -/
import Derived.Test.YtmcnfhpjjmbdmaaWValS
import Derived.Test.YtmcnfhpjjmbdmaaWRatioArg
import Derived.Deep.QuietTactic
namespace Go.Proofs.Ytmcnfhpjjmbdmaa
set_option maxRecDepth 100000
open Go.ChangeShapes Go.WideShapes Go.ChangeAt Go.RowKit Go.Joins

def memB (l : List Rt) (r : Rt) : Bool := decide (r ∈ l)
theorem mem_step {l : List Rt} {r : Rt} {k n : Nat} (hn : l.length = n) (hk : k < n) (h : Hid (∀ j, j < k → ¬ l[j]! = r)) (h2 : ¬ l[k]! = r) : Hid (∀ j, j < k + 1 → ¬ l[j]! = r) := fun j hj => by
  by_cases e : j = k
  · rw [e]; exact h2
  · exact h.out j (by omega)
theorem mem_none {l : List Rt} {r : Rt} (h : Hid (∀ j, j < l.length → ¬ l[j]! = r)) : memB l r = false := by
  simp only [memB, decide_eq_false_iff_not]
  intro hm
  obtain ⟨j, hj, he⟩ := List.getElem_of_mem hm
  exact h.out j hj (by rw [getElem!_pos l j hj]; exact he)
theorem mem_some {l : List Rt} {r : Rt} {k : Nat} (hk : k < l.length) (h : l[k]! = r) : memB l r = true := by
  simp only [memB, decide_eq_true_eq]
  rw [← h, getElem!_pos l k hk]
  exact List.getElem_mem _

set_option maxHeartbeats 1600000 in
/-- slices.Index of fractions. -/
theorem indexR (base : Nat) (v : Value) (l : List Rt) (r : Rt) (w : World) (hv : OwR w base v l) (hll : l.length ≤ 1000) :
    Calls Try.prog 41 #[v, .agg #[.int .i64 r.n, .int .i64 r.d]] w fun e w' => ∃ k : Int, e = .returned (.int .i64 k) ∧ Hid (decide (0 ≤ k) = memB l r) ∧ Ge w w' := by
  obtain ⟨pl, cl, rfl⟩ := owns_form hv
  obtain ⟨n, hn⟩ : ∃ n, l.length = n := ⟨_, rfl⟩
  rw [hn] at hll hv ⊢
  have HV := Lib.hid hv
  have HLn := Lib.hid hn
  clear hv hn
  have gB := Ge.alloc (Ge.refl w) (.cells #[.int .i64 r.n, .int .i64 r.d] 30)
  have r0 : (w.alloc (.cells #[.int .i64 r.n, .int .i64 r.d] 30)).cell? ⟨w.heap.size, 0, none⟩ = some (.int .i64 r.n) := by simp
  have r1 : (w.alloc (.cells #[.int .i64 r.n, .int .i64 r.d] 30)).cell? ⟨w.heap.size, 1, none⟩ = some (.int .i64 r.d) := by simp
  go_enter Try.func41, Try.ntmps41
  go_wp2_with fail
  generalize w.alloc (.cells #[.int .i64 r.n, .int .i64 r.d] 30) = wb at *
  go_loopw [8] (fun i wr => ∃ (k : Nat), i = .int .i64 (k : Int) ∧ k ≤ n ∧ Hid (∀ j, j < k → ¬ l[j]! = r) ∧ Ge wb wr) (fun i _ => 1001 - (intOf i).toNat)
  case atStart => exact ⟨0, rfl, Nat.zero_le _, fun j hj => by omega, Ge.refl _⟩
  case round =>
    obtain ⟨k, rfl, hk, HJ, hg⟩ := hrel
    by_cases hkn : k < n
    · obtain ⟨g, c, he⟩ := Go.Joins.ownsRow_form HV.out (by have := HLn.out; omega)
      simp only [Value.slice.injEq] at he
      obtain ⟨rfl, he2, rfl⟩ := he
      clear he2
      obtain ⟨xa, xb⟩ := (HV.out.ge (gB.trans hg)).cell (k := k) (by rw [HLn.out]; exact hkn)
      have f0 := hg.keep r0
      have f1 := hg.keep r1
      have HT := Lib.hid (mem_some (l := l) (r := r) (k := k) (by rw [HLn.out]; exact hkn))
      have HF := Lib.hid (mem_step (l := l) (r := r) (k := k) HLn.out hkn HJ)
      have HG := Lib.hid hg
      clear hg r0 r1
      generalize l[k]! = X at *
      obtain ⟨xn, xd⟩ := X
      obtain ⟨rn, rd⟩ := r
      simp only at *
      by_cases hE : xn = rn ∧ xd = rd
      · obtain ⟨rfl, rfl⟩ := hE
        go_wp2_with fail
        go_quiet (fail)
        go_wp2_with fail
        go_ret
        exact ⟨_, rfl, by show _ = _; rw [HT.out (by simp)]; simp, (gB.trans HG.out).trans (by (repeat (first | with_reducible exact Ge.refl _ | assumption | with_reducible refine Ge.drew ?_ | with_reducible refine Ge.drewN ?_ _ | with_reducible refine Ge.alloc ?_ _ | (with_reducible refine Ge.setCell ?_ (by first | (simp; done) | omega | (simp; omega)) _) | with_reducible refine Ge.trans ?_ (by assumption))))⟩
      · have hne : ¬ (⟨xn, xd⟩ : Rt) = ⟨rn, rd⟩ := by simpa using hE
        have HF2 := Lib.hid (HF.out hne)
        clear hne HF HT HJ
        by_cases hn1 : xn = rn
        · subst hn1
          have hn2 : ¬ xd = rd := by simpa using hE
          have hn3 : ¬ rd = xd := fun h => hn2 h.symm
          clear hE
          go_wp2_with fail
          go_quiet (fail)
          go_wp2_with fail
          go_roundw
          case rel => exact ⟨k + 1, by go_num, by omega, HF2.out, HG.out.trans (by (repeat (first | with_reducible exact Ge.refl _ | assumption | with_reducible refine Ge.drew ?_ | with_reducible refine Ge.drewN ?_ _ | with_reducible refine Ge.alloc ?_ _ | (with_reducible refine Ge.setCell ?_ (by first | (simp; done) | omega | (simp; omega)) _) | with_reducible refine Ge.trans ?_ (by assumption))))⟩
          case measure => simp [intOf]; omega
        · have hn3 : ¬ rn = xn := fun h => hn1 h.symm
          clear hE
          go_wp2_with fail
          go_quiet (fail)
          go_wp2_with fail
          go_roundw
          case rel => exact ⟨k + 1, by go_num, by omega, HF2.out, HG.out.trans (by (repeat (first | with_reducible exact Ge.refl _ | assumption | with_reducible refine Ge.drew ?_ | with_reducible refine Ge.drewN ?_ _ | with_reducible refine Ge.alloc ?_ _ | (with_reducible refine Ge.setCell ?_ (by first | (simp; done) | omega | (simp; omega)) _) | with_reducible refine Ge.trans ?_ (by assumption))))⟩
          case measure => simp [intOf]; omega
    · have hkn2 : k = n := by omega
      subst hkn2
      have HZ : Hid (memB l r = false) := mem_none (by rw [HLn.out]; exact HJ)
      go_wp2_with fail
      go_ret
      exact ⟨_, rfl, by show _ = _; rw [HZ.out]; simp, gB.trans hg⟩

set_option maxHeartbeats 1600000 in
/-- slices.Contains of fractions. -/
theorem containsR (base : Nat) (v : Value) (l : List Rt) (r : Rt) (w : World) (hv : OwR w base v l) (hll : l.length ≤ 1000) :
    Calls Try.prog 26 #[v, .agg #[.int .i64 r.n, .int .i64 r.d]] w fun e w' => e = .returned (.bool (memB l r)) ∧ Ge w w' := by
  have HV := Lib.hid hv
  have HC := Lib.hid (fun w' (g : Ge w w') => indexR base v l r w' (HV.out.ge g) hll)
  clear hv
  go_enter Try.func26, Try.ntmps26
  go_wp2_with (go_at_call 41; ((with_reducible refine (HC.out _ (Ge.alloc (Ge.refl w) _)).mono ?_); rintro e w5 ⟨k, rfl, hk, g⟩); have HK := Lib.hid hk.out; have HG := Lib.hid g; clear hk g)
  go_ret
  exact ⟨ret_bool HK.out, (Ge.alloc (Ge.refl w) _).trans HG.out⟩

/-- The least number of units from k on. -/
def leastF (r : Rt) : Nat → Nat → Int
  | 0, _ => -1
  | f + 1, k => if memB (valV k) r = true then k else leastF r f (k + 1)
def leastU (r : Rt) : Int := leastF r 7 0
theorem least_one (r : Rt) : leastU r = leastF r 6 1 := by
  unfold leastU
  rw [leastF, if_neg (by simp [memB, valV])]
theorem least_hit {r : Rt} {k : Nat} (hk : k < 7) (h : memB (valV k) r = true) : leastF r (7 - k) k = k := by
  rw [show 7 - k = (6 - k) + 1 by omega, leastF, if_pos h]
theorem least_next {r : Rt} {k : Nat} (hk : k < 7) (h : memB (valV k) r = false) : leastF r (7 - k) k = leastF r (7 - (k + 1)) (k + 1) := by
  rw [show 7 - k = (7 - (k + 1)) + 1 by omega, leastF, if_neg (by rw [h]; decide)]
theorem least_end {r : Rt} {k : Nat} (hk : ¬ k < 7) : leastF r (7 - k) k = -1 := by
  rw [show 7 - k = 0 by omega, leastF]

set_option maxHeartbeats 1600000 in
theorem iLeastUnits (n d : Int) (w : World) : Calls Try.prog 13 #[.agg #[.int .i64 n, .int .i64 d]] w fun e w' => e = .returned (.int .i64 (leastU ⟨n, d⟩)) ∧ Ge w w' := by
  have HV : Hid (∀ w', Calls Try.prog 24 #[.int .i64 6] w' fun e w2 => ∃ v, e = .returned v ∧ OwnV w2 w'.heap.size v 7 ∧ Ge w' w2) := fun w' => iValues 6 w' (by omega) (by omega)
  have H0 : Hid (leastU ⟨n, d⟩ = leastF ⟨n, d⟩ (7 - 0) 0) := rfl
  generalize leastU ⟨n, d⟩ = LU at *
  have gB := Ge.alloc (Ge.refl w) (.cells #[.int .i64 n, .int .i64 d] 30)
  have r0 : (w.alloc (.cells #[.int .i64 n, .int .i64 d] 30)).cell? ⟨w.heap.size, 0, none⟩ = some (.int .i64 n) := by simp
  have r1 : (w.alloc (.cells #[.int .i64 n, .int .i64 d] 30)).cell? ⟨w.heap.size, 1, none⟩ = some (.int .i64 d) := by simp
  have zl := fun k => val_le k
  have HZl := Lib.hid zl
  clear zl
  go_enter Try.func13, Try.ntmps13
  go_upto_region 1 with (fail)
  generalize w.alloc (.cells #[.int .i64 n, .int .i64 d] 30) = wb at *
  go_wp2_with (go_at_call 24; ((with_reducible refine (HV.out _).mono ?_); rintro e w5 ⟨v, rfl, own, g⟩); obtain ⟨g0, c0, rfl, hrows⟩ := own.open (by omega) (by omega); have HO := Lib.hid own; have q0 := g.keep r0; have q1 := g.keep r1; have HG := Lib.hid g; clear own hrows g)
  clear r0 r1
  go_loopw [7] (fun i wr => ∃ (k : Nat), i = .int .i64 (k : Int) ∧ k ≤ 7 ∧ Hid (LU = leastF ⟨n, d⟩ (7 - k) k) ∧ Ge w5 wr) (fun i _ => 8 - (intOf i).toNat)
  case atStart => exact ⟨0, rfl, Nat.zero_le _, H0.out, Ge.refl _⟩
  case round =>
    obtain ⟨k, rfl, hk, HL, hg⟩ := hrel
    by_cases hkn : k < 7
    · obtain ⟨p, ck, xc, xo⟩ := HO.out.any (k := k) hkn
      have yc := hg.keep xc
      have f0 := hg.keep q0
      have f1 := hg.keep q1
      have HC := Lib.hid (containsR _ _ (valV k) ⟨n, d⟩ wr (xo.ge hg) (by have := HZl.out k; omega))
      have HT := Lib.hid (least_hit (r := ⟨n, d⟩) hkn)
      have HF := Lib.hid (least_next (r := ⟨n, d⟩) hkn)
      have HG2 := Lib.hid hg
      clear q0 q1 xc xo hg
      generalize (valV k).length = L at *
      cases hm : memB (valV k) ⟨n, d⟩ with
      | true =>
        rw [hm] at HC
        have HL2 : Hid (LU = (k : Int)) := by show _ = _; rw [HL.out, HT.out hm]
        clear hm HT HF HL
        go_wp2_with (go_at_call 26; ((with_reducible refine (HC.out).mono ?_); rintro e w6 ⟨rfl, g⟩); have HG6 := Lib.hid g; clear g)
        go_ret
        exact ⟨ret_int HL2.out.symm, ((gB.trans HG.out).trans HG2.out).trans HG6.out⟩
      | false =>
        rw [hm] at HC
        have HL2 : Hid (LU = leastF ⟨n, d⟩ (7 - (k + 1)) (k + 1)) := by show _ = _; rw [HL.out, HF.out hm]
        clear hm HT HF HL
        go_wp2_with (go_at_call 26; ((with_reducible refine (HC.out).mono ?_); rintro e w6 ⟨rfl, g⟩); have HG6 := Lib.hid g; clear g)
        go_roundw
        case rel => exact ⟨k + 1, by go_num, by omega, HL2, HG2.out.trans HG6.out⟩
        case measure => simp [intOf]; omega
    · have HL2 : Hid (LU = -1) := by show _ = _; rw [HL.out, least_end hkn]
      have hk7 : k = 7 := by omega
      subst hk7
      go_wp2_with fail
      go_ret
      exact ⟨ret_int HL2.out.symm, (gB.trans HG.out).trans hg⟩

set_option maxHeartbeats 1600000 in
theorem sLeastUnits (n d : Int) (w : World) : Calls Try.prog 11 #[.agg #[.int .i64 n, .int .i64 d]] w fun e w' => e = .returned (.int .i64 (leastU ⟨n, d⟩)) ∧ Ge w w' := by
  have H0 : Hid (leastU ⟨n, d⟩ = leastF ⟨n, d⟩ (7 - 1) 1) := least_one _
  generalize leastU ⟨n, d⟩ = LU at *
  have gB := Ge.alloc (Ge.refl w) (.cells #[.int .i64 n, .int .i64 d] 30)
  have r0 : (w.alloc (.cells #[.int .i64 n, .int .i64 d] 30)).cell? ⟨w.heap.size, 0, none⟩ = some (.int .i64 n) := by simp
  have r1 : (w.alloc (.cells #[.int .i64 n, .int .i64 d] 30)).cell? ⟨w.heap.size, 1, none⟩ = some (.int .i64 d) := by simp
  go_enter Try.func11, Try.ntmps11
  go_wp2_with fail
  generalize w.alloc (.cells #[.int .i64 n, .int .i64 d] 30) = wb at *
  go_loopw [3] (fun i wr => ∃ (k : Nat), i = .int .i64 (k : Int) ∧ 1 ≤ k ∧ k ≤ 7 ∧ Hid (LU = leastF ⟨n, d⟩ (7 - k) k) ∧ Ge wb wr) (fun i _ => 8 - (intOf i).toNat)
  case atStart => exact ⟨1, rfl, by omega, by omega, H0.out, Ge.refl _⟩
  case round =>
    obtain ⟨k, rfl, hk1, hk, HL, hg⟩ := hrel
    by_cases hkn : k < 7
    · have HU := Lib.hid (sUnitT k wr hk1 (by omega))
      have HT := Lib.hid (least_hit (r := ⟨n, d⟩) hkn)
      have HF := Lib.hid (least_next (r := ⟨n, d⟩) hkn)
      have hlk := val_le k
      obtain ⟨l, hl⟩ : ∃ l, valV k = l := ⟨_, rfl⟩
      obtain ⟨L, hL⟩ : ∃ L, l.length = L := ⟨_, rfl⟩
      rw [hl] at HU HT HF hlk
      rw [hL] at hlk
      have HLn := Lib.hid hL
      have hkI : (k : Int) ≤ 6 := by omega
      have hkB : decide ((k : Int) ≤ 6) = true := by simp; omega
      clear hl hL
      have f0 := hg.keep r0
      have f1 := hg.keep r1
      have HG2 := Lib.hid hg
      clear hg
      go_wp2_with (go_at_call 6; ((with_reducible refine (HU.out).mono ?_); rintro e w6 ⟨v, rfl, own, g⟩); have f0 := g.keep f0; have f1 := g.keep f1; obtain ⟨pv, cv, rfl⟩ := owns_form own; rw [HLn.out]; have HO := Lib.hid own; have HG6 := Lib.hid (HG2.out.trans g); clear own g)
      rw [HLn.out] at HO
      go_loopw [13] (fun i wq => ∃ (j : Nat), i = .int .i64 (j : Int) ∧ j ≤ L ∧ Hid (∀ i, i < j → ¬ l[i]! = ⟨n, d⟩) ∧ Ge w6 wq) (fun i _ => 60 - (intOf i).toNat)
      case atStart => exact ⟨0, rfl, Nat.zero_le _, fun i hi => by omega, Ge.refl _⟩
      case round =>
        obtain ⟨j, rfl, hj, HJ, hq⟩ := hrel
        by_cases hjl : j < L
        · obtain ⟨g, c, he⟩ := Go.Joins.ownsRow_form HO.out (by have := HLn.out; omega)
          simp only [Value.slice.injEq] at he
          obtain ⟨rfl, he2, rfl⟩ := he
          clear he2
          obtain ⟨xa, xb⟩ := (HO.out.ge hq).cell (k := j) (by rw [HLn.out]; exact hjl)
          have e0 := hq.keep f0
          have e1 := hq.keep f1
          have ze := World.block_lt_of_cell? _ _ e0
          simp only at ze
          have HM := Lib.hid (mem_some (l := l) (r := ⟨n, d⟩) (k := j) (by rw [HLn.out]; exact hjl))
          have HS := Lib.hid (mem_step (l := l) (r := ⟨n, d⟩) (k := j) HLn.out hjl HJ)
          have HQ := Lib.hid hq
          clear hq f0 f1
          generalize l[j]! = X at *
          obtain ⟨xn, xd⟩ := X
          simp only at *
          by_cases hE : xn = n ∧ xd = d
          · obtain ⟨rfl, rfl⟩ := hE
            have HL2 : Hid (LU = (k : Int)) := by show _ = _; rw [HL.out, HT.out (HM.out (by simp))]
            go_wp2_with fail
            go_ret
            exact ⟨ret_int HL2.out.symm, ((gB.trans HG6.out).trans HQ.out).trans (by (repeat (first | with_reducible exact Ge.refl _ | assumption | with_reducible refine Ge.drew ?_ | with_reducible refine Ge.drewN ?_ _ | with_reducible refine Ge.alloc ?_ _ | (with_reducible refine Ge.setCell ?_ (by first | (simp; done) | omega | (simp; omega)) _) | with_reducible refine Ge.trans ?_ (by assumption))))⟩
          · have hne : ¬ (⟨xn, xd⟩ : Rt) = ⟨n, d⟩ := by simpa using hE
            have HS2 := Lib.hid (HS.out hne)
            clear hne HS HM HJ
            by_cases hn1 : xn = n
            · subst hn1
              have hn2 : ¬ xd = d := by simpa using hE
              clear hE
              go_wp2_with fail
              go_roundw
              case rel => exact ⟨j + 1, by go_num, by omega, HS2.out, HQ.out.trans (by (repeat (first | with_reducible exact Ge.refl _ | assumption | with_reducible refine Ge.drew ?_ | with_reducible refine Ge.drewN ?_ _ | with_reducible refine Ge.alloc ?_ _ | (with_reducible refine Ge.setCell ?_ (by first | (simp; done) | omega | (simp; omega)) _) | with_reducible refine Ge.trans ?_ (by assumption))))⟩
              case measure => simp [intOf]; omega
            · clear hE
              go_wp2_with fail
              go_roundw
              case rel => exact ⟨j + 1, by go_num, by omega, HS2.out, HQ.out.trans (by (repeat (first | with_reducible exact Ge.refl _ | assumption | with_reducible refine Ge.drew ?_ | with_reducible refine Ge.drewN ?_ _ | with_reducible refine Ge.alloc ?_ _ | (with_reducible refine Ge.setCell ?_ (by first | (simp; done) | omega | (simp; omega)) _) | with_reducible refine Ge.trans ?_ (by assumption))))⟩
              case measure => simp [intOf]; omega
        · have hjl2 : j = L := by omega
          subst hjl2
          have HZ : Hid (memB l ⟨n, d⟩ = false) := mem_none (by rw [HLn.out]; exact HJ)
          have HL2 : Hid (LU = leastF ⟨n, d⟩ (7 - (k + 1)) (k + 1)) := by show _ = _; rw [HL.out, HF.out HZ.out]
          go_wp2_with fail
          go_roundw
          case rel => exact ⟨k + 1, by go_num, by omega, by omega, HL2, HG6.out.trans hq⟩
          case measure => simp [intOf]; omega
    · have HL2 : Hid (LU = -1) := by show _ = _; rw [HL.out, least_end hkn]
      have hk7 : k = 7 := by omega
      subst hk7
      go_wp2_with fail
      go_ret
      exact ⟨ret_int HL2.out.symm, gB.trans hg⟩

set_option maxHeartbeats 800000 in
theorem lFnExactLeastUnits (n d : Int) (w : World) : Calls Try.prog 4 #[.agg #[.int .i64 n, .int .i64 d]] w fun e w' => e = .returned (.bool true) ∧ Ge w w' := by
  have HI := Lib.hid (fun w' => iLeastUnits n d w')
  have HS := Lib.hid (fun w' => sLeastUnits n d w')
  generalize leastU ⟨n, d⟩ = LU at *
  go_enter Try.func4, Try.ntmps4
  go_wp2_with (first | (go_at_call 12; ((with_reducible refine (lToRatio _ _ _).mono ?_); rintro e w1 ⟨rfl, gw1⟩); have Gw1 : Ge w w1 := (Ge.trans (by (repeat (first | with_reducible exact Ge.refl _ | assumption | with_reducible refine Ge.drew ?_ | with_reducible refine Ge.drewN ?_ _ | with_reducible refine Ge.alloc ?_ _ | (with_reducible refine Ge.setCell ?_ (by first | (simp; done) | omega | (simp; omega)) _) | with_reducible refine Ge.trans ?_ (by assumption)))) gw1); have c0_0 : World.cell? w1 ⟨w.heap.size, 0, none⟩ = some (.int .i64 n) := Ge.keep gw1 (by repeat (first | assumption | exact (own_new (by simp) rfl).1 | with_reducible refine cell_drew ?_ | with_reducible refine cell_drewN ?_ | with_reducible refine cell_alloc ?_ | (simp [*]; done))); have c0_1 : World.cell? w1 ⟨w.heap.size, 1, none⟩ = some (.int .i64 d) := Ge.keep gw1 (by repeat (first | assumption | exact (own_new (by simp) rfl).1 | with_reducible refine cell_drew ?_ | with_reducible refine cell_drewN ?_ | with_reducible refine cell_alloc ?_ | (simp [*]; done))); have zw1 : w.heap.size + 1 ≤ w1.heap.size := (by have := Ge.size gw1; (try simp at this); omega)) | (go_at_call 11; ((with_reducible refine (HS.out _).mono ?_); rintro e w2 ⟨rfl, gw2⟩); have Gw2 : Ge w w2 := (Ge.trans (by (repeat (first | with_reducible exact Ge.refl _ | assumption | with_reducible refine Ge.drew ?_ | with_reducible refine Ge.drewN ?_ _ | with_reducible refine Ge.alloc ?_ _ | (with_reducible refine Ge.setCell ?_ (by first | (simp; done) | omega | (simp; omega)) _) | with_reducible refine Ge.trans ?_ (by assumption)))) gw2); have c0_0 : World.cell? w2 ⟨w.heap.size, 0, none⟩ = some (.int .i64 n) := Ge.keep gw2 (by repeat (first | assumption | exact (own_new (by simp) rfl).1 | with_reducible refine cell_drew ?_ | with_reducible refine cell_drewN ?_ | with_reducible refine cell_alloc ?_ | (simp [*]; done))); have c0_1 : World.cell? w2 ⟨w.heap.size, 1, none⟩ = some (.int .i64 d) := Ge.keep gw2 (by repeat (first | assumption | exact (own_new (by simp) rfl).1 | with_reducible refine cell_drew ?_ | with_reducible refine cell_drewN ?_ | with_reducible refine cell_alloc ?_ | (simp [*]; done))); have zw2 : w.heap.size + 1 ≤ w2.heap.size := (by have := Ge.size gw2; (try simp at this); omega)) | (go_at_call 13; ((with_reducible refine (HI.out _).mono ?_); rintro e w3 ⟨rfl, gw3⟩); have Gw3 : Ge w w3 := (Ge.trans (by (repeat (first | with_reducible exact Ge.refl _ | assumption | with_reducible refine Ge.drew ?_ | with_reducible refine Ge.drewN ?_ _ | with_reducible refine Ge.alloc ?_ _ | (with_reducible refine Ge.setCell ?_ (by first | (simp; done) | omega | (simp; omega)) _) | with_reducible refine Ge.trans ?_ (by assumption)))) gw3); have c0_0 : World.cell? w3 ⟨w.heap.size, 0, none⟩ = some (.int .i64 n) := Ge.keep gw3 (by repeat (first | assumption | exact (own_new (by simp) rfl).1 | with_reducible refine cell_drew ?_ | with_reducible refine cell_drewN ?_ | with_reducible refine cell_alloc ?_ | (simp [*]; done))); have c0_1 : World.cell? w3 ⟨w.heap.size, 1, none⟩ = some (.int .i64 d) := Ge.keep gw3 (by repeat (first | assumption | exact (own_new (by simp) rfl).1 | with_reducible refine cell_drew ?_ | with_reducible refine cell_drewN ?_ | with_reducible refine cell_alloc ?_ | (simp [*]; done))); have zw3 : w.heap.size + 1 ≤ w3.heap.size := (by have := Ge.size gw3; (try simp at this); omega)))
  go_ret
  exact ⟨rfl, by (repeat (first | with_reducible exact Ge.refl _ | assumption | with_reducible refine Ge.drew ?_ | with_reducible refine Ge.drewN ?_ _ | with_reducible refine Ge.alloc ?_ _ | (with_reducible refine Ge.setCell ?_ (by first | (simp; done) | omega | (simp; omega)) _) | with_reducible refine Ge.trans ?_ (by assumption)))⟩
end Go.Proofs.Ytmcnfhpjjmbdmaa
