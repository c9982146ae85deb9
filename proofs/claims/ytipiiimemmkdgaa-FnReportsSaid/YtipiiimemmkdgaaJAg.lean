/- ReduceLine of both sides. No condition. ReduceLine of both sides, for all networks. No condition. det of impl, up to five rows. No condition. response of impl. No condition. ResponseOf of impl. No condition. l06Top, l06Down, ResponseOf of the reference. No condition. -/
import Derived.Test.YtipiiimemmkdgaaJAf
import Derived.Test.YtipiiimemmkdgaaWDet
import Derived.Test.YtipiiimemmkdgaaJAb
import Derived.Test.YtipiiimemmkdgaaWGeY
import Derived.Test.YtipiiimemmkdgaaJAd
import Derived.Test.YtipiiimemmkdgaaJAa
import Derived.Test.YtipiiimemmkdgaaJAc
import Derived.Test.YtipiiimemmkdgaaWLapS
namespace Go.Proofs.Ytipiiimemmkdgaa
set_option maxRecDepth 100000
open Go.ChangeShapes Go.WideShapes Go.ChangeAt Go.RowKit Go.Joins

set_option maxHeartbeats 1600000 in
theorem iReduceAllF (N E S : Int) (s : Value) (m : Nat) (xs : List Int) (w : World) (hs : SlF w s m 3 xs) (hm : m ≤ 9223372036854775807) (hB : netB N E S m xs = false) :
    Calls Try.prog 29 #[.agg #[.int .i64 N, .int .i64 E, .int .i64 S, s]] w fun r w' => r = .returned (.tuple #[.agg #[.int .i64 0, .int .i64 0, .int .i64 0, .slice none 0 0], .int .i64 0, .bool false]) ∧ Ge w w' := by
  have HV := Lib.hid hs
  have HNo := Lib.hid (fun w' (g : Ge w w') => iNetOk N E S s m xs w' (HV.out.ge g) hm)
  rw [hB] at HNo
  obtain ⟨NB0, R0⟩ := in_res w N E S s
  obtain ⟨p, cap, rfl, _⟩ := hs.open
  clear hs hB
  go_enter Try.func29, Try.ntmps29
  go_wp2_with ((go_at_call 20; ((with_reducible refine (HNo.out _ (by (repeat (first | with_reducible exact Ge.refl _ | assumption | with_reducible refine Ge.drew ?_ | with_reducible refine Ge.drewN ?_ _ | with_reducible refine Ge.alloc ?_ _ | (with_reducible refine Ge.setCell ?_ (by first | (simp; done) | omega | (simp; omega)) _) | with_reducible refine Ge.trans ?_ (by assumption))))).mono ?_); rintro r w1 ⟨rfl, g1⟩)); have gw1 : Ge w w1 := (by (repeat (first | with_reducible exact Ge.refl _ | assumption | with_reducible refine Ge.drew ?_ | with_reducible refine Ge.drewN ?_ _ | with_reducible refine Ge.alloc ?_ _ | (with_reducible refine Ge.setCell ?_ (by first | (simp; done) | omega | (simp; omega)) _) | with_reducible refine Ge.trans ?_ (by assumption)))); have R1 := R0.ge g1; obtain ⟨r0, p0, f0⟩ := R1 0 (by omega); obtain ⟨r1, p1, f1⟩ := R1 1 (by omega); obtain ⟨r2, p2, f2⟩ := R1 2 (by omega); obtain ⟨r3, p3, f3⟩ := R1 3 (by omega))
  exact bodyPost_ret (v := .tuple #[.agg #[.int .i64 0, .int .i64 0, .int .i64 0, .slice none 0 0], .int .i64 0, .bool false]) (by simp [results, Try.results29, go_sem, *]) rfl ⟨rfl, by (repeat (first | with_reducible exact Ge.refl _ | assumption | with_reducible refine Ge.drew ?_ | with_reducible refine Ge.drewN ?_ _ | with_reducible refine Ge.alloc ?_ _ | (with_reducible refine Ge.setCell ?_ (by first | (simp; done) | omega | (simp; omega)) _) | with_reducible refine Ge.trans ?_ (by assumption)))⟩
/-- The text of a network that is reduced in k steps. -/
noncomputable def redT (k : Nat) (e : Nat) (y : NwR) : List UInt8 := fmtInt k ++ [32, 115, 116, 101, 112, 115, 32] ++ netTxt y.n e y.s y.l.length (flatW y.l)
open Classical in

/-- What ReduceLine writes. -/
noncomputable def redLine (e : Nat) (x : NwR) : List UInt8 := if h : ∃ q : Nat × NwR, redK e x q.1 = some q.2 ∧ redN e q.2 = none then redT (Classical.choose h).1 e (Classical.choose h).2 else []
theorem redLine_eq {e : Nat} {x y : NwR} {k : Nat} (h1 : redK e x k = some y) (h2 : redN e y = none) : redLine e x = redT k e y := by
  have h : ∃ q : Nat × NwR, redK e x q.1 = some q.2 ∧ redN e q.2 = none := ⟨(k, y), h1, h2⟩
  unfold redLine
  rw [dif_pos h]
  obtain ⟨g1, g2⟩ := Classical.choose_spec h
  obtain ⟨q1, q2⟩ := redK_one g1 g2 h1 h2
  rw [q1, q2]

theorem netTxt_len (N E S : Int) (m : Nat) (xs : List Int) : (netTxt N E S m xs).length ≤ 69 + 69 * m := by
  unfold netTxt
  split
  · exact netPart_le N E S xs m
  · simp
theorem red_txt {e : Nat} {x y : NwR} {k : Nat} (h1 : redK e x k = some y) (h2 : redN e y = none) : bstr (fmtInt k) ++ (⟨#[32, 115, 116, 101, 112, 115, 32]⟩ : ByteArray) ++ bstr (netTxt y.n e y.s y.l.length (flatW y.l)) = bstr (redLine e x) := by
  rw [redLine_eq h1 h2]
  unfold redT
  rw [← bstr_append, ← bstr_append]
  rfl

set_option maxHeartbeats 1600000 in
theorem iReduceLineT (e : Nat) (x : NwR) (s : Value) (w : World) (hs : SlF w s x.l.length 3 (flatW x.l)) (hB : okR e x) :
    Calls Try.prog 15 #[.agg #[.int .i64 (x.n : Int), .int .i64 (e : Int), .int .i64 x.s, s]] w fun r w' => r = .returned (.string (bstr (redLine e x))) ∧ Ge w w' := by
  have HV := Lib.hid hs
  have HA := Lib.hid (fun w' (g : Ge w w') => iReduceAll e x s w' (HV.out.ge g) hB)
  obtain ⟨p, cap, rfl, _⟩ := hs.open
  clear hs hB
  go_enter Try.func15, Try.ntmps15
  go_upto_region 4 with ((go_at_call 29; ((with_reducible refine (HA.out _ (by (repeat (first | with_reducible exact Ge.refl _ | assumption | with_reducible refine Ge.drew ?_ | with_reducible refine Ge.drewN ?_ _ | with_reducible refine Ge.alloc ?_ _ | (with_reducible refine Ge.setCell ?_ (by first | (simp; done) | omega | (simp; omega)) _) | with_reducible refine Ge.trans ?_ (by assumption))))).mono ?_); rintro r w1 ⟨k, y, u, hk, hn, hok, hk5, rfl, o1, g1⟩)); have gw1 : Ge w w1 := (by (repeat (first | with_reducible exact Ge.refl _ | assumption | with_reducible refine Ge.drew ?_ | with_reducible refine Ge.drewN ?_ _ | with_reducible refine Ge.alloc ?_ _ | (with_reducible refine Ge.setCell ?_ (by first | (simp; done) | omega | (simp; omega)) _) | with_reducible refine Ge.trans ?_ (by assumption)))); have HO1 := Lib.hid o1; obtain ⟨pu, cu, rfl⟩ := owns_form o1; clear o1)
  have hl10 : y.l.length ≤ 10 := by obtain ⟨⟨_, q5⟩, _, _, q, _⟩ := netP_of hok; exact prs_len (by omega) q
  have HF := Lib.hid (red_txt hk hn)
  have HFi := Lib.hid (fun w' => iFormatInt (k : Int) w' (by omega) (by omega))
  have HFn := Lib.hid (fun w' (g : Ge w1 w') => iFormatNet y.n e y.s (.slice pu y.l.length cu) y.l.length (flatW y.l) w' (SlF.of_owns (g.owns HO1.out)) (by omega))
  have l1 := fsz (k : Int)
  have l2 : (bstr (netTxt y.n e y.s y.l.length (flatW y.l))).size ≤ 759 := by rw [bstr_size]; have := netTxt_len y.n e y.s y.l.length (flatW y.l); omega
  have z1 : ¬ (9223372036854775807 < (bstr (fmtInt k)).size + 7) := by omega
  have z2 : ¬ (9223372036854775807 < (bstr (fmtInt k)).size + 7 + (bstr (netTxt y.n e y.s y.l.length (flatW y.l))).size) := by omega
  have n0 := cell_drew (cell_new (w := w1) (cs := #[.int .i64 (y.n : Int), .int .i64 (e : Int), .int .i64 y.s, .slice pu y.l.length cu]) (t := 25) (i := 0) rfl rfl)
  have n1 := cell_drew (cell_new (w := w1) (cs := #[.int .i64 (y.n : Int), .int .i64 (e : Int), .int .i64 y.s, .slice pu y.l.length cu]) (t := 25) (i := 1) rfl rfl)
  have n2 := cell_drew (cell_new (w := w1) (cs := #[.int .i64 (y.n : Int), .int .i64 (e : Int), .int .i64 y.s, .slice pu y.l.length cu]) (t := 25) (i := 2) rfl rfl)
  have n3 := cell_drew (cell_new (w := w1) (cs := #[.int .i64 (y.n : Int), .int .i64 (e : Int), .int .i64 y.s, .slice pu y.l.length cu]) (t := 25) (i := 3) rfl rfl)
  have gN : Ge w1 (w1.alloc (.cells #[.int .i64 (y.n : Int), .int .i64 (e : Int), .int .i64 y.s, .slice pu y.l.length cu] 25)).drew := Ge.drew (Ge.alloc (Ge.refl _) _)
  simp only [List.getElem_toArray, List.getElem_cons_zero, List.getElem_cons_succ] at n0 n1 n2 n3
  generalize netTxt y.n e y.s y.l.length (flatW y.l) = TX at *
  generalize fmtInt (k : Int) = TI at *
  clear hk hn hok l1 l2
  refine wp_region_head (S := fun w' => w'.cell? ⟨w1.heap.size, 0, none⟩ = some (.int .i64 (y.n : Int)) ∧ w'.cell? ⟨w1.heap.size, 1, none⟩ = some (.int .i64 (e : Int)) ∧ w'.cell? ⟨w1.heap.size, 2, none⟩ = some (.int .i64 y.s) ∧ w'.cell? ⟨w1.heap.size, 3, none⟩ = some (.slice pu y.l.length cu)) 6 (by kernel_rfl) (by kernel_rfl) (⟨n0, n1, n2, n3⟩) (fun hHeld => ?_)
  refine head_take 0 (v := ?_) rfl (by kernel_rfl) (by kernel_rfl) (fun _ _ _ h => h) (by assumption) (yields_if (by rfl) ?_) ?_
  rotate_left
  focus (intro w' hSw; (try dsimp only at hSw); go_simp; (try with_reducible rfl))
  (try simp only [Act.put, List.setIfInBounds_toArray, List.set_cons_zero, List.set_cons_succ])
  refine head_take 3 (v := ?_) rfl (by kernel_rfl) (by kernel_rfl) (fun _ _ _ h => h) (by assumption) (yields_if (by rfl) ?_) ?_
  rotate_left
  focus (intro w' hSw; (try dsimp only at hSw); go_simp; (try with_reducible rfl))
  (try simp only [Act.put, List.setIfInBounds_toArray, List.set_cons_zero, List.set_cons_succ])
  refine head_one 1 rfl (by kernel_rfl) (fun K hK => ?_)
  go_simp
  (go_at_call 11; ((with_reducible refine (HFi.out _).mono ?_); rintro r w4 ⟨rfl, rfl⟩))
  refine hK.out _ _ ⟨n0, n1, n2, n3⟩ (fun hHeld => ?_)
  clear hK K
  (try simp only [Act.put, List.setIfInBounds_toArray, List.set_cons_zero, List.set_cons_succ])
  refine head_take 2 (v := ?_) rfl (by kernel_rfl) (by kernel_rfl) (fun _ _ _ h => h) (by assumption) (yields_if (by rfl) ?_) ?_
  rotate_left
  focus (intro w' hSw; (try dsimp only at hSw); go_simp; (try with_reducible rfl))
  (try simp only [Act.put, List.setIfInBounds_toArray, List.set_cons_zero, List.set_cons_succ])
  refine head_one 4 rfl (by kernel_rfl) (fun K hK => ?_)
  go_simp
  (go_at_call 8; ((with_reducible refine (HFn.out _ gN).mono ?_); rintro r w5 ⟨rfl, g5⟩))
  refine hK.out _ _ ⟨g5.keep n0, g5.keep n1, g5.keep n2, g5.keep n3⟩ (fun hHeld => ?_)
  clear hK K
  (try simp only [Act.put, List.setIfInBounds_toArray, List.set_cons_zero, List.set_cons_succ])
  refine head_take 5 (v := ?_) rfl (by kernel_rfl) (by kernel_rfl) (fun _ _ _ h => h) (by assumption) (yields_if (by rfl) ?_) ?_
  rotate_left
  focus (intro w' hSw; (try dsimp only at hSw); go_simp; (try with_reducible rfl))
  (try simp only [Act.put, List.setIfInBounds_toArray, List.set_cons_zero, List.set_cons_succ])
  refine head_done (by kernel_rfl) ?_
  have g15 : Ge w1 w5 := Ge.trans gN g5
  go_wp2_with fail
  go_ret
  exact ⟨ret_str HF.out, Ge.trans gw1 g15⟩

end Go.Proofs.Ytipiiimemmkdgaa

namespace Go.Proofs.Ytipiiimemmkdgaa
set_option maxRecDepth 100000
open Go.ChangeShapes Go.WideShapes Go.ChangeAt Go.RowKit Go.Joins

/-- The wires of a flat list. -/
def wiresX (xs : List Int) (m : Nat) : List Wr := (List.range m).map fun k => ⟨wa xs k, wb xs k, ww xs k⟩
theorem wiresX_len (xs : List Int) (m : Nat) : (wiresX xs m).length = m := by simp [wiresX]
theorem wiresX_flat {xs : List Int} {m : Nat} (h : xs.length = m * 3) : flatW (wiresX xs m) = xs := by
  refine same_rows (n := m) (m := 3) (by rw [flatW_length, wiresX_len]) h (fun j hj i hi => ?_)
  obtain ⟨f1, f2, f3⟩ := flatW_get (wiresX xs m) j (by rw [wiresX_len]; exact hj)
  have hn : nthW (wiresX xs m) j = ⟨wa xs j, wb xs j, ww xs j⟩ := by
    rw [nthW_eq _ j (by rw [wiresX_len]; exact hj)]
    simp [wiresX]
  rw [hn] at f1 f2 f3
  have : i = 0 ∨ i = 1 ∨ i = 2 := by omega
  rcases this with rfl | rfl | rfl
  · exact f1
  · exact f2
  · exact f3
/-- What ReduceLine writes. -/
noncomputable def reduceTxt (N E S : Int) (m : Nat) (xs : List Int) : List UInt8 := if netB N E S m xs = true then redLine E.toNat ⟨N.toNat, S, wiresX xs m⟩ else []

set_option maxHeartbeats 1600000 in
theorem iReduceLine (N E S : Int) (s : Value) (m : Nat) (xs : List Int) (w : World) (hs : SlF w s m 3 xs) (hm : m ≤ 9223372036854775807) :
    Calls Try.prog 15 #[.agg #[.int .i64 N, .int .i64 E, .int .i64 S, s]] w fun e w' => e = .returned (.string (bstr (reduceTxt N E S m xs))) ∧ Ge w w' := by
  by_cases hB : netB N E S m xs = true
  · obtain ⟨⟨h1, _⟩, ⟨e1, _⟩, _⟩ := netP_of hB
    obtain ⟨n, rfl⟩ : ∃ n : Nat, N = n := ⟨N.toNat, by omega⟩
    obtain ⟨e, rfl⟩ : ∃ e : Nat, E = e := ⟨E.toNat, by omega⟩
    have hf := wiresX_flat hs.length
    have hl := wiresX_len xs m
    have key := iReduceLineT e ⟨n, S, wiresX xs m⟩ s w (by show SlF w s (wiresX xs m).length 3 (flatW (wiresX xs m)); rw [hf, hl]; exact hs) (by show netB n e S (wiresX xs m).length (flatW (wiresX xs m)) = true; rw [hf, hl]; exact hB)
    unfold reduceTxt
    rw [if_pos hB]
    exact key
  · have hB' : netB N E S m xs = false := by simpa using hB
    have HT : Hid ((⟨#[]⟩ : ByteArray) = bstr (reduceTxt N E S m xs)) := by show _ = _; unfold reduceTxt; rw [if_neg hB]; rfl
    have HV := Lib.hid hs
    have HA := Lib.hid (fun w' (g : Ge w w') => iReduceAllF N E S s m xs w' (HV.out.ge g) hm hB')
    obtain ⟨p, cap, rfl, _⟩ := hs.open
    clear hs hB hB'
    go_enter Try.func15, Try.ntmps15
    go_wp2_with ((go_at_call 29; ((with_reducible refine (HA.out _ (by (repeat (first | with_reducible exact Ge.refl _ | assumption | with_reducible refine Ge.drew ?_ | with_reducible refine Ge.drewN ?_ _ | with_reducible refine Ge.alloc ?_ _ | (with_reducible refine Ge.setCell ?_ (by first | (simp; done) | omega | (simp; omega)) _) | with_reducible refine Ge.trans ?_ (by assumption))))).mono ?_); rintro r w1 ⟨rfl, g1⟩)))
    go_ret
    exact ⟨ret_str HT.out, by (repeat (first | with_reducible exact Ge.refl _ | assumption | with_reducible refine Ge.drew ?_ | with_reducible refine Ge.drewN ?_ _ | with_reducible refine Ge.alloc ?_ _ | (with_reducible refine Ge.setCell ?_ (by first | (simp; done) | omega | (simp; omega)) _) | with_reducible refine Ge.trans ?_ (by assumption)))⟩
end Go.Proofs.Ytipiiimemmkdgaa

namespace Go.Proofs.Ytipiiimemmkdgaa
set_option maxRecDepth 100000
open Go.ChangeShapes Go.WideShapes Go.ChangeAt Go.RowKit Go.Joins

set_option maxHeartbeats 380000 in
theorem iDetE (N : Nat) (M : Int → Int → Int) (hM : ∀ a b, absB (M a b) 800) : ∀ (rows cols : List Int) (vm vr vc : Value) (w : World), SlMM w vm N M → SlI w vr rows → SlI w vc cols → (∀ p n c, vr = .slice p n c → n ≤ c) →
    rows.length ≤ 5 → cols.length ≤ 5 → (∀ x ∈ rows, below N x) → (∀ x ∈ cols, below N x) →
    Calls Try.prog 39 #[vm, vr, vc] w fun e w' => e = .returned (.int .i64 (detF M rows cols)) ∧ Ge w w' := by
  intro rows
  induction rows with
  | nil =>
    intro cols vm vr vc w hm hr hc hcap h4 h5 hrb hcb
    obtain ⟨pm, cm, rfl, _⟩ := hm
    obtain ⟨pr, cr, rfl, _⟩ := hr.openN (n := 0) rfl
    obtain ⟨pc, cc, rfl, _⟩ := hc.openN rfl
    clear hr hc
    go_enter Try.func39, Try.ntmps39
    go_wp2_with fail
    go_ret
    exact ⟨rfl, Ge.refl _⟩
  | cons r rs ih =>
    intro cols vm vr vc w hm hr hc hcap h4 h5 hrb hcb
    have HM := Lib.hid hm
    have HR := Lib.hid hr
    have HCo := Lib.hid hc
    obtain ⟨pm, cm, rfl, hmc⟩ := hm
    obtain ⟨m, hmn⟩ : ∃ m, rs.length = m := ⟨_, rfl⟩
    obtain ⟨pr, cr, rfl, hrc⟩ := hr.openN (n := m + 1) (by simp [hmn])
    obtain ⟨n, hn⟩ : ∃ n, cols.length = n := ⟨_, rfl⟩
    obtain ⟨pc, cc, rfl, hcc⟩ := hc.openN hn
    have hcr := hcap _ _ _ rfl
    obtain ⟨b, o, rfl, x0⟩ := hrc 0 (by omega)
    obtain ⟨r0, r1⟩ := hrb r (by simp)
    obtain ⟨ra, rfl⟩ : ∃ ra : Nat, r = (ra : Int) := ⟨r.toNat, by omega⟩
    have hra : ra < N := by omega
    obtain ⟨bm, om, prow, crow, rfl, xm, hrow⟩ := hmc ra hra
    have HMC := Lib.hid hrow
    have HCC := Lib.hid hcc
    have HN := Lib.hid hn
    have HMn := Lib.hid hmn
    have HIH := Lib.hid ih
    have HRB := Lib.hid (fun x (hx : x ∈ rs) => hrb x (List.mem_cons_of_mem _ hx))
    have HCB := Lib.hid hcb
    obtain ⟨at', cq, hcs, hcq, HT⟩ := tail_slice1 hmn (hcap _ _ _ rfl) hr
    replace HT := Lib.hid (fun w' (g : Ge w w') => SlI.ge HT g)
    replace hcs := Lib.hid hcs
    have hbd := detE_le (k := m + 1) (by simp at h4; omega)
    have hbd2 := detE_le (k := m) (by simp at h4; omega)
    have hbm : detE m ≤ 256000000000000 := by
      have := detE_succ m
      omega
    change w.cell? _ = some (.int .i64 (ra : Int)) at x0
    simp only [Nat.add_zero] at x0
    rw [hn] at h5
    simp only [List.length_cons, hmn] at h4
    clear hr hc hmc hrc hcc hrow ih hrb hcb hn hcap hmn
    have tm : ((m : Int) + 1 == 0) = false := by simp; omega
    go_enter Try.func39, Try.ntmps39
    go_wp2_with fail
    go_loopw [7, 8, 17] (fun s g i wr => ∃ j : Nat, j ≤ n ∧ i = .int .i64 j ∧ s = .int .i64 (detPart M ra rs cols j) ∧ g = .int .i64 (sgn j) ∧ Ge w wr) (fun _ _ i _ => n - (intOf i).toNat)
    case atStart => exact ⟨0, Nat.zero_le _, rfl, rfl, rfl, Ge.refl _⟩
    case round =>
      obtain ⟨j, hj, rfl, rfl, rfl, hg⟩ := hrel
      have hs1 : -1 ≤ sgn j ∧ sgn j ≤ 1 := by unfold sgn; split <;> omega
      have hsn := sgn_succ j
      by_cases hlt : j < n
      · obtain ⟨bc, oc, rfl, y0⟩ := HCC.out j hlt
        obtain ⟨q0, q1⟩ := HCB.out (nth cols j) (by rw [nth_eq cols j (by rw [HN.out]; exact hlt)]; exact List.getElem_mem _)
        obtain ⟨ca, hca⟩ : ∃ ca : Nat, nth cols j = (ca : Int) := ⟨(nth cols j).toNat, by omega⟩
        have hcaN : ca < N := by omega
        obtain ⟨br, or', rfl, z0⟩ := HMC.out ca hcaN
        rw [hca] at y0
        replace x0 := hg.keep x0
        replace xm := hg.keep xm
        replace y0 := hg.keep y0
        replace z0 := hg.keep z0
        have hMb := hM (ra : Int) (ca : Int)
        unfold absB at hMb
        have hpart := detPart_bdE hM (ra : Int) rs cols (by rw [HN.out]; exact h5) (j := j) (by rw [HN.out]; exact hj)
        rw [HMn.out] at hpart
        unfold absB at hpart
        have HSk := Lib.hid (fun h => detPart_skip M (ra : Int) rs cols j h)
        have HSu := Lib.hid (detPart_succ M (ra : Int) rs cols j)
        rw [hca] at HSk HSu
        by_cases hx : M (ra : Int) (ca : Int) = 0
        · have tx : (M (ra : Int) (ca : Int) != 0) = false := by simp [hx]
          have HS := Lib.hid (HSk.out hx)
          clear hx
          generalize M (ra : Int) (ca : Int) = X at *
          generalize detPart M (ra : Int) rs cols j = P at *
          generalize sgn j = G at *
          go_wp2_with fail
          go_roundw
          case rel => exact ⟨j + 1, by omega, by go_num, congrArg _ HS.out.symm, (by first | rfl | exact congrArg _ hsn), by (repeat (first | with_reducible exact Ge.refl _ | assumption | with_reducible refine Ge.drew ?_ | with_reducible refine Ge.drewN ?_ _ | with_reducible refine Ge.alloc ?_ _ | (with_reducible refine Ge.setCell ?_ (by first | (simp; done) | omega | (simp; omega)) _) | with_reducible refine Ge.trans ?_ (by assumption)))⟩
          case measure => simp [intOf]; omega
        · have tx : (M (ra : Int) (ca : Int) != 0) = true := by simp [hx]
          clear hx
          have hd := detF_bdE hM rs (cols.eraseIdx j) (Nat.le_trans (List.length_eraseIdx_le _ _) (by rw [HN.out]; exact h5))
          rw [HMn.out] at hd
          generalize hD : detF M rs (cols.eraseIdx j) = D at *
          have HD := Lib.hid hD
          clear hD
          have hY := term_bdE hM j (ra : Int) (ca : Int) D (detE m) (detE_pos m) hd
          have hX1 : absB (sgn j * M (ra : Int) (ca : Int)) 800 := by
            have := hM (ra : Int) (ca : Int)
            unfold sgn absB at *
            split <;> omega
          unfold absB at hY hX1
          have w1 : IntKind.i64.wrap (sgn j * M (ra : Int) (ca : Int)) = sgn j * M (ra : Int) (ca : Int) := IntWalk.i64_in _ (by omega)
          have w2 : IntKind.i64.wrap (sgn j * M (ra : Int) (ca : Int) * D) = sgn j * M (ra : Int) (ca : Int) * D := IntWalk.i64_in _ (by omega)
          have w3 : IntKind.i64.wrap (detPart M (ra : Int) rs cols j + sgn j * M (ra : Int) (ca : Int) * D) = detPart M (ra : Int) rs cols j + sgn j * M (ra : Int) (ca : Int) * D := IntWalk.i64_in _ (by omega)
          have w4 : IntKind.i64.wrap ((j : Int) + 1) = (j : Int) + 1 := IntWalk.i64_in _ (by omega)
          have HCl := Lib.hid (fun w' (g : Ge wr w') => cloneC (.slice (some ⟨bc, oc, none⟩) n cc) cols w' (SlI.ge HCo.out (Ge.trans hg g)) (by rw [HN.out]; omega) (by rw [HN.out]; omega))
          rw [HN.out] at HCl
          have hcr1 : m + 1 ≤ cr := hcr
          have hcr2 : (1 : Int) ≤ (m : Int) + 1 := by omega
          have HDl := Lib.hid (fun base g c w' h => deleteC base g n c j cols w' h hlt (by omega))
          have HDe := Lib.hid (fun v w' (g : Ge wr w') (h : SlI w' v (cols.eraseIdx j)) => HIH.out (cols.eraseIdx j) (.slice (some ⟨bm, om, none⟩) N cm) (.slice (some at') m cq) v w' (HM.out.ge (Ge.trans hg g)) (HT.out w' (Ge.trans hg g)) h (fun p n c e => by simp at e; omega) (by rw [HMn.out]; omega) (by have := List.length_eraseIdx_le cols j; rw [HN.out] at this; omega) HRB.out (fun x hx => HCB.out x (nth_erase_mem x hx)))
          rw [HD.out] at HDe
          clear hcq
          rcases hcs.out with ⟨hc1, rfl, rfl⟩ | ⟨hc1, rfl, rfl⟩
          · replace hc1 : (cr = 1) = True := eq_true hc1
            go_wp2_with fail
            have hS : ∀ w', Ge wr w' → Ge wr w' := fun _ g => g
            go_region_held3 (fun w' => Ge wr w') (first | ((with_reducible refine hS _ ?_); (repeat (first | assumption | with_reducible exact Ge.refl _ | with_reducible refine cv_drew ?_ | with_reducible refine cv_alloc ?_ | with_reducible refine cv_set ?_ | (with_reducible apply cv_some; assumption) | with_reducible refine cell_drew ?_ | with_reducible refine cell_drewN ?_ | ((with_reducible refine cell_new ?_ ?_); (focus (simp; done)); rfl) | with_reducible refine cell_alloc ?_ | with_reducible refine cell_same2 ?_ | ((with_reducible refine cell_set2 ?_ ?_); focus (first | (simp; done) | (intro hE; simp at hE; done) | (intro hE; simp at hE; omega))) | with_reducible refine Ge.drew ?_ | with_reducible refine Ge.drewN ?_ _ | with_reducible refine Ge.alloc ?_ _ | ((with_reducible refine Ge.setCell ?_ ?_ _); rotate_left; focus (first | (simp; done) | omega | (simp; omega))) | with_reducible refine Ge.trans ?_ (by assumption) | with_reducible refine Ge.keep (by assumption) ?_)); done) | fail) (first | (go_at_call 52; ((with_reducible refine (HCl.out _ ‹Ge wr _›).mono ?_); rintro e wC ⟨gC, cC, rfl, oC, hb⟩); have hC0 : wr.heap.size ≤ gC := Nat.le_trans (Ge.size ‹Ge wr _›) (oC.lt gC rfl).1; have hCw : Ge wr wC := Ge.trans ‹Ge wr _› hb) | (go_at_call 51; ((with_reducible refine (HDl.out _ _ _ _ (by first | exact oC | exact Ge.owns (Ge.drew (Ge.refl _)) oC)).mono ?_); rintro e wE ⟨rfl, sE, gE⟩); have hEw : Ge wr wE := gE wr ‹Ge wr _› hC0) | (go_at_call 39; ((with_reducible refine (HDe.out _ _ ‹Ge wr _› (by first | exact sE | exact SlI.ge sE (Ge.drew (Ge.refl _)))).mono ?_); rintro e wF ⟨rfl, hb⟩)) | fail)
            rename_i G7
            clear hS
            go_wp2_with fail
            go_roundw
            case rel => exact ⟨j + 1, by omega, by go_num, congrArg _ HSu.out.symm, (by first | rfl | exact congrArg _ hsn), by (repeat (first | with_reducible exact Ge.refl _ | assumption | with_reducible refine Ge.drew ?_ | with_reducible refine Ge.drewN ?_ _ | with_reducible refine Ge.alloc ?_ _ | (with_reducible refine Ge.setCell ?_ (by first | (simp; done) | omega | (simp; omega)) _) | with_reducible refine Ge.trans ?_ (by assumption)))⟩
            case measure => simp [intOf]; omega
          · replace hc1 : (cr = 1) = False := eq_false hc1
            go_wp2_with fail
            have hS : ∀ w', Ge wr w' → Ge wr w' := fun _ g => g
            go_region_held3 (fun w' => Ge wr w') (first | ((with_reducible refine hS _ ?_); (repeat (first | assumption | with_reducible exact Ge.refl _ | with_reducible refine cv_drew ?_ | with_reducible refine cv_alloc ?_ | with_reducible refine cv_set ?_ | (with_reducible apply cv_some; assumption) | with_reducible refine cell_drew ?_ | with_reducible refine cell_drewN ?_ | ((with_reducible refine cell_new ?_ ?_); (focus (simp; done)); rfl) | with_reducible refine cell_alloc ?_ | with_reducible refine cell_same2 ?_ | ((with_reducible refine cell_set2 ?_ ?_); focus (first | (simp; done) | (intro hE; simp at hE; done) | (intro hE; simp at hE; omega))) | with_reducible refine Ge.drew ?_ | with_reducible refine Ge.drewN ?_ _ | with_reducible refine Ge.alloc ?_ _ | ((with_reducible refine Ge.setCell ?_ ?_ _); rotate_left; focus (first | (simp; done) | omega | (simp; omega))) | with_reducible refine Ge.trans ?_ (by assumption) | with_reducible refine Ge.keep (by assumption) ?_)); done) | fail) (first | (go_at_call 52; ((with_reducible refine (HCl.out _ ‹Ge wr _›).mono ?_); rintro e wC ⟨gC, cC, rfl, oC, hb⟩); have hC0 : wr.heap.size ≤ gC := Nat.le_trans (Ge.size ‹Ge wr _›) (oC.lt gC rfl).1; have hCw : Ge wr wC := Ge.trans ‹Ge wr _› hb) | (go_at_call 51; ((with_reducible refine (HDl.out _ _ _ _ (by first | exact oC | exact Ge.owns (Ge.drew (Ge.refl _)) oC)).mono ?_); rintro e wE ⟨rfl, sE, gE⟩); have hEw : Ge wr wE := gE wr ‹Ge wr _› hC0) | (go_at_call 39; ((with_reducible refine (HDe.out _ _ ‹Ge wr _› (by first | exact sE | exact SlI.ge sE (Ge.drew (Ge.refl _)))).mono ?_); rintro e wF ⟨rfl, hb⟩)) | fail)
            rename_i G7
            clear hS
            go_wp2_with fail
            go_roundw
            case rel => exact ⟨j + 1, by omega, by go_num, congrArg _ HSu.out.symm, (by first | rfl | exact congrArg _ hsn), by (repeat (first | with_reducible exact Ge.refl _ | assumption | with_reducible refine Ge.drew ?_ | with_reducible refine Ge.drewN ?_ _ | with_reducible refine Ge.alloc ?_ _ | (with_reducible refine Ge.setCell ?_ (by first | (simp; done) | omega | (simp; omega)) _) | with_reducible refine Ge.trans ?_ (by assumption)))⟩
            case measure => simp [intOf]; omega
      · have hjn : j = n := by omega
        subst hjn
        have HF : Hid (detF M ((ra : Int) :: rs) cols = detPart M ra rs cols j) := by
          show _ = _
          rw [detF_part, HN.out]
        go_wp2_with fail
        go_ret
        exact ⟨ret_int HF.out.symm, hg⟩
end Go.Proofs.Ytipiiimemmkdgaa

namespace Go.Proofs.Ytipiiimemmkdgaa
set_option maxRecDepth 100000
open Go.ChangeShapes Go.WideShapes Go.ChangeAt Go.RowKit Go.Joins

theorem made_rowsY (n : Nat) : (madeCells (Value.slice none 0 0).cells (n * 1)).toList = List.replicate n (Value.slice none 0 0) := by
  simp [madeCells, Value.cells, Nat.mod_one]
  rw [List.eq_replicate_iff]; simp
theorem mapR_snoc2 (n : Nat) (f : Nat → Int) : mapR (n + 1) f = mapR n f ++ [f n] := by simp [mapR, List.range_succ]
theorem cons_below {n e a : Nat} (he : e ≤ n) (ha : a < e) : ∀ x ∈ ((a : Int) :: innZ e (n - e)), below n x := fun x hx => by
  rcases List.mem_cons.1 hx with h | h
  · rw [h]; exact ⟨by omega, by omega⟩
  · exact innZ_below he x h
theorem capOf {a : Addr} {n c : Nat} (h : n ≤ c) : ∀ p k c', Value.slice (some a) n c = .slice p k c' → k ≤ c' := fun p k c' e => by
  simp only [Value.slice.injEq] at e
  omega
theorem SlI.owned {w : World} {base g k c : Nat} {e : TypeId} {l : List Int} (h : w.ownsRow base e 1 (.slice (some ⟨g, 0, none⟩) k c) k (icells l)) : SlI w (.slice (some ⟨g, 0, none⟩) k c) l ∧ k ≤ c := by
  have hl : l.length = k := by have := h.1; rw [icells_length] at this; omega
  exact ⟨SlI.of_owns (by rw [hl]; exact h), owns_cap h _ _ _ rfl⟩

set_option maxHeartbeats 3200000 in
theorem iResponse (n e : Nat) (S : Int) (s : Value) (m : Nat) (xs : List Int) (w : World) (hs : SlF w s m 3 xs) (hB : netB n e S m xs = true) :
    Calls Try.prog 37 #[.agg #[.int .i64 (n : Int), .int .i64 (e : Int), .int .i64 S, s]] w fun r w' => ∃ v, r = .returned (.tuple #[v, .int .i64 (S * dwnZ n e m xs)]) ∧ SlRows w' v e 1 (fun a => mapR e (fun b => topZ n e m xs a b)) ∧ Ge w w' := by
  obtain ⟨⟨h1, h5⟩, ⟨e1, e2⟩, ⟨s1, s2⟩, hok, _⟩ := netP_of hB
  have hm : m ≤ 10 := prs_len (by omega) hok
  have HV := Lib.hid hs
  obtain ⟨p, cap, rfl, _⟩ := hs.open
  have HL := Lib.hid (fun w' (g : Ge w w') => iLaplacianOf n e S (.slice p m cap) m xs w' (HV.out.ge g) hB)
  have HI := Lib.hid (fun w' => iInner n e S (.slice p m cap) w' rfl (by omega) (by omega))
  have HDt := Lib.hid (fun (a b : Nat) (ha : a < e) (hb : b < e) vL vR vC w' (hL : SlMM w' vL n (lapZ xs m)) (hR : SlI w' vR ((a : Int) :: innZ e (n - e))) (hC : SlI w' vC ((b : Int) :: innZ e (n - e))) (hvr : ∀ p k c, vR = .slice p k c → k ≤ c) => iDetE n (lapZ xs m) (lapZ_800 (by omega) hok) _ _ vL vR vC w' hL hR hC hvr (by simp [innZ_length]; omega) (by simp [innZ_length]; omega) (cons_below (by omega) ha) (cons_below (by omega) hb))
  have HDd := Lib.hid (fun vL vR w' (hL : SlMM w' vL n (lapZ xs m)) (hR : SlI w' vR (innZ e (n - e))) (hvr : ∀ p k c, vR = .slice p k c → k ≤ c) => iDetE n (lapZ xs m) (lapZ_800 (by omega) hok) _ _ vL vR vR w' hL hR hR hvr (by simp [innZ_length]; omega) (by simp [innZ_length]; omega) (innZ_below (by omega)) (innZ_below (by omega)))
  have HDm : Hid (detF (lapZ xs m) (innZ e (n - e)) (innZ e (n - e)) = dwnZ n e m xs) := rfl
  have HTm : Hid (∀ a b : Nat, detF (lapZ xs m) ((a : Int) :: innZ e (n - e)) ((b : Int) :: innZ e (n - e)) = topZ n e m xs a b) := fun _ _ => rfl
  have hbd := sdwn_bd (S := S) (by omega) hok (by omega : 1 ≤ e) s1 s2
  have hw1 : wrap64 (S * dwnZ n e m xs) = S * dwnZ n e m xs := wr64 _ (by omega) (by omega)
  have hw2 : IntKind.i64.wrap (S * dwnZ n e m xs) = S * dwnZ n e m xs := IntWalk.i64_in _ (by omega)
  have hlI : (innZ e (n - e)).length = n - e := innZ_length e (n - e)
  rw [HDm.out] at HDd
  simp only [HTm.out] at HDt
  clear hs hok hB hbd HTm HDm
  obtain ⟨T, hT⟩ : ∃ T : Nat → Nat → Int, T = fun a b => topZ n e m xs a b := ⟨_, rfl⟩
  have HT : Hid (∀ a b, topZ n e m xs a b = T a b) := by show ∀ a b, _; rw [hT]; exact fun _ _ => rfl
  have HTf : Hid ((fun a => mapR e (fun b => topZ n e m xs a b)) = fun a => mapR e (T a)) := by show _ = _; rw [hT]
  rw [HTf.out]
  simp only [HT.out] at HDt
  clear hT HT HTf
  generalize lapZ xs m = LZ at *
  generalize innZ e (n - e) = IZ at *
  generalize hk : n - e = k at *
  generalize dwnZ n e m xs = DZ at *
  go_enter Try.func37, Try.ntmps37
  go_wp2_with (first
    | ((go_at_call 40; ((with_reducible refine (HL.out _ (by (repeat (first | with_reducible exact Ge.refl _ | assumption | with_reducible refine Ge.drew ?_ | with_reducible refine Ge.drewN ?_ _ | with_reducible refine Ge.alloc ?_ _ | (with_reducible refine Ge.setCell ?_ (by first | (simp; done) | omega | (simp; omega)) _) | with_reducible refine Ge.trans ?_ (by assumption))))).mono ?_); rintro e wL ⟨vL, rfl, hL, gL⟩)); have b0 := Ge.keep gL (cell_new (i := 0) rfl rfl); have b1 := Ge.keep gL (cell_new (i := 1) rfl rfl); have b2 := Ge.keep gL (cell_new (i := 2) rfl rfl); have b3 := Ge.keep gL (cell_new (i := 3) rfl rfl); have z1 := gL.size; (simp at b0 b1 b2 b3 z1); replace hL := Lib.hid hL)
    | ((go_at_call 50; ((with_reducible refine (HI.out _).mono ?_); rintro e wI ⟨ad, c, rfl, hkc, hI, gI⟩)); replace b0 := gI.keep b0; replace b1 := gI.keep b1; replace b2 := gI.keep b2; replace b3 := gI.keep b3; replace hI := Lib.hid hI; have z2 := gI.size)
    | (at_make; refine mk1 rfl _ _ _ rfl 60 _ 1 24 Try.underlying78 inf_rowI (by decide) e rfl rfl (by omega) ?_; intro w1 own1 g1))
  skip
  rw [made_rowsY] at own1
  have HI1 := Lib.hid (hI.out.ge g1)
  have HL1 := Lib.hid (hL.out.ge (Ge.trans gI g1))
  go_loopw [18] (fun i' wr => ∃ a : Nat, a ≤ e ∧ i' = .int .i64 a ∧ RowsY wr wI.heap.size e a 1 (fun a => mapR e (T a)) ∧ Ge wI wr) (fun i _ => e - (intOf i).toNat)
  case atStart => exact ⟨0, Nat.zero_le _, rfl, RowsY.init own1, g1⟩
  case round =>
    obtain ⟨a, ha, rfl, hrows, hg⟩ := hrel
    by_cases hlt : a < e
    · obtain ⟨r0, f0⟩ := hrows.at hlt
      have HR := Lib.hid hrows
      clear hrows
      have zG := World.block_lt_of_cell? _ _ r0
      simp only at zG
      go_wp2_with fail
      obtain ⟨wa, hwa⟩ : ∃ wa, wa = wr := ⟨_, rfl⟩
      subst hwa
      go_loopw [23] (fun j' wr => ∃ (b : Nat) (u : Value), b ≤ e ∧ j' = .int .i64 b ∧ wr.cell? ⟨wI.heap.size, a, none⟩ = some u ∧ wr.frozen? ⟨wI.heap.size, a, none⟩ = false ∧ wr.ownsRow wa.heap.size 3 1 u b (icells (mapR b (T a))) ∧ GeY ⟨wI.heap.size, a, none⟩ wa wr ∧ Ge wI wr) (fun j _ => e - (intOf j).toNat)
      case atStart => exact ⟨0, _, Nat.zero_le _, rfl, r0, f0, ⟨rfl, .inl ⟨rfl, rfl⟩⟩, GeY.refl _ _, hg⟩
      case round =>
        obtain ⟨b, u, hb, rfl, c0, cf, hown, hy, hgb⟩ := hrel
        by_cases hbn : b < e
        · have HIa := Lib.hid (HI1.out)
          have hIr := SlI.ge hI.out hgb
          have HLr := Lib.hid (hL.out.ge (Ge.trans gI hgb))
          have HD := Lib.hid (fun vR vC w' (g : Ge wr w') hR hC hv => HDt.out a b hlt hbn vL vR vC w' (HLr.out.ge g) hR hC hv)
          have HOw := Lib.hid hown
          have HSn := Lib.hid (mapR_snoc2 b (T a))
          have hLe : (mapR b (T a)).length = b := mapR_length _ _
          generalize mapR b (T a) = L at *
          generalize T a b = X at *
          have zr := hgb.size
          have zGr : wI.heap.size < wr.heap.size := World.block_lt_of_cell? _ _ c0
          have zar := hy.2.2
          go_wp2_with fail
          refine wp_region_head (S := fun w' => w'.cell? ⟨wI.heap.size, a, none⟩ = some u) 19 (by kernel_rfl) (by kernel_rfl) (cell_drew c0) (fun hHeld => ?_)
          refine head_take 0 (v := ?_) rfl (by kernel_rfl) (by kernel_rfl) (fun _ _ _ h => h) (by assumption) (yields_if (by rfl) ?_) ?_
          rotate_left
          focus (intro w' hSw; (try dsimp only at hSw); go_simp; (try with_reducible rfl))
          (try simp only [Act.put, List.setIfInBounds_toArray, List.set_cons_zero, List.set_cons_succ])
          refine head_take 1 (v := ?_) rfl (by kernel_rfl) (by kernel_rfl) (fun _ _ _ h => h) (by assumption) (yields_if (by rfl) ?_) ?_
          rotate_left
          focus (intro w' hSw; (try dsimp only at hSw); go_simp; (try with_reducible rfl))
          (try simp only [Act.put, List.setIfInBounds_toArray, List.set_cons_zero, List.set_cons_succ])
          refine head_take 2 (v := ?_) rfl (by kernel_rfl) (by kernel_rfl) (fun _ _ _ h => h) (by assumption) (yields_if (by rfl) ?_) ?_
          rotate_left
          focus (intro w' hSw; (try dsimp only at hSw); go_simp; (try with_reducible rfl))
          (try simp only [Act.put, List.setIfInBounds_toArray, List.set_cons_zero, List.set_cons_succ])
          refine head_take 3 (v := ?_) rfl (by kernel_rfl) (by kernel_rfl) (fun _ _ _ h => h) (by assumption) (yields_if (by rfl) ?_) ?_
          rotate_left
          focus (intro w' hSw; (try dsimp only at hSw); go_simp; (try with_reducible rfl))
          (try simp only [Act.put, List.setIfInBounds_toArray, List.set_cons_zero, List.set_cons_succ])
          refine head_take 4 (v := ?_) rfl (by kernel_rfl) (by kernel_rfl) (fun _ _ _ h => h) (by assumption) (yields_if (by rfl) ?_) ?_
          rotate_left
          focus (intro w' hSw; (try dsimp only at hSw); go_simp; (try with_reducible rfl))
          (try simp only [Act.put, List.setIfInBounds_toArray, List.set_cons_zero, List.set_cons_succ])
          refine head_take 5 (v := ?_) rfl (by kernel_rfl) (by kernel_rfl) (fun _ _ _ h => h) (by assumption) (yields_if (by rfl) ?_) ?_
          rotate_left
          focus (intro w' hSw; (try dsimp only at hSw); go_simp; (try with_reducible rfl))
          (try simp only [Act.put, List.setIfInBounds_toArray, List.set_cons_zero, List.set_cons_succ])
          refine head_take 6 (v := ?_) rfl (by kernel_rfl) (by kernel_rfl) (fun _ _ _ h => h) (by assumption) (yields_if (by rfl) ?_) ?_
          rotate_left
          focus (intro w' hSw; (try dsimp only at hSw); go_simp; (try with_reducible rfl))
          (try simp only [Act.put, List.setIfInBounds_toArray, List.set_cons_zero, List.set_cons_succ])
          refine head_take 7 (v := ?_) rfl (by kernel_rfl) (by kernel_rfl) (fun _ _ _ h => h) (by assumption) (yields_if (by rfl) ?_) ?_
          rotate_left
          focus (intro w' hSw; (try dsimp only at hSw); go_simp; (try with_reducible rfl))
          (try simp only [Act.put, List.setIfInBounds_toArray, List.set_cons_zero, List.set_cons_succ])
          refine head_take 9 (v := ?_) rfl (by kernel_rfl) (by kernel_rfl) (fun _ _ _ h => h) (by assumption) (yields_if (by rfl) ?_) ?_
          rotate_left
          focus (intro w' hSw; (try dsimp only at hSw); go_simp; (try with_reducible rfl))
          (try simp only [Act.put, List.setIfInBounds_toArray, List.set_cons_zero, List.set_cons_succ])
          refine head_take 11 (v := ?_) rfl (by kernel_rfl) (by kernel_rfl) (fun _ _ _ h => h) (by assumption) (yields_if (by rfl) ?_) ?_
          rotate_left
          focus (intro w' hSw; (try dsimp only at hSw); go_simp; (try with_reducible rfl))
          (try simp only [Act.put, List.setIfInBounds_toArray, List.set_cons_zero, List.set_cons_succ])
          refine head_take 13 (v := ?_) rfl (by kernel_rfl) (by kernel_rfl) (fun _ _ _ h => h) (by assumption) (yields_if (by rfl) ?_) ?_
          rotate_left
          focus (intro w' hSw; (try dsimp only at hSw); go_simp; (try with_reducible rfl))
          (try simp only [Act.put, List.setIfInBounds_toArray, List.set_cons_zero, List.set_cons_succ])
          refine head_two 8 12 rfl rfl (by kernel_rfl) (fun K hK => ?_) (fun K hK => ?_)
          rotate_left
          · go_simp
            refine hK.out _ _ (cell_alloc (cell_drew c0)) (fun hHeld => ?_)
            clear hK K
            (try simp only [Act.put, List.setIfInBounds_toArray, List.set_cons_zero, List.set_cons_succ])
            refine head_one 8 rfl (by kernel_rfl) (fun K hK => ?_)
            go_simp
            refine hK.out _ _ (cell_alloc (cell_alloc (cell_drew c0))) (fun hHeld => ?_)
            clear hK K
            (try simp only [Act.put, List.setIfInBounds_toArray, List.set_cons_zero, List.set_cons_succ])
            have oB : (wr.drew.alloc (.cells #[.int .i64 (b : Int)] 3)).ownsRow wr.heap.size 3 1 (.slice (some ⟨wr.heap.size, 0, none⟩) 1 1) 1 (icells [(b : Int)]) := owns_cons rfl (Nat.le_refl _)
            have oA : ((wr.drew.alloc (.cells #[.int .i64 (b : Int)] 3)).alloc (.cells #[.int .i64 (a : Int)] 3)).ownsRow wr.heap.size 3 1 (.slice (some ⟨wr.heap.size + 1, 0, none⟩) 1 1) 1 (icells [(a : Int)]) := owns_cons (by simp) (by omega)
            have gB : Ge wr ((wr.drew.alloc (.cells #[.int .i64 (b : Int)] 3)).alloc (.cells #[.int .i64 (a : Int)] 3)) := Ge.alloc (Ge.alloc (Ge.drew (Ge.refl _)) _) _
            refine head_one 10 rfl (by kernel_rfl) (fun K hK => ?_)
            rw [if_pos (by rfl)]
            refine ap_lit _ _ rfl (wr.heap.size + 1) (a : Int) rfl wr.heap.size oA (by simp; omega) ad k c IZ rfl (hIr.ge gB) (by omega) ?_
            intro g1 c1 w3 o1 m1 q1
            simp at q1
            have oB3 := (oB.alloc (.cells #[.int .i64 (a : Int)] 3)).kept m1 (.inr (by simp [Value.ownBlock]))
            have g3 : Ge wr w3 := gB.mine oA (Nat.le_refl _) m1
            refine hK.out _ _ (g3.keep c0) (fun hHeld => ?_)
            clear hK K
            (try simp only [Act.put, List.setIfInBounds_toArray, List.set_cons_zero, List.set_cons_succ])
            refine head_one 14 rfl (by kernel_rfl) (fun K hK => ?_)
            rw [if_pos (by rfl)]
            refine ap_lit _ _ rfl wr.heap.size (b : Int) rfl wr.heap.size oB3 (g3.size) ad k c IZ rfl (hIr.ge g3) (by omega) ?_
            intro g2 c2 w4 o2 m2 q2
            have o1' := o1.kept m2 (.inr (by simp [Value.ownBlock]; omega))
            have g4 : Ge wr w4 := g3.mine oB3 (Nat.le_refl _) m2
            refine hK.out _ _ (g4.keep c0) (fun hHeld => ?_)
            clear hK K
            (try simp only [Act.put, List.setIfInBounds_toArray, List.set_cons_zero, List.set_cons_succ])
            have hR := SlI.owned o1'
            have hC := SlI.owned o2
            refine head_one 15 rfl (by kernel_rfl) (fun K hK => ?_)
            go_simp
            (go_at_call 39; ((with_reducible refine (HD.out _ _ _ g4 hR.1 hC.1 (capOf hR.2)).mono ?_); rintro e w5 ⟨rfl, g5⟩))
            have G5 : Ge wr w5 := g4.trans g5
            refine hK.out _ _ (G5.keep c0) (fun hHeld => ?_)
            clear hK K
            (try simp only [Act.put, List.setIfInBounds_toArray, List.set_cons_zero, List.set_cons_succ])
            refine head_one 16 rfl (by kernel_rfl) (fun K hK => ?_)
            go_simp
            refine hK.out _ _ (cell_alloc (G5.keep c0)) (fun hHeld => ?_)
            clear hK K
            (try simp only [Act.put, List.setIfInBounds_toArray, List.set_cons_zero, List.set_cons_succ])
            have G6 : Ge wr (w5.alloc (.cells #[.int .i64 X] 3)) := G5.alloc _
            have ow6 := G6.owns HOw.out
            have hz6 := G6.size
            refine head_one 17 rfl (by kernel_rfl) (fun K hK => ?_)
            rw [if_pos (by rfl)]
            refine ap_intsK _ _ rfl wa.heap.size u b L rfl ow6 (by omega) ⟨w5.heap.size, 0, none⟩ 1 1 [X] rfl (SlI.owned (owns_cons rfl (Nat.le_refl _))).1 (by omega) ?_
            intro v8 w8 own8 m8
            obtain ⟨p8, c8, rfl⟩ := owns_form own8
            have t3 := mine_cell m8 (cell_alloc (o := .cells #[.int .i64 X] 3) (G5.keep c0)) (before_row HOw.out zG)
            have t4 := mine_frozY m8 (cell_alloc (o := .cells #[.int .i64 X] 3) (G5.keep c0)) (G6.keepF c0 cf) (before_row HOw.out zG)
            have HFin := Lib.hid (And.intro (cell_same (u := .slice p8 (b + 1) c8) t3) (And.intro (froz_set (b := ⟨wI.heap.size, a, none⟩) (u := .slice p8 (b + 1) c8) t4) (And.intro (owns_setY (o := a) own8 zG (.slice p8 (b + 1) c8)) (And.intro (((hy.ge ⟨_, c0⟩ G6).mine ow6 (Nat.le_refl _) m8).set (.slice p8 (b + 1) c8)) (Ge.setCell ((hgb.trans G6).mine ow6 (by omega) m8) (p := ⟨wI.heap.size, a, none⟩) (Nat.le_refl _) (.slice p8 (b + 1) c8))))))
            refine hK.out _ _ (t3) (fun hHeld => ?_)
            clear hK K
            (try simp only [Act.put, List.setIfInBounds_toArray, List.set_cons_zero, List.set_cons_succ])
            refine head_take 18 (v := ?_) rfl (by kernel_rfl) (by kernel_rfl) (fun _ _ _ h => h) (by assumption) (yields_if (by rfl) ?_) ?_
            rotate_left
            focus (intro w' hSw; (try dsimp only at hSw); go_simp; (try with_reducible rfl))
            (try simp only [Act.put, List.setIfInBounds_toArray, List.set_cons_zero, List.set_cons_succ])
            refine head_done (by kernel_rfl) ?_
            go_wp2_with fail
            go_roundw
            case rel => exact ⟨b + 1, .slice p8 (b + 1) c8, by omega, by go_num, HFin.out.1, HFin.out.2.1, by rw [HSn.out]; exact HFin.out.2.2.1, HFin.out.2.2.2.1, HFin.out.2.2.2.2⟩
            case measure => simp [intOf]; omega
          · go_simp
            refine hK.out _ _ (cell_alloc (cell_drew c0)) (fun hHeld => ?_)
            clear hK K
            (try simp only [Act.put, List.setIfInBounds_toArray, List.set_cons_zero, List.set_cons_succ])
            have oA : (wr.drew.alloc (.cells #[.int .i64 (a : Int)] 3)).ownsRow wr.heap.size 3 1 (.slice (some ⟨wr.heap.size, 0, none⟩) 1 1) 1 (icells [(a : Int)]) := owns_cons rfl (Nat.le_refl _)
            have gA : Ge wr (wr.drew.alloc (.cells #[.int .i64 (a : Int)] 3)) := Ge.alloc (Ge.drew (Ge.refl _)) _
            refine head_two 10 12 rfl rfl (by kernel_rfl) (fun K hK => ?_) (fun K hK => ?_)
            · rw [if_pos (by rfl)]
              refine ap_lit _ _ rfl wr.heap.size (a : Int) rfl wr.heap.size oA (by simp) ad k c IZ rfl (hIr.ge gA) (by omega) ?_
              intro g1 c1 w3 o1 m1 q1
              have g3 : Ge wr w3 := gA.mine oA (Nat.le_refl _) m1
              have z3 := g3.size
              refine hK.out _ _ (g3.keep c0) (fun hHeld => ?_)
              clear hK K
              (try simp only [Act.put, List.setIfInBounds_toArray, List.set_cons_zero, List.set_cons_succ])
              refine head_one 12 rfl (by kernel_rfl) (fun K hK => ?_)
              go_simp
              refine hK.out _ _ (cell_alloc (g3.keep c0)) (fun hHeld => ?_)
              clear hK K
              (try simp only [Act.put, List.setIfInBounds_toArray, List.set_cons_zero, List.set_cons_succ])
              have oB : (w3.alloc (.cells #[.int .i64 (b : Int)] 3)).ownsRow wr.heap.size 3 1 (.slice (some ⟨w3.heap.size, 0, none⟩) 1 1) 1 (icells [(b : Int)]) := owns_cons rfl z3
              have gB : Ge wr (w3.alloc (.cells #[.int .i64 (b : Int)] 3)) := g3.alloc _
              refine head_one 14 rfl (by kernel_rfl) (fun K hK => ?_)
              rw [if_pos (by rfl)]
              refine ap_lit _ _ rfl w3.heap.size (b : Int) rfl wr.heap.size oB (by simp; omega) ad k c IZ rfl (hIr.ge gB) (by omega) ?_
              intro g2 c2 w4 o2 m2 q2
              have zg1 := (o1.lt g1 rfl).2
              have o1' := (o1.alloc (.cells #[.int .i64 (b : Int)] 3)).kept m2 (.inr (by simp [Value.ownBlock]; omega))
              have g4 : Ge wr w4 := gB.mine oB (Nat.le_refl _) m2
              refine hK.out _ _ (g4.keep c0) (fun hHeld => ?_)
              clear hK K
              (try simp only [Act.put, List.setIfInBounds_toArray, List.set_cons_zero, List.set_cons_succ])
              have hR := SlI.owned o1'
              have hC := SlI.owned o2
              refine head_one 15 rfl (by kernel_rfl) (fun K hK => ?_)
              go_simp
              (go_at_call 39; ((with_reducible refine (HD.out _ _ _ g4 hR.1 hC.1 (capOf hR.2)).mono ?_); rintro e w5 ⟨rfl, g5⟩))
              have G5 : Ge wr w5 := g4.trans g5
              refine hK.out _ _ (G5.keep c0) (fun hHeld => ?_)
              clear hK K
              (try simp only [Act.put, List.setIfInBounds_toArray, List.set_cons_zero, List.set_cons_succ])
              refine head_one 16 rfl (by kernel_rfl) (fun K hK => ?_)
              go_simp
              refine hK.out _ _ (cell_alloc (G5.keep c0)) (fun hHeld => ?_)
              clear hK K
              (try simp only [Act.put, List.setIfInBounds_toArray, List.set_cons_zero, List.set_cons_succ])
              have G6 : Ge wr (w5.alloc (.cells #[.int .i64 X] 3)) := G5.alloc _
              have ow6 := G6.owns HOw.out
              have hz6 := G6.size
              refine head_one 17 rfl (by kernel_rfl) (fun K hK => ?_)
              rw [if_pos (by rfl)]
              refine ap_intsK _ _ rfl wa.heap.size u b L rfl ow6 (by omega) ⟨w5.heap.size, 0, none⟩ 1 1 [X] rfl (SlI.owned (owns_cons rfl (Nat.le_refl _))).1 (by omega) ?_
              intro v8 w8 own8 m8
              obtain ⟨p8, c8, rfl⟩ := owns_form own8
              have t3 := mine_cell m8 (cell_alloc (o := .cells #[.int .i64 X] 3) (G5.keep c0)) (before_row HOw.out zG)
              have t4 := mine_frozY m8 (cell_alloc (o := .cells #[.int .i64 X] 3) (G5.keep c0)) (G6.keepF c0 cf) (before_row HOw.out zG)
              have HFin := Lib.hid (And.intro (cell_same (u := .slice p8 (b + 1) c8) t3) (And.intro (froz_set (b := ⟨wI.heap.size, a, none⟩) (u := .slice p8 (b + 1) c8) t4) (And.intro (owns_setY (o := a) own8 zG (.slice p8 (b + 1) c8)) (And.intro (((hy.ge ⟨_, c0⟩ G6).mine ow6 (Nat.le_refl _) m8).set (.slice p8 (b + 1) c8)) (Ge.setCell ((hgb.trans G6).mine ow6 (by omega) m8) (p := ⟨wI.heap.size, a, none⟩) (Nat.le_refl _) (.slice p8 (b + 1) c8))))))
              refine hK.out _ _ (t3) (fun hHeld => ?_)
              clear hK K
              (try simp only [Act.put, List.setIfInBounds_toArray, List.set_cons_zero, List.set_cons_succ])
              refine head_take 18 (v := ?_) rfl (by kernel_rfl) (by kernel_rfl) (fun _ _ _ h => h) (by assumption) (yields_if (by rfl) ?_) ?_
              rotate_left
              focus (intro w' hSw; (try dsimp only at hSw); go_simp; (try with_reducible rfl))
              (try simp only [Act.put, List.setIfInBounds_toArray, List.set_cons_zero, List.set_cons_succ])
              refine head_done (by kernel_rfl) ?_
              go_wp2_with fail
              go_roundw
              case rel => exact ⟨b + 1, .slice p8 (b + 1) c8, by omega, by go_num, HFin.out.1, HFin.out.2.1, by rw [HSn.out]; exact HFin.out.2.2.1, HFin.out.2.2.2.1, HFin.out.2.2.2.2⟩
              case measure => simp [intOf]; omega
            · go_simp
              refine hK.out _ _ (cell_alloc (cell_alloc (cell_drew c0))) (fun hHeld => ?_)
              clear hK K
              (try simp only [Act.put, List.setIfInBounds_toArray, List.set_cons_zero, List.set_cons_succ])
              have oB : ((wr.drew.alloc (.cells #[.int .i64 (a : Int)] 3)).alloc (.cells #[.int .i64 (b : Int)] 3)).ownsRow wr.heap.size 3 1 (.slice (some ⟨wr.heap.size + 1, 0, none⟩) 1 1) 1 (icells [(b : Int)]) := owns_cons (by simp) (by omega)
              have gB : Ge wr ((wr.drew.alloc (.cells #[.int .i64 (a : Int)] 3)).alloc (.cells #[.int .i64 (b : Int)] 3)) := gA.alloc _
              refine head_one 10 rfl (by kernel_rfl) (fun K hK => ?_)
              rw [if_pos (by rfl)]
              refine ap_lit _ _ rfl wr.heap.size (a : Int) rfl wr.heap.size (oA.alloc _) (by simp; omega) ad k c IZ rfl (hIr.ge gB) (by omega) ?_
              intro g1 c1 w3 o1 m1 q1
              simp at q1
              have oB3 := oB.kept m1 (.inr (by simp [Value.ownBlock]))
              have g3 : Ge wr w3 := gB.mine (oA.alloc _) (Nat.le_refl _) m1
              refine hK.out _ _ (g3.keep c0) (fun hHeld => ?_)
              clear hK K
              (try simp only [Act.put, List.setIfInBounds_toArray, List.set_cons_zero, List.set_cons_succ])
              refine head_one 14 rfl (by kernel_rfl) (fun K hK => ?_)
              rw [if_pos (by rfl)]
              refine ap_lit _ _ rfl (wr.heap.size + 1) (b : Int) rfl wr.heap.size oB3 (g3.size) ad k c IZ rfl (hIr.ge g3) (by omega) ?_
              intro g2 c2 w4 o2 m2 q2
              have o1' := o1.kept m2 (.inr (by simp [Value.ownBlock]; omega))
              have g4 : Ge wr w4 := g3.mine oB3 (Nat.le_refl _) m2
              refine hK.out _ _ (g4.keep c0) (fun hHeld => ?_)
              clear hK K
              (try simp only [Act.put, List.setIfInBounds_toArray, List.set_cons_zero, List.set_cons_succ])
              have hR := SlI.owned o1'
              have hC := SlI.owned o2
              refine head_one 15 rfl (by kernel_rfl) (fun K hK => ?_)
              go_simp
              (go_at_call 39; ((with_reducible refine (HD.out _ _ _ g4 hR.1 hC.1 (capOf hR.2)).mono ?_); rintro e w5 ⟨rfl, g5⟩))
              have G5 : Ge wr w5 := g4.trans g5
              refine hK.out _ _ (G5.keep c0) (fun hHeld => ?_)
              clear hK K
              (try simp only [Act.put, List.setIfInBounds_toArray, List.set_cons_zero, List.set_cons_succ])
              refine head_one 16 rfl (by kernel_rfl) (fun K hK => ?_)
              go_simp
              refine hK.out _ _ (cell_alloc (G5.keep c0)) (fun hHeld => ?_)
              clear hK K
              (try simp only [Act.put, List.setIfInBounds_toArray, List.set_cons_zero, List.set_cons_succ])
              have G6 : Ge wr (w5.alloc (.cells #[.int .i64 X] 3)) := G5.alloc _
              have ow6 := G6.owns HOw.out
              have hz6 := G6.size
              refine head_one 17 rfl (by kernel_rfl) (fun K hK => ?_)
              rw [if_pos (by rfl)]
              refine ap_intsK _ _ rfl wa.heap.size u b L rfl ow6 (by omega) ⟨w5.heap.size, 0, none⟩ 1 1 [X] rfl (SlI.owned (owns_cons rfl (Nat.le_refl _))).1 (by omega) ?_
              intro v8 w8 own8 m8
              obtain ⟨p8, c8, rfl⟩ := owns_form own8
              have t3 := mine_cell m8 (cell_alloc (o := .cells #[.int .i64 X] 3) (G5.keep c0)) (before_row HOw.out zG)
              have t4 := mine_frozY m8 (cell_alloc (o := .cells #[.int .i64 X] 3) (G5.keep c0)) (G6.keepF c0 cf) (before_row HOw.out zG)
              have HFin := Lib.hid (And.intro (cell_same (u := .slice p8 (b + 1) c8) t3) (And.intro (froz_set (b := ⟨wI.heap.size, a, none⟩) (u := .slice p8 (b + 1) c8) t4) (And.intro (owns_setY (o := a) own8 zG (.slice p8 (b + 1) c8)) (And.intro (((hy.ge ⟨_, c0⟩ G6).mine ow6 (Nat.le_refl _) m8).set (.slice p8 (b + 1) c8)) (Ge.setCell ((hgb.trans G6).mine ow6 (by omega) m8) (p := ⟨wI.heap.size, a, none⟩) (Nat.le_refl _) (.slice p8 (b + 1) c8))))))
              refine hK.out _ _ (t3) (fun hHeld => ?_)
              clear hK K
              (try simp only [Act.put, List.setIfInBounds_toArray, List.set_cons_zero, List.set_cons_succ])
              refine head_take 18 (v := ?_) rfl (by kernel_rfl) (by kernel_rfl) (fun _ _ _ h => h) (by assumption) (yields_if (by rfl) ?_) ?_
              rotate_left
              focus (intro w' hSw; (try dsimp only at hSw); go_simp; (try with_reducible rfl))
              (try simp only [Act.put, List.setIfInBounds_toArray, List.set_cons_zero, List.set_cons_succ])
              refine head_done (by kernel_rfl) ?_
              go_wp2_with fail
              go_roundw
              case rel => exact ⟨b + 1, .slice p8 (b + 1) c8, by omega, by go_num, HFin.out.1, HFin.out.2.1, by rw [HSn.out]; exact HFin.out.2.2.1, HFin.out.2.2.2.1, HFin.out.2.2.2.2⟩
              case measure => simp [intOf]; omega
        · have hbe : b = e := by omega
          subst hbe
          obtain ⟨pu, cu, rfl⟩ := owns_form hown
          have HN := Lib.hid (RowsY.next HR.out hlt hy c0 (fun x hx => by cases hx) (Sl.of_owns hown))
          go_wp2_with fail
          go_roundw
          case rel => exact ⟨a + 1, by omega, by go_num, HN.out, hgb⟩
          case measure => simp [intOf]; omega
    · have hae : a = e := by omega
      subst hae
      have HR := Lib.hid hrows.rows
      have HIr := Lib.hid (hI.out.ge hg)
      have HLr := Lib.hid (hL.out.ge (Ge.trans gI hg))
      have b2r := hg.keep b2
      clear hrows
      go_wp2_with fail
      have hS : ∀ w', Ge wr w' → (w'.cell? ⟨w.heap.size, 2, none⟩ = some (.int .i64 S) ∧ Ge wr w') := fun w' g => ⟨g.keep (by (repeat (first | assumption | with_reducible exact Ge.refl _ | with_reducible refine cv_drew ?_ | with_reducible refine cv_alloc ?_ | with_reducible refine cv_set ?_ | (with_reducible apply cv_some; assumption) | with_reducible refine cell_drew ?_ | with_reducible refine cell_drewN ?_ | ((with_reducible refine cell_new ?_ ?_); (focus (simp; done)); rfl) | with_reducible refine cell_alloc ?_ | with_reducible refine cell_same2 ?_ | ((with_reducible refine cell_set2 ?_ ?_); focus (first | (simp; done) | (intro hE; simp at hE; done) | (intro hE; simp at hE; omega))) | with_reducible refine Ge.drew ?_ | with_reducible refine Ge.drewN ?_ _ | with_reducible refine Ge.alloc ?_ _ | ((with_reducible refine Ge.setCell ?_ ?_ _); rotate_left; focus (first | (simp; done) | omega | (simp; omega))) | with_reducible refine Ge.trans ?_ (by assumption) | with_reducible refine Ge.keep (by assumption) ?_))), Ge.trans (by (repeat (first | assumption | with_reducible exact Ge.refl _ | with_reducible refine cv_drew ?_ | with_reducible refine cv_alloc ?_ | with_reducible refine cv_set ?_ | (with_reducible apply cv_some; assumption) | with_reducible refine cell_drew ?_ | with_reducible refine cell_drewN ?_ | ((with_reducible refine cell_new ?_ ?_); (focus (simp; done)); rfl) | with_reducible refine cell_alloc ?_ | with_reducible refine cell_same2 ?_ | ((with_reducible refine cell_set2 ?_ ?_); focus (first | (simp; done) | (intro hE; simp at hE; done) | (intro hE; simp at hE; omega))) | with_reducible refine Ge.drew ?_ | with_reducible refine Ge.drewN ?_ _ | with_reducible refine Ge.alloc ?_ _ | ((with_reducible refine Ge.setCell ?_ ?_ _); rotate_left; focus (first | (simp; done) | omega | (simp; omega))) | with_reducible refine Ge.trans ?_ (by assumption) | with_reducible refine Ge.keep (by assumption) ?_))) g⟩
      go_region_held3 (fun w' => w'.cell? ⟨w.heap.size, 2, none⟩ = some (.int .i64 S) ∧ Ge wr w') (first | ((with_reducible refine hS _ ?_); (repeat (first | assumption | with_reducible exact Ge.refl _ | with_reducible refine cv_drew ?_ | with_reducible refine cv_alloc ?_ | with_reducible refine cv_set ?_ | (with_reducible apply cv_some; assumption) | with_reducible refine cell_drew ?_ | with_reducible refine cell_drewN ?_ | ((with_reducible refine cell_new ?_ ?_); (focus (simp; done)); rfl) | with_reducible refine cell_alloc ?_ | with_reducible refine cell_same2 ?_ | ((with_reducible refine cell_set2 ?_ ?_); focus (first | (simp; done) | (intro hE; simp at hE; done) | (intro hE; simp at hE; omega))) | with_reducible refine Ge.drew ?_ | with_reducible refine Ge.drewN ?_ _ | with_reducible refine Ge.alloc ?_ _ | ((with_reducible refine Ge.setCell ?_ ?_ _); rotate_left; focus (first | (simp; done) | omega | (simp; omega))) | with_reducible refine Ge.trans ?_ (by assumption) | with_reducible refine Ge.keep (by assumption) ?_)); done) | fail) (first | (go_at_call 39; ((with_reducible refine (HDd.out vL (.slice (some ad) k c) _ (SlMM.ge HLr.out (by (repeat (first | assumption | with_reducible exact Ge.refl _ | with_reducible refine cv_drew ?_ | with_reducible refine cv_alloc ?_ | with_reducible refine cv_set ?_ | (with_reducible apply cv_some; assumption) | with_reducible refine cell_drew ?_ | with_reducible refine cell_drewN ?_ | ((with_reducible refine cell_new ?_ ?_); (focus (simp; done)); rfl) | with_reducible refine cell_alloc ?_ | with_reducible refine cell_same2 ?_ | ((with_reducible refine cell_set2 ?_ ?_); focus (first | (simp; done) | (intro hE; simp at hE; done) | (intro hE; simp at hE; omega))) | with_reducible refine Ge.drew ?_ | with_reducible refine Ge.drewN ?_ _ | with_reducible refine Ge.alloc ?_ _ | ((with_reducible refine Ge.setCell ?_ ?_ _); rotate_left; focus (first | (simp; done) | omega | (simp; omega))) | with_reducible refine Ge.trans ?_ (by assumption) | with_reducible refine Ge.keep (by assumption) ?_)))) (SlI.ge HIr.out (by (repeat (first | assumption | with_reducible exact Ge.refl _ | with_reducible refine cv_drew ?_ | with_reducible refine cv_alloc ?_ | with_reducible refine cv_set ?_ | (with_reducible apply cv_some; assumption) | with_reducible refine cell_drew ?_ | with_reducible refine cell_drewN ?_ | ((with_reducible refine cell_new ?_ ?_); (focus (simp; done)); rfl) | with_reducible refine cell_alloc ?_ | with_reducible refine cell_same2 ?_ | ((with_reducible refine cell_set2 ?_ ?_); focus (first | (simp; done) | (intro hE; simp at hE; done) | (intro hE; simp at hE; omega))) | with_reducible refine Ge.drew ?_ | with_reducible refine Ge.drewN ?_ _ | with_reducible refine Ge.alloc ?_ _ | ((with_reducible refine Ge.setCell ?_ ?_ _); rotate_left; focus (first | (simp; done) | omega | (simp; omega))) | with_reducible refine Ge.trans ?_ (by assumption) | with_reducible refine Ge.keep (by assumption) ?_)))) (capOf hkc)).mono ?_); rintro e' wD ⟨rfl, hb⟩)) | fail)
      rename_i hHeldX
      obtain ⟨q0, G7⟩ := hHeldX
      clear hS
      all_goals
        go_wp2_with fail
        exact bodyPost_ret (v := .tuple #[.slice (some ⟨wI.heap.size, 0, none⟩) a a, .int .i64 (S * DZ)]) (by simp [results, Try.results37, go_sem, *]) rfl ⟨_, rfl, HR.out.ge (by (repeat (first | with_reducible exact Ge.refl _ | assumption | with_reducible refine Ge.drew ?_ | with_reducible refine Ge.drewN ?_ _ | with_reducible refine Ge.alloc ?_ _ | (with_reducible refine Ge.setCell ?_ (by first | (simp; done) | omega | (simp; omega)) _) | with_reducible refine Ge.trans ?_ (by assumption)))), by (repeat (first | with_reducible exact Ge.refl _ | assumption | with_reducible refine Ge.drew ?_ | with_reducible refine Ge.drewN ?_ _ | with_reducible refine Ge.alloc ?_ _ | (with_reducible refine Ge.setCell ?_ (by first | (simp; done) | omega | (simp; omega)) _) | with_reducible refine Ge.trans ?_ (by assumption)))⟩
end Go.Proofs.Ytipiiimemmkdgaa

namespace Go.Proofs.Ytipiiimemmkdgaa
set_option maxRecDepth 100000
open Go.ChangeShapes Go.WideShapes Go.ChangeAt Go.RowKit Go.Joins

theorem inf_RatioQ : (Try.prog.info? 28).map (fun i => (i.zero, i.size, i.bytes)) = some (some (Value.agg #[.int .i64 0, .int .i64 0]), 2, 16) := by kernel_rfl
theorem inf_rowQ : (Try.prog.info? 31).map (fun i => (i.zero, i.size, i.bytes)) = some (some (Value.slice none 0 0), 1, 24) := by kernel_rfl
/-- Appending one fraction. -/
theorem ap_ratK {w : World} {o : Oper} {a : Act} {K : Act → World → Prop} {Q : Exit → Act → World → Prop} (s x : Operand)
    (ho : o.op = .call { callee := .builtin .append, args := #[s, x], argTypes := #[31, 31] })
    (base : Nat) (v : Value) (n : Nat) (l : List Int) (hs : a.eval s = v) (hown : w.ownsRow base 28 2 v n (icells l)) (hb : base ≤ w.heap.size)
    (y z : Int) {b0 : Nat} (hx : a.eval x = .slice (some ⟨b0, 0, none⟩) 1 1) (h0 : w.cell? ⟨b0, 0, none⟩ = some (.int .i64 y)) (h1 : w.cell? ⟨b0, 1, none⟩ = some (.int .i64 z)) (hn : n < 1000)
    (h : ∀ v' w', w'.ownsRow base 28 2 v' (n + 1) (icells (l ++ [y, z])) → Mine w w' v → K (a.put o.dst v') w') :
    o.wp Try.prog a w K Q := by
  obtain ⟨i, hi1, hi2, hi3, hi4⟩ := info_parts inf_RatioQ
  refine wp_append_own _ s x 31 ho base 28 i _ 2 16 Try.underlying31 hi1 hi2 hi3 hi4 rfl (by decide) v n (icells l) hs hown ⟨b0, 0, none⟩ 1 1 [.int .i64 y, .int .i64 z] hx rfl ?_ (by simp [Value.oneCell']) (by unfold maxLen; omega) ?_ hb ?_
  · intro j u hu
    match j, hu with
    | 0, hu => simp at hu; subst hu; simpa [Addr.add] using h0
    | 1, hu => simp at hu; subst hu; simpa [Addr.add] using h1
  · omega
  · intro v' w' h2 h3 _
    exact h v' w' (by simpa [icells] using h2) h3
/-- The entries of rows of integers. -/
theorem SlRows.ints {w : World} {v : Value} {E : Nat} {T : Nat → Nat → Int} (h : SlRows w v E 1 (fun a => mapR E (T a))) :
    ∃ b o c, v = .slice (some ⟨b, o, none⟩) E c ∧ ∀ a, a < E → ∃ p k, w.cell? ⟨b, o + a, none⟩ = some (.slice p E k) ∧ ∀ j, j < E → ∃ br or', p = some ⟨br, or', none⟩ ∧ w.cell? ⟨br, or' + j, none⟩ = some (.int .i64 (T a j)) := by
  obtain ⟨b, o, c, hv, hc⟩ := h
  refine ⟨b, o, c, hv, fun a ha => ?_⟩
  obtain ⟨p, k, h1, _, p', k', h2, h3⟩ := hc a ha
  simp only [Value.slice.injEq] at h2
  obtain ⟨rfl, _, rfl⟩ := h2
  refine ⟨p, k, h1, fun j hj => ?_⟩
  refine h3 j _ ?_
  simp [icells, mapR, hj]

set_option maxHeartbeats 1600000 in
theorem iResponseOfF (N E S : Int) (s : Value) (m : Nat) (xs : List Int) (w : World) (hs : SlF w s m 3 xs) (hm : m ≤ 9223372036854775807) (hB : netB N E S m xs = false) :
    Calls Try.prog 25 #[.agg #[.int .i64 N, .int .i64 E, .int .i64 S, s]] w fun r w' => r = .returned (.tuple #[.slice none 0 0, .bool false]) ∧ Ge w w' := by
  obtain ⟨p, cap, rfl, hc⟩ := hs.open
  have HV := Lib.hid hs
  clear hs hc
  have HNo := Lib.hid (fun w' (g : Ge w w') => iNetOk N E S (.slice p m cap) m xs w' (HV.out.ge g) hm)
  rw [hB] at HNo
  go_enter Try.func25, Try.ntmps25
  go_wp2_with (go_at_call 20; ((with_reducible refine (HNo.out _ (by (repeat (first | with_reducible exact Ge.refl _ | assumption | with_reducible refine Ge.drew ?_ | with_reducible refine Ge.drewN ?_ _ | with_reducible refine Ge.alloc ?_ _ | (with_reducible refine Ge.setCell ?_ (by first | (simp; done) | omega | (simp; omega)) _) | with_reducible refine Ge.trans ?_ (by assumption))))).mono ?_); rintro e w1 ⟨rfl, g1⟩))
  exact bodyPost_ret (v := .tuple #[.slice none 0 0, .bool false]) (by simp [results, Try.results25, go_sem, *]) rfl ⟨rfl, by (repeat (first | with_reducible exact Ge.refl _ | assumption | with_reducible refine Ge.drew ?_ | with_reducible refine Ge.drewN ?_ _ | with_reducible refine Ge.alloc ?_ _ | (with_reducible refine Ge.setCell ?_ (by first | (simp; done) | omega | (simp; omega)) _) | with_reducible refine Ge.trans ?_ (by assumption)))⟩

set_option maxHeartbeats 3200000 in
theorem iResponseOfT (n e : Nat) (S : Int) (s : Value) (m : Nat) (xs : List Int) (w : World) (hs : SlF w s m 3 xs) (hm : m ≤ 9223372036854775807) (hB : netB n e S m xs = true) :
    Calls Try.prog 25 #[.agg #[.int .i64 (n : Int), .int .i64 (e : Int), .int .i64 S, s]] w fun r w' => ∃ v, r = .returned (.tuple #[v, .bool true]) ∧ SlRows w' v e 2 (fun a => respL n e m S xs a e) ∧ Ge w w' := by
  obtain ⟨⟨h1, h5⟩, ⟨e1, e2⟩, ⟨s1, s2⟩, hok, _⟩ := netP_of hB
  obtain ⟨p, cap, rfl, hc⟩ := hs.open
  have HV := Lib.hid hs
  have HNo := Lib.hid (fun w' (g : Ge w w') => iNetOk n e S (.slice p m cap) m xs w' (HV.out.ge g) hm)
  rw [hB] at HNo
  have HRe := Lib.hid (fun w' (g : Ge w w') => iResponse n e S (.slice p m cap) m xs w' (HV.out.ge g) hB)
  have hbd := sdwn_bd (S := S) (by omega) hok (by omega : 1 ≤ e) s1 s2
  have HRo := Lib.hid (fun (a b : Nat) w' => iRatioOf (topZ n e m xs a b) (S * dwnZ n e m xs) w' (by have := top_bd (n := n) (e := e) (by omega) hok (by omega) (by omega) a b; exact mid (by omega) (by omega)) (mid (by omega) (by omega)))
  obtain ⟨R, hR⟩ : ∃ R : Nat → Nat → List Int, R = fun a k => respL n e m S xs a k := ⟨_, rfl⟩
  have HR0 : Hid (∀ a, R a 0 = []) := by show ∀ a, _; intro a; rw [hR]; rfl
  have HRs : Hid (∀ a k, R a (k + 1) = R a k ++ [(ratioOf (topZ n e m xs a k) (S * dwnZ n e m xs)).n, (ratioOf (topZ n e m xs a k) (S * dwnZ n e m xs)).d]) := by show ∀ a k, _; intro a k; rw [hR]; rfl
  have HRe' : Hid ((fun a => respL n e m S xs a e) = fun a => R a e) := by show _ = _; rw [hR]
  rw [HRe'.out]
  clear hs hc hok hB hbd hR HRe'
  obtain ⟨T, hT⟩ : ∃ T : Nat → Nat → Int, T = fun a b => topZ n e m xs a b := ⟨_, rfl⟩
  have HT : Hid (∀ a b, topZ n e m xs a b = T a b) := by show ∀ a b, _; rw [hT]; exact fun _ _ => rfl
  simp only [HT.out] at HRo HRs HRe
  clear hT HT
  generalize S * dwnZ n e m xs = SD at *
  go_enter Try.func25, Try.ntmps25
  go_wp2_with (first
    | ((go_at_call 20; ((with_reducible refine (HNo.out _ (by (repeat (first | with_reducible exact Ge.refl _ | assumption | with_reducible refine Ge.drew ?_ | with_reducible refine Ge.drewN ?_ _ | with_reducible refine Ge.alloc ?_ _ | (with_reducible refine Ge.setCell ?_ (by first | (simp; done) | omega | (simp; omega)) _) | with_reducible refine Ge.trans ?_ (by assumption))))).mono ?_); rintro r w1 ⟨rfl, g1⟩)); have b0 := Ge.keep g1 (cell_new (i := 0) rfl rfl); have b1 := Ge.keep g1 (cell_new (i := 1) rfl rfl); have b2 := Ge.keep g1 (cell_new (i := 2) rfl rfl); have b3 := Ge.keep g1 (cell_new (i := 3) rfl rfl); have z1 := g1.size; (simp at b0 b1 b2 b3 z1))
    | ((go_at_call 37; ((with_reducible refine (HRe.out _ (by (repeat (first | with_reducible exact Ge.refl _ | assumption | with_reducible refine Ge.drew ?_ | with_reducible refine Ge.drewN ?_ _ | with_reducible refine Ge.alloc ?_ _ | (with_reducible refine Ge.setCell ?_ (by first | (simp; done) | omega | (simp; omega)) _) | with_reducible refine Ge.trans ?_ (by assumption))))).mono ?_); rintro r wM ⟨vm, rfl, hM, gM⟩)); obtain ⟨bm, om, cm, rfl, hrow⟩ := hM.ints; have GM : Ge w wM := (by (repeat (first | with_reducible exact Ge.refl _ | assumption | with_reducible refine Ge.drew ?_ | with_reducible refine Ge.drewN ?_ _ | with_reducible refine Ge.alloc ?_ _ | (with_reducible refine Ge.setCell ?_ (by first | (simp; done) | omega | (simp; omega)) _) | with_reducible refine Ge.trans ?_ (by assumption)))); replace hrow := Lib.hid hrow; clear hM)
    | (at_make; refine mk1 rfl _ _ _ rfl 31 _ 1 24 Try.underlying55 inf_rowQ (by decide) e rfl rfl (by omega) ?_; intro w2 own2 g2))
  rw [made_rowsY] at own2
  go_loopw [23] (fun i' wr => ∃ a : Nat, a ≤ e ∧ i' = .int .i64 a ∧ RowsY wr wM.heap.size e a 2 (fun a => R a e) ∧ Ge wM wr) (fun i _ => e - (intOf i).toNat)
  case atStart => exact ⟨0, Nat.zero_le _, rfl, RowsY.init own2, g2⟩
  case round =>
    obtain ⟨a, ha, rfl, hrows, hg⟩ := hrel
    by_cases hlt : a < e
    · obtain ⟨r0, f0⟩ := hrows.at hlt
      have HR := Lib.hid hrows
      clear hrows
      have zG := World.block_lt_of_cell? _ _ r0
      simp only at zG
      obtain ⟨pr, cr, x0, hent⟩ := hrow.out a hlt
      have x0r := hg.keep x0
      have HE := Lib.hid hent
      clear hent x0
      go_wp2_with fail
      obtain ⟨wa, hwa⟩ : ∃ wa, wa = wr := ⟨_, rfl⟩
      subst hwa
      go_loopw [31] (fun j' wr => ∃ (b : Nat) (u : Value), b ≤ e ∧ j' = .int .i64 b ∧ wr.cell? ⟨wM.heap.size, a, none⟩ = some u ∧ wr.frozen? ⟨wM.heap.size, a, none⟩ = false ∧ wr.ownsRow wa.heap.size 28 2 u b (icells (R a b)) ∧ GeY ⟨wM.heap.size, a, none⟩ wa wr ∧ Ge wM wr) (fun j _ => e - (intOf j).toNat)
      case atStart => exact ⟨0, _, Nat.zero_le _, rfl, r0, f0, by rw [HR0.out]; exact ⟨rfl, .inl ⟨rfl, rfl⟩⟩, GeY.refl _ _, hg⟩
      case round =>
        obtain ⟨b, u, hb, rfl, c0, cf, hown, hy, hgb⟩ := hrel
        by_cases hbn : b < e
        · obtain ⟨br, or', rfl, y0⟩ := HE.out b hbn
          have y0r := hgb.keep y0
          have HOw := Lib.hid hown
          have HSn := Lib.hid (HRs.out a b)
          have HRq := Lib.hid (HRo.out a b)
          clear y0 hown
          generalize R a b = L at *
          generalize T a b = X at *
          generalize ratioOf X SD = P at *
          have zr := hgb.size
          have zGr : wM.heap.size < wr.heap.size := World.block_lt_of_cell? _ _ c0
          have zar := hy.2.2
          go_wp2_with fail
          refine wp_region_head (S := fun w' => w'.cell? ⟨wM.heap.size, a, none⟩ = some u) 12 (by kernel_rfl) (by kernel_rfl) (cell_drew c0) (fun hHeld => ?_)
          refine head_take 0 (v := ?_) rfl (by kernel_rfl) (by kernel_rfl) (fun _ _ _ h => h) (by assumption) (yields_if (by rfl) ?_) ?_
          rotate_left
          focus (intro w' hSw; (try dsimp only at hSw); go_simp; (try with_reducible rfl))
          (try simp only [Act.put, List.setIfInBounds_toArray, List.set_cons_zero, List.set_cons_succ])
          refine head_take 1 (v := ?_) rfl (by kernel_rfl) (by kernel_rfl) (fun _ _ _ h => h) (by assumption) (yields_if (by rfl) ?_) ?_
          rotate_left
          focus (intro w' hSw; (try dsimp only at hSw); go_simp; (try with_reducible rfl))
          (try simp only [Act.put, List.setIfInBounds_toArray, List.set_cons_zero, List.set_cons_succ])
          refine head_take 2 (v := ?_) rfl (by kernel_rfl) (by kernel_rfl) (fun _ _ _ h => h) (by assumption) (yields_if (by rfl) ?_) ?_
          rotate_left
          focus (intro w' hSw; (try dsimp only at hSw); go_simp; (try with_reducible rfl))
          (try simp only [Act.put, List.setIfInBounds_toArray, List.set_cons_zero, List.set_cons_succ])
          refine head_take 3 (v := ?_) rfl (by kernel_rfl) (by kernel_rfl) (fun _ _ _ h => h) (by assumption) (yields_if (by rfl) ?_) ?_
          rotate_left
          focus (intro w' hSw; (try dsimp only at hSw); go_simp; (try with_reducible rfl))
          (try simp only [Act.put, List.setIfInBounds_toArray, List.set_cons_zero, List.set_cons_succ])
          refine head_take 4 (v := ?_) rfl (by kernel_rfl) (by kernel_rfl) (fun _ _ _ h => h) (by assumption) (yields_if (by rfl) ?_) ?_
          rotate_left
          focus (intro w' hSw; (try dsimp only at hSw); go_simp; (try with_reducible rfl))
          (try simp only [Act.put, List.setIfInBounds_toArray, List.set_cons_zero, List.set_cons_succ])
          refine head_take 5 (v := ?_) rfl (by kernel_rfl) (by kernel_rfl) (fun _ _ _ h => h) (by assumption) (yields_if (by rfl) ?_) ?_
          rotate_left
          focus (intro w' hSw; (try dsimp only at hSw); go_simp; (try with_reducible rfl))
          (try simp only [Act.put, List.setIfInBounds_toArray, List.set_cons_zero, List.set_cons_succ])
          refine head_take 6 (v := ?_) rfl (by kernel_rfl) (by kernel_rfl) (fun _ _ _ h => h) (by assumption) (yields_if (by rfl) ?_) ?_
          rotate_left
          focus (intro w' hSw; (try dsimp only at hSw); go_simp; (try with_reducible rfl))
          (try simp only [Act.put, List.setIfInBounds_toArray, List.set_cons_zero, List.set_cons_succ])
          refine head_take 7 (v := ?_) rfl (by kernel_rfl) (by kernel_rfl) (fun _ _ _ h => h) (by assumption) (yields_if (by rfl) ?_) ?_
          rotate_left
          focus (intro w' hSw; (try dsimp only at hSw); go_simp; (try with_reducible rfl))
          (try simp only [Act.put, List.setIfInBounds_toArray, List.set_cons_zero, List.set_cons_succ])
          refine head_one 8 rfl (by kernel_rfl) (fun K hK => ?_)
          go_simp
          (go_at_call 22; ((with_reducible refine (HRq.out _).mono ?_); rintro r w5 ⟨rfl, g5⟩))
          have G5 : Ge wr w5 := Ge.trans (Ge.drew (Ge.refl _)) g5
          refine hK.out _ _ (G5.keep c0) (fun hHeld => ?_)
          clear hK K
          (try simp only [Act.put, List.setIfInBounds_toArray, List.set_cons_zero, List.set_cons_succ])
          refine head_one 9 rfl (by kernel_rfl) (fun K hK => ?_)
          go_simp
          refine hK.out _ _ (cell_alloc (G5.keep c0)) (fun hHeld => ?_)
          clear hK K
          (try simp only [Act.put, List.setIfInBounds_toArray, List.set_cons_zero, List.set_cons_succ])
          have G6 : Ge wr (w5.alloc (.cells #[.int .i64 P.n, .int .i64 P.d] 28)) := G5.alloc _
          have ow6 := G6.owns HOw.out
          have hz6 := G6.size
          refine head_one 10 rfl (by kernel_rfl) (fun K hK => ?_)
          rw [if_pos (by rfl)]
          refine ap_ratK _ _ rfl wa.heap.size u b L rfl ow6 (by omega) P.n P.d (b0 := w5.heap.size) rfl (cell_new rfl rfl) (cell_new rfl rfl) (by omega) ?_
          intro v8 w8 own8 m8
          obtain ⟨p8, c8, rfl⟩ := owns_form own8
          have t3 := mine_cell m8 (cell_alloc (o := .cells #[.int .i64 P.n, .int .i64 P.d] 28) (G5.keep c0)) (before_row HOw.out zG)
          have t4 := mine_frozY m8 (cell_alloc (o := .cells #[.int .i64 P.n, .int .i64 P.d] 28) (G5.keep c0)) (G6.keepF c0 cf) (before_row HOw.out zG)
          have HFin := Lib.hid (And.intro (cell_same (u := .slice p8 (b + 1) c8) t3) (And.intro (froz_set (b := ⟨wM.heap.size, a, none⟩) (u := .slice p8 (b + 1) c8) t4) (And.intro (owns_setY (o := a) own8 zG (.slice p8 (b + 1) c8)) (And.intro (((hy.ge ⟨_, c0⟩ G6).mine ow6 (Nat.le_refl _) m8).set (.slice p8 (b + 1) c8)) (Ge.setCell ((hgb.trans G6).mine ow6 (by omega) m8) (p := ⟨wM.heap.size, a, none⟩) (Nat.le_refl _) (.slice p8 (b + 1) c8))))))
          refine hK.out _ _ t3 (fun hHeld => ?_)
          clear hK K
          (try simp only [Act.put, List.setIfInBounds_toArray, List.set_cons_zero, List.set_cons_succ])
          refine head_take 11 (v := ?_) rfl (by kernel_rfl) (by kernel_rfl) (fun _ _ _ h => h) (by assumption) (yields_if (by rfl) ?_) ?_
          rotate_left
          focus (intro w' hSw; (try dsimp only at hSw); go_simp; (try with_reducible rfl))
          (try simp only [Act.put, List.setIfInBounds_toArray, List.set_cons_zero, List.set_cons_succ])
          refine head_done (by kernel_rfl) ?_
          go_wp2_with fail
          go_roundw
          case rel => exact ⟨b + 1, .slice p8 (b + 1) c8, by omega, by go_num, HFin.out.1, HFin.out.2.1, by rw [HSn.out]; exact HFin.out.2.2.1, HFin.out.2.2.2.1, HFin.out.2.2.2.2⟩
          case measure => simp [intOf]; omega
        · have hbe : b = e := by omega
          subst hbe
          obtain ⟨pu, cu, rfl⟩ := owns_form hown
          have HN := Lib.hid (RowsY.next HR.out hlt hy c0 (fun x hx => by cases hx) (Sl.of_owns hown))
          go_wp2_with fail
          go_roundw
          case rel => exact ⟨a + 1, by omega, by go_num, HN.out, hgb⟩
          case measure => simp [intOf]; omega
    · have hae : a = e := by omega
      subst hae
      have HR := Lib.hid hrows.rows
      clear hrows
      go_wp2_with fail
      exact bodyPost_ret (v := .tuple #[.slice (some ⟨wM.heap.size, 0, none⟩) a a, .bool true]) (by simp [results, Try.results25, go_sem, *]) rfl ⟨_, rfl, HR.out, by (repeat (first | with_reducible exact Ge.refl _ | assumption | with_reducible refine Ge.drew ?_ | with_reducible refine Ge.drewN ?_ _ | with_reducible refine Ge.alloc ?_ _ | (with_reducible refine Ge.setCell ?_ (by first | (simp; done) | omega | (simp; omega)) _) | with_reducible refine Ge.trans ?_ (by assumption)))⟩
end Go.Proofs.Ytipiiimemmkdgaa

namespace Go.Proofs.Ytipiiimemmkdgaa
set_option maxRecDepth 100000
open Go.ChangeShapes Go.WideShapes Go.ChangeAt Go.RowKit Go.Joins

theorem ap_ratL {w : World} {ops : Array Oper} {rest : List Oper} {o : Oper} {a : Act} {Q : Exit → Act → World → Prop} (hgd : o.guard = none) (s x : Operand)
    (ho : o.op = .call { callee := .builtin .append, args := #[s, x], argTypes := #[31, 31] })
    (base : Nat) (v : Value) (n : Nat) (l : List Int) (hs : a.eval s = v) (hown : w.ownsRow base 28 2 v n (icells l))
    (y z : Int) (hx : a.eval x = .slice (some ⟨w.heap.size, 0, none⟩) 1 1) (hn : n < 1000) (hb : base ≤ w.heap.size)
    (h : ∀ v' w', w'.ownsRow base 28 2 v' (n + 1) (icells (l ++ [y, z])) → Mine w w' v → wpList Try.prog ops Q rest (a.put o.dst v') w') :
    wpList Try.prog ops Q (o :: rest) a (w.alloc (.cells #[.int .i64 y, .int .i64 z] 28)) :=
  wpList_plain hgd fun _ hK => ap_ratK s x ho base v n l hs (hown.alloc _) (by simp; omega) y z hx (cell_new rfl rfl) (cell_new rfl rfl) hn (fun v' w' h1 h2 => hK _ _ (h v' w' h1 (Mine.alloc _ h2)))
theorem ap_litL {w : World} {ops : Array Oper} {rest : List Oper} {o : Oper} {a : Act} {Q : Exit → Act → World → Prop} (hgd : o.guard = none) (s x : Operand)
    (ho : o.op = .call { callee := .builtin .append, args := #[s, x], argTypes := #[60, 60] })
    (b : Nat) (y : Int) (hs : a.eval s = .slice (some ⟨b, 0, none⟩) 1 1) (base : Nat) (hown : w.ownsRow base 3 1 (.slice (some ⟨b, 0, none⟩) 1 1) 1 (icells [y])) (hb : base ≤ w.heap.size)
    (ad : Addr) (k c : Nat) (l : List Int) (hx : a.eval x = .slice (some ad) k c) (hy : SlI w (.slice (some ad) k c) l) (hn : k < 900)
    (h : ∀ g c' w', w'.ownsRow base 3 1 (.slice (some ⟨g, 0, none⟩) (k + 1) c') (k + 1) (icells (y :: l)) → Mine w w' (.slice (some ⟨b, 0, none⟩) 1 1) → (g = b ∨ g = w.heap.size) → wpList Try.prog ops Q rest (a.put o.dst (.slice (some ⟨g, 0, none⟩) (k + 1) c')) w') : wpList Try.prog ops Q (o :: rest) a w :=
  wpList_plain hgd fun _ hK => ap_lit s x ho b y hs base hown hb ad k c l hx hy hn (fun g c' w' h1 h2 h3 => hK _ _ (h g c' w' h1 h2 h3))
theorem apRowQ {w : World} {ops : Array Oper} {rest : List Oper} {o : Oper} {a : Act} {Q : Exit → Act → World → Prop} (hgd : o.guard = none) (s x : Operand)
    (ho : o.op = .call { callee := .builtin .append, args := #[s, x], argTypes := #[55, 55] })
    (base : Nat) (v : Value) (n : Nat) (l : List Value) (hs : a.eval s = v) (hown : w.ownsRow base 31 1 v n l)
    (y : Value) (hy : y.oneCell' = true) (hx : a.eval x = .slice (some ⟨w.heap.size, 0, none⟩) 1 1) (hn : n < 1000000) (hbase : base ≤ w.heap.size)
    (h : ∀ v' w', w'.ownsRow base 31 1 v' (n + 1) (l ++ [y]) → Mine w w' v → (v'.ownBlock = v.ownBlock ∨ ∃ k, v'.ownBlock = some k ∧ w.heap.size ≤ k) → wpList Try.prog ops Q rest (a.put o.dst v') w') :
    wpList Try.prog ops Q (o :: rest) a (w.alloc (.cells #[y] 31)) := by
  obtain ⟨i, hi1, hi2, hi3, hi4⟩ := info_parts inf_rowQ
  refine wpList_append_own_at _ hgd s x 55 ho base 31 i _ 1 24 Try.underlying55 hi1 hi2 hi3 hi4 (by decide) (by decide) v n l hs (hown.alloc _) ⟨w.heap.size, 0, none⟩ 1 1 [y] hx (by simp) ?_ (by simpa using hy) (by unfold maxLen; omega) (by omega) (by simp; omega) ?_
  · exact cell_one_new w y _
  · intro v' w' h2 h3 _ h5
    refine h v' w' h2 (Mine.alloc _ h3) ?_
    rcases h5 with h5 | h5
    · exact .inl h5
    · exact .inr ⟨_, h5, by simp⟩
/-- The rows of out. -/
def RowsT (w : World) (B n : Nat) (u : Value) (cs : List Value) (k : Nat) (D : Nat → List Int) : Prop :=
  w.ownsRow B 31 1 u k cs ∧ ∀ i, i < k → ∃ pr cr, cs[i]? = some (.slice pr n cr) ∧ w.ownsRow B 28 2 (.slice pr n cr) n (icells (D i)) ∧ (∀ q, u.ownBlock = some q → (Value.slice pr n cr).ownBlock ≠ some q)
theorem RowsT.ge {w w' : World} {B n : Nat} {u : Value} {cs : List Value} {k : Nat} {D : Nat → List Int} (h : RowsT w B n u cs k D) (hg : Ge w w') : RowsT w' B n u cs k D :=
  ⟨hg.owns h.1, fun i hi => by obtain ⟨pr, cr, h1, h2, h3⟩ := h.2 i hi; exact ⟨pr, cr, h1, hg.owns h2, h3⟩⟩
theorem RowsT.snoc {w0 w w' : World} {B n : Nat} {u v' row : Value} {cs : List Value} {k : Nat} {D : Nat → List Int} (h : RowsT w0 B n u cs k D) (hg : Ge w0 w)
    (hrow : w.ownsRow w0.heap.size 28 2 row n (icells (D k))) (hn : 0 < n) (hB : B ≤ w0.heap.size) (h2 : w'.ownsRow B 31 1 v' (k + 1) (cs ++ [row])) (hm : Mine w w' u)
    (hat : v'.ownBlock = u.ownBlock ∨ ∃ q, v'.ownBlock = some q ∧ w.heap.size ≤ q) : RowsT w' B n v' (cs ++ [row]) (k + 1) D := by
  have hcl : cs.length = k := by have := h.1.1; omega
  obtain ⟨g, cap, rfl⟩ := Go.Joins.ownsRow_form hrow hn
  have hlr := hrow.lt g rfl
  refine ⟨h2, fun i hi => ?_⟩
  by_cases e : i = k
  · subst e
    refine ⟨some ⟨g, 0, none⟩, cap, by rw [List.getElem?_append_right (by omega)]; simp [hcl], ?_, fun q hq e => ?_⟩
    · refine owns_mono (hrow.kept hm ?_) hB
      right
      intro e
      have := (h.1.lt g e.symm).2
      omega
    · have e' : q = g := by simp [Value.ownBlock] at e; exact e.symm
      subst e'
      rcases hat with hat | ⟨k', hk', hle⟩
      · rw [hat] at hq
        have := (h.1.lt q hq).2
        omega
      · rw [hk'] at hq
        have : k' = q := by simpa using hq
        omega
  · obtain ⟨pr, cr, h1, h3, h4⟩ := (h.ge hg).2 i (by omega)
    have hold := (h.2 i (by omega))
    refine ⟨pr, cr, by rw [List.getElem?_append_left (by omega)]; exact h1, ?_, fun q hq e => ?_⟩
    · refine h3.kept hm ?_
      right
      intro e
      cases hu : u.ownBlock with
      | none =>
        rw [hu] at e
        obtain ⟨g', cap', e'⟩ := Go.Joins.ownsRow_form h3 hn
        rw [e'] at e; simp [Value.ownBlock] at e
      | some q => exact h4 q hu (by rw [e, hu])
    · rcases hat with hat | ⟨k', hk', hle⟩
      · rw [hat] at hq
        exact h4 q hq e
      · rw [hk'] at hq
        have e' : k' = q := by simpa using hq
        have := (h3.lt q e).2
        omega
theorem RowsT.rows {w : World} {B n : Nat} {u : Value} {cs : List Value} {D : Nat → List Int} (h : RowsT w B n u cs n D) (hn : 0 < n) : SlRows w u n 2 D := by
  obtain ⟨g, cap, rfl⟩ := Go.Joins.ownsRow_form h.1 hn
  refine ⟨g, 0, cap, rfl, fun i hi => ?_⟩
  obtain ⟨pr, cr, h1, h2, _⟩ := h.2 i hi
  exact ⟨pr, cr, by rw [Nat.zero_add, h.1.cellAt i (by omega), h1], Sl.of_owns h2⟩

end Go.Proofs.Ytipiiimemmkdgaa
