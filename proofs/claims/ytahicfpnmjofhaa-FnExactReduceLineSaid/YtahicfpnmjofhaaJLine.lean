/- ReduceLine of both sides. No condition. ReduceLine of both sides, for all networks. No condition. The law of ReduceLine, walked. No condition. The law FnExactReduceLine returns true for all arguments. No condition. -/
import Derived.Test.YtahicfpnmjofhaaJAll
import Derived.Test.YtahicfpnmjofhaaWFormatNet
import Derived.Test.YtahicfpnmjofhaaWNetArg
import Derived.Test.YtahicfpnmjofhaaRBase
import Derived.Test.YtahicfpnmjofhaaRNet
namespace Go.Proofs.Ytahicfpnmjofhaa
set_option maxRecDepth 100000
open Go.ChangeShapes Go.WideShapes Go.ChangeAt Go.RowKit Go.Joins

set_option maxHeartbeats 1600000 in
theorem iReduceAllF (N E S : Int) (s : Value) (m : Nat) (xs : List Int) (w : World) (hs : SlF w s m 3 xs) (hm : m ≤ 9223372036854775807) (hB : netB N E S m xs = false) :
    Calls Try.prog 14 #[.agg #[.int .i64 N, .int .i64 E, .int .i64 S, s]] w fun r w' => r = .returned (.tuple #[.agg #[.int .i64 0, .int .i64 0, .int .i64 0, .slice none 0 0], .int .i64 0, .bool false]) ∧ Ge w w' := by
  have HV := Lib.hid hs
  have HNo := Lib.hid (fun w' (g : Ge w w') => iNetOk N E S s m xs w' (HV.out.ge g) hm)
  rw [hB] at HNo
  obtain ⟨NB0, R0⟩ := in_res w N E S s
  obtain ⟨p, cap, rfl, _⟩ := hs.open
  clear hs hB
  go_enter Try.func14, Try.ntmps14
  go_wp2_with ((go_at_call 23; ((with_reducible refine (HNo.out _ (by (repeat (first | with_reducible exact Ge.refl _ | assumption | with_reducible refine Ge.drew ?_ | with_reducible refine Ge.drewN ?_ _ | with_reducible refine Ge.alloc ?_ _ | (with_reducible refine Ge.setCell ?_ (by first | (simp; done) | omega | (simp; omega)) _) | with_reducible refine Ge.trans ?_ (by assumption))))).mono ?_); rintro r w1 ⟨rfl, g1⟩)); have gw1 : Ge w w1 := (by (repeat (first | with_reducible exact Ge.refl _ | assumption | with_reducible refine Ge.drew ?_ | with_reducible refine Ge.drewN ?_ _ | with_reducible refine Ge.alloc ?_ _ | (with_reducible refine Ge.setCell ?_ (by first | (simp; done) | omega | (simp; omega)) _) | with_reducible refine Ge.trans ?_ (by assumption)))); have R1 := R0.ge g1; obtain ⟨r0, p0, f0⟩ := R1 0 (by omega); obtain ⟨r1, p1, f1⟩ := R1 1 (by omega); obtain ⟨r2, p2, f2⟩ := R1 2 (by omega); obtain ⟨r3, p3, f3⟩ := R1 3 (by omega))
  exact bodyPost_ret (v := .tuple #[.agg #[.int .i64 0, .int .i64 0, .int .i64 0, .slice none 0 0], .int .i64 0, .bool false]) (by simp [results, Try.results14, go_sem, *]) rfl ⟨rfl, by (repeat (first | with_reducible exact Ge.refl _ | assumption | with_reducible refine Ge.drew ?_ | with_reducible refine Ge.drewN ?_ _ | with_reducible refine Ge.alloc ?_ _ | (with_reducible refine Ge.setCell ?_ (by first | (simp; done) | omega | (simp; omega)) _) | with_reducible refine Ge.trans ?_ (by assumption)))⟩
set_option maxHeartbeats 1600000 in
theorem sReduceAllF (N E S : Int) (s : Value) (m : Nat) (xs : List Int) (w : World) (hs : SlF w s m 3 xs) (hm : m ≤ 9223372036854775807) (hB : netB N E S m xs = false) :
    Calls Try.prog 10 #[.agg #[.int .i64 N, .int .i64 E, .int .i64 S, s]] w fun r w' => r = .returned (.tuple #[.agg #[.int .i64 0, .int .i64 0, .int .i64 0, .slice none 0 0], .int .i64 0, .bool false]) ∧ Ge w w' := by
  have HV := Lib.hid hs
  have HNo := Lib.hid (fun w' (g : Ge w w') => sNetOk N E S s m xs w' (HV.out.ge g) hm)
  rw [hB] at HNo
  obtain ⟨NB0, R0⟩ := in_res w N E S s
  obtain ⟨p, cap, rfl, _⟩ := hs.open
  clear hs hB
  go_enter Try.func10, Try.ntmps10
  go_wp2_with ((go_at_call 18; ((with_reducible refine (HNo.out _ (by (repeat (first | with_reducible exact Ge.refl _ | assumption | with_reducible refine Ge.drew ?_ | with_reducible refine Ge.drewN ?_ _ | with_reducible refine Ge.alloc ?_ _ | (with_reducible refine Ge.setCell ?_ (by first | (simp; done) | omega | (simp; omega)) _) | with_reducible refine Ge.trans ?_ (by assumption))))).mono ?_); rintro r w1 ⟨rfl, g1⟩)); have gw1 : Ge w w1 := (by (repeat (first | with_reducible exact Ge.refl _ | assumption | with_reducible refine Ge.drew ?_ | with_reducible refine Ge.drewN ?_ _ | with_reducible refine Ge.alloc ?_ _ | (with_reducible refine Ge.setCell ?_ (by first | (simp; done) | omega | (simp; omega)) _) | with_reducible refine Ge.trans ?_ (by assumption)))); have R1 := R0.ge g1; obtain ⟨r0, p0, f0⟩ := R1 0 (by omega); obtain ⟨r1, p1, f1⟩ := R1 1 (by omega); obtain ⟨r2, p2, f2⟩ := R1 2 (by omega); obtain ⟨r3, p3, f3⟩ := R1 3 (by omega))
  exact bodyPost_ret (v := .tuple #[.agg #[.int .i64 0, .int .i64 0, .int .i64 0, .slice none 0 0], .int .i64 0, .bool false]) (by simp [results, Try.results10, go_sem, *]) rfl ⟨rfl, by (repeat (first | with_reducible exact Ge.refl _ | assumption | with_reducible refine Ge.drew ?_ | with_reducible refine Ge.drewN ?_ _ | with_reducible refine Ge.alloc ?_ _ | (with_reducible refine Ge.setCell ?_ (by first | (simp; done) | omega | (simp; omega)) _) | with_reducible refine Ge.trans ?_ (by assumption)))⟩

/-- The text of a network that is reduced in k steps. -/
noncomputable def redT (k : Nat) (e : Nat) (y : NwR) : List UInt8 := fmtInt k ++ [32, 115, 116, 101, 112, 115, 32] ++ netTxt y.n e y.s y.l.length (flatW y.l)
open Classical in

/-- What ReduceLine writes. -/
noncomputable def redLine (e : Nat) (x : NwR) : List UInt8 := if h : ∃ q : Nat × NwR, redK e x q.1 = some q.2 ∧ redN e q.2 = none then redT (Classical.choose h).1 e (Classical.choose h).2 else []
theorem redLine_eq {e : Nat} {x y : NwR} {k : Nat} (h1 : redK e x k = some y) (h2 : redN e y = none) : redLine e x = redT k e y := by
  have h : ∃ q : Nat × NwR, redK e x q.1 = some q.2 ∧ redN e q.2 = none := ⟨(k, y), h1, h2⟩
  unfold redLine
  rw [dif_pos h]
  obtain ⟨g1, g2⟩ := Classical.choose_spec h
  obtain ⟨q1, q2⟩ := redK_one g1 g2 h1 h2
  rw [q1, q2]

theorem netTxt_len (N E S : Int) (m : Nat) (xs : List Int) : (netTxt N E S m xs).length ≤ 69 + 69 * m := by
  unfold netTxt
  split
  · exact netPart_le N E S xs m
  · simp
theorem red_txt {e : Nat} {x y : NwR} {k : Nat} (h1 : redK e x k = some y) (h2 : redN e y = none) : bstr (fmtInt k) ++ (⟨#[32, 115, 116, 101, 112, 115, 32]⟩ : ByteArray) ++ bstr (netTxt y.n e y.s y.l.length (flatW y.l)) = bstr (redLine e x) := by
  rw [redLine_eq h1 h2]
  unfold redT
  rw [← bstr_append, ← bstr_append]
  rfl

set_option maxHeartbeats 1600000 in
theorem iReduceLineT (e : Nat) (x : NwR) (s : Value) (w : World) (hs : SlF w s x.l.length 3 (flatW x.l)) (hB : okR e x) :
    Calls Try.prog 7 #[.agg #[.int .i64 (x.n : Int), .int .i64 (e : Int), .int .i64 x.s, s]] w fun r w' => r = .returned (.string (bstr (redLine e x))) ∧ Ge w w' := by
  have HV := Lib.hid hs
  have HA := Lib.hid (fun w' (g : Ge w w') => iReduceAll e x s w' (HV.out.ge g) hB)
  obtain ⟨p, cap, rfl, _⟩ := hs.open
  clear hs hB
  go_enter Try.func7, Try.ntmps7
  go_upto_region 4 with ((go_at_call 14; ((with_reducible refine (HA.out _ (by (repeat (first | with_reducible exact Ge.refl _ | assumption | with_reducible refine Ge.drew ?_ | with_reducible refine Ge.drewN ?_ _ | with_reducible refine Ge.alloc ?_ _ | (with_reducible refine Ge.setCell ?_ (by first | (simp; done) | omega | (simp; omega)) _) | with_reducible refine Ge.trans ?_ (by assumption))))).mono ?_); rintro r w1 ⟨k, y, u, hk, hn, hok, hk5, rfl, o1, g1⟩)); have gw1 : Ge w w1 := (by (repeat (first | with_reducible exact Ge.refl _ | assumption | with_reducible refine Ge.drew ?_ | with_reducible refine Ge.drewN ?_ _ | with_reducible refine Ge.alloc ?_ _ | (with_reducible refine Ge.setCell ?_ (by first | (simp; done) | omega | (simp; omega)) _) | with_reducible refine Ge.trans ?_ (by assumption)))); have HO1 := Lib.hid o1; obtain ⟨pu, cu, rfl⟩ := owns_form o1; clear o1)
  have hl10 : y.l.length ≤ 10 := by obtain ⟨⟨_, q5⟩, _, _, q, _⟩ := netP_of hok; exact prs_len (by omega) q
  have HF := Lib.hid (red_txt hk hn)
  have HFi := Lib.hid (fun w' => iFormatInt (k : Int) w' (by omega) (by omega))
  have HFn := Lib.hid (fun w' (g : Ge w1 w') => iFormatNet y.n e y.s (.slice pu y.l.length cu) y.l.length (flatW y.l) w' (SlF.of_owns (g.owns HO1.out)) (by omega))
  have l1 := fsz (k : Int)
  have l2 : (bstr (netTxt y.n e y.s y.l.length (flatW y.l))).size ≤ 759 := by rw [bstr_size]; have := netTxt_len y.n e y.s y.l.length (flatW y.l); omega
  have z1 : ¬ (9223372036854775807 < (bstr (fmtInt k)).size + 7) := by omega
  have z2 : ¬ (9223372036854775807 < (bstr (fmtInt k)).size + 7 + (bstr (netTxt y.n e y.s y.l.length (flatW y.l))).size) := by omega
  have n0 := cell_drew (cell_new (w := w1) (cs := #[.int .i64 (y.n : Int), .int .i64 (e : Int), .int .i64 y.s, .slice pu y.l.length cu]) (t := 29) (i := 0) rfl rfl)
  have n1 := cell_drew (cell_new (w := w1) (cs := #[.int .i64 (y.n : Int), .int .i64 (e : Int), .int .i64 y.s, .slice pu y.l.length cu]) (t := 29) (i := 1) rfl rfl)
  have n2 := cell_drew (cell_new (w := w1) (cs := #[.int .i64 (y.n : Int), .int .i64 (e : Int), .int .i64 y.s, .slice pu y.l.length cu]) (t := 29) (i := 2) rfl rfl)
  have n3 := cell_drew (cell_new (w := w1) (cs := #[.int .i64 (y.n : Int), .int .i64 (e : Int), .int .i64 y.s, .slice pu y.l.length cu]) (t := 29) (i := 3) rfl rfl)
  have gN : Ge w1 (w1.alloc (.cells #[.int .i64 (y.n : Int), .int .i64 (e : Int), .int .i64 y.s, .slice pu y.l.length cu] 29)).drew := Ge.drew (Ge.alloc (Ge.refl _) _)
  simp only [List.getElem_toArray, List.getElem_cons_zero, List.getElem_cons_succ] at n0 n1 n2 n3
  generalize netTxt y.n e y.s y.l.length (flatW y.l) = TX at *
  generalize fmtInt (k : Int) = TI at *
  clear hk hn hok l1 l2
  refine wp_region_head (S := fun w' => w'.cell? ⟨w1.heap.size, 0, none⟩ = some (.int .i64 (y.n : Int)) ∧ w'.cell? ⟨w1.heap.size, 1, none⟩ = some (.int .i64 (e : Int)) ∧ w'.cell? ⟨w1.heap.size, 2, none⟩ = some (.int .i64 y.s) ∧ w'.cell? ⟨w1.heap.size, 3, none⟩ = some (.slice pu y.l.length cu)) 6 (by kernel_rfl) (by kernel_rfl) (⟨n0, n1, n2, n3⟩) (fun hHeld => ?_)
  refine head_take 0 (v := ?_) rfl (by kernel_rfl) (by kernel_rfl) (fun _ _ _ h => h) (by assumption) (yields_if (by rfl) ?_) ?_
  rotate_left
  focus (intro w' hSw; (try dsimp only at hSw); go_simp; (try with_reducible rfl))
  (try simp only [Act.put, List.setIfInBounds_toArray, List.set_cons_zero, List.set_cons_succ])
  refine head_take 3 (v := ?_) rfl (by kernel_rfl) (by kernel_rfl) (fun _ _ _ h => h) (by assumption) (yields_if (by rfl) ?_) ?_
  rotate_left
  focus (intro w' hSw; (try dsimp only at hSw); go_simp; (try with_reducible rfl))
  (try simp only [Act.put, List.setIfInBounds_toArray, List.set_cons_zero, List.set_cons_succ])
  refine head_one 1 rfl (by kernel_rfl) (fun K hK => ?_)
  go_simp
  (go_at_call 15; ((with_reducible refine (HFi.out _).mono ?_); rintro r w4 ⟨rfl, rfl⟩))
  refine hK.out _ _ ⟨n0, n1, n2, n3⟩ (fun hHeld => ?_)
  clear hK K
  (try simp only [Act.put, List.setIfInBounds_toArray, List.set_cons_zero, List.set_cons_succ])
  refine head_take 2 (v := ?_) rfl (by kernel_rfl) (by kernel_rfl) (fun _ _ _ h => h) (by assumption) (yields_if (by rfl) ?_) ?_
  rotate_left
  focus (intro w' hSw; (try dsimp only at hSw); go_simp; (try with_reducible rfl))
  (try simp only [Act.put, List.setIfInBounds_toArray, List.set_cons_zero, List.set_cons_succ])
  refine head_one 4 rfl (by kernel_rfl) (fun K hK => ?_)
  go_simp
  (go_at_call 16; ((with_reducible refine (HFn.out _ gN).mono ?_); rintro r w5 ⟨rfl, g5⟩))
  refine hK.out _ _ ⟨g5.keep n0, g5.keep n1, g5.keep n2, g5.keep n3⟩ (fun hHeld => ?_)
  clear hK K
  (try simp only [Act.put, List.setIfInBounds_toArray, List.set_cons_zero, List.set_cons_succ])
  refine head_take 5 (v := ?_) rfl (by kernel_rfl) (by kernel_rfl) (fun _ _ _ h => h) (by assumption) (yields_if (by rfl) ?_) ?_
  rotate_left
  focus (intro w' hSw; (try dsimp only at hSw); go_simp; (try with_reducible rfl))
  (try simp only [Act.put, List.setIfInBounds_toArray, List.set_cons_zero, List.set_cons_succ])
  refine head_done (by kernel_rfl) ?_
  have g15 : Ge w1 w5 := Ge.trans gN g5
  go_wp2_with fail
  go_ret
  exact ⟨ret_str HF.out, Ge.trans gw1 g15⟩

set_option maxHeartbeats 1600000 in
theorem sReduceLineT (e : Nat) (x : NwR) (s : Value) (w : World) (hs : SlF w s x.l.length 3 (flatW x.l)) (hB : okR e x) :
    Calls Try.prog 5 #[.agg #[.int .i64 (x.n : Int), .int .i64 (e : Int), .int .i64 x.s, s]] w fun r w' => r = .returned (.string (bstr (redLine e x))) ∧ Ge w w' := by
  have HV := Lib.hid hs
  have HA := Lib.hid (fun w' (g : Ge w w') => sReduceAll e x s w' (HV.out.ge g) hB)
  obtain ⟨p, cap, rfl, _⟩ := hs.open
  clear hs hB
  go_enter Try.func5, Try.ntmps5
  go_upto_region 4 with ((go_at_call 10; ((with_reducible refine (HA.out _ (by (repeat (first | with_reducible exact Ge.refl _ | assumption | with_reducible refine Ge.drew ?_ | with_reducible refine Ge.drewN ?_ _ | with_reducible refine Ge.alloc ?_ _ | (with_reducible refine Ge.setCell ?_ (by first | (simp; done) | omega | (simp; omega)) _) | with_reducible refine Ge.trans ?_ (by assumption))))).mono ?_); rintro r w1 ⟨k, y, u, hk, hn, hok, hk5, rfl, o1, g1⟩)); have gw1 : Ge w w1 := (by (repeat (first | with_reducible exact Ge.refl _ | assumption | with_reducible refine Ge.drew ?_ | with_reducible refine Ge.drewN ?_ _ | with_reducible refine Ge.alloc ?_ _ | (with_reducible refine Ge.setCell ?_ (by first | (simp; done) | omega | (simp; omega)) _) | with_reducible refine Ge.trans ?_ (by assumption)))); have HO1 := Lib.hid o1; obtain ⟨pu, cu, rfl⟩ := owns_form o1; clear o1)
  have hl10 : y.l.length ≤ 10 := by obtain ⟨⟨_, q5⟩, _, _, q, _⟩ := netP_of hok; exact prs_len (by omega) q
  have HF := Lib.hid (red_txt hk hn)
  have HFi := Lib.hid (fun w' => sFormatInt (k : Int) w' (by omega) (by omega))
  have HFn := Lib.hid (fun w' (g : Ge w1 w') => sFormatNet y.n e y.s (.slice pu y.l.length cu) y.l.length (flatW y.l) w' (SlF.of_owns (g.owns HO1.out)) (by omega))
  have l1 := fsz (k : Int)
  have l2 : (bstr (netTxt y.n e y.s y.l.length (flatW y.l))).size ≤ 759 := by rw [bstr_size]; have := netTxt_len y.n e y.s y.l.length (flatW y.l); omega
  have z1 : ¬ (9223372036854775807 < (bstr (fmtInt k)).size + 7) := by omega
  have z2 : ¬ (9223372036854775807 < (bstr (fmtInt k)).size + 7 + (bstr (netTxt y.n e y.s y.l.length (flatW y.l))).size) := by omega
  have n0 := cell_drew (cell_new (w := w1) (cs := #[.int .i64 (y.n : Int), .int .i64 (e : Int), .int .i64 y.s, .slice pu y.l.length cu]) (t := 29) (i := 0) rfl rfl)
  have n1 := cell_drew (cell_new (w := w1) (cs := #[.int .i64 (y.n : Int), .int .i64 (e : Int), .int .i64 y.s, .slice pu y.l.length cu]) (t := 29) (i := 1) rfl rfl)
  have n2 := cell_drew (cell_new (w := w1) (cs := #[.int .i64 (y.n : Int), .int .i64 (e : Int), .int .i64 y.s, .slice pu y.l.length cu]) (t := 29) (i := 2) rfl rfl)
  have n3 := cell_drew (cell_new (w := w1) (cs := #[.int .i64 (y.n : Int), .int .i64 (e : Int), .int .i64 y.s, .slice pu y.l.length cu]) (t := 29) (i := 3) rfl rfl)
  have gN : Ge w1 (w1.alloc (.cells #[.int .i64 (y.n : Int), .int .i64 (e : Int), .int .i64 y.s, .slice pu y.l.length cu] 29)).drew := Ge.drew (Ge.alloc (Ge.refl _) _)
  simp only [List.getElem_toArray, List.getElem_cons_zero, List.getElem_cons_succ] at n0 n1 n2 n3
  generalize netTxt y.n e y.s y.l.length (flatW y.l) = TX at *
  generalize fmtInt (k : Int) = TI at *
  clear hk hn hok l1 l2
  refine wp_region_head (S := fun w' => w'.cell? ⟨w1.heap.size, 0, none⟩ = some (.int .i64 (y.n : Int)) ∧ w'.cell? ⟨w1.heap.size, 1, none⟩ = some (.int .i64 (e : Int)) ∧ w'.cell? ⟨w1.heap.size, 2, none⟩ = some (.int .i64 y.s) ∧ w'.cell? ⟨w1.heap.size, 3, none⟩ = some (.slice pu y.l.length cu)) 6 (by kernel_rfl) (by kernel_rfl) (⟨n0, n1, n2, n3⟩) (fun hHeld => ?_)
  refine head_take 0 (v := ?_) rfl (by kernel_rfl) (by kernel_rfl) (fun _ _ _ h => h) (by assumption) (yields_if (by rfl) ?_) ?_
  rotate_left
  focus (intro w' hSw; (try dsimp only at hSw); go_simp; (try with_reducible rfl))
  (try simp only [Act.put, List.setIfInBounds_toArray, List.set_cons_zero, List.set_cons_succ])
  refine head_take 3 (v := ?_) rfl (by kernel_rfl) (by kernel_rfl) (fun _ _ _ h => h) (by assumption) (yields_if (by rfl) ?_) ?_
  rotate_left
  focus (intro w' hSw; (try dsimp only at hSw); go_simp; (try with_reducible rfl))
  (try simp only [Act.put, List.setIfInBounds_toArray, List.set_cons_zero, List.set_cons_succ])
  refine head_one 1 rfl (by kernel_rfl) (fun K hK => ?_)
  go_simp
  (go_at_call 11; ((with_reducible refine (HFi.out _).mono ?_); rintro r w4 ⟨rfl, gf⟩))
  refine hK.out _ _ ⟨gf.keep n0, gf.keep n1, gf.keep n2, gf.keep n3⟩ (fun hHeld => ?_)
  clear hK K
  (try simp only [Act.put, List.setIfInBounds_toArray, List.set_cons_zero, List.set_cons_succ])
  refine head_take 2 (v := ?_) rfl (by kernel_rfl) (by kernel_rfl) (fun _ _ _ h => h) (by assumption) (yields_if (by rfl) ?_) ?_
  rotate_left
  focus (intro w' hSw; (try dsimp only at hSw); go_simp; (try with_reducible rfl))
  (try simp only [Act.put, List.setIfInBounds_toArray, List.set_cons_zero, List.set_cons_succ])
  refine head_one 4 rfl (by kernel_rfl) (fun K hK => ?_)
  go_simp
  (go_at_call 12; ((with_reducible refine (HFn.out _ (Ge.trans gN gf)).mono ?_); rintro r w5 ⟨rfl, g5⟩))
  refine hK.out _ _ ⟨g5.keep (gf.keep n0), g5.keep (gf.keep n1), g5.keep (gf.keep n2), g5.keep (gf.keep n3)⟩ (fun hHeld => ?_)
  clear hK K
  (try simp only [Act.put, List.setIfInBounds_toArray, List.set_cons_zero, List.set_cons_succ])
  refine head_take 5 (v := ?_) rfl (by kernel_rfl) (by kernel_rfl) (fun _ _ _ h => h) (by assumption) (yields_if (by rfl) ?_) ?_
  rotate_left
  focus (intro w' hSw; (try dsimp only at hSw); go_simp; (try with_reducible rfl))
  (try simp only [Act.put, List.setIfInBounds_toArray, List.set_cons_zero, List.set_cons_succ])
  refine head_done (by kernel_rfl) ?_
  have g15 : Ge w1 w5 := Ge.trans (Ge.trans gN gf) g5
  go_wp2_with fail
  go_ret
  exact ⟨ret_str HF.out, Ge.trans gw1 g15⟩

end Go.Proofs.Ytahicfpnmjofhaa

namespace Go.Proofs.Ytahicfpnmjofhaa
set_option maxRecDepth 100000
open Go.ChangeShapes Go.WideShapes Go.ChangeAt Go.RowKit Go.Joins

/-- The wires of a flat list. -/
def wiresX (xs : List Int) (m : Nat) : List Wr := (List.range m).map fun k => ⟨wa xs k, wb xs k, ww xs k⟩
theorem wiresX_len (xs : List Int) (m : Nat) : (wiresX xs m).length = m := by simp [wiresX]
theorem wiresX_flat {xs : List Int} {m : Nat} (h : xs.length = m * 3) : flatW (wiresX xs m) = xs := by
  refine same_rows (n := m) (m := 3) (by rw [flatW_length, wiresX_len]) h (fun j hj i hi => ?_)
  obtain ⟨f1, f2, f3⟩ := flatW_get (wiresX xs m) j (by rw [wiresX_len]; exact hj)
  have hn : nthW (wiresX xs m) j = ⟨wa xs j, wb xs j, ww xs j⟩ := by
    rw [nthW_eq _ j (by rw [wiresX_len]; exact hj)]
    simp [wiresX]
  rw [hn] at f1 f2 f3
  have : i = 0 ∨ i = 1 ∨ i = 2 := by omega
  rcases this with rfl | rfl | rfl
  · exact f1
  · exact f2
  · exact f3
/-- What ReduceLine writes. -/
noncomputable def reduceTxt (N E S : Int) (m : Nat) (xs : List Int) : List UInt8 := if netB N E S m xs = true then redLine E.toNat ⟨N.toNat, S, wiresX xs m⟩ else []

set_option maxHeartbeats 1600000 in
theorem iReduceLine (N E S : Int) (s : Value) (m : Nat) (xs : List Int) (w : World) (hs : SlF w s m 3 xs) (hm : m ≤ 9223372036854775807) :
    Calls Try.prog 7 #[.agg #[.int .i64 N, .int .i64 E, .int .i64 S, s]] w fun e w' => e = .returned (.string (bstr (reduceTxt N E S m xs))) ∧ Ge w w' := by
  by_cases hB : netB N E S m xs = true
  · obtain ⟨⟨h1, _⟩, ⟨e1, _⟩, _⟩ := netP_of hB
    obtain ⟨n, rfl⟩ : ∃ n : Nat, N = n := ⟨N.toNat, by omega⟩
    obtain ⟨e, rfl⟩ : ∃ e : Nat, E = e := ⟨E.toNat, by omega⟩
    have hf := wiresX_flat hs.length
    have hl := wiresX_len xs m
    have key := iReduceLineT e ⟨n, S, wiresX xs m⟩ s w (by show SlF w s (wiresX xs m).length 3 (flatW (wiresX xs m)); rw [hf, hl]; exact hs) (by show netB n e S (wiresX xs m).length (flatW (wiresX xs m)) = true; rw [hf, hl]; exact hB)
    unfold reduceTxt
    rw [if_pos hB]
    exact key
  · have hB' : netB N E S m xs = false := by simpa using hB
    have HT : Hid ((⟨#[]⟩ : ByteArray) = bstr (reduceTxt N E S m xs)) := by show _ = _; unfold reduceTxt; rw [if_neg hB]; rfl
    have HV := Lib.hid hs
    have HA := Lib.hid (fun w' (g : Ge w w') => iReduceAllF N E S s m xs w' (HV.out.ge g) hm hB')
    obtain ⟨p, cap, rfl, _⟩ := hs.open
    clear hs hB hB'
    go_enter Try.func7, Try.ntmps7
    go_wp2_with ((go_at_call 14; ((with_reducible refine (HA.out _ (by (repeat (first | with_reducible exact Ge.refl _ | assumption | with_reducible refine Ge.drew ?_ | with_reducible refine Ge.drewN ?_ _ | with_reducible refine Ge.alloc ?_ _ | (with_reducible refine Ge.setCell ?_ (by first | (simp; done) | omega | (simp; omega)) _) | with_reducible refine Ge.trans ?_ (by assumption))))).mono ?_); rintro r w1 ⟨rfl, g1⟩)))
    go_ret
    exact ⟨ret_str HT.out, by (repeat (first | with_reducible exact Ge.refl _ | assumption | with_reducible refine Ge.drew ?_ | with_reducible refine Ge.drewN ?_ _ | with_reducible refine Ge.alloc ?_ _ | (with_reducible refine Ge.setCell ?_ (by first | (simp; done) | omega | (simp; omega)) _) | with_reducible refine Ge.trans ?_ (by assumption)))⟩
set_option maxHeartbeats 1600000 in
theorem sReduceLine (N E S : Int) (s : Value) (m : Nat) (xs : List Int) (w : World) (hs : SlF w s m 3 xs) (hm : m ≤ 9223372036854775807) :
    Calls Try.prog 5 #[.agg #[.int .i64 N, .int .i64 E, .int .i64 S, s]] w fun e w' => e = .returned (.string (bstr (reduceTxt N E S m xs))) ∧ Ge w w' := by
  by_cases hB : netB N E S m xs = true
  · obtain ⟨⟨h1, _⟩, ⟨e1, _⟩, _⟩ := netP_of hB
    obtain ⟨n, rfl⟩ : ∃ n : Nat, N = n := ⟨N.toNat, by omega⟩
    obtain ⟨e, rfl⟩ : ∃ e : Nat, E = e := ⟨E.toNat, by omega⟩
    have hf := wiresX_flat hs.length
    have hl := wiresX_len xs m
    have key := sReduceLineT e ⟨n, S, wiresX xs m⟩ s w (by show SlF w s (wiresX xs m).length 3 (flatW (wiresX xs m)); rw [hf, hl]; exact hs) (by show netB n e S (wiresX xs m).length (flatW (wiresX xs m)) = true; rw [hf, hl]; exact hB)
    unfold reduceTxt
    rw [if_pos hB]
    exact key
  · have hB' : netB N E S m xs = false := by simpa using hB
    have HT : Hid ((⟨#[]⟩ : ByteArray) = bstr (reduceTxt N E S m xs)) := by show _ = _; unfold reduceTxt; rw [if_neg hB]; rfl
    have HV := Lib.hid hs
    have HA := Lib.hid (fun w' (g : Ge w w') => sReduceAllF N E S s m xs w' (HV.out.ge g) hm hB')
    obtain ⟨p, cap, rfl, _⟩ := hs.open
    clear hs hB hB'
    go_enter Try.func5, Try.ntmps5
    go_wp2_with ((go_at_call 10; ((with_reducible refine (HA.out _ (by (repeat (first | with_reducible exact Ge.refl _ | assumption | with_reducible refine Ge.drew ?_ | with_reducible refine Ge.drewN ?_ _ | with_reducible refine Ge.alloc ?_ _ | (with_reducible refine Ge.setCell ?_ (by first | (simp; done) | omega | (simp; omega)) _) | with_reducible refine Ge.trans ?_ (by assumption))))).mono ?_); rintro r w1 ⟨rfl, g1⟩)))
    go_ret
    exact ⟨ret_str HT.out, by (repeat (first | with_reducible exact Ge.refl _ | assumption | with_reducible refine Ge.drew ?_ | with_reducible refine Ge.drewN ?_ _ | with_reducible refine Ge.alloc ?_ _ | (with_reducible refine Ge.setCell ?_ (by first | (simp; done) | omega | (simp; omega)) _) | with_reducible refine Ge.trans ?_ (by assumption)))⟩
end Go.Proofs.Ytahicfpnmjofhaa

namespace Go.Proofs.Ytahicfpnmjofhaa
set_option maxRecDepth 100000
open Go.ChangeShapes Go.WideShapes Go.ChangeAt Go.RowKit Go.Joins

set_option maxHeartbeats 1600000 in
theorem lFnExactReduceLine (N E S : Int) (p : Option Addr) (m cap : Nat) (xs : List Int) (w : World) (hv : SlF w (.slice p m cap) m 3 xs) (hm : m ≤ 9223372036854775807) :
    Calls Try.prog 3 #[.agg #[.int .i64 N, .int .i64 E, .int .i64 S, .slice p m cap]] w fun e w' => e = .returned (.bool true) ∧ Ge w w' := by
  by_cases hbig : 1048576 < m
  · clear hv
    have hz : ∀ w0, Calls Try.prog 4 #[.agg #[.int .i64 N, .int .i64 E, .int .i64 S, .slice p m cap], .int .i64 1048576] w0 fun e w' => e = .returned (.int .i64 (-1)) ∧ Ge w0 w' := fun w0 => by
      have := lSzNet N E S p m cap 1048576 w0 hm (by decide) (by decide)
      rwa [if_pos (by omega)] at this
    have HZ := Lib.hid hz
    clear hz
    go_enter Try.func3, Try.ntmps3
    go_wp2_with (go_at_call 4; ((with_reducible refine (HZ.out _).mono ?_); rintro e w' ⟨rfl, hb⟩))
    go_ret
    exact ⟨rfl, by (repeat (first | with_reducible exact Ge.refl _ | assumption | with_reducible refine Ge.drew ?_ | with_reducible refine Ge.drewN ?_ _ | with_reducible refine Ge.alloc ?_ _ | (with_reducible refine Ge.setCell ?_ (by first | (simp; done) | omega | (simp; omega)) _) | with_reducible refine Ge.trans ?_ (by assumption)))⟩
  have hle : m ≤ 1048576 := by omega
  have HV := Lib.hid hv
  have HLe := Lib.hid hle
  have hz : ∀ w0, Calls Try.prog 4 #[.agg #[.int .i64 N, .int .i64 E, .int .i64 S, .slice p m cap], .int .i64 1048576] w0 fun e w' => e = .returned (.int .i64 (1048576 - m)) ∧ Ge w0 w' := fun w0 => by
    have := lSzNet N E S p m cap 1048576 w0 hm (by decide) (by decide)
    rwa [if_neg (by omega)] at this
  have HZ := Lib.hid hz
  have z2 : ¬ (1048576 - (m : Int) < 0) := by omega
  have hsm2 : m ≤ 4611686018427387904 := by omega
  have HSm := Lib.hid hsm2
  have HM := Lib.hid hm
  clear hv hle hsm2 hz hm
  go_enter Try.func3, Try.ntmps3
  go_wp2_with ((go_at_call 4; ((with_reducible refine (HZ.out _).mono ?_); rintro e w0 ⟨rfl, g0⟩)); have A0 := Ge.keep g0 (a := ⟨w.heap.size, 0, none⟩) (v := .int .i64 N) (by simp); have A1 := Ge.keep g0 (a := ⟨w.heap.size, 1, none⟩) (v := .int .i64 E) (by simp); have A2 := Ge.keep g0 (a := ⟨w.heap.size, 2, none⟩) (v := .int .i64 S) (by simp); have A3 := Ge.keep g0 (a := ⟨w.heap.size, 3, none⟩) (v := .slice p m cap) (by simp); have G0 := Ge.trans (Ge.alloc (Ge.refl w) _) g0)
  go_wp2_with ((go_at_call 6; ((with_reducible refine (lToNet _ _ _ _ m xs _ (HV.out.ge G0) HLe.out).mono ?_); rintro e w1 ⟨s1, rfl, o1, g1⟩)); have A0 := Ge.keep g1 A0; have A1 := Ge.keep g1 A1; have A2 := Ge.keep g1 A2; have A3 := Ge.keep g1 A3; have G1 := Ge.trans G0 g1; obtain ⟨p1, c1, rfl⟩ := owns_form o1)
  go_wp2_with ((go_at_call 5; ((with_reducible refine (sReduceLine N E S _ m xs _ (SlF.of_owns o1) HM.out).mono ?_); rintro e w2 ⟨rfl, g2⟩)); have A0 := Ge.keep g2 A0; have A1 := Ge.keep g2 A1; have A2 := Ge.keep g2 A2; have A3 := Ge.keep g2 A3; have G2 := Ge.trans G1 g2)
  go_wp2_with ((go_at_call 6; ((with_reducible refine (lToNet _ _ _ _ m xs _ (HV.out.ge G2) HLe.out).mono ?_); rintro e w3 ⟨s3, rfl, o3, g3⟩)); have A0 := Ge.keep g3 A0; have A1 := Ge.keep g3 A1; have A2 := Ge.keep g3 A2; have A3 := Ge.keep g3 A3; have G3 := Ge.trans G2 g3; obtain ⟨p3, c3, rfl⟩ := owns_form o3)
  have zw3 := G3.size
  have zA := World.block_lt_of_cell? _ _ A0
  simp at zA
  go_wp2_with ((go_at_call 7; ((with_reducible refine (iReduceLine N E S _ m xs _ (SlF.ge (SlF.of_owns o3) (Ge.alloc (Ge.refl _) _)) HM.out).mono ?_); rintro e w4 ⟨rfl, g4⟩)); have G34 := Ge.trans (Ge.alloc (Ge.refl w3) _) g4; have B0 := Ge.keep g4 (a := ⟨w3.heap.size, 0, none⟩) (v := .int .i64 N) (by simp); have B1 := Ge.keep g4 (a := ⟨w3.heap.size, 1, none⟩) (v := .int .i64 E) (by simp); have B2 := Ge.keep g4 (a := ⟨w3.heap.size, 2, none⟩) (v := .int .i64 S) (by simp); have B3 := Ge.keep g4 (a := ⟨w3.heap.size, 3, none⟩) (v := .slice p3 m c3) (by simp); have A0 := Ge.keep G34 A0; have A1 := Ge.keep G34 A1; have A2 := Ge.keep G34 A2; have A3 := Ge.keep G34 A3)
  have G4 : Ge w w4 := Ge.trans G3 G34
  have o4 := Ge.owns G34 o3
  have HT := Lib.hid (fun w' (g : Ge w4 w') => lToNet N E S (.slice p m cap) m xs w' (HV.out.ge (Ge.trans G4 g)) HLe.out)
  have HQ := Lib.hid (fun s6 w' (g : Ge w4 w') (o6 : SlF w' s6 m 3 xs) => lEqNetA N E S (.slice p3 m c3) s6 m xs w' ((SlF.of_owns o4).ge g) o6 HSm.out)
  have hS : ∀ w', Ge w4 w' → (w'.cell? ⟨w.heap.size, 0, none⟩ = some (.int .i64 N) ∧ w'.cell? ⟨w.heap.size, 1, none⟩ = some (.int .i64 E) ∧ w'.cell? ⟨w.heap.size, 2, none⟩ = some (.int .i64 S) ∧ w'.cell? ⟨w.heap.size, 3, none⟩ = some (.slice p m cap) ∧ w'.cell? ⟨w3.heap.size, 0, none⟩ = some (.int .i64 N) ∧ w'.cell? ⟨w3.heap.size, 1, none⟩ = some (.int .i64 E) ∧ w'.cell? ⟨w3.heap.size, 2, none⟩ = some (.int .i64 S) ∧ w'.cell? ⟨w3.heap.size, 3, none⟩ = some (.slice p3 m c3) ∧ Ge w4 w') := fun w' g => ⟨g.keep (by (repeat (first | assumption | with_reducible exact Ge.refl _ | with_reducible refine cv_drew ?_ | with_reducible refine cv_alloc ?_ | with_reducible refine cv_set ?_ | (with_reducible apply cv_some; assumption) | with_reducible refine cell_drew ?_ | with_reducible refine cell_drewN ?_ | ((with_reducible refine cell_new ?_ ?_); (focus (simp; done)); rfl) | with_reducible refine cell_alloc ?_ | with_reducible refine cell_same2 ?_ | ((with_reducible refine cell_set2 ?_ ?_); focus (first | (simp; done) | (intro hE; simp at hE; done) | (intro hE; simp at hE; omega))) | with_reducible refine Ge.drew ?_ | with_reducible refine Ge.drewN ?_ _ | with_reducible refine Ge.alloc ?_ _ | ((with_reducible refine Ge.setCell ?_ ?_ _); rotate_left; focus (first | (simp; done) | omega | (simp; omega))) | with_reducible refine Ge.trans ?_ (by assumption) | with_reducible refine Ge.keep (by assumption) ?_))), g.keep (by (repeat (first | assumption | with_reducible exact Ge.refl _ | with_reducible refine cv_drew ?_ | with_reducible refine cv_alloc ?_ | with_reducible refine cv_set ?_ | (with_reducible apply cv_some; assumption) | with_reducible refine cell_drew ?_ | with_reducible refine cell_drewN ?_ | ((with_reducible refine cell_new ?_ ?_); (focus (simp; done)); rfl) | with_reducible refine cell_alloc ?_ | with_reducible refine cell_same2 ?_ | ((with_reducible refine cell_set2 ?_ ?_); focus (first | (simp; done) | (intro hE; simp at hE; done) | (intro hE; simp at hE; omega))) | with_reducible refine Ge.drew ?_ | with_reducible refine Ge.drewN ?_ _ | with_reducible refine Ge.alloc ?_ _ | ((with_reducible refine Ge.setCell ?_ ?_ _); rotate_left; focus (first | (simp; done) | omega | (simp; omega))) | with_reducible refine Ge.trans ?_ (by assumption) | with_reducible refine Ge.keep (by assumption) ?_))), g.keep (by (repeat (first | assumption | with_reducible exact Ge.refl _ | with_reducible refine cv_drew ?_ | with_reducible refine cv_alloc ?_ | with_reducible refine cv_set ?_ | (with_reducible apply cv_some; assumption) | with_reducible refine cell_drew ?_ | with_reducible refine cell_drewN ?_ | ((with_reducible refine cell_new ?_ ?_); (focus (simp; done)); rfl) | with_reducible refine cell_alloc ?_ | with_reducible refine cell_same2 ?_ | ((with_reducible refine cell_set2 ?_ ?_); focus (first | (simp; done) | (intro hE; simp at hE; done) | (intro hE; simp at hE; omega))) | with_reducible refine Ge.drew ?_ | with_reducible refine Ge.drewN ?_ _ | with_reducible refine Ge.alloc ?_ _ | ((with_reducible refine Ge.setCell ?_ ?_ _); rotate_left; focus (first | (simp; done) | omega | (simp; omega))) | with_reducible refine Ge.trans ?_ (by assumption) | with_reducible refine Ge.keep (by assumption) ?_))), g.keep (by (repeat (first | assumption | with_reducible exact Ge.refl _ | with_reducible refine cv_drew ?_ | with_reducible refine cv_alloc ?_ | with_reducible refine cv_set ?_ | (with_reducible apply cv_some; assumption) | with_reducible refine cell_drew ?_ | with_reducible refine cell_drewN ?_ | ((with_reducible refine cell_new ?_ ?_); (focus (simp; done)); rfl) | with_reducible refine cell_alloc ?_ | with_reducible refine cell_same2 ?_ | ((with_reducible refine cell_set2 ?_ ?_); focus (first | (simp; done) | (intro hE; simp at hE; done) | (intro hE; simp at hE; omega))) | with_reducible refine Ge.drew ?_ | with_reducible refine Ge.drewN ?_ _ | with_reducible refine Ge.alloc ?_ _ | ((with_reducible refine Ge.setCell ?_ ?_ _); rotate_left; focus (first | (simp; done) | omega | (simp; omega))) | with_reducible refine Ge.trans ?_ (by assumption) | with_reducible refine Ge.keep (by assumption) ?_))), g.keep (by (repeat (first | assumption | with_reducible exact Ge.refl _ | with_reducible refine cv_drew ?_ | with_reducible refine cv_alloc ?_ | with_reducible refine cv_set ?_ | (with_reducible apply cv_some; assumption) | with_reducible refine cell_drew ?_ | with_reducible refine cell_drewN ?_ | ((with_reducible refine cell_new ?_ ?_); (focus (simp; done)); rfl) | with_reducible refine cell_alloc ?_ | with_reducible refine cell_same2 ?_ | ((with_reducible refine cell_set2 ?_ ?_); focus (first | (simp; done) | (intro hE; simp at hE; done) | (intro hE; simp at hE; omega))) | with_reducible refine Ge.drew ?_ | with_reducible refine Ge.drewN ?_ _ | with_reducible refine Ge.alloc ?_ _ | ((with_reducible refine Ge.setCell ?_ ?_ _); rotate_left; focus (first | (simp; done) | omega | (simp; omega))) | with_reducible refine Ge.trans ?_ (by assumption) | with_reducible refine Ge.keep (by assumption) ?_))), g.keep (by (repeat (first | assumption | with_reducible exact Ge.refl _ | with_reducible refine cv_drew ?_ | with_reducible refine cv_alloc ?_ | with_reducible refine cv_set ?_ | (with_reducible apply cv_some; assumption) | with_reducible refine cell_drew ?_ | with_reducible refine cell_drewN ?_ | ((with_reducible refine cell_new ?_ ?_); (focus (simp; done)); rfl) | with_reducible refine cell_alloc ?_ | with_reducible refine cell_same2 ?_ | ((with_reducible refine cell_set2 ?_ ?_); focus (first | (simp; done) | (intro hE; simp at hE; done) | (intro hE; simp at hE; omega))) | with_reducible refine Ge.drew ?_ | with_reducible refine Ge.drewN ?_ _ | with_reducible refine Ge.alloc ?_ _ | ((with_reducible refine Ge.setCell ?_ ?_ _); rotate_left; focus (first | (simp; done) | omega | (simp; omega))) | with_reducible refine Ge.trans ?_ (by assumption) | with_reducible refine Ge.keep (by assumption) ?_))), g.keep (by (repeat (first | assumption | with_reducible exact Ge.refl _ | with_reducible refine cv_drew ?_ | with_reducible refine cv_alloc ?_ | with_reducible refine cv_set ?_ | (with_reducible apply cv_some; assumption) | with_reducible refine cell_drew ?_ | with_reducible refine cell_drewN ?_ | ((with_reducible refine cell_new ?_ ?_); (focus (simp; done)); rfl) | with_reducible refine cell_alloc ?_ | with_reducible refine cell_same2 ?_ | ((with_reducible refine cell_set2 ?_ ?_); focus (first | (simp; done) | (intro hE; simp at hE; done) | (intro hE; simp at hE; omega))) | with_reducible refine Ge.drew ?_ | with_reducible refine Ge.drewN ?_ _ | with_reducible refine Ge.alloc ?_ _ | ((with_reducible refine Ge.setCell ?_ ?_ _); rotate_left; focus (first | (simp; done) | omega | (simp; omega))) | with_reducible refine Ge.trans ?_ (by assumption) | with_reducible refine Ge.keep (by assumption) ?_))), g.keep (by (repeat (first | assumption | with_reducible exact Ge.refl _ | with_reducible refine cv_drew ?_ | with_reducible refine cv_alloc ?_ | with_reducible refine cv_set ?_ | (with_reducible apply cv_some; assumption) | with_reducible refine cell_drew ?_ | with_reducible refine cell_drewN ?_ | ((with_reducible refine cell_new ?_ ?_); (focus (simp; done)); rfl) | with_reducible refine cell_alloc ?_ | with_reducible refine cell_same2 ?_ | ((with_reducible refine cell_set2 ?_ ?_); focus (first | (simp; done) | (intro hE; simp at hE; done) | (intro hE; simp at hE; omega))) | with_reducible refine Ge.drew ?_ | with_reducible refine Ge.drewN ?_ _ | with_reducible refine Ge.alloc ?_ _ | ((with_reducible refine Ge.setCell ?_ ?_ _); rotate_left; focus (first | (simp; done) | omega | (simp; omega))) | with_reducible refine Ge.trans ?_ (by assumption) | with_reducible refine Ge.keep (by assumption) ?_))), Ge.trans (by (repeat (first | assumption | with_reducible exact Ge.refl _ | with_reducible refine cv_drew ?_ | with_reducible refine cv_alloc ?_ | with_reducible refine cv_set ?_ | (with_reducible apply cv_some; assumption) | with_reducible refine cell_drew ?_ | with_reducible refine cell_drewN ?_ | ((with_reducible refine cell_new ?_ ?_); (focus (simp; done)); rfl) | with_reducible refine cell_alloc ?_ | with_reducible refine cell_same2 ?_ | ((with_reducible refine cell_set2 ?_ ?_); focus (first | (simp; done) | (intro hE; simp at hE; done) | (intro hE; simp at hE; omega))) | with_reducible refine Ge.drew ?_ | with_reducible refine Ge.drewN ?_ _ | with_reducible refine Ge.alloc ?_ _ | ((with_reducible refine Ge.setCell ?_ ?_ _); rotate_left; focus (first | (simp; done) | omega | (simp; omega))) | with_reducible refine Ge.trans ?_ (by assumption) | with_reducible refine Ge.keep (by assumption) ?_))) g⟩
  go_region_held3 (fun w' => w'.cell? ⟨w.heap.size, 0, none⟩ = some (.int .i64 N) ∧ w'.cell? ⟨w.heap.size, 1, none⟩ = some (.int .i64 E) ∧ w'.cell? ⟨w.heap.size, 2, none⟩ = some (.int .i64 S) ∧ w'.cell? ⟨w.heap.size, 3, none⟩ = some (.slice p m cap) ∧ w'.cell? ⟨w3.heap.size, 0, none⟩ = some (.int .i64 N) ∧ w'.cell? ⟨w3.heap.size, 1, none⟩ = some (.int .i64 E) ∧ w'.cell? ⟨w3.heap.size, 2, none⟩ = some (.int .i64 S) ∧ w'.cell? ⟨w3.heap.size, 3, none⟩ = some (.slice p3 m c3) ∧ Ge w4 w') (first | ((with_reducible refine hS _ ?_); (repeat (first | assumption | with_reducible exact Ge.refl _ | with_reducible refine cv_drew ?_ | with_reducible refine cv_alloc ?_ | with_reducible refine cv_set ?_ | (with_reducible apply cv_some; assumption) | with_reducible refine cell_drew ?_ | with_reducible refine cell_drewN ?_ | ((with_reducible refine cell_new ?_ ?_); (focus (simp; done)); rfl) | with_reducible refine cell_alloc ?_ | with_reducible refine cell_same2 ?_ | ((with_reducible refine cell_set2 ?_ ?_); focus (first | (simp; done) | (intro hE; simp at hE; done) | (intro hE; simp at hE; omega))) | with_reducible refine Ge.drew ?_ | with_reducible refine Ge.drewN ?_ _ | with_reducible refine Ge.alloc ?_ _ | ((with_reducible refine Ge.setCell ?_ ?_ _); rotate_left; focus (first | (simp; done) | omega | (simp; omega))) | with_reducible refine Ge.trans ?_ (by assumption) | with_reducible refine Ge.keep (by assumption) ?_)); done) | fail) (first | (go_at_call 6; ((with_reducible refine (HT.out _ (‹_ ∧ _ ∧ _ ∧ _ ∧ _ ∧ _ ∧ _ ∧ _ ∧ Ge w4 _›.2.2.2.2.2.2.2.2)).mono ?_); rintro e w6 ⟨s6, rfl, o6, hb⟩); obtain ⟨p6, c6, rfl⟩ := owns_form o6; have hz := Ge.size hb; (try simp at hz)) | (go_at_call 8; ((with_reducible refine (HQ.out _ _ (‹_ ∧ _ ∧ _ ∧ _ ∧ _ ∧ _ ∧ _ ∧ _ ∧ Ge w4 _›.2.2.2.2.2.2.2.2) (by first | exact SlF.of_owns o6 | exact SlF.ge (SlF.of_owns o6) (Ge.drew (Ge.refl _)))).mono ?_); rintro e w7 ⟨rfl, hb⟩); have hz := Ge.size hb; (try simp at hz)) | fail)
  rename_i hHeldX
  obtain ⟨q0, q1, q2, q3, q4, q5, q6, q7, G7⟩ := hHeldX
  clear hS
  go_wp2_with fail
  go_ret
  exact ⟨rfl, by (repeat (first | with_reducible exact Ge.refl _ | assumption | with_reducible refine Ge.drew ?_ | with_reducible refine Ge.drewN ?_ _ | with_reducible refine Ge.alloc ?_ _ | (with_reducible refine Ge.setCell ?_ (by first | (simp; done) | omega | (simp; omega)) _) | with_reducible refine Ge.trans ?_ (by assumption)))⟩
end Go.Proofs.Ytahicfpnmjofhaa

namespace Go.Proofs.Ytahicfpnmjofhaa

open Go.ChangeShapes Go.WideShapes Go.ChangeAt Go.RowKit Go.Joins

theorem fnExactReduceLine_cells_net : Try.prog.cellsOf 24 = 4 := by kernel_rfl
theorem fnExactReduceLine_cells_wire : Try.prog.cellsOf 47 = 3 := by kernel_rfl

set_option maxRecDepth 100000 in
theorem fnExactReduceLine_lifted (os : Os) (started : os.Started) (H : Type) (enc : TypeId × Value → H) :
    ReturnsInHanded {} Try.checked os 3 .any (Rows.fnExactReduceLineSpec.pre6 enc Try.prog Try.f3 Rows.fnExactReduceLineRow.domain false) (Rows.fnExactReduceLineSpec.post enc Try.prog Try.f3 false true false false) := by
  refine returnsInHanded_of_change (C := Try.checked) own_knob started (by kernel_rfl) Try.func3
    (ChangeSpec.witness6 (enc := enc) (C := Try.checked) false ⟨#[], #[.agg #[.int .i64 0, .int .i64 0, .int .i64 0, .slice none 0 0]], []⟩ 8 (by kernel_rfl) (by kernel_rfl) (by kernel_rfl) (by kernel_rfl)) ?_
  intro W base args ds gs before hval0 hW hcnd _
  have hval : ∀ (j : Nat) t v, Try.f3.params[j]? = some t → args[j]? = some v → Value.okWide Try.prog W .any base t v := hval0
  have hW' := hW
  obtain ⟨p, q, hA0, hV, rfl, hfz, hnd⟩ := hW
  have hA : DataW.TrodAll enc Try.prog W 0 (fun _ => true) true Try.f3.params.toList args.toList ds p := hA0
  rw [Try.params3] at hA hval
  obtain ⟨v0, d0, rfl, rfl, h0⟩ := trodAll_one hA
  obtain ⟨rfl, rfl⟩ := trodVars_none hV
  obtain ⟨Nn, En, Sn, pn, nn, cn, ln, rfl, sn, mn, bn, hcn, iNn, iEn, iSn⟩ := arg_net Try.underlying24 (by kernel_rfl) fnExactReduceLine_cells_net Try.underlying3 Try.underlying3 Try.underlying3 rfl Try.underlying22 Try.underlying47 (by kernel_rfl) fnExactReduceLine_cells_wire Try.underlying3 Try.underlying3 Try.underlying3 (hval 0 24 v0 rfl rfl) h0
  clear hA0 hval0
  exact (lFnExactReduceLine Nn En Sn pn nn cn ln W sn mn).mono fun e W' ⟨he, hg⟩ =>
    law_done (B := 4) he laid_out (by kernel_rfl) Try.underlying4 (by kernel_rfl) hW' rfl rfl hg

theorem fnExactReduceLine_holds : Rows.FnExactReduceLineSaid :=
  OpenClaim.holds_of_wide 3 Try.f3 rfl rfl rfl rfl rfl rfl rfl ⟨rfl, rfl, rfl, rfl, rfl⟩ rfl rfl rfl rfl rfl (by kernel_rfl) Try.func3 (by kernel_rfl)
    (of_decide_eq_true (by kernel_rfl)) (by unfold Func.isWrapper; first | (rw [if_pos (by decide +kernel)]; kernel_rfl) | (rw [if_neg (by decide +kernel)]; exact ⟨rfl, rfl⟩))
    (fun os started H enc _ => fnExactReduceLine_lifted os started H enc)
#print axioms fnExactReduceLine_holds

end Go.Proofs.Ytahicfpnmjofhaa
