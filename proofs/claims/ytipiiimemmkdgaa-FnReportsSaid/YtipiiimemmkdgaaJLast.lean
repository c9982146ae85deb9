/- FnReports, walked. No condition. What all rows of this seat share: a law that returns true and leaves old memory alone meets its row's post. A slice of bytes as a law's argument. The law FnReports returns true for all arguments. No condition. -/
import Derived.Test.YtipiiimemmkdgaaWSmall
import Derived.Test.YtipiiimemmkdgaaJAh
import Derived.Test.YtipiiimemmkdgaaJAi
import Derived.Test.YtipiiimemmkdgaaWBase
import Derived.Test.YtipiiimemmkdgaaWCur
import Derived.ProofKit
import Derived.Lib.SmallJoins
namespace Go.Proofs.Ytipiiimemmkdgaa
set_option maxRecDepth 100000
open Go.ChangeShapes Go.WideShapes Go.ChangeAt Go.RowKit Go.Joins

theorem loop_neR (bs : ByteArray) : ∀ (d i : Nat) (r : List UInt8), bs.size - i = d → r ≠ [] → ByteArray.toList.loop bs i r ≠ [] := by
  intro d
  induction d with
  | zero =>
    intro i r hd hr
    rw [ByteArray.toList.loop, if_neg (by omega)]
    simpa using hr
  | succ d ih =>
    intro i r hd hr
    rw [ByteArray.toList.loop, if_pos (by omega)]
    exact ih (i + 1) _ (by omega) (by simp)
theorem bstr_neR {l : List UInt8} (h : ¬ l = []) : (bstr l).toList.isEmpty = false := by
  have hs : 0 < (bstr l).size := by rw [bstr_size]; exact List.length_pos_iff.2 h
  have : (bstr l).toList ≠ [] := by
    unfold ByteArray.toList
    rw [ByteArray.toList.loop, if_pos hs]
    exact loop_neR _ _ _ _ rfl (by simp)
  cases e : (bstr l).toList with
  | nil => exact absurd e this
  | cons => rfl

set_option maxHeartbeats 12800000 in
theorem lFnReports (p : Option Addr) (n0 cap : Nat) (w : World) (hb : SlB w p n0) (hm0 : n0 ≤ 9223372036854775807) : Calls Try.prog 3 #[.slice p n0 cap] w fun e w' => e = .returned (.bool true) ∧ Ge w w' := by
  by_cases hbig : 1048576 < n0
  · clear hb
    go_enter Try.func3, Try.ntmps3
    go_wp2_with fail
    go_ret
    exact ⟨rfl, Ge.refl _⟩
  have hn0 : n0 ≤ 1048576 := by omega
  have HB := Lib.hid hb
  clear hb hm0
  go_enter Try.func3, Try.ntmps3
  go_wp2_with ((go_at_call 4; ((with_reducible refine (sMakeSmall _ _ _ _ HB.out hn0).mono ?_); rintro e w1 ⟨n, E, S, l, s0, rfl, hsl, hdr, hE, hS, g1⟩)); obtain ⟨q, c, rfl, hcq⟩ := hsl.open; clear hcq)
  have hnet := drn_net hdr (E := E) (S := S) (by omega) (by omega)
  have h2 := hdr.two
  have h5 := hdr.five
  obtain ⟨m, hm⟩ : ∃ m, l.length = m := ⟨_, rfl⟩
  rw [hm] at hsl hdr hnet
  have hm10 : m ≤ 10 := prs_len (N := n) (by have := hdr.five; omega) hdr.good
  obtain ⟨e0, rfl⟩ : ∃ e0 : Nat, E = (e0 : Int) := ⟨E.toNat, by omega⟩
  generalize flatW l = xs at *
  rw [hm]
  clear hm
  have hT : node2B n e0 S m xs 0 1 = true := node2_t hnet (by omega) (by omega)
  have hD : difB n e0 S m xs 0 1 = true := by simp [difB, hnet]; omega
  have hNL := netLines_t hnet
  have hL1 := netLs_length n e0 m S xs e0
  have hL0 := netLs_first n e0 m S xs e0
  obtain ⟨L, hL⟩ : ∃ L, e0 + 1 = L := ⟨_, rfl⟩
  rw [hL] at hL1
  have te : ((L : Int) == (e0 : Int) + 1) = true := by simp; omega
  have tw : IntKind.i64.wrap ((e0 : Int) + 1) = (e0 : Int) + 1 := IntWalk.i64_in _ (by omega)
  have HRL := Lib.hid (resLine_t hT)
  have HPL := Lib.hid (potLine_t hD)
  have hRn := bstr_neR (reduceTxt_ne hnet)
  have b1 := treeV_bd n e0 S m xs
  have HSl := Lib.hid hsl
  have HRe := Lib.hid (fun (w' : World) (g : Ge w1 w') => iResistanceOf n e0 S (.slice q m c) m xs 0 1 w' (HSl.out.ge g) (by omega))
  rw [hT] at HRe
  have HPo := Lib.hid (fun (w' : World) (g : Ge w1 w') => iPotentialsT n e0 S (.slice q m c) m xs 0 1 w' (HSl.out.ge g) (by omega) hD)
  have HNl := Lib.hid (fun (w' : World) (g : Ge w1 w') => iNetLines n e0 S (.slice q m c) m xs w' (HSl.out.ge g) (by omega))
  rw [hNL] at HNl
  have HFN := Lib.hid (fun (w' : World) (g : Ge w1 w') => iFormatNet n e0 S (.slice q m c) m xs w' (HSl.out.ge g) (by omega))
  have HRs := Lib.hid (fun (w' : World) (g : Ge w1 w') => iResistLine n e0 S (.slice q m c) m xs 0 1 w' (HSl.out.ge g) (by omega))
  have HTr := Lib.hid (fun (w' : World) (g : Ge w1 w') => iTreeSum n e0 S (.slice q m c) m xs w' (HSl.out.ge g) (by omega))
  have HPt := Lib.hid (fun (w' : World) (g : Ge w1 w') => iPotentialLine n e0 S (.slice q m c) m xs 0 1 w' (HSl.out.ge g) (by omega))
  have HRd := Lib.hid (fun (w' : World) (g : Ge w1 w') => iReduceLine n e0 S (.slice q m c) m xs w' (HSl.out.ge g) (by omega))
  have HFi := Lib.hid (fun w' => iFormatInt (treeV n e0 S m xs) w' (by omega) (by omega))
  have HFq := Lib.hid (fun (w' : World) => iFormatRatio (resR n e0 S m xs 0 1).n (resR n e0 S m xs 0 1).d w')
  have HFr := Lib.hid (fun (w' : World) (v : Value) (h : SlF w' v n 2 (potL n e0 S m xs 0 1 n)) => iFormatRow v n (potL n e0 S m xs 0 1 n) w' h (by omega) (nth_all (potL_in n e0 S m xs 0 1 n)))
  have HFa := Lib.hid (fun (w' : World) => iFaultLine (.slice none 0 0) 0 [] w' ⟨rfl, none, 0, rfl, fun i u hu => by simp [icells] at hu⟩ (by omega) (fun j => by simp [nth]))
  have hF0 : bstr (faultLine 0 []) = ⟨#[110, 111, 110, 101]⟩ := faultLine_0 rfl
  rw [hF0] at HFa
  have l1 : (bstr (ratioTxt (resR n e0 S m xs 0 1).n (resR n e0 S m xs 0 1).d)).size ≤ 45 := by rw [bstr_size]; exact ratioTxt_le _ _
  have l2 := fsz (treeV n e0 S m xs)
  rw [HPL.out] at HPt
  clear hT hD hNL hF0 HPL hsl hdr hnet
  generalize resLine n e0 S m xs 0 1 = RL at *
  generalize reduceTxt n e0 S m xs = RD at *
  generalize netLs n e0 m S xs e0 = NLs at *
  generalize netTxt n e0 S m xs = NT at *
  generalize potL n e0 S m xs 0 1 n = PL at *
  generalize hX : (resR n e0 S m xs 0 1).n = X at *
  generalize hY : (resR n e0 S m xs 0 1).d = Y at *
  generalize hTT : treeV n e0 S m xs = TT at *
  clear hX hY hTT b1
  generalize ratioTxt X Y = TR at *
  generalize rowLine n PL = TP at *
  have z1 : ¬ (9223372036854775807 < 11 + (bstr TR).size) := by omega
  have z2 : ¬ (9223372036854775807 < 11 + (bstr TR).size + 7) := by omega
  have z3 : ¬ (9223372036854775807 < 11 + (bstr TR).size + 7 + (bstr (fmtInt TT)).size) := by omega
  generalize fmtInt TT = TF at *
  have N0 : (w1.alloc (.cells #[.int .i64 (n : Int), .int .i64 (e0 : Int), .int .i64 S, .slice q m c] 25)).cell? ⟨w1.heap.size, 0, none⟩ = some (.int .i64 (n : Int)) := cell_new rfl rfl
  have N1 : (w1.alloc (.cells #[.int .i64 (n : Int), .int .i64 (e0 : Int), .int .i64 S, .slice q m c] 25)).cell? ⟨w1.heap.size, 1, none⟩ = some (.int .i64 (e0 : Int)) := cell_new rfl rfl
  have N2 : (w1.alloc (.cells #[.int .i64 (n : Int), .int .i64 (e0 : Int), .int .i64 S, .slice q m c] 25)).cell? ⟨w1.heap.size, 2, none⟩ = some (.int .i64 S) := cell_new rfl rfl
  have N3 : (w1.alloc (.cells #[.int .i64 (n : Int), .int .i64 (e0 : Int), .int .i64 S, .slice q m c] 25)).cell? ⟨w1.heap.size, 3, none⟩ = some (.slice q m c) := cell_new rfl rfl
  have gW : Ge w1 (w1.alloc (.cells #[.int .i64 (n : Int), .int .i64 (e0 : Int), .int .i64 S, .slice q m c] 25)) := Ge.alloc (Ge.refl _) _
  have GW := Lib.hid gW
  clear HB gW
  generalize w1.heap.size = B at *
  generalize (w1.alloc (.cells #[.int .i64 (n : Int), .int .i64 (e0 : Int), .int .i64 S, .slice q m c] 25)) = W1 at *
  have zB := World.block_lt_of_cell? _ _ N0
  simp only at zB
  go_wp2_with (first
    | ((go_at_call 5; ((with_reducible refine (HRe.out _ GW.out).mono ?_); rintro e w2 ⟨rfl, g2⟩)); have G2 := Lib.hid (GW.out.trans g2); have m0 := g2.keep N0; have m1 := g2.keep N1; have m2 := g2.keep N2; have m3 := g2.keep N3; have zB2 : B < w2.heap.size := Nat.lt_of_lt_of_le zB g2.size; have q0 : (w2.alloc (.cells #[.int .i64 X, .int .i64 Y] 28)).cell? ⟨w2.heap.size, 0, none⟩ = some (.int .i64 X) := cell_new rfl rfl; have q1 : (w2.alloc (.cells #[.int .i64 X, .int .i64 Y] 28)).cell? ⟨w2.heap.size, 1, none⟩ = some (.int .i64 Y) := cell_new rfl rfl; have GA := Lib.hid (Ge.alloc (Ge.refl w2) (.cells #[.int .i64 X, .int .i64 Y] 28)))
    | ((go_at_call 6; ((with_reducible refine (HPo.out _ (G2.out.trans GA.out)).mono ?_); rintro e w3 ⟨v3, rfl, s3, g3⟩)); have S3 := Lib.hid s3; obtain ⟨p3, c3, rfl, hc3⟩ := s3.open; clear hc3; have G23 : Ge w2 w3 := GA.out.trans g3; have k0 := G23.keep m0; have k1 := G23.keep m1; have k2 := G23.keep m2; have k3 := G23.keep m3; have zB3 : B < w3.heap.size := Nat.lt_of_lt_of_le zB2 G23.size; have r0 := g3.keep q0; have r1 := g3.keep q1; have G3 := Lib.hid (G2.out.trans G23); clear s3)
    | ((go_at_call 7; ((with_reducible refine (HNl.out _ G3.out).mono ?_); rintro e w4 ⟨v4, rfl, o4, g4⟩)); rw [hL1] at o4; obtain ⟨gl, cl, rfl⟩ := Go.Joins.ownsRow_form o4 (by omega)))
  have n0' := g4.keep k0
  have n1' := g4.keep k1
  have n2' := g4.keep k2
  have n3' := g4.keep k3
  have x0' := g4.keep r0
  have x1' := g4.keep r1
  have y0' : w4.cell? ⟨gl, 0, none⟩ = some (.string (bstr NT)) := by
    rw [o4.cellAt 0 (by omega)]
    simp only [scells, List.getElem?_map, hL0, Option.map_some]
  have G4 := Lib.hid (G3.out.trans g4)
  have S4 := Lib.hid (S3.out.ge g4)
  have eR : RL = RL := rfl
  have tr := HRL.out
  have tL : 0 < L := by omega
  clear N0 N1 N2 N3 m0 m1 m2 m3 k0 k1 k2 k3 q0 q1 r0 r1 hL0 hL1 eR
  have hS : ∀ w', Ge w4 w' → (w'.cell? ⟨B, 0, none⟩ = some (.int .i64 (n : Int)) ∧ w'.cell? ⟨B, 1, none⟩ = some (.int .i64 (e0 : Int)) ∧ w'.cell? ⟨B, 2, none⟩ = some (.int .i64 S) ∧ w'.cell? ⟨B, 3, none⟩ = some (.slice q m c) ∧ w'.cell? ⟨w2.heap.size, 0, none⟩ = some (.int .i64 X) ∧ w'.cell? ⟨w2.heap.size, 1, none⟩ = some (.int .i64 Y) ∧ w'.cell? ⟨gl, 0, none⟩ = some (.string (bstr NT)) ∧ Ge w4 w') := fun w' g => ⟨g.keep (by (repeat (first | assumption | with_reducible exact Ge.refl _ | with_reducible refine cv_drew ?_ | with_reducible refine cv_alloc ?_ | with_reducible refine cv_set ?_ | (with_reducible apply cv_some; assumption) | with_reducible refine cell_drew ?_ | with_reducible refine cell_drewN ?_ | ((with_reducible refine cell_new ?_ ?_); (focus (simp; done)); rfl) | with_reducible refine cell_alloc ?_ | with_reducible refine cell_same2 ?_ | ((with_reducible refine cell_set2 ?_ ?_); focus (first | (simp; done) | (intro hE; simp at hE; done) | (intro hE; simp at hE; omega))) | with_reducible refine Ge.drew ?_ | with_reducible refine Ge.drewN ?_ _ | with_reducible refine Ge.alloc ?_ _ | ((with_reducible refine Ge.setCell ?_ ?_ _); rotate_left; focus (first | (simp; done) | omega | (simp; omega))) | with_reducible refine Ge.trans ?_ (by assumption) | with_reducible refine Ge.keep (by assumption) ?_))), g.keep (by (repeat (first | assumption | with_reducible exact Ge.refl _ | with_reducible refine cv_drew ?_ | with_reducible refine cv_alloc ?_ | with_reducible refine cv_set ?_ | (with_reducible apply cv_some; assumption) | with_reducible refine cell_drew ?_ | with_reducible refine cell_drewN ?_ | ((with_reducible refine cell_new ?_ ?_); (focus (simp; done)); rfl) | with_reducible refine cell_alloc ?_ | with_reducible refine cell_same2 ?_ | ((with_reducible refine cell_set2 ?_ ?_); focus (first | (simp; done) | (intro hE; simp at hE; done) | (intro hE; simp at hE; omega))) | with_reducible refine Ge.drew ?_ | with_reducible refine Ge.drewN ?_ _ | with_reducible refine Ge.alloc ?_ _ | ((with_reducible refine Ge.setCell ?_ ?_ _); rotate_left; focus (first | (simp; done) | omega | (simp; omega))) | with_reducible refine Ge.trans ?_ (by assumption) | with_reducible refine Ge.keep (by assumption) ?_))), g.keep (by (repeat (first | assumption | with_reducible exact Ge.refl _ | with_reducible refine cv_drew ?_ | with_reducible refine cv_alloc ?_ | with_reducible refine cv_set ?_ | (with_reducible apply cv_some; assumption) | with_reducible refine cell_drew ?_ | with_reducible refine cell_drewN ?_ | ((with_reducible refine cell_new ?_ ?_); (focus (simp; done)); rfl) | with_reducible refine cell_alloc ?_ | with_reducible refine cell_same2 ?_ | ((with_reducible refine cell_set2 ?_ ?_); focus (first | (simp; done) | (intro hE; simp at hE; done) | (intro hE; simp at hE; omega))) | with_reducible refine Ge.drew ?_ | with_reducible refine Ge.drewN ?_ _ | with_reducible refine Ge.alloc ?_ _ | ((with_reducible refine Ge.setCell ?_ ?_ _); rotate_left; focus (first | (simp; done) | omega | (simp; omega))) | with_reducible refine Ge.trans ?_ (by assumption) | with_reducible refine Ge.keep (by assumption) ?_))), g.keep (by (repeat (first | assumption | with_reducible exact Ge.refl _ | with_reducible refine cv_drew ?_ | with_reducible refine cv_alloc ?_ | with_reducible refine cv_set ?_ | (with_reducible apply cv_some; assumption) | with_reducible refine cell_drew ?_ | with_reducible refine cell_drewN ?_ | ((with_reducible refine cell_new ?_ ?_); (focus (simp; done)); rfl) | with_reducible refine cell_alloc ?_ | with_reducible refine cell_same2 ?_ | ((with_reducible refine cell_set2 ?_ ?_); focus (first | (simp; done) | (intro hE; simp at hE; done) | (intro hE; simp at hE; omega))) | with_reducible refine Ge.drew ?_ | with_reducible refine Ge.drewN ?_ _ | with_reducible refine Ge.alloc ?_ _ | ((with_reducible refine Ge.setCell ?_ ?_ _); rotate_left; focus (first | (simp; done) | omega | (simp; omega))) | with_reducible refine Ge.trans ?_ (by assumption) | with_reducible refine Ge.keep (by assumption) ?_))), g.keep (by (repeat (first | assumption | with_reducible exact Ge.refl _ | with_reducible refine cv_drew ?_ | with_reducible refine cv_alloc ?_ | with_reducible refine cv_set ?_ | (with_reducible apply cv_some; assumption) | with_reducible refine cell_drew ?_ | with_reducible refine cell_drewN ?_ | ((with_reducible refine cell_new ?_ ?_); (focus (simp; done)); rfl) | with_reducible refine cell_alloc ?_ | with_reducible refine cell_same2 ?_ | ((with_reducible refine cell_set2 ?_ ?_); focus (first | (simp; done) | (intro hE; simp at hE; done) | (intro hE; simp at hE; omega))) | with_reducible refine Ge.drew ?_ | with_reducible refine Ge.drewN ?_ _ | with_reducible refine Ge.alloc ?_ _ | ((with_reducible refine Ge.setCell ?_ ?_ _); rotate_left; focus (first | (simp; done) | omega | (simp; omega))) | with_reducible refine Ge.trans ?_ (by assumption) | with_reducible refine Ge.keep (by assumption) ?_))), g.keep (by (repeat (first | assumption | with_reducible exact Ge.refl _ | with_reducible refine cv_drew ?_ | with_reducible refine cv_alloc ?_ | with_reducible refine cv_set ?_ | (with_reducible apply cv_some; assumption) | with_reducible refine cell_drew ?_ | with_reducible refine cell_drewN ?_ | ((with_reducible refine cell_new ?_ ?_); (focus (simp; done)); rfl) | with_reducible refine cell_alloc ?_ | with_reducible refine cell_same2 ?_ | ((with_reducible refine cell_set2 ?_ ?_); focus (first | (simp; done) | (intro hE; simp at hE; done) | (intro hE; simp at hE; omega))) | with_reducible refine Ge.drew ?_ | with_reducible refine Ge.drewN ?_ _ | with_reducible refine Ge.alloc ?_ _ | ((with_reducible refine Ge.setCell ?_ ?_ _); rotate_left; focus (first | (simp; done) | omega | (simp; omega))) | with_reducible refine Ge.trans ?_ (by assumption) | with_reducible refine Ge.keep (by assumption) ?_))), g.keep (by (repeat (first | assumption | with_reducible exact Ge.refl _ | with_reducible refine cv_drew ?_ | with_reducible refine cv_alloc ?_ | with_reducible refine cv_set ?_ | (with_reducible apply cv_some; assumption) | with_reducible refine cell_drew ?_ | with_reducible refine cell_drewN ?_ | ((with_reducible refine cell_new ?_ ?_); (focus (simp; done)); rfl) | with_reducible refine cell_alloc ?_ | with_reducible refine cell_same2 ?_ | ((with_reducible refine cell_set2 ?_ ?_); focus (first | (simp; done) | (intro hE; simp at hE; done) | (intro hE; simp at hE; omega))) | with_reducible refine Ge.drew ?_ | with_reducible refine Ge.drewN ?_ _ | with_reducible refine Ge.alloc ?_ _ | ((with_reducible refine Ge.setCell ?_ ?_ _); rotate_left; focus (first | (simp; done) | omega | (simp; omega))) | with_reducible refine Ge.trans ?_ (by assumption) | with_reducible refine Ge.keep (by assumption) ?_))), Ge.trans (by (repeat (first | assumption | with_reducible exact Ge.refl _ | with_reducible refine cv_drew ?_ | with_reducible refine cv_alloc ?_ | with_reducible refine cv_set ?_ | (with_reducible apply cv_some; assumption) | with_reducible refine cell_drew ?_ | with_reducible refine cell_drewN ?_ | ((with_reducible refine cell_new ?_ ?_); (focus (simp; done)); rfl) | with_reducible refine cell_alloc ?_ | with_reducible refine cell_same2 ?_ | ((with_reducible refine cell_set2 ?_ ?_); focus (first | (simp; done) | (intro hE; simp at hE; done) | (intro hE; simp at hE; omega))) | with_reducible refine Ge.drew ?_ | with_reducible refine Ge.drewN ?_ _ | with_reducible refine Ge.alloc ?_ _ | ((with_reducible refine Ge.setCell ?_ ?_ _); rotate_left; focus (first | (simp; done) | omega | (simp; omega))) | with_reducible refine Ge.trans ?_ (by assumption) | with_reducible refine Ge.keep (by assumption) ?_))) g⟩
  go_region_held3 (fun w' => w'.cell? ⟨B, 0, none⟩ = some (.int .i64 (n : Int)) ∧ w'.cell? ⟨B, 1, none⟩ = some (.int .i64 (e0 : Int)) ∧ w'.cell? ⟨B, 2, none⟩ = some (.int .i64 S) ∧ w'.cell? ⟨B, 3, none⟩ = some (.slice q m c) ∧ w'.cell? ⟨w2.heap.size, 0, none⟩ = some (.int .i64 X) ∧ w'.cell? ⟨w2.heap.size, 1, none⟩ = some (.int .i64 Y) ∧ w'.cell? ⟨gl, 0, none⟩ = some (.string (bstr NT)) ∧ Ge w4 w') (first | ((with_reducible refine hS _ ?_); (repeat (first | assumption | with_reducible exact Ge.refl _ | with_reducible refine cv_drew ?_ | with_reducible refine cv_alloc ?_ | with_reducible refine cv_set ?_ | (with_reducible apply cv_some; assumption) | with_reducible refine cell_drew ?_ | with_reducible refine cell_drewN ?_ | ((with_reducible refine cell_new ?_ ?_); (focus (simp; done)); rfl) | with_reducible refine cell_alloc ?_ | with_reducible refine cell_same2 ?_ | ((with_reducible refine cell_set2 ?_ ?_); focus (first | (simp; done) | (intro hE; simp at hE; done) | (intro hE; simp at hE; omega))) | with_reducible refine Ge.drew ?_ | with_reducible refine Ge.drewN ?_ _ | with_reducible refine Ge.alloc ?_ _ | ((with_reducible refine Ge.setCell ?_ ?_ _); rotate_left; focus (first | (simp; done) | omega | (simp; omega))) | with_reducible refine Ge.trans ?_ (by assumption) | with_reducible refine Ge.keep (by assumption) ?_)); done) | fail) (first | (go_at_call 8; ((with_reducible refine (HFN.out _ (G4.out.trans ‹_ ∧ _ ∧ _ ∧ _ ∧ _ ∧ _ ∧ _ ∧ Ge w4 _›.2.2.2.2.2.2.2)).mono ?_); rintro e w' ⟨rfl, hb⟩); have hz := Ge.size hb; (try simp at hz)) | (go_at_call 9; ((with_reducible refine (HRs.out _ (G4.out.trans ‹_ ∧ _ ∧ _ ∧ _ ∧ _ ∧ _ ∧ _ ∧ Ge w4 _›.2.2.2.2.2.2.2)).mono ?_); rintro e w' ⟨rfl, hb⟩); have hz := Ge.size hb; (try simp at hz)) | (go_at_call 10; ((with_reducible refine (HFq.out _).mono ?_); rintro e w' ⟨rfl, hb⟩); have hz := Ge.size hb; (try simp at hz)) | (go_at_call 12; ((with_reducible refine (HTr.out _ (G4.out.trans ‹_ ∧ _ ∧ _ ∧ _ ∧ _ ∧ _ ∧ _ ∧ Ge w4 _›.2.2.2.2.2.2.2)).mono ?_); rintro e w' ⟨rfl, hb⟩); have hz := Ge.size hb; (try simp at hz)) | (go_at_call 11; ((with_reducible refine (HFi.out _).mono ?_); rintro e w' ⟨rfl, rfl⟩)) | (go_at_call 13; ((with_reducible refine (HPt.out _ (G4.out.trans ‹_ ∧ _ ∧ _ ∧ _ ∧ _ ∧ _ ∧ _ ∧ Ge w4 _›.2.2.2.2.2.2.2)).mono ?_); rintro e w' ⟨rfl, hb⟩); have hz := Ge.size hb; (try simp at hz)) | (go_at_call 14; ((with_reducible refine (HFr.out _ _ (S4.out.ge ‹_ ∧ _ ∧ _ ∧ _ ∧ _ ∧ _ ∧ _ ∧ Ge w4 _›.2.2.2.2.2.2.2)).mono ?_); rintro e w' ⟨rfl, hb⟩); have hz := Ge.size hb; (try simp at hz)) | (go_at_call 15; ((with_reducible refine (HRd.out _ (G4.out.trans ‹_ ∧ _ ∧ _ ∧ _ ∧ _ ∧ _ ∧ _ ∧ Ge w4 _›.2.2.2.2.2.2.2)).mono ?_); rintro e w' ⟨rfl, hb⟩); have hz := Ge.size hb; (try simp at hz)) | (go_at_call 16; ((with_reducible refine (HFa.out _).mono ?_); rintro e w' ⟨rfl, hb⟩); have hz := Ge.size hb; (try simp at hz)) | fail)
  rename_i hHeldX
  obtain ⟨q0, q1, q2, q3, q4, q5, q6, G9⟩ := hHeldX
  clear hS
  all_goals (go_wp2_with fail)
  all_goals go_ret
  all_goals exact ⟨rfl, g1.trans (G4.out.trans G9)⟩
end Go.Proofs.Ytipiiimemmkdgaa

namespace Go.Proofs.Ytipiiimemmkdgaa

open Go.ChangeShapes Go.WideShapes Go.ChangeAt Go.RowKit Go.Joins

theorem own_knob : ownKnob Try.prog.godebug = none := by kernel_rfl
theorem laid_out : laidOutB Try.prog = true := by kernel_rfl
def InInt (x : Int) : Prop := -9223372036854775808 ≤ x ∧ x ≤ 9223372036854775807
theorem i64_of_wf {x : Int} (h : (Lit.int .i64 x).wf = true) : InInt x := by
  simp [Lit.wf, IntKind.min, IntKind.max, IntKind.signed, IntKind.bits] at h
  unfold InInt
  omega

/-- Arguments read as they did. -/
theorem trodAll_stays {H : Type} {enc : TypeId × Value → H} {P : Program} (hl : laidOutB P = true) {W W' : World} (hg : Ge W W') :
    ∀ (ts : List TypeId) (vs : List Value) (ds : List (DataW H)) (p : List MemPlace), (∀ t ∈ ts, P.readableRec t = true ∧ t < P.types.size) →
      DataW.TrodAll enc P W 0 (fun _ => true) true ts vs ds p → (∀ x ∈ p, x.block < W.heap.size) →
      DataW.TrodAll enc P W' 0 (fun b => decide (b < W.heap.size)) true ts vs ds p := by
  intro ts
  induction ts with
  | nil =>
    intro vs ds p _ h _
    cases vs with
    | nil => cases ds with
      | nil => exact h
      | cons => exact h.elim
    | cons => exact h.elim
  | cons t ts ih =>
    intro vs ds p ht h hlt
    cases vs with
    | nil => exact h.elim
    | cons v vs => cases ds with
      | nil => exact h.elim
      | cons d ds =>
        obtain ⟨p1, p2, h1, h2, rfl⟩ := h
        obtain ⟨r1, r2⟩ := ht t (by simp)
        exact ⟨p1, p2, Below.trod hl r1 r2 h1 hg (fun x hx => hlt x (List.mem_append.2 (.inl hx))),
          ih vs ds p2 (fun t' h' => ht t' (List.mem_cons_of_mem _ h')) h2 (fun x hx => hlt x (List.mem_append.2 (.inr hx))), rfl⟩

/-- The end of a law: true came back, nothing that was there has turned. -/
theorem law_done {H : Type} {enc : TypeId × Value → H} {P : Program} {f : Func} {s : ChangeSpec} {W W' : World} {args : Array Value} {ds gs : List (DataW H)} {before : List MemPlace} {B : TypeId} {e : Ending}
    (he : e = .returned (.bool true)) (hl : laidOutB P = true) (hrt : f.resultTypes = #[B]) (hB : P.underlying B = some .bool)
    (hread : f.params.toList.all (fun t => P.readableRec t && decide (t < P.types.size)) = true)
    (hW : DataW.Whole enc P f.params.toList s.vars false W args.toList ds gs before) (hv : s.vars = [])
    (hfn : s.fn H (ds ++ gs) = { results := [.lit (.bool true)], args := ds }) (hg : Ge W W') :
    ∃ v, e = .returned v ∧ s.post enc P f false true false false W args v W' := by
  subst he
  refine ⟨.bool true, rfl, ?_⟩
  have hlt := fun x hx => hW.lt x hx
  have hW' := hW
  obtain ⟨p, q, hA, hV, rfl, hfz, hnd⟩ := hW'
  have hq : q = [] ∧ gs = [] := by
    rw [hv] at hV
    cases gs with
    | nil => exact ⟨hV, rfl⟩
    | cons => exact hV.elim
  obtain ⟨rfl, rfl⟩ := hq
  rw [List.all_eq_true] at hread
  have hread' : ∀ t ∈ f.params.toList, P.readableRec t = true ∧ t < P.types.size := by
    intro t ht
    have := hread t ht
    simp at this
    exact this
  refine ⟨ds, [], p ++ [], [], p, [], hW, ?_, ?_, ?_, Below.frame hg _, fun h => by cases h⟩
  · rw [hfn, hrt]
    exact trodAll_mk1 (shut_bool hB true)
  · rw [hfn]
    exact trodAll_stays hl hg _ _ _ _ hread' hA (fun x hx => hlt x (List.mem_append.2 (.inl hx)))
  · rw [hv, hfn]
    exact rfl
end Go.Proofs.Ytipiiimemmkdgaa

namespace Go.Proofs.Ytipiiimemmkdgaa

open Go.ChangeShapes Go.WideShapes Go.ChangeAt Go.RowKit Go.Joins

theorem u8_of_wf {x : Int} (h : (Lit.int .u8 x).wf = true) : 0 ≤ x ∧ x ≤ 255 := by
  simp [Lit.wf, IntKind.min, IntKind.max, IntKind.signed, IntKind.bits] at h
  omega

theorem arg_bytes {H : Type} {enc : TypeId × Value → H} {P : Program} {W : World} {r : Reach} {b0 : Nat} {t e : TypeId} {v : Value} {d : DataW H} {ps : List MemPlace}
    (ht : P.underlying t = some (.slice e)) (he : P.underlying e = some (.int .u8)) (hc : P.cellsOf e = 1) (hval : Value.okWide P W r b0 t v)
    (h : DataW.Trod enc P W 0 (fun _ => true) true t v d ps) : ∃ p n cap, v = .slice p n cap ∧ SlB W p n ∧ n ≤ 9223372036854775807 := by
  obtain ⟨a0, len, cap, rfl⟩ := okWide_slice ht hval
  obtain ⟨fuel, hf⟩ := h
  rcases open_ints ht he hc hf with ⟨hcs, hx⟩ | ⟨a, len', cap', zs, hcs, _, hl, hm, hz, hx, hcell, hwz⟩
  · simp [Value.cells] at hcs
    obtain ⟨rfl, rfl, rfl⟩ := hcs
    exact ⟨_, _, _, rfl, fun i hi => by omega, by omega⟩
  · simp [Value.cells] at hcs
    obtain ⟨rfl, rfl, rfl⟩ := hcs
    simp only [if_true] at hz
    unfold maxLen at hm
    refine ⟨_, _, _, rfl, fun i hi => ?_, by omega⟩
    have hc' := hcell i (by omega)
    obtain ⟨b, off, spot⟩ := a
    have hspot : spot = none := World.cell?_spot (by simpa [Addr.add] using hcell 0 (by omega))
    subst hspot
    have hadd : (⟨b, off, none⟩ : Addr).add i = ⟨b, off + i, none⟩ := by unfold Addr.add; split <;> simp_all
    rw [hadd] at hc'
    have hmem : zs.getD i 0 ∈ zs := by
      simp only [List.getD]
      rw [List.getElem?_eq_getElem (by omega)]
      exact List.getElem_mem _
    have hb := u8_of_wf (hwz _ hmem)
    exact ⟨b, off, _, rfl, hc', hb.1, hb.2⟩
end Go.Proofs.Ytipiiimemmkdgaa

namespace Go.Proofs.Ytipiiimemmkdgaa

open Go.ChangeShapes Go.WideShapes Go.ChangeAt Go.RowKit Go.Joins

theorem fnReports_cells_byte : Try.prog.cellsOf 5 = 1 := by kernel_rfl

set_option maxRecDepth 100000 in
theorem fnReports_lifted (os : Os) (started : os.Started) (H : Type) (enc : TypeId × Value → H) :
    ReturnsInHanded {} Try.checked os 3 .any (Rows.fnReportsSpec.pre6 enc Try.prog Try.f3 Rows.fnReportsRow.domain false) (Rows.fnReportsSpec.post enc Try.prog Try.f3 false true false false) := by
  refine returnsInHanded_of_change (C := Try.checked) own_knob started (by kernel_rfl) Try.func3
    (ChangeSpec.witness6 (enc := enc) (C := Try.checked) false ⟨#[], #[.slice none 0 0], []⟩ 8 (by kernel_rfl) (by kernel_rfl) (by kernel_rfl) (by kernel_rfl)) ?_
  intro W base args ds gs before hval0 hW hcnd _
  have hval : ∀ (j : Nat) t v, Try.f3.params[j]? = some t → args[j]? = some v → Value.okWide Try.prog W .any base t v := hval0
  have hW' := hW
  obtain ⟨p, q, hA0, hV, rfl, hfz, hnd⟩ := hW
  have hA : DataW.TrodAll enc Try.prog W 0 (fun _ => true) true Try.f3.params.toList args.toList ds p := hA0
  rw [Try.params3] at hA hval
  obtain ⟨v0, d0, rfl, rfl, h0⟩ := trodAll_one hA
  obtain ⟨rfl, rfl⟩ := trodVars_none hV
  obtain ⟨pa, na, ca, rfl, sa, ma⟩ := arg_bytes Try.underlying22 Try.underlying5 fnReports_cells_byte (hval 0 22 v0 rfl rfl) h0
  clear hA0 hval0
  exact (lFnReports pa na ca W sa ma).mono fun e W' ⟨he, hg⟩ =>
    law_done (B := 4) he laid_out (by kernel_rfl) Try.underlying4 (by kernel_rfl) hW' rfl rfl hg

theorem fnReports_holds : Rows.FnReportsSaid :=
  OpenClaim.holds_of_wide 3 Try.f3 rfl rfl rfl rfl rfl rfl rfl ⟨rfl, rfl, rfl, rfl, rfl⟩ rfl rfl rfl rfl rfl (by kernel_rfl) Try.func3 (by kernel_rfl)
    (of_decide_eq_true (by kernel_rfl)) (by unfold Func.isWrapper; first | (rw [if_pos (by decide +kernel)]; kernel_rfl) | (rw [if_neg (by decide +kernel)]; exact ⟨rfl, rfl⟩))
    (fun os started H enc _ => fnReports_lifted os started H enc)
#print axioms fnReports_holds

end Go.Proofs.Ytipiiimemmkdgaa
