/- RunLine of impl: commands, and all ways together. No condition. How long the text of a line is, and a session as a function: plain law. No program in sight but in the imports. NewConsole, SplitLines and RunSession of impl. No condition. RunSession of impl. No condition. -/
import Derived.Test.YtagiecajffhnpaaGreatJBa
namespace Go.Proofs.YtagiecajffhnpaaGreat
set_option maxRecDepth 100000
open Go.ChangeShapes Go.WideShapes Go.ChangeAt Go.RowKit Go.Joins

set_option maxHeartbeats 1600000 in
theorem iRunChF (n e : Nat) (S : Int) (L : List Wr) (s : Value) (ln : List UInt8) (w : World) (hs : SlF w s L.length 3 (flatW L)) (hB : netB n e S L.length (flatW L) = true) (hln : ln.length ≤ 1000) (h0 : ¬ ln = []) (hc : ¬ bnth ln 0 = 35) (hp : Lib.hasPrefix ln netW = false) (hA : allB (pieces [32] ln).tail = true) (z : Nt) (hch : chR n e S L (tnth (pieces [32] ln) 0) (numsR (pieces [32] ln).tail) = some (false, z)) :
    Calls Tryz.prog 11 #[.agg #[.int .i64 (n : Int), .int .i64 (e : Int), .int .i64 S, s], .string (bstr ln)] w (GivesRun w (⟨n, e, S, L⟩, [110, 111, 110, 101])) := by
  obtain ⟨⟨h1, h5⟩, ⟨e1, e2⟩, _, hok, _⟩ := netP_of hB
  have hm : L.length ≤ 10 := prs_len (by omega) hok
  have HV := Lib.hid hs
  obtain ⟨p, cap, rfl, _⟩ := hs.open
  have HCp := Lib.hid (fun w' (g : Ge w w') => iCopyNet n e S (.slice p L.length cap) L.length (flatW L) w' (HV.out.ge g) (by omega))
  have hpos : 0 < ln.length := by cases ln with | nil => exact absurd rfl h0 | cons => simp
  have hsz : (bstr ln).size = ln.length := bstr_size ln
  have q0 := empty_f h0
  have hx : ∀ h, (bstr ln)[0]'h = bnth ln 0 := fun h => bstr_at ln 0 h
  have tc : decide (((bnth ln 0).toNat : Int) = 35) = false := by
    rw [decide_eq_false_iff_not]
    intro hh
    exact hc (by apply UInt8.toNat.inj; have : (35 : UInt8).toNat = 35 := rfl; omega)
  have tc2 : (((bnth ln 0).toNat : Int) == 35) = false := tc
  generalize bnth ln 0 = c0 at *
  have HCu := Lib.hid (fun w' => cutP ln w')
  rw [hp] at HCu
  have HSp : Hid (∀ w, Calls Tryz.prog 15 #[.string (bstr ln), .string ⟨#[32]⟩] w (GivesS w (pieces [32] ln))) := fun w => iSplitAny ln [32] w (by omega)
  have hN0 : 0 < (pieces [32] ln).length := by unfold pieces; simp
  have hN1 := pieces_len [32] ln
  have HIn := Lib.hid (fun v w' (h : SlS w' v (pieces [32] ln).tail) => iInts v (pieces [32] ln).tail w' h (by rw [List.length_tail]; omega) (fun x hx => by have := pieces_le x (List.mem_of_mem_tail hx); omega))
  unfold GivesN at HIn
  rw [hA] at HIn
  have HCh0 := Lib.hid (fun (v : Value) (s' : Value) (w' : World) (h1 : SlF w' s' L.length 3 (flatW L)) (h2 : SlI w' v (numsR (pieces [32] ln).tail)) => (iChanged n e S s' v L (tnth (pieces [32] ln) 0) (numsR (pieces [32] ln).tail) w' h1 hB h2).mono (fun _ _ h => h.1 _ _ hch))
  clear hp hA hch
  generalize z = Z at *
  generalize pieces [32] ln = l at *
  obtain ⟨NB0, R0⟩ := in_res w n e S (.slice p L.length cap)
  have RB0 : ResD ((w.alloc (.cells #[.int .i64 (n : Int), .int .i64 (e : Int), .int .i64 S, .slice p L.length cap] 33)).alloc (.cells #[.int .i64 0, .int .i64 0, .int .i64 0, .slice none 0 0] 33)) w.heap.size := (ResD.new w _ _ _ _ _).ge (Ge.alloc (Ge.refl _) _)
  go_enter Tryz.func11, Tryz.ntmps11
  go_upto_region 2 with (go_at_call 18; ((with_reducible refine (HCp.out _ (Ge.alloc (Ge.alloc (Ge.refl _) _) _)).mono ?_); rintro r w2 ⟨u2, rfl, o2, g2⟩); have R2 := R0.ge g2; have RB2 := RB0.ge g2; obtain ⟨r0, p0, f0⟩ := RB2 0 (by omega); obtain ⟨r1, p1, f1⟩ := RB2 1 (by omega); obtain ⟨r2, p2, f2⟩ := RB2 2 (by omega); obtain ⟨r3, p3, f3⟩ := RB2 3 (by omega); obtain ⟨pu, cu, rfl⟩ := owns_form o2)
  have HO2 : w2.ownsRow (w.heap.size + 2) 45 3 (.slice pu L.length cu) L.length (icells (flatW L)) := owns_mono o2 (by simp)
  have gw2 : Ge w w2 := Ge.trans (Ge.alloc (Ge.alloc (Ge.refl _) _) _) g2
  have hRA : RunAt w ((((w2.setCell ⟨w.heap.size, 0, none⟩ (.int .i64 (n : Int))).setCell ⟨w.heap.size, 1, none⟩ (.int .i64 (e : Int))).setCell ⟨w.heap.size, 2, none⟩ (.int .i64 S)).setCell ⟨w.heap.size, 3, none⟩ (.slice pu L.length cu)) n e S L (.slice pu L.length cu) :=
    ⟨⟨cell_set2 (by simp) (cell_set2 (by simp) (cell_set2 (by simp) (World.cell?_setCell_same _ _ _ p0))), cell_set2 (by simp) (cell_set2 (by simp) (World.cell?_setCell_same _ _ _ (cell_set2 (by simp) p1))), cell_set2 (by simp) (World.cell?_setCell_same _ _ _ (cell_set2 (by simp) (cell_set2 (by simp) p2))), World.cell?_setCell_same _ _ _ (cell_set2 (by simp) (cell_set2 (by simp) (cell_set2 (by simp) p3)))⟩,
      ResD.setO (ResD.setO (ResD.setO (ResD.setO R2 (by omega)) (by omega)) (by omega)) (by omega), own_setD (own_setD (own_setD (own_setD HO2 (by omega)) (by omega)) (by omega)) (by omega), set4_ge gw2 (Nat.le_refl _)⟩
  generalize ((((w2.setCell ⟨w.heap.size, 0, none⟩ (.int .i64 (n : Int))).setCell ⟨w.heap.size, 1, none⟩ (.int .i64 (e : Int))).setCell ⟨w.heap.size, 2, none⟩ (.int .i64 S)).setCell ⟨w.heap.size, 3, none⟩ (.slice pu L.length cu)) = W0 at *
  have HRA := Lib.hid hRA
  clear hRA HO2 gw2 p0 p1 p2 p3 f0 f1 f2 f3 RB2 R2 RB0 R0 NB0 HCp g2 o2
  obtain ⟨⟨b0, b1, b2, b3⟩, RS, _, g0⟩ := HRA.out
  go_upto_region 11 with (first
    | ((go_at_call 19; ((with_reducible refine (HCu.out _).mono ?_); rintro r w' ⟨rfl, rfl⟩)))
    | (go_at_call 15; ((with_reducible refine (HSp.out _).mono ?_); rintro r w9 ⟨u9, rfl, o9, g9⟩); have HL9 := Lib.hid o9; obtain ⟨gl, cl, rfl⟩ := Go.Joins.ownsRow_form o9 hN0; have y0 := own_strP o9 hN0; clear o9))
  have HRB := Lib.hid (HRA.out.ge g9)
  have hTl : Hid (∀ v, (v = .slice (some ⟨gl, 1, none⟩) (l.length - 1) (cl - 1) ∨ (cl = 1 ∧ v = .slice (some ⟨gl, 0, none⟩) (l.length - 1) (cl - 1))) → SlS w9 v l.tail) := fun v hv => tail_of HL9.out hN0 hv
  have hcl : 1 ≤ cl := by
    have := cap_of HL9.out _ _ rfl
    omega
  go_cut [11, 12] (fun v bv wx => ∃ (pX : Option Addr) (cX : Nat), v = .slice pX (numsR l.tail).length cX ∧ bv = .bool true ∧ Hid (SlI wx (.slice pX (numsR l.tail).length cX) (numsR l.tail)) ∧ Ge w9 wx)
  case first =>
    by_cases hcl1 : cl = 1
    · have hc1 : (cl = 1) = True := eq_true hcl1
      have hT1 := Lib.hid (hTl.out _ (.inr ⟨hcl1, rfl⟩))
      clear hcl1
      go_wp2_with (go_at_call 21; ((with_reducible refine (HIn.out _ _ hT1.out).mono ?_); rintro r w7 ⟨u7, rfl, o7, g7⟩); obtain ⟨pX, cX, rfl⟩ := owns_form o7)
      go_meet
      exact ⟨pX, cX, rfl, rfl, SlI.of_owns o7, g7⟩
    · have hc1 : (cl = 1) = False := eq_false hcl1
      have hT1 := Lib.hid (hTl.out _ (.inl rfl))
      go_wp2_with (go_at_call 21; ((with_reducible refine (HIn.out _ _ hT1.out).mono ?_); rintro r w7 ⟨u7, rfl, o7, g7⟩); obtain ⟨pX, cX, rfl⟩ := owns_form o7)
      go_meet
      exact ⟨pX, cX, rfl, rfl, SlI.of_owns o7, g7⟩
  obtain ⟨pX, cX, rfl, rfl, HX, gc⟩ := hcut
  have HX9 := HX
  generalize hwd : tnth l 0 = wd at *
  generalize numsR l.tail = X at *
  have HCh := Lib.hid (fun w' (g : Ge wc w') => HCh0.out (.slice pX X.length cX) (.slice pu L.length cu) w' (SlF.of_owns (g.owns (HRB.out.ge gc).2.2.1)) (HX9.out.ge g))
  have y0 := gc.keep y0
  clear hwd HCh0 HL9 hTl HIn HSp HCu
  obtain ⟨⟨b0, b1, b2, b3⟩, _, _, _⟩ := HRB.out.ge gc
  have zc : w.heap.size < wc.heap.size := World.block_lt_of_cell? _ _ b0
  go_upto_region 18 with (go_at_call 22; ((with_reducible refine (HCh.out _ (Ge.alloc (Ge.refl _) _)).mono ?_); rintro r w6 ⟨s6, rfl, o6, g6⟩); obtain ⟨pq, cq, rfl⟩ := owns_form o6)
  have gZ : Ge wc (w6.alloc (.cells #[.int .i64 Z.nodes, .int .i64 Z.ends, .int .i64 Z.scale, .slice pq Z.wires.length cq] 33)) := Ge.alloc (Ge.trans (Ge.alloc (Ge.refl _) _) g6) _
  obtain ⟨⟨b0, b1, b2, b3⟩, RS, HO, g1⟩ := (HRB.out.ge gc).ge gZ
  obtain ⟨r4, p4, f4⟩ := RS 0 (by omega)
  obtain ⟨r5, p5, f5⟩ := RS 1 (by omega)
  obtain ⟨r6, p6, f6⟩ := RS 2 (by omega)
  obtain ⟨r7, p7, f7⟩ := RS 3 (by omega)
  go_wp2_with fail
  exact bodyPost_ret (v := .tuple #[.agg #[.int .i64 (n : Int), .int .i64 (e : Int), .int .i64 S, .slice pu L.length cu], .string (bstr [110, 111, 110, 101])]) (by simp [results, Tryz.results11, go_sem, *]; rfl) rfl (run_end HO g1)
set_option maxHeartbeats 1600000 in
theorem iRunChT (n e : Nat) (S : Int) (L : List Wr) (s : Value) (ln : List UInt8) (w : World) (hs : SlF w s L.length 3 (flatW L)) (hB : netB n e S L.length (flatW L) = true) (hln : ln.length ≤ 1000) (h0 : ¬ ln = []) (hc : ¬ bnth ln 0 = 35) (hp : Lib.hasPrefix ln netW = false) (hA : allB (pieces [32] ln).tail = true) (z : Nt) (hch : chR n e S L (tnth (pieces [32] ln) 0) (numsR (pieces [32] ln).tail) = some (true, z)) (hzm : z.wires.length ≤ 1000) :
    Calls Tryz.prog 11 #[.agg #[.int .i64 (n : Int), .int .i64 (e : Int), .int .i64 S, s], .string (bstr ln)] w (GivesRun w (z, netTxt z.nodes z.ends z.scale z.wires.length (flatW z.wires))) := by
  obtain ⟨⟨h1, h5⟩, ⟨e1, e2⟩, _, hok, _⟩ := netP_of hB
  have hm : L.length ≤ 10 := prs_len (by omega) hok
  have HV := Lib.hid hs
  obtain ⟨p, cap, rfl, _⟩ := hs.open
  have HCp := Lib.hid (fun w' (g : Ge w w') => iCopyNet n e S (.slice p L.length cap) L.length (flatW L) w' (HV.out.ge g) (by omega))
  have hpos : 0 < ln.length := by cases ln with | nil => exact absurd rfl h0 | cons => simp
  have hsz : (bstr ln).size = ln.length := bstr_size ln
  have q0 := empty_f h0
  have hx : ∀ h, (bstr ln)[0]'h = bnth ln 0 := fun h => bstr_at ln 0 h
  have tc : decide (((bnth ln 0).toNat : Int) = 35) = false := by
    rw [decide_eq_false_iff_not]
    intro hh
    exact hc (by apply UInt8.toNat.inj; have : (35 : UInt8).toNat = 35 := rfl; omega)
  have tc2 : (((bnth ln 0).toNat : Int) == 35) = false := tc
  generalize bnth ln 0 = c0 at *
  have HCu := Lib.hid (fun w' => cutP ln w')
  rw [hp] at HCu
  have HSp : Hid (∀ w, Calls Tryz.prog 15 #[.string (bstr ln), .string ⟨#[32]⟩] w (GivesS w (pieces [32] ln))) := fun w => iSplitAny ln [32] w (by omega)
  have hN0 : 0 < (pieces [32] ln).length := by unfold pieces; simp
  have hN1 := pieces_len [32] ln
  have HIn := Lib.hid (fun v w' (h : SlS w' v (pieces [32] ln).tail) => iInts v (pieces [32] ln).tail w' h (by rw [List.length_tail]; omega) (fun x hx => by have := pieces_le x (List.mem_of_mem_tail hx); omega))
  unfold GivesN at HIn
  rw [hA] at HIn
  have HCh0 := Lib.hid (fun (v : Value) (s' : Value) (w' : World) (h1 : SlF w' s' L.length 3 (flatW L)) (h2 : SlI w' v (numsR (pieces [32] ln).tail)) => (iChanged n e S s' v L (tnth (pieces [32] ln) 0) (numsR (pieces [32] ln).tail) w' h1 hB h2).mono (fun _ _ h => h.1 _ _ hch))
  clear hp hA hch
  generalize z = Z at *
  have HFm := Lib.hid (fun s' w' (h : SlF w' s' Z.wires.length 3 (flatW Z.wires)) => iFormatNet Z.nodes Z.ends Z.scale s' Z.wires.length (flatW Z.wires) w' h (by omega))
  generalize netTxt Z.nodes Z.ends Z.scale Z.wires.length (flatW Z.wires) = TX at *
  generalize pieces [32] ln = l at *
  obtain ⟨NB0, R0⟩ := in_res w n e S (.slice p L.length cap)
  have RB0 : ResD ((w.alloc (.cells #[.int .i64 (n : Int), .int .i64 (e : Int), .int .i64 S, .slice p L.length cap] 33)).alloc (.cells #[.int .i64 0, .int .i64 0, .int .i64 0, .slice none 0 0] 33)) w.heap.size := (ResD.new w _ _ _ _ _).ge (Ge.alloc (Ge.refl _) _)
  go_enter Tryz.func11, Tryz.ntmps11
  go_upto_region 2 with (go_at_call 18; ((with_reducible refine (HCp.out _ (Ge.alloc (Ge.alloc (Ge.refl _) _) _)).mono ?_); rintro r w2 ⟨u2, rfl, o2, g2⟩); have R2 := R0.ge g2; have RB2 := RB0.ge g2; obtain ⟨r0, p0, f0⟩ := RB2 0 (by omega); obtain ⟨r1, p1, f1⟩ := RB2 1 (by omega); obtain ⟨r2, p2, f2⟩ := RB2 2 (by omega); obtain ⟨r3, p3, f3⟩ := RB2 3 (by omega); obtain ⟨pu, cu, rfl⟩ := owns_form o2)
  have HO2 : w2.ownsRow (w.heap.size + 2) 45 3 (.slice pu L.length cu) L.length (icells (flatW L)) := owns_mono o2 (by simp)
  have gw2 : Ge w w2 := Ge.trans (Ge.alloc (Ge.alloc (Ge.refl _) _) _) g2
  have hRA : RunAt w ((((w2.setCell ⟨w.heap.size, 0, none⟩ (.int .i64 (n : Int))).setCell ⟨w.heap.size, 1, none⟩ (.int .i64 (e : Int))).setCell ⟨w.heap.size, 2, none⟩ (.int .i64 S)).setCell ⟨w.heap.size, 3, none⟩ (.slice pu L.length cu)) n e S L (.slice pu L.length cu) :=
    ⟨⟨cell_set2 (by simp) (cell_set2 (by simp) (cell_set2 (by simp) (World.cell?_setCell_same _ _ _ p0))), cell_set2 (by simp) (cell_set2 (by simp) (World.cell?_setCell_same _ _ _ (cell_set2 (by simp) p1))), cell_set2 (by simp) (World.cell?_setCell_same _ _ _ (cell_set2 (by simp) (cell_set2 (by simp) p2))), World.cell?_setCell_same _ _ _ (cell_set2 (by simp) (cell_set2 (by simp) (cell_set2 (by simp) p3)))⟩,
      ResD.setO (ResD.setO (ResD.setO (ResD.setO R2 (by omega)) (by omega)) (by omega)) (by omega), own_setD (own_setD (own_setD (own_setD HO2 (by omega)) (by omega)) (by omega)) (by omega), set4_ge gw2 (Nat.le_refl _)⟩
  generalize ((((w2.setCell ⟨w.heap.size, 0, none⟩ (.int .i64 (n : Int))).setCell ⟨w.heap.size, 1, none⟩ (.int .i64 (e : Int))).setCell ⟨w.heap.size, 2, none⟩ (.int .i64 S)).setCell ⟨w.heap.size, 3, none⟩ (.slice pu L.length cu)) = W0 at *
  have HRA := Lib.hid hRA
  clear hRA HO2 gw2 p0 p1 p2 p3 f0 f1 f2 f3 RB2 R2 RB0 R0 NB0 HCp g2 o2
  obtain ⟨⟨b0, b1, b2, b3⟩, RS, _, g0⟩ := HRA.out
  go_upto_region 11 with (first
    | ((go_at_call 19; ((with_reducible refine (HCu.out _).mono ?_); rintro r w' ⟨rfl, rfl⟩)))
    | (go_at_call 15; ((with_reducible refine (HSp.out _).mono ?_); rintro r w9 ⟨u9, rfl, o9, g9⟩); have HL9 := Lib.hid o9; obtain ⟨gl, cl, rfl⟩ := Go.Joins.ownsRow_form o9 hN0; have y0 := own_strP o9 hN0; clear o9))
  have HRB := Lib.hid (HRA.out.ge g9)
  have hTl : Hid (∀ v, (v = .slice (some ⟨gl, 1, none⟩) (l.length - 1) (cl - 1) ∨ (cl = 1 ∧ v = .slice (some ⟨gl, 0, none⟩) (l.length - 1) (cl - 1))) → SlS w9 v l.tail) := fun v hv => tail_of HL9.out hN0 hv
  have hcl : 1 ≤ cl := by
    have := cap_of HL9.out _ _ rfl
    omega
  go_cut [11, 12] (fun v bv wx => ∃ (pX : Option Addr) (cX : Nat), v = .slice pX (numsR l.tail).length cX ∧ bv = .bool true ∧ Hid (SlI wx (.slice pX (numsR l.tail).length cX) (numsR l.tail)) ∧ Ge w9 wx)
  case first =>
    by_cases hcl1 : cl = 1
    · have hc1 : (cl = 1) = True := eq_true hcl1
      have hT1 := Lib.hid (hTl.out _ (.inr ⟨hcl1, rfl⟩))
      clear hcl1
      go_wp2_with (go_at_call 21; ((with_reducible refine (HIn.out _ _ hT1.out).mono ?_); rintro r w7 ⟨u7, rfl, o7, g7⟩); obtain ⟨pX, cX, rfl⟩ := owns_form o7)
      go_meet
      exact ⟨pX, cX, rfl, rfl, SlI.of_owns o7, g7⟩
    · have hc1 : (cl = 1) = False := eq_false hcl1
      have hT1 := Lib.hid (hTl.out _ (.inl rfl))
      go_wp2_with (go_at_call 21; ((with_reducible refine (HIn.out _ _ hT1.out).mono ?_); rintro r w7 ⟨u7, rfl, o7, g7⟩); obtain ⟨pX, cX, rfl⟩ := owns_form o7)
      go_meet
      exact ⟨pX, cX, rfl, rfl, SlI.of_owns o7, g7⟩
  obtain ⟨pX, cX, rfl, rfl, HX, gc⟩ := hcut
  have HX9 := HX
  generalize hwd : tnth l 0 = wd at *
  generalize numsR l.tail = X at *
  have HCh := Lib.hid (fun w' (g : Ge wc w') => HCh0.out (.slice pX X.length cX) (.slice pu L.length cu) w' (SlF.of_owns (g.owns (HRB.out.ge gc).2.2.1)) (HX9.out.ge g))
  have y0 := gc.keep y0
  clear hwd HCh0 HL9 hTl HIn HSp HCu
  obtain ⟨⟨b0, b1, b2, b3⟩, _, _, _⟩ := HRB.out.ge gc
  have zc : w.heap.size < wc.heap.size := World.block_lt_of_cell? _ _ b0
  go_upto_region 19 with (go_at_call 22; ((with_reducible refine (HCh.out _ (Ge.alloc (Ge.refl _) _)).mono ?_); rintro r w6 ⟨s6, rfl, o6, g6⟩); obtain ⟨pq, cq, rfl⟩ := owns_form o6)
  have gZ : Ge wc (w6.alloc (.cells #[.int .i64 Z.nodes, .int .i64 Z.ends, .int .i64 Z.scale, .slice pq Z.wires.length cq] 33)) := Ge.alloc (Ge.trans (Ge.alloc (Ge.refl _) _) g6) _
  obtain ⟨⟨b0, b1, b2, b3⟩, RS, HO, g1⟩ := (HRB.out.ge gc).ge gZ
  have q0 : (w6.alloc (.cells #[.int .i64 Z.nodes, .int .i64 Z.ends, .int .i64 Z.scale, .slice pq Z.wires.length cq] 33)).cell? ⟨w6.heap.size, 0, none⟩ = some (.int .i64 Z.nodes) := cell_new rfl rfl
  have q1 : (w6.alloc (.cells #[.int .i64 Z.nodes, .int .i64 Z.ends, .int .i64 Z.scale, .slice pq Z.wires.length cq] 33)).cell? ⟨w6.heap.size, 1, none⟩ = some (.int .i64 Z.ends) := cell_new rfl rfl
  have q2 : (w6.alloc (.cells #[.int .i64 Z.nodes, .int .i64 Z.ends, .int .i64 Z.scale, .slice pq Z.wires.length cq] 33)).cell? ⟨w6.heap.size, 2, none⟩ = some (.int .i64 Z.scale) := cell_new rfl rfl
  have q3 : (w6.alloc (.cells #[.int .i64 Z.nodes, .int .i64 Z.ends, .int .i64 Z.scale, .slice pq Z.wires.length cq] 33)).cell? ⟨w6.heap.size, 3, none⟩ = some (.slice pq Z.wires.length cq) := cell_new rfl rfl
  have o6 := Ge.owns (Ge.alloc (Ge.refl w6) (.cells #[.int .i64 Z.nodes, .int .i64 Z.ends, .int .i64 Z.scale, .slice pq Z.wires.length cq] 33)) o6
  have zb : w.heap.size + 1 < W0.heap.size := by obtain ⟨u, hu, _⟩ := HRA.out.2.1 0 (by omega); exact World.block_lt_of_cell? _ _ hu
  have zg := (g9.trans gc).size
  have o6 := Lib.hid (owns_mono (base' := w.heap.size + 2) o6 (by rw [World.size_alloc]; omega))
  generalize w6.heap.size = B6 at *
  generalize (w6.alloc (.cells #[.int .i64 Z.nodes, .int .i64 Z.ends, .int .i64 Z.scale, .slice pq Z.wires.length cq] 33)) = W1 at *
  refine wp_region_head (S := fun w' => Ge W1 w') 3 (by kernel_rfl) (by kernel_rfl) (Ge.drew (Ge.refl _)) (fun hHeld => ?_)
  refine head_takeR 0 (v := ?_) rfl ?_ ?_; rotate_left; (focus (intro w' hSw; (try dsimp only at hSw); have s0 := Ge.keep hSw q0; have s1 := Ge.keep hSw q1; have s2 := Ge.keep hSw q2; have s3 := Ge.keep hSw q3; go_simp; (try with_reducible rfl))); (try simp only [Act.put, hnA, hnB, hnC])
  refine head_takeR 1 (v := ?_) rfl ?_ ?_; rotate_left; (focus (intro w' hSw; (try dsimp only at hSw); have s0 := Ge.keep hSw q0; have s1 := Ge.keep hSw q1; have s2 := Ge.keep hSw q2; have s3 := Ge.keep hSw q3; go_simp; (try with_reducible rfl))); (try simp only [Act.put, hnA, hnB, hnC])
  refine head_one 2 rfl (by kernel_rfl) (fun K hK => ?_)
  go_simp
  (go_at_call 23; ((with_reducible refine (HFm.out _ _ (SlF.of_owns (Ge.owns (Ge.drew (Ge.refl _)) o6.out))).mono ?_); rintro r w5 ⟨rfl, g5⟩))
  have G5 : Ge W1 w5 := Ge.trans (Ge.drew (Ge.refl _)) g5
  refine hK.out _ _ G5 (fun hHeld2 => ?_)
  clear hK K
  (try simp only [Act.put, hnA, hnB, hnC])
  refine head_done (by kernel_rfl) ?_
  have RS := RS.ge G5
  obtain ⟨r4, p4, f4⟩ := RS 0 (by omega)
  obtain ⟨r5, p5, f5⟩ := RS 1 (by omega)
  obtain ⟨r6, p6, f6⟩ := RS 2 (by omega)
  obtain ⟨r7, p7, f7⟩ := RS 3 (by omega)
  go_wp2_with fail
  exact bodyPost_ret (v := .tuple #[.agg #[.int .i64 Z.nodes, .int .i64 Z.ends, .int .i64 Z.scale, .slice pq Z.wires.length cq], .string (bstr TX)]) (by simp [results, Tryz.results11, go_sem, *]) rfl (run_end (n := Z.nodes) (e := Z.ends) (S := Z.scale) (L := Z.wires) (G5.owns o6.out) (g1.trans G5))
set_option maxHeartbeats 1600000 in
theorem iRunShown (n e : Nat) (S : Int) (L : List Wr) (s : Value) (ln : List UInt8) (w : World) (hs : SlF w s L.length 3 (flatW L)) (hB : netB n e S L.length (flatW L) = true) (hln : ln.length ≤ 1000) (h0 : ¬ ln = []) (hc : ¬ bnth ln 0 = 35) (hp : Lib.hasPrefix ln netW = false) (hA : allB (pieces [32] ln).tail = true) (hch : chR n e S L (tnth (pieces [32] ln) 0) (numsR (pieces [32] ln).tail) = none) (hfd : fdFine ln e) :
    Calls Tryz.prog 11 #[.agg #[.int .i64 (n : Int), .int .i64 (e : Int), .int .i64 S, s], .string (bstr ln)] w (GivesRun w (⟨n, e, S, L⟩, shR n e S L (tnth (pieces [32] ln) 0) (numsR (pieces [32] ln).tail))) := by
  obtain ⟨⟨h1, h5⟩, ⟨e1, e2⟩, _, hok, _⟩ := netP_of hB
  have hm : L.length ≤ 10 := prs_len (by omega) hok
  have HV := Lib.hid hs
  obtain ⟨p, cap, rfl, _⟩ := hs.open
  have HCp := Lib.hid (fun w' (g : Ge w w') => iCopyNet n e S (.slice p L.length cap) L.length (flatW L) w' (HV.out.ge g) (by omega))
  have hpos : 0 < ln.length := by cases ln with | nil => exact absurd rfl h0 | cons => simp
  have hsz : (bstr ln).size = ln.length := bstr_size ln
  have q0 := empty_f h0
  have hx : ∀ h, (bstr ln)[0]'h = bnth ln 0 := fun h => bstr_at ln 0 h
  have tc : decide (((bnth ln 0).toNat : Int) = 35) = false := by
    rw [decide_eq_false_iff_not]
    intro hh
    exact hc (by apply UInt8.toNat.inj; have : (35 : UInt8).toNat = 35 := rfl; omega)
  have tc2 : (((bnth ln 0).toNat : Int) == 35) = false := tc
  generalize bnth ln 0 = c0 at *
  have HCu := Lib.hid (fun w' => cutP ln w')
  rw [hp] at HCu
  have HSp : Hid (∀ w, Calls Tryz.prog 15 #[.string (bstr ln), .string ⟨#[32]⟩] w (GivesS w (pieces [32] ln))) := fun w => iSplitAny ln [32] w (by omega)
  have hN0 : 0 < (pieces [32] ln).length := by unfold pieces; simp
  have hN1 := pieces_len [32] ln
  have HIn := Lib.hid (fun v w' (h : SlS w' v (pieces [32] ln).tail) => iInts v (pieces [32] ln).tail w' h (by rw [List.length_tail]; omega) (fun x hx => by have := pieces_le x (List.mem_of_mem_tail hx); omega))
  unfold GivesN at HIn
  rw [hA] at HIn
  have HCh0 := Lib.hid (fun (v : Value) (s' : Value) (w' : World) (h1 : SlF w' s' L.length 3 (flatW L)) (h2 : SlI w' v (numsR (pieces [32] ln).tail)) => (iChanged n e S s' v L (tnth (pieces [32] ln) 0) (numsR (pieces [32] ln).tail) w' h1 hB h2).mono (fun _ _ h => h.2 hch))
  have HSh0 := Lib.hid (fun (v : Value) (s' : Value) (w' : World) (h1 : SlF w' s' L.length 3 (flatW L)) (h2 : SlI w' v (numsR (pieces [32] ln).tail)) => iShown n e S s' v L (tnth (pieces [32] ln) 0) (numsR (pieces [32] ln).tail) w' h1 hB h2 hfd)
  clear hp hA hch
  obtain ⟨Z, hZ⟩ : ∃ Z : Nt, Z = ⟨0, 0, 0, []⟩ := ⟨_, rfl⟩
  rw [← hZ] at HCh0
  clear hZ
  generalize shR n e S L (tnth (pieces [32] ln) 0) (numsR (pieces [32] ln).tail) = TX at *
  unfold fdFine at hfd
  clear hfd
  generalize pieces [32] ln = l at *
  obtain ⟨NB0, R0⟩ := in_res w n e S (.slice p L.length cap)
  have RB0 : ResD ((w.alloc (.cells #[.int .i64 (n : Int), .int .i64 (e : Int), .int .i64 S, .slice p L.length cap] 33)).alloc (.cells #[.int .i64 0, .int .i64 0, .int .i64 0, .slice none 0 0] 33)) w.heap.size := (ResD.new w _ _ _ _ _).ge (Ge.alloc (Ge.refl _) _)
  go_enter Tryz.func11, Tryz.ntmps11
  go_upto_region 2 with (go_at_call 18; ((with_reducible refine (HCp.out _ (Ge.alloc (Ge.alloc (Ge.refl _) _) _)).mono ?_); rintro r w2 ⟨u2, rfl, o2, g2⟩); have R2 := R0.ge g2; have RB2 := RB0.ge g2; obtain ⟨r0, p0, f0⟩ := RB2 0 (by omega); obtain ⟨r1, p1, f1⟩ := RB2 1 (by omega); obtain ⟨r2, p2, f2⟩ := RB2 2 (by omega); obtain ⟨r3, p3, f3⟩ := RB2 3 (by omega); obtain ⟨pu, cu, rfl⟩ := owns_form o2)
  have HO2 : w2.ownsRow (w.heap.size + 2) 45 3 (.slice pu L.length cu) L.length (icells (flatW L)) := owns_mono o2 (by simp)
  have gw2 : Ge w w2 := Ge.trans (Ge.alloc (Ge.alloc (Ge.refl _) _) _) g2
  have hRA : RunAt w ((((w2.setCell ⟨w.heap.size, 0, none⟩ (.int .i64 (n : Int))).setCell ⟨w.heap.size, 1, none⟩ (.int .i64 (e : Int))).setCell ⟨w.heap.size, 2, none⟩ (.int .i64 S)).setCell ⟨w.heap.size, 3, none⟩ (.slice pu L.length cu)) n e S L (.slice pu L.length cu) :=
    ⟨⟨cell_set2 (by simp) (cell_set2 (by simp) (cell_set2 (by simp) (World.cell?_setCell_same _ _ _ p0))), cell_set2 (by simp) (cell_set2 (by simp) (World.cell?_setCell_same _ _ _ (cell_set2 (by simp) p1))), cell_set2 (by simp) (World.cell?_setCell_same _ _ _ (cell_set2 (by simp) (cell_set2 (by simp) p2))), World.cell?_setCell_same _ _ _ (cell_set2 (by simp) (cell_set2 (by simp) (cell_set2 (by simp) p3)))⟩,
      ResD.setO (ResD.setO (ResD.setO (ResD.setO R2 (by omega)) (by omega)) (by omega)) (by omega), own_setD (own_setD (own_setD (own_setD HO2 (by omega)) (by omega)) (by omega)) (by omega), set4_ge gw2 (Nat.le_refl _)⟩
  generalize ((((w2.setCell ⟨w.heap.size, 0, none⟩ (.int .i64 (n : Int))).setCell ⟨w.heap.size, 1, none⟩ (.int .i64 (e : Int))).setCell ⟨w.heap.size, 2, none⟩ (.int .i64 S)).setCell ⟨w.heap.size, 3, none⟩ (.slice pu L.length cu)) = W0 at *
  have HRA := Lib.hid hRA
  clear hRA HO2 gw2 p0 p1 p2 p3 f0 f1 f2 f3 RB2 R2 RB0 R0 NB0 HCp g2 o2
  obtain ⟨⟨b0, b1, b2, b3⟩, RS, _, g0⟩ := HRA.out
  go_upto_region 11 with (first
    | ((go_at_call 19; ((with_reducible refine (HCu.out _).mono ?_); rintro r w' ⟨rfl, rfl⟩)))
    | (go_at_call 15; ((with_reducible refine (HSp.out _).mono ?_); rintro r w9 ⟨u9, rfl, o9, g9⟩); have HL9 := Lib.hid o9; obtain ⟨gl, cl, rfl⟩ := Go.Joins.ownsRow_form o9 hN0; have y0 := own_strP o9 hN0; clear o9))
  have HRB := Lib.hid (HRA.out.ge g9)
  have hTl : Hid (∀ v, (v = .slice (some ⟨gl, 1, none⟩) (l.length - 1) (cl - 1) ∨ (cl = 1 ∧ v = .slice (some ⟨gl, 0, none⟩) (l.length - 1) (cl - 1))) → SlS w9 v l.tail) := fun v hv => tail_of HL9.out hN0 hv
  have hcl : 1 ≤ cl := by
    have := cap_of HL9.out _ _ rfl
    omega
  go_cut [11, 12] (fun v bv wx => ∃ (pX : Option Addr) (cX : Nat), v = .slice pX (numsR l.tail).length cX ∧ bv = .bool true ∧ Hid (SlI wx (.slice pX (numsR l.tail).length cX) (numsR l.tail)) ∧ Ge w9 wx)
  case first =>
    by_cases hcl1 : cl = 1
    · have hc1 : (cl = 1) = True := eq_true hcl1
      have hT1 := Lib.hid (hTl.out _ (.inr ⟨hcl1, rfl⟩))
      clear hcl1
      go_wp2_with (go_at_call 21; ((with_reducible refine (HIn.out _ _ hT1.out).mono ?_); rintro r w7 ⟨u7, rfl, o7, g7⟩); obtain ⟨pX, cX, rfl⟩ := owns_form o7)
      go_meet
      exact ⟨pX, cX, rfl, rfl, SlI.of_owns o7, g7⟩
    · have hc1 : (cl = 1) = False := eq_false hcl1
      have hT1 := Lib.hid (hTl.out _ (.inl rfl))
      go_wp2_with (go_at_call 21; ((with_reducible refine (HIn.out _ _ hT1.out).mono ?_); rintro r w7 ⟨u7, rfl, o7, g7⟩); obtain ⟨pX, cX, rfl⟩ := owns_form o7)
      go_meet
      exact ⟨pX, cX, rfl, rfl, SlI.of_owns o7, g7⟩
  obtain ⟨pX, cX, rfl, rfl, HX, gc⟩ := hcut
  have HX9 := HX
  generalize hwd : tnth l 0 = wd at *
  generalize numsR l.tail = X at *
  have HCh := Lib.hid (fun w' (g : Ge wc w') => HCh0.out (.slice pX X.length cX) (.slice pu L.length cu) w' (SlF.of_owns (g.owns (HRB.out.ge gc).2.2.1)) (HX9.out.ge g))
  have y0 := gc.keep y0
  clear hwd HCh0 HL9 hTl HIn HSp HCu
  obtain ⟨⟨b0, b1, b2, b3⟩, _, _, _⟩ := HRB.out.ge gc
  have zc : w.heap.size < wc.heap.size := World.block_lt_of_cell? _ _ b0
  go_upto_region 20 with (go_at_call 22; ((with_reducible refine (HCh.out _ (Ge.alloc (Ge.refl _) _)).mono ?_); rintro r w6 ⟨s6, rfl, o6, g6⟩); obtain ⟨pq, cq, rfl⟩ := owns_form o6)
  have gZ : Ge wc (w6.alloc (.cells #[.int .i64 Z.nodes, .int .i64 Z.ends, .int .i64 Z.scale, .slice pq Z.wires.length cq] 33)) := Ge.alloc (Ge.trans (Ge.alloc (Ge.refl _) _) g6) _
  obtain ⟨⟨b0, b1, b2, b3⟩, RS, HO, g1⟩ := (HRB.out.ge gc).ge gZ
  have y5 : (w6.alloc (.cells #[.int .i64 Z.nodes, .int .i64 Z.ends, .int .i64 Z.scale, .slice pq Z.wires.length cq] 33)).cell? ⟨wc.heap.size, 0, none⟩ = some (.string (bstr wd)) := (Ge.alloc g6 _).keep (cell_new rfl rfl)
  have y6 : (w6.alloc (.cells #[.int .i64 Z.nodes, .int .i64 Z.ends, .int .i64 Z.scale, .slice pq Z.wires.length cq] 33)).cell? ⟨wc.heap.size, 1, none⟩ = some (.int .i64 (X.length : Int)) := (Ge.alloc g6 _).keep (cell_new rfl rfl)
  have HSh := Lib.hid (fun w' (g : Ge (w6.alloc (.cells #[.int .i64 Z.nodes, .int .i64 Z.ends, .int .i64 Z.scale, .slice pq Z.wires.length cq] 33)) w') => HSh0.out (.slice pX X.length cX) (.slice pu L.length cu) w' (SlF.of_owns (g.owns HO)) (HX9.out.ge (gZ.trans g)))
  generalize (w6.alloc (.cells #[.int .i64 Z.nodes, .int .i64 Z.ends, .int .i64 Z.scale, .slice pq Z.wires.length cq] 33)) = W1 at *
  refine wp_region_head (S := fun w' => Ge W1 w') 5 (by kernel_rfl) (by kernel_rfl) (Ge.drew (Ge.refl _)) (fun hHeld => ?_)
  refine head_takeR 0 (v := ?_) rfl ?_ ?_; rotate_left; (focus (intro w' hSw; (try dsimp only at hSw); have s0 := Ge.keep hSw b0; have s1 := Ge.keep hSw b1; have s2 := Ge.keep hSw b2; have s3 := Ge.keep hSw b3; have s4 := Ge.keep hSw y5; have s5 := Ge.keep hSw y6; go_simp; (try with_reducible rfl))); (try simp only [Act.put, hnA, hnB, hnC])
  refine head_takeR 1 (v := ?_) rfl ?_ ?_; rotate_left; (focus (intro w' hSw; (try dsimp only at hSw); have s0 := Ge.keep hSw b0; have s1 := Ge.keep hSw b1; have s2 := Ge.keep hSw b2; have s3 := Ge.keep hSw b3; have s4 := Ge.keep hSw y5; have s5 := Ge.keep hSw y6; go_simp; (try with_reducible rfl))); (try simp only [Act.put, hnA, hnB, hnC])
  refine head_takeR 2 (v := ?_) rfl ?_ ?_; rotate_left; (focus (intro w' hSw; (try dsimp only at hSw); have s0 := Ge.keep hSw b0; have s1 := Ge.keep hSw b1; have s2 := Ge.keep hSw b2; have s3 := Ge.keep hSw b3; have s4 := Ge.keep hSw y5; have s5 := Ge.keep hSw y6; go_simp; (try with_reducible rfl))); (try simp only [Act.put, hnA, hnB, hnC])
  refine head_takeR 3 (v := ?_) rfl ?_ ?_; rotate_left; (focus (intro w' hSw; (try dsimp only at hSw); have s0 := Ge.keep hSw b0; have s1 := Ge.keep hSw b1; have s2 := Ge.keep hSw b2; have s3 := Ge.keep hSw b3; have s4 := Ge.keep hSw y5; have s5 := Ge.keep hSw y6; go_simp; (try with_reducible rfl))); (try simp only [Act.put, hnA, hnB, hnC])
  refine head_one 4 rfl (by kernel_rfl) (fun K hK => ?_)
  go_simp
  (go_at_call 24; ((with_reducible refine (HSh.out _ (Ge.drew (Ge.refl _))).mono ?_); rintro r w5 ⟨rfl, g5⟩))
  have G5 : Ge W1 w5 := Ge.trans (Ge.drew (Ge.refl _)) g5
  refine hK.out _ _ G5 (fun hHeld2 => ?_)
  clear hK K
  (try simp only [Act.put, hnA, hnB, hnC])
  refine head_done (by kernel_rfl) ?_
  have RS := RS.ge G5
  obtain ⟨r4, p4, f4⟩ := RS 0 (by omega)
  obtain ⟨r5, p5, f5⟩ := RS 1 (by omega)
  obtain ⟨r6, p6, f6⟩ := RS 2 (by omega)
  obtain ⟨r7, p7, f7⟩ := RS 3 (by omega)
  go_wp2_with fail
  exact bodyPost_ret (v := .tuple #[.agg #[.int .i64 (n : Int), .int .i64 (e : Int), .int .i64 S, .slice pu L.length cu], .string (bstr TX)]) (by simp [results, Tryz.results11, go_sem, *]) rfl (run_end (G5.owns HO) (g1.trans G5))
theorem iRunLine (n e : Nat) (S : Int) (L : List Wr) (s : Value) (ln : List UInt8) (w : World) (hs : SlF w s L.length 3 (flatW L)) (hB : netB n e S L.length (flatW L) = true) (hln : ln.length ≤ 1000) (hfd : fdFine ln e) :
    Calls Tryz.prog 11 #[.agg #[.int .i64 (n : Int), .int .i64 (e : Int), .int .i64 S, s], .string (bstr ln)] w (GivesRun w (runL ⟨n, e, S, L⟩ ln)) := by
  unfold runL
  by_cases h0 : ln = []
  · rw [if_pos (Or.inl h0)]
    exact iRunEmpty n e S L s ln w hs hB hln h0
  by_cases hc : bnth ln 0 = 35
  · rw [if_pos (Or.inr hc)]
    exact iRunSharp n e S L s ln w hs hB hln h0 hc
  rw [if_neg (fun h => h.elim h0 hc)]
  cases hp : Lib.hasPrefix ln netW with
  | true =>
    rw [if_pos rfl]
    cases hb : pnB (hdI (Lib.trimPrefix ln netW)) (Lib.trimPrefix ln netW) with
    | true =>
      rw [if_pos rfl]
      exact iRunNetT n e S L s ln w hs hB hln h0 hc hp hb
    | false =>
      rw [if_neg (by simp)]
      exact iRunNetF n e S L s ln w hs hB hln h0 hc hp hb
  | false =>
    rw [if_neg (by simp)]
    cases hA : allB (pieces [32] ln).tail with
    | false =>
      rw [if_neg (by simp)]
      exact iRunIntsF n e S L s ln w hs hB hln h0 hc hp hA
    | true =>
      rw [if_pos rfl]
      simp only [Int.toNat_natCast]
      cases hch : chR n e S L (tnth (pieces [32] ln) 0) (numsR (pieces [32] ln).tail) with
      | none => exact iRunShown n e S L s ln w hs hB hln h0 hc hp hA hch hfd
      | some q =>
        obtain ⟨b, z⟩ := q
        cases b with
        | false => exact iRunChF n e S L s ln w hs hB hln h0 hc hp hA z hch
        | true =>
          obtain ⟨n', e', hn, he, hz⟩ := ch_ok hB (okR_redF n e S L hB) hch
          obtain ⟨⟨k1, k5⟩, _, _, hok, _⟩ := netP_of hz
          have hm : z.wires.length ≤ 10 := prs_len (by omega) hok
          exact iRunChT n e S L s ln w hs hB hln h0 hc hp hA z hch (by omega)
theorem iRunLineN (y : Nt) (s : Value) (ln : List UInt8) (w : World) (hy : okNt y) (hs : SlF w s y.wires.length 3 (flatW y.wires)) (hln : ln.length ≤ 1000) (hfd : ∀ e, fdFine ln e) :
    Calls Tryz.prog 11 #[.agg #[.int .i64 y.nodes, .int .i64 y.ends, .int .i64 y.scale, s], .string (bstr ln)] w (GivesRun w (runL y ln)) := by
  obtain ⟨nn, ee, S, L⟩ := y
  obtain ⟨n, e, hn, he, hB⟩ := hy
  simp only at hn he hB hs ⊢
  subst hn
  subst he
  exact iRunLine n e S L s ln w hs hB hln (hfd e)
theorem runL_ok {y : Nt} (hy : okNt y) (ln : List UInt8) : okNt (runL y ln).1 := by
  unfold runL
  split
  · exact hy
  split
  · split
    · next hb =>
      obtain ⟨hB, _, _⟩ := pn_facts (Or.inl rfl) hb
      generalize Lib.trimPrefix ln netW = t at *
      obtain ⟨k1, k2, k3⟩ := pn_t hb
      obtain ⟨w1, w2⟩ := pnN_w t
      obtain ⟨⟨a1, a5⟩, ⟨c1, c2⟩, _⟩ := netP_of hB
      refine ⟨(pv (tnth (hdI t) 0)).toNat, (pv (tnth (hdI t) 1)).toNat, ?_, ?_, ?_⟩
      · show pnV t 0 = _
        rw [k1 0]
        omega
      · show pnV t 1 = _
        rw [k1 1]
        omega
      · have e2 : (pnN t).scale = pv (tnth (hdI t) 2) := k1 2
        rw [w1, w2, k2, k3, e2, Int.toNat_of_nonneg (by omega), Int.toNat_of_nonneg (by omega)]
        exact hB
    · exact hy
  split
  · obtain ⟨n, e, hn, he, hB⟩ := hy
    rw [hn, he]
    simp only [Int.toNat_natCast]
    split
    · next z hch => exact ch_ok hB (okR_redF n e y.scale y.wires hB) hch
    · exact ⟨n, e, hn, he, hB⟩
    · exact ⟨n, e, hn, he, hB⟩
  · exact hy
end Go.Proofs.YtagiecajffhnpaaGreat

namespace Go.Proofs.YtagiecajffhnpaaGreat

open Go.RowKit

theorem orN_le {s : List UInt8} {b : Bool} {B : Nat} (h : s.length ≤ B) (h4 : 4 ≤ B) : (orN s b).length ≤ B := by
  unfold orN
  split
  · exact h
  · simp; omega
theorem netTxt_len (N E S : Int) (m : Nat) (xs : List Int) : (netTxt N E S m xs).length ≤ 69 + 69 * m := by
  have := netPart_le N E S xs m
  unfold netTxt
  split
  · exact this
  · simp
theorem netLs_join2 (n e m : Nat) (S : Int) (xs : List Int) (he : e ≤ 5) (hm : m ≤ 10) : (Lib.join (netLs n e m S xs e) [59]).length ≤ 700000 := by
  have h := join_le [59] (netLs n e m S xs e) 100001 (fun t ht => by
    have := netLs_each n e m S xs he hm e (Nat.le_refl _) t ht
    omega)
  rw [netLs_length] at h
  have h2 : ([59].length + 100001) * (e + 1) ≤ ([59].length + 100001) * 6 := Nat.mul_le_mul_left _ (by omega)
  simp only [List.length_cons, List.length_nil] at h h2
  omega
theorem spTxt_len (l : List Int) (h : l.length ≤ 1001) : (spTxt l).length ≤ 100000 := by
  have h1 := join_le [32] (l.map fmtInt) 30 (fun t ht => by
    simp only [List.mem_map] at ht
    obtain ⟨y, _, rfl⟩ := ht
    have := fmtInt_length y
    omega)
  rw [List.length_map] at h1
  simp only [List.length_cons, List.length_nil] at h1
  unfold spTxt
  have h2 : (0 + 1 + 30) * l.length ≤ (0 + 1 + 30) * 1001 := Nat.mul_le_mul_left _ h
  omega
theorem tileLine_len (k : Nat) (xs : List Int) (h : k ≤ 1000) : (tileLine k xs).length ≤ 100000 := by
  have := tilePart_le k xs k
  unfold tileLine
  split
  · omega
  · simp
theorem faultLine_len (k : Nat) (xs : List Int) (h : k ≤ 1000) : (faultLine k xs).length ≤ 100000 := by
  unfold faultLine
  split
  · simp
  · have := fTxts_join xs k
    omega
theorem resLine_len (N E S : Int) (m : Nat) (xs : List Int) (a b : Int) : (resLine N E S m xs a b).length ≤ 200 := by
  unfold resLine
  split
  · have h1 := ratioTxt_le (resR N E S m xs a b).n (resR N E S m xs a b).d
    have h2 := fmtInt_length (treeV N E S m xs)
    simp only [List.length_append, List.length_cons, List.length_nil]
    omega
  · simp
theorem potLine_len (n : Nat) (E S : Int) (m : Nat) (xs : List Int) (a b : Int) (hn : n ≤ 5) : (potLine n E S m xs a b).length ≤ 300 := by
  unfold potLine
  split
  · have := rowLine_le (n : Int).toNat (potL (n : Int).toNat E S m xs a b (n : Int).toNat)
    rw [Int.toNat_natCast] at this ⊢
    omega
  · simp
theorem ite_len {c : Prop} [Decidable c] {a b : List UInt8} {B : Nat} (ha : a.length ≤ B) (hb : b.length ≤ B) : (if c then a else b).length ≤ B := by
  split
  · exact ha
  · exact hb
theorem shR_len {n e : Nat} {S : Int} {L : List Wr} (hn : n ≤ 5) (he : e ≤ 5) (hm : L.length ≤ 10) (wd : List UInt8) (x : List Int) : (shR n e S L wd x).length ≤ 1000000 := by
  unfold shR
  refine ite_len (ite_len (orN_le (by have := rowLine_le e (fdL n e L.length S (flatW L) x e); omega) (by omega)) (orN_le (by have := rowLine_le 0 []; omega) (by omega))) ?_
  refine ite_len (by have := netLs_join2 n e L.length S (flatW L) he hm; omega) ?_
  refine ite_len (orN_le (by have := resLine_len n e S L.length (flatW L) (nth x 0) (nth x 1); omega) (by omega)) ?_
  refine ite_len (orN_le (by have := potLine_len n e S L.length (flatW L) (nth x 0) (nth x 1) hn; omega) (by omega)) ?_
  refine ite_len (orN_le (Nat.le_trans (ratioTxt_le _ _) (by omega)) (by omega)) ?_
  refine ite_len (orN_le (Nat.le_trans (ratioTxt_le _ _) (by omega)) (by omega)) ?_
  refine ite_len (orN_le (Nat.le_trans (ratioTxt_le _ _) (by omega)) (by omega)) ?_
  refine ite_len (by
    have h1 := like_in n e S L.length (flatW L) (fun a => respL n e L.length S (flatW L) a e) hm
    have := faultLine_len _ (flatP (likeL n e S L.length (flatW L) (fun a => respL n e L.length S (flatW L) a e))) h1.1
    omega) ?_
  refine ite_len (orN_le (by have h1 := blindL_len n e L.length (flatW L) L.length; have := spTxt_len (blindL n e L.length (flatW L) L.length) (by omega); omega) (by omega)) ?_
  refine ite_len (orN_le (by have h1 := termsOf_len (nth x 0) (nth x 1); have := spTxt_len (termsOf (nth x 0) (nth x 1)) (by omega); omega) (by omega)) ?_
  refine ite_len ?_ (by unfold unkT; simp)
  cases hk : cutO (nth x 0) (nth x 1) with
  | none => exact orN_le (by have := tileLine_len 0 [] (by omega); omega) (by omega)
  | some k => exact orN_le (by have := tileLine_len k (cutX (nth x 0).toNat (nth x 1).toNat k) (cut_facts hk).1; omega) (by omega)
theorem runL_len {y : Nt} (hy : okNt y) (ln : List UInt8) : (runL y ln).2.length ≤ 1000000 := by
  have hy' := hy
  obtain ⟨n, e, hn, he, hB⟩ := hy
  obtain ⟨⟨k1, k5⟩, ⟨e1, e2⟩, _, hok, _⟩ := netP_of hB
  have hm : y.wires.length ≤ 10 := prs_len (by omega) hok
  unfold runL
  split
  · simp
  split
  · split
    · simp
    · simp [unkT]
  split
  · rw [hn, he]
    simp only [Int.toNat_natCast]
    split
    · next z hch =>
      obtain ⟨n', e', hn', he', hz⟩ := ch_ok hB (okR_redF n e y.scale y.wires hB) hch
      obtain ⟨⟨j1, j5⟩, _, _, hok', _⟩ := netP_of hz
      have hm' : z.wires.length ≤ 10 := prs_len (by omega) hok'
      have := netTxt_len z.nodes z.ends z.scale z.wires.length (flatW z.wires)
      show (netTxt _ _ _ _ _).length ≤ _
      omega
    · simp
    · exact shR_len (by omega) (by omega) hm _ _
  · simp [unkT]
/-- The first network of a session. -/
def newN : Nt := ⟨2, 2, 1, [⟨0, 1, 1⟩]⟩
theorem newN_ok : okNt newN := ⟨2, 2, rfl, rfl, netB_true ⟨by decide, by decide, by decide, by
  intro k hk
  have : k = 0 := by simp [newN] at hk; omega
  subst this
  refine ⟨by unfold okW wa wb ww; decide, fun h => absurd h (by omega)⟩, by decide⟩⟩
/-- The network and the text behind the first k lines. -/
noncomputable def sesK (l : List (List UInt8)) : Nat → Nt × List UInt8
  | 0 => (newN, [])
  | k + 1 => ((runL (sesK l k).1 (tnth l k)).1, if (runL (sesK l k).1 (tnth l k)).2 = [] then (sesK l k).2 else (sesK l k).2 ++ ((runL (sesK l k).1 (tnth l k)).2 ++ [10]))
theorem sesK_ok (l : List (List UInt8)) : ∀ k, okNt (sesK l k).1
  | 0 => newN_ok
  | k + 1 => runL_ok (sesK_ok l k) _
theorem sesK_len (l : List (List UInt8)) : ∀ k, (sesK l k).2.length ≤ 1000001 * k
  | 0 => by simp [sesK]
  | k + 1 => by
    have h1 := sesK_len l k
    have h2 := runL_len (sesK_ok l k) (tnth l k)
    simp only [sesK]
    split
    · omega
    · simp only [List.length_append, List.length_cons, List.length_nil]
      omega
/-- The lines of a text. -/
def linesOf (s : List UInt8) : List (List UInt8) := if tnth (pieces [10] s) ((pieces [10] s).length - 1) = [] then (pieces [10] s).dropLast else pieces [10] s
end Go.Proofs.YtagiecajffhnpaaGreat

namespace Go.Proofs.YtagiecajffhnpaaGreat
set_option maxRecDepth 100000
open Go.ChangeShapes Go.WideShapes Go.ChangeAt Go.RowKit Go.Joins

theorem iNewCon (w : World) : Calls Tryz.prog 10 #[] w fun r w' => ∃ g c, r = .returned (.agg #[.int .i64 2, .int .i64 2, .int .i64 1, .slice (some ⟨g, 0, none⟩) 1 c]) ∧ SlF w' (.slice (some ⟨g, 0, none⟩) 1 c) 1 3 [0, 1, 1] ∧ w.heap.size ≤ g ∧ g < w'.heap.size ∧ Ge w w' := by
  go_enter Tryz.func10, Tryz.ntmps10
  go_wp2_with fail
  have h := World.ownsRow_lit (base := w.heap.size) (e := 45) (size := 3) (w.alloc (.cells #[.int .i64 2, .int .i64 2, .int .i64 1, .slice (some ⟨w.heap.size + 1, 0, none⟩) 1 1] 33)) #[.int .i64 0, .int .i64 1, .int .i64 1] 1 (by simp) (by unfold maxLen; omega) rfl
  rw [World.size_alloc] at h
  have h2 : SlF ((w.alloc (.cells #[.int .i64 2, .int .i64 2, .int .i64 1, .slice (some ⟨w.heap.size + 1, 0, none⟩) 1 1] 33)).alloc (.cells #[.int .i64 0, .int .i64 1, .int .i64 1] 45)) (.slice (some ⟨w.heap.size + 1, 0, none⟩) 1 1) 1 3 [0, 1, 1] := SlF.of_owns (n := 1) (xs := [0, 1, 1]) h
  exact bodyPost_ret (v := .agg #[.int .i64 2, .int .i64 2, .int .i64 1, .slice (some ⟨w.heap.size + 1, 0, none⟩) 1 1]) (by simp [results, Tryz.results10, go_sem]) rfl ⟨_, _, rfl, h2, by omega, by simp, kge⟩
/-- A list of texts without its last one. -/
theorem init_of {w : World} {base g cap : Nat} {e : TypeId} {l : List (List UInt8)} (h : w.ownsRow base e 1 (.slice (some ⟨g, 0, none⟩) l.length cap) l.length (scells l)) : SlS w (.slice (some ⟨g, 0, none⟩) (l.length - 1) cap) l.dropLast := by
  have hlt : (scells l.dropLast).length = l.length - 1 := by rw [scells_length, List.length_dropLast]
  refine ⟨by rw [hlt, List.length_dropLast]; omega, some ⟨g, 0, none⟩, cap, by rw [List.length_dropLast], fun i u hu => ⟨g, 0, rfl, ?_⟩⟩
  have hi := (List.getElem?_eq_some_iff.1 hu).1
  rw [hlt] at hi
  rw [Nat.zero_add, h.cellAt i (by omega), ← hu]
  unfold scells
  rw [List.getElem?_map, List.getElem?_map, List.getElem?_dropLast, if_pos (by omega)]
set_option maxHeartbeats 1600000 in
theorem iSplitLines (s : List UInt8) (w : World) (hm : s.length ≤ 1048576) : Calls Tryz.prog 8 #[.string (bstr s)] w fun r w' => ∃ v, r = .returned v ∧ SlS w' v (linesOf s) ∧ Ge w w' := by
  have HS : Hid (∀ w, Calls Tryz.prog 15 #[.string (bstr s), .string ⟨#[10]⟩] w (GivesS w (pieces [10] s))) := fun w => iSplitAny s [10] w hm
  have hn0 : 0 < (pieces [10] s).length := by unfold pieces; simp
  have hn1 := pieces_len [10] s
  unfold linesOf
  generalize pieces [10] s = l at *
  obtain ⟨m, hl⟩ : ∃ m, l.length = m + 1 := ⟨l.length - 1, by omega⟩
  have hLm : l.length - 1 = m := by omega
  rw [hLm]
  have HL := Lib.hid hl
  have HLm := Lib.hid hLm
  by_cases hc : tnth l m = []
  · rw [if_pos hc]
    have HC : Hid ((bstr (tnth l m)).toList.isEmpty = true) := by show _ = _; rw [hc]; exact empty_t
    clear hc hl hLm
    go_enter Tryz.func8, Tryz.ntmps8
    go_wp2_with ((go_at_call 15; ((with_reducible refine (HS.out _).mono ?_); rintro r w9 ⟨u9, rfl, o9, g9⟩); have HO := Lib.hid o9; obtain ⟨gl, cl, rfl⟩ := Go.Joins.ownsRow_form o9 hn0; have hz := Lib.hid (init_of HO.out); have hcp := cap_of o9 _ _ rfl; rw [HL.out] at o9 hcp; have y0 := own_strP o9 (show m < m + 1 by omega); clear o9; have q0 := HC.out; have hl2 := HL.out; have hl3 : m ≤ cl := (by omega)))
    go_ret
    refine ⟨_, rfl, ?_, g9⟩
    have h := hz.out
    rw [HLm.out] at h
    exact h
  · rw [if_neg hc]
    have HC : Hid ((bstr (tnth l m)).toList.isEmpty = false) := empty_f hc
    clear hc hl hLm
    go_enter Tryz.func8, Tryz.ntmps8
    go_wp2_with ((go_at_call 15; ((with_reducible refine (HS.out _).mono ?_); rintro r w9 ⟨u9, rfl, o9, g9⟩); have HO := Lib.hid (SlS.of_owns o9); obtain ⟨gl, cl, rfl⟩ := Go.Joins.ownsRow_form o9 hn0; rw [HL.out] at o9; have y0 := own_strP o9 (show m < m + 1 by omega); clear o9; have q0 := HC.out; have hl2 := HL.out))
    go_ret
    refine ⟨_, rfl, ?_, g9⟩
    have h := HO.out
    rw [HL.out] at h
    exact h
end Go.Proofs.YtagiecajffhnpaaGreat

namespace Go.Proofs.YtagiecajffhnpaaGreat
set_option maxRecDepth 100000
open Go.ChangeShapes Go.WideShapes Go.ChangeAt Go.RowKit Go.Joins

def sesGood (l : List (List UInt8)) : Prop := ∀ ln ∈ l, ln.length ≤ 1000 ∧ ∀ e, fdFine ln e
theorem own_ne {w : World} {base e sz n c B : Nat} {p : Option Addr} {xs : List Value} (h : w.ownsRow base e sz (.slice p n c) n xs) (hb : B < base) : ∀ q, p = some q → q.block ≠ B := by
  rcases h.2 with ⟨h', _⟩ | ⟨g, cap, cur, h', hg, _⟩
  · simp only [Value.slice.injEq] at h'
    obtain ⟨rfl, _⟩ := h'
    intro q hq
    cases hq
  · simp only [Value.slice.injEq] at h'
    obtain ⟨rfl, _⟩ := h'
    intro q hq
    rw [← Option.some.inj hq]
    show g ≠ B
    omega
/-- The state of a session: a network in the box B. -/
def SesAt (w0 wr : World) (B : Nat) (y : Nt) (p : Option Addr) (c : Nat) : Prop :=
  NetIn wr B y.nodes y.ends y.scale (.slice p y.wires.length c) ∧ ResD wr B ∧ SlF wr (.slice p y.wires.length c) y.wires.length 3 (flatW y.wires) ∧ (∀ q, p = some q → q.block ≠ B) ∧ Ge w0 wr
theorem SesAt.next {w0 wr w9 : World} {B : Nat} {y z : Nt} {p p9 : Option Addr} {c c9 : Nat} {o : Obj} (h : SesAt w0 wr B y p c) (h0 : w0.heap.size ≤ B) (g9 : Ge wr w9) (o9 : w9.ownsRow wr.heap.size 45 3 (.slice p9 z.wires.length c9) z.wires.length (icells (flatW z.wires))) :
    SesAt w0 (((((w9.setCell ⟨B, 0, none⟩ (.int .i64 z.nodes)).setCell ⟨B, 1, none⟩ (.int .i64 z.ends)).setCell ⟨B, 2, none⟩ (.int .i64 z.scale)).setCell ⟨B, 3, none⟩ (.slice p9 z.wires.length c9)).alloc o) B z p9 c9 := by
  obtain ⟨_, hR, _, _, hg⟩ := h
  have zB : B < wr.heap.size := by obtain ⟨u, hu, _⟩ := hR 0 (by omega); exact World.block_lt_of_cell? _ _ hu
  have hR := hR.ge g9
  have hn := own_ne o9 zB
  have hsl := SlF.of_owns o9
  obtain ⟨_, p0, _⟩ := hR 0 (by omega)
  obtain ⟨_, p1, _⟩ := hR 1 (by omega)
  obtain ⟨_, p2, _⟩ := hR 2 (by omega)
  obtain ⟨_, p3, _⟩ := hR 3 (by omega)
  refine ⟨NetIn.ge ⟨?_, ?_, ?_, ?_⟩ (Ge.alloc (Ge.refl _) _), (ResD.setB (ResD.setB (ResD.setB (ResD.setB hR)))).ge (Ge.alloc (Ge.refl _) _), SlF.ge ?_ (Ge.alloc (Ge.refl _) _), hn, Ge.alloc (set4_ge (hg.trans g9) h0) _⟩
  · exact cell_set2 (by simp) (cell_set2 (by simp) (cell_set2 (by simp) (World.cell?_setCell_same _ _ _ p0)))
  · exact cell_set2 (by simp) (cell_set2 (by simp) (World.cell?_setCell_same _ _ _ (cell_set2 (by simp) p1)))
  · exact cell_set2 (by simp) (World.cell?_setCell_same _ _ _ (cell_set2 (by simp) (cell_set2 (by simp) p2)))
  · exact World.cell?_setCell_same _ _ _ (cell_set2 (by simp) (cell_set2 (by simp) (cell_set2 (by simp) p3)))
  · exact SlF.gr (SlF.gr (SlF.gr (SlF.gr hsl (Gr.set B _ 0 _) hn) (Gr.set B _ 1 _) hn) (Gr.set B _ 2 _) hn) (Gr.set B _ 3 _) hn
theorem SesAt.start {w2 : World} {g c : Nat} (o2 : SlF w2 (.slice (some ⟨g, 0, none⟩) 1 c) 1 3 [0, 1, 1]) (hg : g < w2.heap.size) :
    SesAt w2 (w2.alloc (.cells #[.int .i64 2, .int .i64 2, .int .i64 1, .slice (some ⟨g, 0, none⟩) 1 c] 33)) w2.heap.size newN (some ⟨g, 0, none⟩) c :=
  ⟨NetIn.new w2 2 2 1 _, ResD.new w2 _ _ _ _ _, o2.ge (Ge.alloc (Ge.refl _) _), fun q hq => by rw [← Option.some.inj hq]; show g ≠ _; omega, Ge.alloc (Ge.refl _) _⟩
theorem ses_txt (a b : List UInt8) : bstr a ++ (bstr b ++ ⟨#[10]⟩) = bstr (a ++ (b ++ [10])) := by rw [← bstr_append, ← bstr_append]; rfl
set_option maxHeartbeats 1600000 in
theorem iRunSession (t : List UInt8) (w : World) (hm : t.length ≤ 1048576) (h40 : (linesOf t).length ≤ 40) (hgd : sesGood (linesOf t)) :
    Calls Tryz.prog 7 #[.string (bstr t)] w fun r w' => r = .returned (.tuple #[.string (bstr (sesK (linesOf t) (linesOf t).length).2), .int .i64 ((linesOf t).length : Int)]) ∧ Ge w w' := by
  have HS := Lib.hid (fun w' => iSplitLines t w' hm)
  generalize linesOf t = l at *
  obtain ⟨N, hN⟩ : ∃ N, l.length = N := ⟨_, rfl⟩
  have HN := Lib.hid hN
  rw [hN] at h40 ⊢
  have HG : Hid (∀ k, k < N → (tnth l k).length ≤ 1000 ∧ ∀ e, fdFine (tnth l k) e) := fun k hk => by rw [tnth_eq l k (by omega)]; exact hgd _ (List.getElem_mem _)
  have t40 : decide ((40 : Int) < (N : Int)) = false := by simp; omega
  clear hgd hN
  go_enter Tryz.func7, Tryz.ntmps7
  go_wp2_with (first
    | ((go_at_call 8; ((with_reducible refine (HS.out _).mono ?_); rintro r w1 ⟨v1, rfl, o1, g1⟩)); obtain ⟨p1, c1, rfl, hx1⟩ := o1.openN HN.out; have HX1 := Lib.hid hx1; clear hx1)
    | ((go_at_call 10; ((with_reducible refine (iNewCon _).mono ?_); rintro r w2 ⟨gb, cb, rfl, o2, hg1, hg2, g2⟩)); have HS0 := Lib.hid (SesAt.start o2 hg2)))
  have g12 := g1.trans g2
  have hz2 := g2.size
  go_loopw [6, 19] (fun o i wr => ∃ (k : Nat) (p : Option Addr) (c : Nat), k ≤ N ∧ i = .int .i64 k ∧ o = .string (bstr (sesK l k).2) ∧ Hid (SesAt w2 wr w2.heap.size (sesK l k).1 p c)) (fun _ i _ => N - (intOf i).toNat)
  case atStart => exact ⟨0, _, _, Nat.zero_le _, rfl, rfl, HS0.out⟩
  case round =>
    clear HS0 o2
    obtain ⟨k, p, c, hk, rfl, rfl, HSt⟩ := hrel
    by_cases hlt : k < N
    · have hlen := sesK_len l k
      have hok := sesK_ok l k
      have HK : Hid (sesK l (k + 1) = ((runL (sesK l k).1 (tnth l k)).1, if (runL (sesK l k).1 (tnth l k)).2 = [] then (sesK l k).2 else (sesK l k).2 ++ ((runL (sesK l k).1 (tnth l k)).2 ++ [10]))) := rfl
      obtain ⟨⟨b0, b1, b2, b3⟩, RS, hSl, _, hg⟩ := HSt.out
      have HRn := Lib.hid (iRunLineN (sesK l k).1 (.slice p (sesK l k).1.wires.length c) (tnth l k) wr hok hSl (HG.out k hlt).1 (HG.out k hlt).2)
      have hrl := runL_len hok (tnth l k)
      obtain ⟨bx, ox, hpx, x0⟩ := HX1.out k hlt
      subst hpx
      have x0 := hg.keep (g2.keep x0)
      have zB := World.block_lt_of_cell? _ _ b0
      generalize (sesK l k).2 = T at *
      generalize (sesK l k).1 = y at *
      generalize tnth l k = ln at *
      generalize runL y ln = R at *
      have HRS := Lib.hid RS
      have s1 : (bstr T).size ≤ 1000001 * k := by rw [bstr_size]; exact hlen
      have s2 : (bstr R.2).size ≤ 1000000 := by rw [bstr_size]; exact hrl
      have s3 : (bstr R.2 ++ (⟨#[10]⟩ : ByteArray)).size ≤ 1000001 := by rw [show (⟨#[10]⟩ : ByteArray) = bstr [10] from rfl, bstr_append, bstr_size]; simp; omega
      clear hok hSl RS hlen hrl hg
      by_cases hR : R.2 = []
      · have q0 : (bstr R.2).toList.isEmpty = true := by rw [hR]; exact empty_t
        have HKn : Hid (sesK l (k + 1) = (R.1, T)) := by show _ = _; rw [HK.out, if_pos hR]
        clear HK hR
        go_wp2_with ((go_at_call 11; ((with_reducible refine HRn.out.mono ?_); rintro r w9 ⟨u9, rfl, o9, g9⟩)); obtain ⟨p9, c9, rfl⟩ := owns_form o9; have R9 := HRS.out.ge g9; obtain ⟨r4, p4, f4⟩ := R9 0 (by omega); obtain ⟨r5, p5, f5⟩ := R9 1 (by omega); obtain ⟨r6, p6, f6⟩ := R9 2 (by omega); obtain ⟨r7, p7, f7⟩ := R9 3 (by omega); have z9 := g9.size; have z10 : w2.heap.size < w9.heap.size := (by omega); have HO9 := Lib.hid o9; clear o9 R9)
        go_roundw
        case rel => exact ⟨k + 1, p9, c9, by omega, by go_num, by rw [HKn.out], by rw [HKn.out]; exact HSt.out.next (Nat.le_refl _) g9 HO9.out⟩
        case measure => simp [intOf]; omega
      · have q0 : (bstr R.2).toList.isEmpty = false := empty_f hR
        have HKn : Hid (sesK l (k + 1) = (R.1, T ++ (R.2 ++ [10]))) := by show _ = _; rw [HK.out, if_neg hR]
        clear HK hR
        go_wp2_with ((go_at_call 11; ((with_reducible refine HRn.out.mono ?_); rintro r w9 ⟨u9, rfl, o9, g9⟩)); obtain ⟨p9, c9, rfl⟩ := owns_form o9; have R9 := HRS.out.ge g9; obtain ⟨r4, p4, f4⟩ := R9 0 (by omega); obtain ⟨r5, p5, f5⟩ := R9 1 (by omega); obtain ⟨r6, p6, f6⟩ := R9 2 (by omega); obtain ⟨r7, p7, f7⟩ := R9 3 (by omega); have z9 := g9.size; have z10 : w2.heap.size < w9.heap.size := (by omega); have HO9 := Lib.hid o9; clear o9 R9)
        go_roundw
        case rel => exact ⟨k + 1, p9, c9, by omega, by go_num, by rw [HKn.out, ses_txt], by rw [HKn.out]; exact HSt.out.next (Nat.le_refl _) g9 HO9.out⟩
        case measure => simp [intOf]; omega
    · have hkN : k = N := by omega
      subst hkN
      obtain ⟨_, _, _, _, hg⟩ := HSt.out
      go_wp2_with fail
      exact bodyPost_ret (v := .tuple #[.string (bstr (sesK l k).2), .int .i64 (k : Int)]) (by simp [results, Tryz.results7, go_sem, *]) rfl ⟨rfl, g12.trans hg⟩
end Go.Proofs.YtagiecajffhnpaaGreat
