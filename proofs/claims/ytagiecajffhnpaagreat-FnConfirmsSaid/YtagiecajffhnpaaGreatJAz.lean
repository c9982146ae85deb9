/- shown of impl: fractions. No condition. -/
import Derived.Test.YtagiecajffhnpaaGreatJAy
namespace Go.Proofs.YtagiecajffhnpaaGreat
set_option maxRecDepth 100000
open Go.ChangeShapes Go.WideShapes Go.ChangeAt Go.RowKit Go.Joins

theorem set2_keep {w9 : World} {B : Nat} {u0 u1 v : Value} {a : Addr} (h : w9.cell? a = some v) (hne : a.block ≠ B) : ((w9.setCell ⟨B, 0, none⟩ u0).setCell ⟨B, 1, none⟩ u1).cell? a = some v :=
  cell_set2 (fun e => hne (congrArg Addr.block e).symm) (cell_set2 (fun e => hne (congrArg Addr.block e).symm) h)
theorem set2_ge {w w9 : World} {B : Nat} {u0 u1 : Value} (h : Ge w w9) (hb : w.heap.size ≤ B) : Ge w ((w9.setCell ⟨B, 0, none⟩ u0).setCell ⟨B, 1, none⟩ u1) := Ge.setCell (Ge.setCell h hb _) hb _
set_option maxHeartbeats 1600000 in
theorem iShCurrent (n e : Nat) (S : Int) (s vx : Value) (L : List Wr) (x : List Int) (w : World) (hs : SlF w s L.length 3 (flatW L)) (hB : netB n e S L.length (flatW L) = true) (hx : SlI w vx x) (hl : x.length = 4) :
    Calls Tryz.prog 24 #[.agg #[.int .i64 (n : Int), .int .i64 (e : Int), .int .i64 S, s], .agg #[.string ⟨#[99, 117, 114, 114, 101, 110, 116]⟩, .int .i64 4], vx] w (GivesTx w (orN (ratioTxt ((curR n e S L.length (flatW L) (nth x 0) (nth x 1) (nth x 2) (nth x 3)).n) ((curR n e S L.length (flatW L) (nth x 0) (nth x 1) (nth x 2) (nth x 3)).d)) (curB n e S L.length (flatW L) (nth x 0) (nth x 1) (nth x 2) (nth x 3)))) := by
  obtain ⟨⟨h1, h5⟩, ⟨e1, e2⟩, _, hok, _⟩ := netP_of hB
  have hm : L.length ≤ 10 := prs_len (by omega) hok
  have HV := Lib.hid hs
  obtain ⟨p, cap, rfl, _⟩ := hs.open
  have HC := Lib.hid (fun w' (g : Ge w w') => iCurrentOn n e S (.slice p L.length cap) L.length (flatW L) (nth x 0) (nth x 1) (nth x 2) (nth x 3) w' (HV.out.ge g) (by omega))
  obtain ⟨bx, ox, cx, rfl, hbx, hcx⟩ := hx.at hl (by omega)
  have x0 := hcx 0 (by omega)
  have x1 := hcx 1 (by omega)
  have x2 := hcx 2 (by omega)
  have x3 := hcx 3 (by omega)
  generalize (curR n e S L.length (flatW L) (nth x 0) (nth x 1) (nth x 2) (nth x 3)).n = RN at *
  generalize (curR n e S L.length (flatW L) (nth x 0) (nth x 1) (nth x 2) (nth x 3)).d = RD at *
  generalize curB n e S L.length (flatW L) (nth x 0) (nth x 1) (nth x 2) (nth x 3) = RB at *
  generalize nth x 0 = X0 at *
  generalize nth x 1 = X1 at *
  generalize nth x 2 = X2 at *
  generalize nth x 3 = X3 at *
  generalize L.length = m at *
  clear hs hB hcx hl hok
  have qw : ∀ w, (binOp .eql 9 (.string ⟨#[99, 117, 114, 114, 101, 110, 116]⟩) (.string ⟨#[102, 101, 101, 100]⟩)).run Tryz.prog w = .ok (.bool false) w := fun w => word_q (wd := [99, 117, 114, 114, 101, 110, 116]) (lit := [102, 101, 101, 100]) (by decide) w
  have q0 : ∀ w, (binOp .eql 55 (.agg #[.string ⟨#[99, 117, 114, 114, 101, 110, 116]⟩, .int .i64 4]) (.agg #[.string ⟨#[115, 104, 111, 119]⟩, .int .i64 0])).run Tryz.prog w = .ok (.bool false) w := fun w => isF_q (wd := [99, 117, 114, 114, 101, 110, 116]) (c := 4) (lit := [115, 104, 111, 119]) (k := 0) (by decide) w
  have q1 : ∀ w, (binOp .eql 55 (.agg #[.string ⟨#[99, 117, 114, 114, 101, 110, 116]⟩, .int .i64 4]) (.agg #[.string ⟨#[114, 101, 115, 105, 115, 116]⟩, .int .i64 2])).run Tryz.prog w = .ok (.bool false) w := fun w => isF_q (wd := [99, 117, 114, 114, 101, 110, 116]) (c := 4) (lit := [114, 101, 115, 105, 115, 116]) (k := 2) (by decide) w
  have q2 : ∀ w, (binOp .eql 55 (.agg #[.string ⟨#[99, 117, 114, 114, 101, 110, 116]⟩, .int .i64 4]) (.agg #[.string ⟨#[118, 111, 108, 116, 115]⟩, .int .i64 2])).run Tryz.prog w = .ok (.bool false) w := fun w => isF_q (wd := [99, 117, 114, 114, 101, 110, 116]) (c := 4) (lit := [118, 111, 108, 116, 115]) (k := 2) (by decide) w
  have q3 : ∀ w, (binOp .eql 55 (.agg #[.string ⟨#[99, 117, 114, 114, 101, 110, 116]⟩, .int .i64 4]) (.agg #[.string ⟨#[99, 117, 114, 114, 101, 110, 116]⟩, .int .i64 4])).run Tryz.prog w = .ok (.bool true) w := fun w => isF_q (wd := [99, 117, 114, 114, 101, 110, 116]) (c := 4) (lit := [99, 117, 114, 114, 101, 110, 116]) (k := 4) (by decide) w
  obtain ⟨W0, hW0, NB0, g0⟩ := sh_start w n e S (.slice p m cap) ⟨#[99, 117, 114, 114, 101, 110, 116]⟩ 4
  go_enter Tryz.func24, Tryz.ntmps24
  go_upto_region 12 with fail
  rw [← hW0]
  clear hW0
  have hS : ∀ w', Ge W0 w' → (w'.cell? ⟨w.heap.size, 0, none⟩ = some (.int .i64 (n : Int)) ∧ w'.cell? ⟨w.heap.size, 1, none⟩ = some (.int .i64 (e : Int)) ∧ w'.cell? ⟨w.heap.size, 2, none⟩ = some (.int .i64 S) ∧ w'.cell? ⟨w.heap.size, 3, none⟩ = some (.slice p m cap) ∧ w'.cell? ⟨bx, ox, none⟩ = some (.int .i64 X0) ∧ w'.cell? ⟨bx, ox + 1, none⟩ = some (.int .i64 X1) ∧ w'.cell? ⟨bx, ox + 2, none⟩ = some (.int .i64 X2) ∧ w'.cell? ⟨bx, ox + 3, none⟩ = some (.int .i64 X3) ∧ Ge w w') := fun w' g => ⟨g.keep NB0.1, g.keep NB0.2.1, g.keep NB0.2.2.1, g.keep NB0.2.2.2, g.keep (g0.keep x0), g.keep (g0.keep x1), g.keep (g0.keep x2), g.keep (g0.keep x3), g0.trans g⟩
  refine wp_region_head (S := fun w' => w'.cell? ⟨w.heap.size, 0, none⟩ = some (.int .i64 (n : Int)) ∧ w'.cell? ⟨w.heap.size, 1, none⟩ = some (.int .i64 (e : Int)) ∧ w'.cell? ⟨w.heap.size, 2, none⟩ = some (.int .i64 S) ∧ w'.cell? ⟨w.heap.size, 3, none⟩ = some (.slice p m cap) ∧ w'.cell? ⟨bx, ox, none⟩ = some (.int .i64 X0) ∧ w'.cell? ⟨bx, ox + 1, none⟩ = some (.int .i64 X1) ∧ w'.cell? ⟨bx, ox + 2, none⟩ = some (.int .i64 X2) ∧ w'.cell? ⟨bx, ox + 3, none⟩ = some (.int .i64 X3) ∧ Ge w w') 19 (by kernel_rfl) (by kernel_rfl) (hS _ (Ge.drew (Ge.refl _))) (fun hHeld => ?_)
  refine head_takeR 0 (v := ?_) rfl ?_ ?_; rotate_left; (focus (intro w' hSw; (try dsimp only at hSw); go_simp; (try with_reducible rfl))); (try simp only [Act.put, hnA, hnB, hnC])
  refine head_takeR 1 (v := ?_) rfl ?_ ?_; rotate_left; (focus (intro w' hSw; (try dsimp only at hSw); go_simp; (try with_reducible rfl))); (try simp only [Act.put, hnA, hnB, hnC])
  refine head_takeR 2 (v := ?_) rfl ?_ ?_; rotate_left; (focus (intro w' hSw; (try dsimp only at hSw); go_simp; (try with_reducible rfl))); (try simp only [Act.put, hnA, hnB, hnC])
  refine head_takeR 3 (v := ?_) rfl ?_ ?_; rotate_left; (focus (intro w' hSw; (try dsimp only at hSw); go_simp; (try with_reducible rfl))); (try simp only [Act.put, hnA, hnB, hnC])
  refine head_takeR 4 (v := ?_) rfl ?_ ?_; rotate_left; (focus (intro w' hSw; (try dsimp only at hSw); go_simp; (try with_reducible rfl))); (try simp only [Act.put, hnA, hnB, hnC])
  refine head_takeR 5 (v := ?_) rfl ?_ ?_; rotate_left; (focus (intro w' hSw; (try dsimp only at hSw); go_simp; (try with_reducible rfl))); (try simp only [Act.put, hnA, hnB, hnC])
  refine head_takeR 6 (v := ?_) rfl ?_ ?_; rotate_left; (focus (intro w' hSw; (try dsimp only at hSw); go_simp; (try with_reducible rfl))); (try simp only [Act.put, hnA, hnB, hnC])
  refine head_takeR 7 (v := ?_) rfl ?_ ?_; rotate_left; (focus (intro w' hSw; (try dsimp only at hSw); go_simp; (try with_reducible rfl))); (try simp only [Act.put, hnA, hnB, hnC])
  refine head_takeR 8 (v := ?_) rfl ?_ ?_; rotate_left; (focus (intro w' hSw; (try dsimp only at hSw); go_simp; (try with_reducible rfl))); (try simp only [Act.put, hnA, hnB, hnC])
  refine head_takeR 9 (v := ?_) rfl ?_ ?_; rotate_left; (focus (intro w' hSw; (try dsimp only at hSw); go_simp; (try with_reducible rfl))); (try simp only [Act.put, hnA, hnB, hnC])
  refine head_takeR 10 (v := ?_) rfl ?_ ?_; rotate_left; (focus (intro w' hSw; (try dsimp only at hSw); go_simp; (try with_reducible rfl))); (try simp only [Act.put, hnA, hnB, hnC])
  refine head_takeR 11 (v := ?_) rfl ?_ ?_; rotate_left; (focus (intro w' hSw; (try dsimp only at hSw); go_simp; (try with_reducible rfl))); (try simp only [Act.put, hnA, hnB, hnC])
  refine head_takeR 12 (v := ?_) rfl ?_ ?_; rotate_left; (focus (intro w' hSw; (try dsimp only at hSw); go_simp; (try with_reducible rfl))); (try simp only [Act.put, hnA, hnB, hnC])
  have zW : w.heap.size < W0.heap.size := World.block_lt_of_cell? _ _ NB0.1
  refine head_two 13 17 rfl rfl (by kernel_rfl) (fun K hK => ?_) (fun K hK => ?_)
  · skip
    go_simp
    (go_at_call 50; ((with_reducible refine (HC.out _ (Ge.drew g0)).mono ?_); rintro r w9 ⟨rfl, g9⟩))
    have G9 : Ge W0 w9 := Ge.trans (Ge.drew (Ge.refl _)) g9
    have z9 := G9.size
    refine hK.out _ _ (hS _ G9) (fun hHeld2 => ?_)
    clear hK K
    (try simp only [Act.put, hnA, hnB, hnC])
    refine head_takeR 14 (v := ?_) rfl ?_ ?_; rotate_left; (focus (intro w' hSw; (try dsimp only at hSw); go_simp; (try with_reducible rfl))); (try simp only [Act.put, hnA, hnB, hnC])
    refine head_takeR 15 (v := ?_) rfl ?_ ?_; rotate_left; (focus (intro w' hSw; (try dsimp only at hSw); go_simp; (try with_reducible rfl))); (try simp only [Act.put, hnA, hnB, hnC])
    refine head_takeR 16 (v := ?_) rfl ?_ ?_; rotate_left; (focus (intro w' hSw; (try dsimp only at hSw); go_simp; (try with_reducible rfl))); (try simp only [Act.put, hnA, hnB, hnC])
    refine head_one 17 rfl (by kernel_rfl) (fun K hK => ?_)
    go_simp
    refine hK.out _ _ (hS _ (Ge.alloc G9 _)) (fun hHeld4 => ?_)
    clear hK K
    (try simp only [Act.put, hnA, hnB, hnC])
    have k0 : (w9.alloc (.cells #[.int .i64 0, .int .i64 0] 86)).cell? ⟨w9.heap.size, 0, none⟩ = some (.int .i64 0) := cell_new rfl rfl
    have k1 : (w9.alloc (.cells #[.int .i64 0, .int .i64 0] 86)).cell? ⟨w9.heap.size, 1, none⟩ = some (.int .i64 0) := cell_new rfl rfl
    have f0 : (w9.alloc (.cells #[.int .i64 0, .int .i64 0] 86)).frozen? ⟨w9.heap.size, 0, none⟩ = false := froz_new (v := .int .i64 0) rfl rfl
    have f1 : (w9.alloc (.cells #[.int .i64 0, .int .i64 0] 86)).frozen? ⟨w9.heap.size, 1, none⟩ = false := froz_new (v := .int .i64 0) rfl rfl
    generalize hGG : w9.heap.size = GG at *
    generalize (w9.alloc (.cells #[.int .i64 0, .int .i64 0] 86)) = WA at *
    refine head_one 18 rfl (by kernel_rfl) (fun K hK => ?_)
    go_simp
    obtain ⟨s0, s1, s2, s3, s4, s5, s6, s7, s8⟩ := hHeld4
    refine hK.out _ _ ⟨set2_keep s0 (by show w.heap.size ≠ GG; omega), set2_keep s1 (by show w.heap.size ≠ GG; omega), set2_keep s2 (by show w.heap.size ≠ GG; omega), set2_keep s3 (by show w.heap.size ≠ GG; omega), set2_keep s4 (by show bx ≠ GG; omega), set2_keep s5 (by show bx ≠ GG; omega), set2_keep s6 (by show bx ≠ GG; omega), set2_keep s7 (by show bx ≠ GG; omega), set2_ge s8 (by omega)⟩ (fun hHeld5 => ?_)
    clear hK K
    (try simp only [Act.put, hnA, hnB, hnC])
    refine head_done (by kernel_rfl) ?_
    have y0 : ((WA.setCell ⟨GG, 0, none⟩ (.int .i64 RN)).setCell ⟨GG, 1, none⟩ (.int .i64 RD)).cell? ⟨GG, 0, none⟩ = some (.int .i64 RN) := cell_set2 (by simp) (World.cell?_setCell_same _ _ _ k0)
    have y1 : ((WA.setCell ⟨GG, 0, none⟩ (.int .i64 RN)).setCell ⟨GG, 1, none⟩ (.int .i64 RD)).cell? ⟨GG, 1, none⟩ = some (.int .i64 RD) := World.cell?_setCell_same _ _ _ (cell_set2 (by simp) k1)
    obtain ⟨u0, u1, u2, u3, u4, u5, u6, u7, u8⟩ := hHeld5
    generalize ((WA.setCell ⟨GG, 0, none⟩ (.int .i64 RN)).setCell ⟨GG, 1, none⟩ (.int .i64 RD)) = WF at *
    go_wp2_with (first
      | (go_at_call 51; ((with_reducible refine (iFormatRatio RN RD _).mono ?_); rintro r w7 ⟨rfl, g7⟩))
      | (go_at_call 45; ((with_reducible refine (iOrNone (ratioTxt RN RD) RB _).mono ?_); rintro r w8 ⟨rfl, g8⟩)))
    go_ret
    exact ⟨rfl, u8.trans (g7.trans g8)⟩
  · skip
    go_simp
    have gA : Ge W0 (W0.alloc (.cells #[.int .i64 0, .int .i64 0] 86)).drew := Ge.drew (Ge.alloc (Ge.refl _) _)
    refine hK.out _ _ (hS _ gA) (fun hHeld2 => ?_)
    clear hK K
    (try simp only [Act.put, hnA, hnB, hnC])
    refine head_one 13 rfl (by kernel_rfl) (fun K hK => ?_)
    go_simp
    (go_at_call 50; ((with_reducible refine (HC.out _ (Ge.drew (Ge.alloc g0 _))).mono ?_); rintro r w9 ⟨rfl, g9⟩))
    have G9 : Ge W0 w9 := Ge.trans gA g9
    have z9 := G9.size
    refine hK.out _ _ (hS _ G9) (fun hHeld4 => ?_)
    clear hK K
    (try simp only [Act.put, hnA, hnB, hnC])
    have k0 : w9.cell? ⟨W0.heap.size, 0, none⟩ = some (.int .i64 0) := g9.keep ((Ge.drew (Ge.refl _)).keep (cell_new rfl rfl))
    have k1 : w9.cell? ⟨W0.heap.size, 1, none⟩ = some (.int .i64 0) := g9.keep ((Ge.drew (Ge.refl _)).keep (cell_new rfl rfl))
    have f0 : w9.frozen? ⟨W0.heap.size, 0, none⟩ = false := (Ge.drew (Ge.refl _) |>.trans g9).keepF (cell_new rfl rfl) (froz_new (v := .int .i64 0) rfl rfl)
    have f1 : w9.frozen? ⟨W0.heap.size, 1, none⟩ = false := (Ge.drew (Ge.refl _) |>.trans g9).keepF (cell_new rfl rfl) (froz_new (v := .int .i64 0) rfl rfl)
    refine head_takeR 14 (v := ?_) rfl ?_ ?_; rotate_left; (focus (intro w' hSw; (try dsimp only at hSw); go_simp; (try with_reducible rfl))); (try simp only [Act.put, hnA, hnB, hnC])
    refine head_takeR 15 (v := ?_) rfl ?_ ?_; rotate_left; (focus (intro w' hSw; (try dsimp only at hSw); go_simp; (try with_reducible rfl))); (try simp only [Act.put, hnA, hnB, hnC])
    refine head_takeR 16 (v := ?_) rfl ?_ ?_; rotate_left; (focus (intro w' hSw; (try dsimp only at hSw); go_simp; (try with_reducible rfl))); (try simp only [Act.put, hnA, hnB, hnC])
    generalize hGG : W0.heap.size = GG at *
    generalize hWA : w9 = WA at *
    refine head_one 18 rfl (by kernel_rfl) (fun K hK => ?_)
    go_simp
    obtain ⟨s0, s1, s2, s3, s4, s5, s6, s7, s8⟩ := hHeld4
    refine hK.out _ _ ⟨set2_keep s0 (by show w.heap.size ≠ GG; omega), set2_keep s1 (by show w.heap.size ≠ GG; omega), set2_keep s2 (by show w.heap.size ≠ GG; omega), set2_keep s3 (by show w.heap.size ≠ GG; omega), set2_keep s4 (by show bx ≠ GG; omega), set2_keep s5 (by show bx ≠ GG; omega), set2_keep s6 (by show bx ≠ GG; omega), set2_keep s7 (by show bx ≠ GG; omega), set2_ge s8 (by omega)⟩ (fun hHeld5 => ?_)
    clear hK K
    (try simp only [Act.put, hnA, hnB, hnC])
    refine head_done (by kernel_rfl) ?_
    have y0 : ((WA.setCell ⟨GG, 0, none⟩ (.int .i64 RN)).setCell ⟨GG, 1, none⟩ (.int .i64 RD)).cell? ⟨GG, 0, none⟩ = some (.int .i64 RN) := cell_set2 (by simp) (World.cell?_setCell_same _ _ _ k0)
    have y1 : ((WA.setCell ⟨GG, 0, none⟩ (.int .i64 RN)).setCell ⟨GG, 1, none⟩ (.int .i64 RD)).cell? ⟨GG, 1, none⟩ = some (.int .i64 RD) := World.cell?_setCell_same _ _ _ (cell_set2 (by simp) k1)
    obtain ⟨u0, u1, u2, u3, u4, u5, u6, u7, u8⟩ := hHeld5
    generalize ((WA.setCell ⟨GG, 0, none⟩ (.int .i64 RN)).setCell ⟨GG, 1, none⟩ (.int .i64 RD)) = WF at *
    go_wp2_with (first
      | (go_at_call 51; ((with_reducible refine (iFormatRatio RN RD _).mono ?_); rintro r w7 ⟨rfl, g7⟩))
      | (go_at_call 45; ((with_reducible refine (iOrNone (ratioTxt RN RD) RB _).mono ?_); rintro r w8 ⟨rfl, g8⟩)))
    go_ret
    exact ⟨rfl, u8.trans (g7.trans g8)⟩
set_option maxHeartbeats 1600000 in
theorem iShHit (n e : Nat) (S : Int) (s vx : Value) (L : List Wr) (x : List Int) (w : World) (hs : SlF w s L.length 3 (flatW L)) (hB : netB n e S L.length (flatW L) = true) (hx : SlI w vx x) (hl : x.length = 3) :
    Calls Tryz.prog 24 #[.agg #[.int .i64 (n : Int), .int .i64 (e : Int), .int .i64 S, s], .agg #[.string ⟨#[104, 105, 116]⟩, .int .i64 3], vx] w (GivesTx w (orN (ratioTxt ((hcR n e S L.length (flatW L) (nth x 0) (nth x 1) (nth x 2)).n) ((hcR n e S L.length (flatW L) (nth x 0) (nth x 1) (nth x 2)).d)) (hcB n e S L.length (flatW L) (nth x 0) (nth x 1) (nth x 2)))) := by
  obtain ⟨⟨h1, h5⟩, ⟨e1, e2⟩, _, hok, _⟩ := netP_of hB
  have hm : L.length ≤ 10 := prs_len (by omega) hok
  have HV := Lib.hid hs
  obtain ⟨p, cap, rfl, _⟩ := hs.open
  have HC := Lib.hid (fun w' (g : Ge w w') => iHitChance n e S (.slice p L.length cap) L.length (flatW L) (nth x 0) (nth x 1) (nth x 2) w' (HV.out.ge g) (by omega))
  obtain ⟨bx, ox, cx, rfl, hbx, hcx⟩ := hx.at hl (by omega)
  have x0 := hcx 0 (by omega)
  have x1 := hcx 1 (by omega)
  have x2 := hcx 2 (by omega)
  generalize (hcR n e S L.length (flatW L) (nth x 0) (nth x 1) (nth x 2)).n = RN at *
  generalize (hcR n e S L.length (flatW L) (nth x 0) (nth x 1) (nth x 2)).d = RD at *
  generalize hcB n e S L.length (flatW L) (nth x 0) (nth x 1) (nth x 2) = RB at *
  generalize nth x 0 = X0 at *
  generalize nth x 1 = X1 at *
  generalize nth x 2 = X2 at *
  generalize L.length = m at *
  clear hs hB hcx hl hok
  have qw : ∀ w, (binOp .eql 9 (.string ⟨#[104, 105, 116]⟩) (.string ⟨#[102, 101, 101, 100]⟩)).run Tryz.prog w = .ok (.bool false) w := fun w => word_q (wd := [104, 105, 116]) (lit := [102, 101, 101, 100]) (by decide) w
  have q0 : ∀ w, (binOp .eql 55 (.agg #[.string ⟨#[104, 105, 116]⟩, .int .i64 3]) (.agg #[.string ⟨#[115, 104, 111, 119]⟩, .int .i64 0])).run Tryz.prog w = .ok (.bool false) w := fun w => isF_q (wd := [104, 105, 116]) (c := 3) (lit := [115, 104, 111, 119]) (k := 0) (by decide) w
  have q1 : ∀ w, (binOp .eql 55 (.agg #[.string ⟨#[104, 105, 116]⟩, .int .i64 3]) (.agg #[.string ⟨#[114, 101, 115, 105, 115, 116]⟩, .int .i64 2])).run Tryz.prog w = .ok (.bool false) w := fun w => isF_q (wd := [104, 105, 116]) (c := 3) (lit := [114, 101, 115, 105, 115, 116]) (k := 2) (by decide) w
  have q2 : ∀ w, (binOp .eql 55 (.agg #[.string ⟨#[104, 105, 116]⟩, .int .i64 3]) (.agg #[.string ⟨#[118, 111, 108, 116, 115]⟩, .int .i64 2])).run Tryz.prog w = .ok (.bool false) w := fun w => isF_q (wd := [104, 105, 116]) (c := 3) (lit := [118, 111, 108, 116, 115]) (k := 2) (by decide) w
  have q3 : ∀ w, (binOp .eql 55 (.agg #[.string ⟨#[104, 105, 116]⟩, .int .i64 3]) (.agg #[.string ⟨#[99, 117, 114, 114, 101, 110, 116]⟩, .int .i64 4])).run Tryz.prog w = .ok (.bool false) w := fun w => isF_q (wd := [104, 105, 116]) (c := 3) (lit := [99, 117, 114, 114, 101, 110, 116]) (k := 4) (by decide) w
  have q4 : ∀ w, (binOp .eql 55 (.agg #[.string ⟨#[104, 105, 116]⟩, .int .i64 3]) (.agg #[.string ⟨#[104, 105, 116]⟩, .int .i64 3])).run Tryz.prog w = .ok (.bool true) w := fun w => isF_q (wd := [104, 105, 116]) (c := 3) (lit := [104, 105, 116]) (k := 3) (by decide) w
  obtain ⟨W0, hW0, NB0, g0⟩ := sh_start w n e S (.slice p m cap) ⟨#[104, 105, 116]⟩ 3
  go_enter Tryz.func24, Tryz.ntmps24
  go_upto_region 15 with fail
  rw [← hW0]
  clear hW0
  have hS : ∀ w', Ge W0 w' → (w'.cell? ⟨w.heap.size, 0, none⟩ = some (.int .i64 (n : Int)) ∧ w'.cell? ⟨w.heap.size, 1, none⟩ = some (.int .i64 (e : Int)) ∧ w'.cell? ⟨w.heap.size, 2, none⟩ = some (.int .i64 S) ∧ w'.cell? ⟨w.heap.size, 3, none⟩ = some (.slice p m cap) ∧ w'.cell? ⟨bx, ox, none⟩ = some (.int .i64 X0) ∧ w'.cell? ⟨bx, ox + 1, none⟩ = some (.int .i64 X1) ∧ w'.cell? ⟨bx, ox + 2, none⟩ = some (.int .i64 X2) ∧ Ge w w') := fun w' g => ⟨g.keep NB0.1, g.keep NB0.2.1, g.keep NB0.2.2.1, g.keep NB0.2.2.2, g.keep (g0.keep x0), g.keep (g0.keep x1), g.keep (g0.keep x2), g0.trans g⟩
  refine wp_region_head (S := fun w' => w'.cell? ⟨w.heap.size, 0, none⟩ = some (.int .i64 (n : Int)) ∧ w'.cell? ⟨w.heap.size, 1, none⟩ = some (.int .i64 (e : Int)) ∧ w'.cell? ⟨w.heap.size, 2, none⟩ = some (.int .i64 S) ∧ w'.cell? ⟨w.heap.size, 3, none⟩ = some (.slice p m cap) ∧ w'.cell? ⟨bx, ox, none⟩ = some (.int .i64 X0) ∧ w'.cell? ⟨bx, ox + 1, none⟩ = some (.int .i64 X1) ∧ w'.cell? ⟨bx, ox + 2, none⟩ = some (.int .i64 X2) ∧ Ge w w') 16 (by kernel_rfl) (by kernel_rfl) (hS _ (Ge.drew (Ge.refl _))) (fun hHeld => ?_)
  refine head_takeR 0 (v := ?_) rfl ?_ ?_; rotate_left; (focus (intro w' hSw; (try dsimp only at hSw); go_simp; (try with_reducible rfl))); (try simp only [Act.put, hnA, hnB, hnC])
  refine head_takeR 1 (v := ?_) rfl ?_ ?_; rotate_left; (focus (intro w' hSw; (try dsimp only at hSw); go_simp; (try with_reducible rfl))); (try simp only [Act.put, hnA, hnB, hnC])
  refine head_takeR 2 (v := ?_) rfl ?_ ?_; rotate_left; (focus (intro w' hSw; (try dsimp only at hSw); go_simp; (try with_reducible rfl))); (try simp only [Act.put, hnA, hnB, hnC])
  refine head_takeR 3 (v := ?_) rfl ?_ ?_; rotate_left; (focus (intro w' hSw; (try dsimp only at hSw); go_simp; (try with_reducible rfl))); (try simp only [Act.put, hnA, hnB, hnC])
  refine head_takeR 4 (v := ?_) rfl ?_ ?_; rotate_left; (focus (intro w' hSw; (try dsimp only at hSw); go_simp; (try with_reducible rfl))); (try simp only [Act.put, hnA, hnB, hnC])
  refine head_takeR 5 (v := ?_) rfl ?_ ?_; rotate_left; (focus (intro w' hSw; (try dsimp only at hSw); go_simp; (try with_reducible rfl))); (try simp only [Act.put, hnA, hnB, hnC])
  refine head_takeR 6 (v := ?_) rfl ?_ ?_; rotate_left; (focus (intro w' hSw; (try dsimp only at hSw); go_simp; (try with_reducible rfl))); (try simp only [Act.put, hnA, hnB, hnC])
  refine head_takeR 7 (v := ?_) rfl ?_ ?_; rotate_left; (focus (intro w' hSw; (try dsimp only at hSw); go_simp; (try with_reducible rfl))); (try simp only [Act.put, hnA, hnB, hnC])
  refine head_takeR 8 (v := ?_) rfl ?_ ?_; rotate_left; (focus (intro w' hSw; (try dsimp only at hSw); go_simp; (try with_reducible rfl))); (try simp only [Act.put, hnA, hnB, hnC])
  refine head_takeR 9 (v := ?_) rfl ?_ ?_; rotate_left; (focus (intro w' hSw; (try dsimp only at hSw); go_simp; (try with_reducible rfl))); (try simp only [Act.put, hnA, hnB, hnC])
  have zW : w.heap.size < W0.heap.size := World.block_lt_of_cell? _ _ NB0.1
  refine head_two 10 14 rfl rfl (by kernel_rfl) (fun K hK => ?_) (fun K hK => ?_)
  · skip
    go_simp
    (go_at_call 52; ((with_reducible refine (HC.out _ (Ge.drew g0)).mono ?_); rintro r w9 ⟨rfl, g9⟩))
    have G9 : Ge W0 w9 := Ge.trans (Ge.drew (Ge.refl _)) g9
    have z9 := G9.size
    refine hK.out _ _ (hS _ G9) (fun hHeld2 => ?_)
    clear hK K
    (try simp only [Act.put, hnA, hnB, hnC])
    refine head_takeR 11 (v := ?_) rfl ?_ ?_; rotate_left; (focus (intro w' hSw; (try dsimp only at hSw); go_simp; (try with_reducible rfl))); (try simp only [Act.put, hnA, hnB, hnC])
    refine head_takeR 12 (v := ?_) rfl ?_ ?_; rotate_left; (focus (intro w' hSw; (try dsimp only at hSw); go_simp; (try with_reducible rfl))); (try simp only [Act.put, hnA, hnB, hnC])
    refine head_takeR 13 (v := ?_) rfl ?_ ?_; rotate_left; (focus (intro w' hSw; (try dsimp only at hSw); go_simp; (try with_reducible rfl))); (try simp only [Act.put, hnA, hnB, hnC])
    refine head_one 14 rfl (by kernel_rfl) (fun K hK => ?_)
    go_simp
    refine hK.out _ _ (hS _ (Ge.alloc G9 _)) (fun hHeld4 => ?_)
    clear hK K
    (try simp only [Act.put, hnA, hnB, hnC])
    have k0 : (w9.alloc (.cells #[.int .i64 0, .int .i64 0] 86)).cell? ⟨w9.heap.size, 0, none⟩ = some (.int .i64 0) := cell_new rfl rfl
    have k1 : (w9.alloc (.cells #[.int .i64 0, .int .i64 0] 86)).cell? ⟨w9.heap.size, 1, none⟩ = some (.int .i64 0) := cell_new rfl rfl
    have f0 : (w9.alloc (.cells #[.int .i64 0, .int .i64 0] 86)).frozen? ⟨w9.heap.size, 0, none⟩ = false := froz_new (v := .int .i64 0) rfl rfl
    have f1 : (w9.alloc (.cells #[.int .i64 0, .int .i64 0] 86)).frozen? ⟨w9.heap.size, 1, none⟩ = false := froz_new (v := .int .i64 0) rfl rfl
    generalize hGG : w9.heap.size = GG at *
    generalize (w9.alloc (.cells #[.int .i64 0, .int .i64 0] 86)) = WA at *
    refine head_one 15 rfl (by kernel_rfl) (fun K hK => ?_)
    go_simp
    obtain ⟨s0, s1, s2, s3, s4, s5, s6, s7⟩ := hHeld4
    refine hK.out _ _ ⟨set2_keep s0 (by show w.heap.size ≠ GG; omega), set2_keep s1 (by show w.heap.size ≠ GG; omega), set2_keep s2 (by show w.heap.size ≠ GG; omega), set2_keep s3 (by show w.heap.size ≠ GG; omega), set2_keep s4 (by show bx ≠ GG; omega), set2_keep s5 (by show bx ≠ GG; omega), set2_keep s6 (by show bx ≠ GG; omega), set2_ge s7 (by omega)⟩ (fun hHeld5 => ?_)
    clear hK K
    (try simp only [Act.put, hnA, hnB, hnC])
    refine head_done (by kernel_rfl) ?_
    have y0 : ((WA.setCell ⟨GG, 0, none⟩ (.int .i64 RN)).setCell ⟨GG, 1, none⟩ (.int .i64 RD)).cell? ⟨GG, 0, none⟩ = some (.int .i64 RN) := cell_set2 (by simp) (World.cell?_setCell_same _ _ _ k0)
    have y1 : ((WA.setCell ⟨GG, 0, none⟩ (.int .i64 RN)).setCell ⟨GG, 1, none⟩ (.int .i64 RD)).cell? ⟨GG, 1, none⟩ = some (.int .i64 RD) := World.cell?_setCell_same _ _ _ (cell_set2 (by simp) k1)
    obtain ⟨u0, u1, u2, u3, u4, u5, u6, u7⟩ := hHeld5
    generalize ((WA.setCell ⟨GG, 0, none⟩ (.int .i64 RN)).setCell ⟨GG, 1, none⟩ (.int .i64 RD)) = WF at *
    go_wp2_with (first
      | (go_at_call 51; ((with_reducible refine (iFormatRatio RN RD _).mono ?_); rintro r w7 ⟨rfl, g7⟩))
      | (go_at_call 45; ((with_reducible refine (iOrNone (ratioTxt RN RD) RB _).mono ?_); rintro r w8 ⟨rfl, g8⟩)))
    go_ret
    exact ⟨rfl, u7.trans (g7.trans g8)⟩
  · skip
    go_simp
    have gA : Ge W0 (W0.alloc (.cells #[.int .i64 0, .int .i64 0] 86)).drew := Ge.drew (Ge.alloc (Ge.refl _) _)
    refine hK.out _ _ (hS _ gA) (fun hHeld2 => ?_)
    clear hK K
    (try simp only [Act.put, hnA, hnB, hnC])
    refine head_one 10 rfl (by kernel_rfl) (fun K hK => ?_)
    go_simp
    (go_at_call 52; ((with_reducible refine (HC.out _ (Ge.drew (Ge.alloc g0 _))).mono ?_); rintro r w9 ⟨rfl, g9⟩))
    have G9 : Ge W0 w9 := Ge.trans gA g9
    have z9 := G9.size
    refine hK.out _ _ (hS _ G9) (fun hHeld4 => ?_)
    clear hK K
    (try simp only [Act.put, hnA, hnB, hnC])
    have k0 : w9.cell? ⟨W0.heap.size, 0, none⟩ = some (.int .i64 0) := g9.keep ((Ge.drew (Ge.refl _)).keep (cell_new rfl rfl))
    have k1 : w9.cell? ⟨W0.heap.size, 1, none⟩ = some (.int .i64 0) := g9.keep ((Ge.drew (Ge.refl _)).keep (cell_new rfl rfl))
    have f0 : w9.frozen? ⟨W0.heap.size, 0, none⟩ = false := (Ge.drew (Ge.refl _) |>.trans g9).keepF (cell_new rfl rfl) (froz_new (v := .int .i64 0) rfl rfl)
    have f1 : w9.frozen? ⟨W0.heap.size, 1, none⟩ = false := (Ge.drew (Ge.refl _) |>.trans g9).keepF (cell_new rfl rfl) (froz_new (v := .int .i64 0) rfl rfl)
    refine head_takeR 11 (v := ?_) rfl ?_ ?_; rotate_left; (focus (intro w' hSw; (try dsimp only at hSw); go_simp; (try with_reducible rfl))); (try simp only [Act.put, hnA, hnB, hnC])
    refine head_takeR 12 (v := ?_) rfl ?_ ?_; rotate_left; (focus (intro w' hSw; (try dsimp only at hSw); go_simp; (try with_reducible rfl))); (try simp only [Act.put, hnA, hnB, hnC])
    refine head_takeR 13 (v := ?_) rfl ?_ ?_; rotate_left; (focus (intro w' hSw; (try dsimp only at hSw); go_simp; (try with_reducible rfl))); (try simp only [Act.put, hnA, hnB, hnC])
    generalize hGG : W0.heap.size = GG at *
    generalize hWA : w9 = WA at *
    refine head_one 15 rfl (by kernel_rfl) (fun K hK => ?_)
    go_simp
    obtain ⟨s0, s1, s2, s3, s4, s5, s6, s7⟩ := hHeld4
    refine hK.out _ _ ⟨set2_keep s0 (by show w.heap.size ≠ GG; omega), set2_keep s1 (by show w.heap.size ≠ GG; omega), set2_keep s2 (by show w.heap.size ≠ GG; omega), set2_keep s3 (by show w.heap.size ≠ GG; omega), set2_keep s4 (by show bx ≠ GG; omega), set2_keep s5 (by show bx ≠ GG; omega), set2_keep s6 (by show bx ≠ GG; omega), set2_ge s7 (by omega)⟩ (fun hHeld5 => ?_)
    clear hK K
    (try simp only [Act.put, hnA, hnB, hnC])
    refine head_done (by kernel_rfl) ?_
    have y0 : ((WA.setCell ⟨GG, 0, none⟩ (.int .i64 RN)).setCell ⟨GG, 1, none⟩ (.int .i64 RD)).cell? ⟨GG, 0, none⟩ = some (.int .i64 RN) := cell_set2 (by simp) (World.cell?_setCell_same _ _ _ k0)
    have y1 : ((WA.setCell ⟨GG, 0, none⟩ (.int .i64 RN)).setCell ⟨GG, 1, none⟩ (.int .i64 RD)).cell? ⟨GG, 1, none⟩ = some (.int .i64 RD) := World.cell?_setCell_same _ _ _ (cell_set2 (by simp) k1)
    obtain ⟨u0, u1, u2, u3, u4, u5, u6, u7⟩ := hHeld5
    generalize ((WA.setCell ⟨GG, 0, none⟩ (.int .i64 RN)).setCell ⟨GG, 1, none⟩ (.int .i64 RD)) = WF at *
    go_wp2_with (first
      | (go_at_call 51; ((with_reducible refine (iFormatRatio RN RD _).mono ?_); rintro r w7 ⟨rfl, g7⟩))
      | (go_at_call 45; ((with_reducible refine (iOrNone (ratioTxt RN RD) RB _).mono ?_); rintro r w8 ⟨rfl, g8⟩)))
    go_ret
    exact ⟨rfl, u7.trans (g7.trans g8)⟩
set_option maxHeartbeats 1600000 in
theorem iShCommute (n e : Nat) (S : Int) (s vx : Value) (L : List Wr) (x : List Int) (w : World) (hs : SlF w s L.length 3 (flatW L)) (hB : netB n e S L.length (flatW L) = true) (hx : SlI w vx x) (hl : x.length = 2) :
    Calls Tryz.prog 24 #[.agg #[.int .i64 (n : Int), .int .i64 (e : Int), .int .i64 S, s], .agg #[.string ⟨#[99, 111, 109, 109, 117, 116, 101]⟩, .int .i64 2], vx] w (GivesTx w (orN (ratioTxt ((comR n e S L.length (flatW L) (nth x 0) (nth x 1)).n) ((comR n e S L.length (flatW L) (nth x 0) (nth x 1)).d)) (node2B n e S L.length (flatW L) (nth x 0) (nth x 1)))) := by
  obtain ⟨⟨h1, h5⟩, ⟨e1, e2⟩, _, hok, _⟩ := netP_of hB
  have hm : L.length ≤ 10 := prs_len (by omega) hok
  have HV := Lib.hid hs
  obtain ⟨p, cap, rfl, _⟩ := hs.open
  have HC := Lib.hid (fun w' (g : Ge w w') => iCommuteTime n e S (.slice p L.length cap) L.length (flatW L) (nth x 0) (nth x 1) w' (HV.out.ge g) (by omega))
  obtain ⟨bx, ox, cx, rfl, hbx, hcx⟩ := hx.at hl (by omega)
  have x0 := hcx 0 (by omega)
  have x1 := hcx 1 (by omega)
  generalize (comR n e S L.length (flatW L) (nth x 0) (nth x 1)).n = RN at *
  generalize (comR n e S L.length (flatW L) (nth x 0) (nth x 1)).d = RD at *
  generalize node2B n e S L.length (flatW L) (nth x 0) (nth x 1) = RB at *
  generalize nth x 0 = X0 at *
  generalize nth x 1 = X1 at *
  generalize L.length = m at *
  clear hs hB hcx hl hok
  have qw : ∀ w, (binOp .eql 9 (.string ⟨#[99, 111, 109, 109, 117, 116, 101]⟩) (.string ⟨#[102, 101, 101, 100]⟩)).run Tryz.prog w = .ok (.bool false) w := fun w => word_q (wd := [99, 111, 109, 109, 117, 116, 101]) (lit := [102, 101, 101, 100]) (by decide) w
  have q0 : ∀ w, (binOp .eql 55 (.agg #[.string ⟨#[99, 111, 109, 109, 117, 116, 101]⟩, .int .i64 2]) (.agg #[.string ⟨#[115, 104, 111, 119]⟩, .int .i64 0])).run Tryz.prog w = .ok (.bool false) w := fun w => isF_q (wd := [99, 111, 109, 109, 117, 116, 101]) (c := 2) (lit := [115, 104, 111, 119]) (k := 0) (by decide) w
  have q1 : ∀ w, (binOp .eql 55 (.agg #[.string ⟨#[99, 111, 109, 109, 117, 116, 101]⟩, .int .i64 2]) (.agg #[.string ⟨#[114, 101, 115, 105, 115, 116]⟩, .int .i64 2])).run Tryz.prog w = .ok (.bool false) w := fun w => isF_q (wd := [99, 111, 109, 109, 117, 116, 101]) (c := 2) (lit := [114, 101, 115, 105, 115, 116]) (k := 2) (by decide) w
  have q2 : ∀ w, (binOp .eql 55 (.agg #[.string ⟨#[99, 111, 109, 109, 117, 116, 101]⟩, .int .i64 2]) (.agg #[.string ⟨#[118, 111, 108, 116, 115]⟩, .int .i64 2])).run Tryz.prog w = .ok (.bool false) w := fun w => isF_q (wd := [99, 111, 109, 109, 117, 116, 101]) (c := 2) (lit := [118, 111, 108, 116, 115]) (k := 2) (by decide) w
  have q3 : ∀ w, (binOp .eql 55 (.agg #[.string ⟨#[99, 111, 109, 109, 117, 116, 101]⟩, .int .i64 2]) (.agg #[.string ⟨#[99, 117, 114, 114, 101, 110, 116]⟩, .int .i64 4])).run Tryz.prog w = .ok (.bool false) w := fun w => isF_q (wd := [99, 111, 109, 109, 117, 116, 101]) (c := 2) (lit := [99, 117, 114, 114, 101, 110, 116]) (k := 4) (by decide) w
  have q4 : ∀ w, (binOp .eql 55 (.agg #[.string ⟨#[99, 111, 109, 109, 117, 116, 101]⟩, .int .i64 2]) (.agg #[.string ⟨#[104, 105, 116]⟩, .int .i64 3])).run Tryz.prog w = .ok (.bool false) w := fun w => isF_q (wd := [99, 111, 109, 109, 117, 116, 101]) (c := 2) (lit := [104, 105, 116]) (k := 3) (by decide) w
  have q5 : ∀ w, (binOp .eql 55 (.agg #[.string ⟨#[99, 111, 109, 109, 117, 116, 101]⟩, .int .i64 2]) (.agg #[.string ⟨#[99, 111, 109, 109, 117, 116, 101]⟩, .int .i64 2])).run Tryz.prog w = .ok (.bool true) w := fun w => isF_q (wd := [99, 111, 109, 109, 117, 116, 101]) (c := 2) (lit := [99, 111, 109, 109, 117, 116, 101]) (k := 2) (by decide) w
  obtain ⟨W0, hW0, NB0, g0⟩ := sh_start w n e S (.slice p m cap) ⟨#[99, 111, 109, 109, 117, 116, 101]⟩ 2
  go_enter Tryz.func24, Tryz.ntmps24
  go_upto_region 18 with fail
  rw [← hW0]
  clear hW0
  have hS : ∀ w', Ge W0 w' → (w'.cell? ⟨w.heap.size, 0, none⟩ = some (.int .i64 (n : Int)) ∧ w'.cell? ⟨w.heap.size, 1, none⟩ = some (.int .i64 (e : Int)) ∧ w'.cell? ⟨w.heap.size, 2, none⟩ = some (.int .i64 S) ∧ w'.cell? ⟨w.heap.size, 3, none⟩ = some (.slice p m cap) ∧ w'.cell? ⟨bx, ox, none⟩ = some (.int .i64 X0) ∧ w'.cell? ⟨bx, ox + 1, none⟩ = some (.int .i64 X1) ∧ Ge w w') := fun w' g => ⟨g.keep NB0.1, g.keep NB0.2.1, g.keep NB0.2.2.1, g.keep NB0.2.2.2, g.keep (g0.keep x0), g.keep (g0.keep x1), g0.trans g⟩
  refine wp_region_head (S := fun w' => w'.cell? ⟨w.heap.size, 0, none⟩ = some (.int .i64 (n : Int)) ∧ w'.cell? ⟨w.heap.size, 1, none⟩ = some (.int .i64 (e : Int)) ∧ w'.cell? ⟨w.heap.size, 2, none⟩ = some (.int .i64 S) ∧ w'.cell? ⟨w.heap.size, 3, none⟩ = some (.slice p m cap) ∧ w'.cell? ⟨bx, ox, none⟩ = some (.int .i64 X0) ∧ w'.cell? ⟨bx, ox + 1, none⟩ = some (.int .i64 X1) ∧ Ge w w') 13 (by kernel_rfl) (by kernel_rfl) (hS _ (Ge.drew (Ge.refl _))) (fun hHeld => ?_)
  refine head_takeR 0 (v := ?_) rfl ?_ ?_; rotate_left; (focus (intro w' hSw; (try dsimp only at hSw); go_simp; (try with_reducible rfl))); (try simp only [Act.put, hnA, hnB, hnC])
  refine head_takeR 1 (v := ?_) rfl ?_ ?_; rotate_left; (focus (intro w' hSw; (try dsimp only at hSw); go_simp; (try with_reducible rfl))); (try simp only [Act.put, hnA, hnB, hnC])
  refine head_takeR 2 (v := ?_) rfl ?_ ?_; rotate_left; (focus (intro w' hSw; (try dsimp only at hSw); go_simp; (try with_reducible rfl))); (try simp only [Act.put, hnA, hnB, hnC])
  refine head_takeR 3 (v := ?_) rfl ?_ ?_; rotate_left; (focus (intro w' hSw; (try dsimp only at hSw); go_simp; (try with_reducible rfl))); (try simp only [Act.put, hnA, hnB, hnC])
  refine head_takeR 4 (v := ?_) rfl ?_ ?_; rotate_left; (focus (intro w' hSw; (try dsimp only at hSw); go_simp; (try with_reducible rfl))); (try simp only [Act.put, hnA, hnB, hnC])
  refine head_takeR 5 (v := ?_) rfl ?_ ?_; rotate_left; (focus (intro w' hSw; (try dsimp only at hSw); go_simp; (try with_reducible rfl))); (try simp only [Act.put, hnA, hnB, hnC])
  refine head_takeR 6 (v := ?_) rfl ?_ ?_; rotate_left; (focus (intro w' hSw; (try dsimp only at hSw); go_simp; (try with_reducible rfl))); (try simp only [Act.put, hnA, hnB, hnC])
  have zW : w.heap.size < W0.heap.size := World.block_lt_of_cell? _ _ NB0.1
  refine head_two 7 11 rfl rfl (by kernel_rfl) (fun K hK => ?_) (fun K hK => ?_)
  · skip
    go_simp
    (go_at_call 53; ((with_reducible refine (HC.out _ (Ge.drew g0)).mono ?_); rintro r w9 ⟨rfl, g9⟩))
    have G9 : Ge W0 w9 := Ge.trans (Ge.drew (Ge.refl _)) g9
    have z9 := G9.size
    refine hK.out _ _ (hS _ G9) (fun hHeld2 => ?_)
    clear hK K
    (try simp only [Act.put, hnA, hnB, hnC])
    refine head_takeR 8 (v := ?_) rfl ?_ ?_; rotate_left; (focus (intro w' hSw; (try dsimp only at hSw); go_simp; (try with_reducible rfl))); (try simp only [Act.put, hnA, hnB, hnC])
    refine head_takeR 9 (v := ?_) rfl ?_ ?_; rotate_left; (focus (intro w' hSw; (try dsimp only at hSw); go_simp; (try with_reducible rfl))); (try simp only [Act.put, hnA, hnB, hnC])
    refine head_takeR 10 (v := ?_) rfl ?_ ?_; rotate_left; (focus (intro w' hSw; (try dsimp only at hSw); go_simp; (try with_reducible rfl))); (try simp only [Act.put, hnA, hnB, hnC])
    refine head_one 11 rfl (by kernel_rfl) (fun K hK => ?_)
    go_simp
    refine hK.out _ _ (hS _ (Ge.alloc G9 _)) (fun hHeld4 => ?_)
    clear hK K
    (try simp only [Act.put, hnA, hnB, hnC])
    have k0 : (w9.alloc (.cells #[.int .i64 0, .int .i64 0] 86)).cell? ⟨w9.heap.size, 0, none⟩ = some (.int .i64 0) := cell_new rfl rfl
    have k1 : (w9.alloc (.cells #[.int .i64 0, .int .i64 0] 86)).cell? ⟨w9.heap.size, 1, none⟩ = some (.int .i64 0) := cell_new rfl rfl
    have f0 : (w9.alloc (.cells #[.int .i64 0, .int .i64 0] 86)).frozen? ⟨w9.heap.size, 0, none⟩ = false := froz_new (v := .int .i64 0) rfl rfl
    have f1 : (w9.alloc (.cells #[.int .i64 0, .int .i64 0] 86)).frozen? ⟨w9.heap.size, 1, none⟩ = false := froz_new (v := .int .i64 0) rfl rfl
    generalize hGG : w9.heap.size = GG at *
    generalize (w9.alloc (.cells #[.int .i64 0, .int .i64 0] 86)) = WA at *
    refine head_one 12 rfl (by kernel_rfl) (fun K hK => ?_)
    go_simp
    obtain ⟨s0, s1, s2, s3, s4, s5, s6⟩ := hHeld4
    refine hK.out _ _ ⟨set2_keep s0 (by show w.heap.size ≠ GG; omega), set2_keep s1 (by show w.heap.size ≠ GG; omega), set2_keep s2 (by show w.heap.size ≠ GG; omega), set2_keep s3 (by show w.heap.size ≠ GG; omega), set2_keep s4 (by show bx ≠ GG; omega), set2_keep s5 (by show bx ≠ GG; omega), set2_ge s6 (by omega)⟩ (fun hHeld5 => ?_)
    clear hK K
    (try simp only [Act.put, hnA, hnB, hnC])
    refine head_done (by kernel_rfl) ?_
    have y0 : ((WA.setCell ⟨GG, 0, none⟩ (.int .i64 RN)).setCell ⟨GG, 1, none⟩ (.int .i64 RD)).cell? ⟨GG, 0, none⟩ = some (.int .i64 RN) := cell_set2 (by simp) (World.cell?_setCell_same _ _ _ k0)
    have y1 : ((WA.setCell ⟨GG, 0, none⟩ (.int .i64 RN)).setCell ⟨GG, 1, none⟩ (.int .i64 RD)).cell? ⟨GG, 1, none⟩ = some (.int .i64 RD) := World.cell?_setCell_same _ _ _ (cell_set2 (by simp) k1)
    obtain ⟨u0, u1, u2, u3, u4, u5, u6⟩ := hHeld5
    generalize ((WA.setCell ⟨GG, 0, none⟩ (.int .i64 RN)).setCell ⟨GG, 1, none⟩ (.int .i64 RD)) = WF at *
    go_wp2_with (first
      | (go_at_call 51; ((with_reducible refine (iFormatRatio RN RD _).mono ?_); rintro r w7 ⟨rfl, g7⟩))
      | (go_at_call 45; ((with_reducible refine (iOrNone (ratioTxt RN RD) RB _).mono ?_); rintro r w8 ⟨rfl, g8⟩)))
    go_ret
    exact ⟨rfl, u6.trans (g7.trans g8)⟩
  · skip
    go_simp
    have gA : Ge W0 (W0.alloc (.cells #[.int .i64 0, .int .i64 0] 86)).drew := Ge.drew (Ge.alloc (Ge.refl _) _)
    refine hK.out _ _ (hS _ gA) (fun hHeld2 => ?_)
    clear hK K
    (try simp only [Act.put, hnA, hnB, hnC])
    refine head_one 7 rfl (by kernel_rfl) (fun K hK => ?_)
    go_simp
    (go_at_call 53; ((with_reducible refine (HC.out _ (Ge.drew (Ge.alloc g0 _))).mono ?_); rintro r w9 ⟨rfl, g9⟩))
    have G9 : Ge W0 w9 := Ge.trans gA g9
    have z9 := G9.size
    refine hK.out _ _ (hS _ G9) (fun hHeld4 => ?_)
    clear hK K
    (try simp only [Act.put, hnA, hnB, hnC])
    have k0 : w9.cell? ⟨W0.heap.size, 0, none⟩ = some (.int .i64 0) := g9.keep ((Ge.drew (Ge.refl _)).keep (cell_new rfl rfl))
    have k1 : w9.cell? ⟨W0.heap.size, 1, none⟩ = some (.int .i64 0) := g9.keep ((Ge.drew (Ge.refl _)).keep (cell_new rfl rfl))
    have f0 : w9.frozen? ⟨W0.heap.size, 0, none⟩ = false := (Ge.drew (Ge.refl _) |>.trans g9).keepF (cell_new rfl rfl) (froz_new (v := .int .i64 0) rfl rfl)
    have f1 : w9.frozen? ⟨W0.heap.size, 1, none⟩ = false := (Ge.drew (Ge.refl _) |>.trans g9).keepF (cell_new rfl rfl) (froz_new (v := .int .i64 0) rfl rfl)
    refine head_takeR 8 (v := ?_) rfl ?_ ?_; rotate_left; (focus (intro w' hSw; (try dsimp only at hSw); go_simp; (try with_reducible rfl))); (try simp only [Act.put, hnA, hnB, hnC])
    refine head_takeR 9 (v := ?_) rfl ?_ ?_; rotate_left; (focus (intro w' hSw; (try dsimp only at hSw); go_simp; (try with_reducible rfl))); (try simp only [Act.put, hnA, hnB, hnC])
    refine head_takeR 10 (v := ?_) rfl ?_ ?_; rotate_left; (focus (intro w' hSw; (try dsimp only at hSw); go_simp; (try with_reducible rfl))); (try simp only [Act.put, hnA, hnB, hnC])
    generalize hGG : W0.heap.size = GG at *
    generalize hWA : w9 = WA at *
    refine head_one 12 rfl (by kernel_rfl) (fun K hK => ?_)
    go_simp
    obtain ⟨s0, s1, s2, s3, s4, s5, s6⟩ := hHeld4
    refine hK.out _ _ ⟨set2_keep s0 (by show w.heap.size ≠ GG; omega), set2_keep s1 (by show w.heap.size ≠ GG; omega), set2_keep s2 (by show w.heap.size ≠ GG; omega), set2_keep s3 (by show w.heap.size ≠ GG; omega), set2_keep s4 (by show bx ≠ GG; omega), set2_keep s5 (by show bx ≠ GG; omega), set2_ge s6 (by omega)⟩ (fun hHeld5 => ?_)
    clear hK K
    (try simp only [Act.put, hnA, hnB, hnC])
    refine head_done (by kernel_rfl) ?_
    have y0 : ((WA.setCell ⟨GG, 0, none⟩ (.int .i64 RN)).setCell ⟨GG, 1, none⟩ (.int .i64 RD)).cell? ⟨GG, 0, none⟩ = some (.int .i64 RN) := cell_set2 (by simp) (World.cell?_setCell_same _ _ _ k0)
    have y1 : ((WA.setCell ⟨GG, 0, none⟩ (.int .i64 RN)).setCell ⟨GG, 1, none⟩ (.int .i64 RD)).cell? ⟨GG, 1, none⟩ = some (.int .i64 RD) := World.cell?_setCell_same _ _ _ (cell_set2 (by simp) k1)
    obtain ⟨u0, u1, u2, u3, u4, u5, u6⟩ := hHeld5
    generalize ((WA.setCell ⟨GG, 0, none⟩ (.int .i64 RN)).setCell ⟨GG, 1, none⟩ (.int .i64 RD)) = WF at *
    go_wp2_with (first
      | (go_at_call 51; ((with_reducible refine (iFormatRatio RN RD _).mono ?_); rintro r w7 ⟨rfl, g7⟩))
      | (go_at_call 45; ((with_reducible refine (iOrNone (ratioTxt RN RD) RB _).mono ?_); rintro r w8 ⟨rfl, g8⟩)))
    go_ret
    exact ⟨rfl, u6.trans (g7.trans g8)⟩
end Go.Proofs.YtagiecajffhnpaaGreat
