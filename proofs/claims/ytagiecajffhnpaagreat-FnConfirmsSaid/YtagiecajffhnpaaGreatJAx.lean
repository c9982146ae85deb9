/- changed of impl: the commands with numbers. No condition. -/
import Derived.Test.YtagiecajffhnpaaGreatJAw
import Derived.Laws.StructEq
namespace Go.Proofs.YtagiecajffhnpaaGreat
set_option maxRecDepth 100000
open Go.ChangeShapes Go.WideShapes Go.ChangeAt Go.RowKit Go.Joins

theorem eql_form (a b : ByteArray) (x y : Int) (w : World) : (binOp .eql 55 (.agg #[.string a, .int .i64 x]) (.agg #[.string b, .int .i64 y])).run Tryz.prog w = .ok (.bool (decide (a = b) && decide (x = y))) w := by
  by_cases h1 : a = b
  · subst h1
    by_cases h2 : x = y
    · subst h2
      go_simp
    · go_simp
  · have h3 : ¬ a.toList = b.toList := fun h => h1 (by apply ByteArray.ext; apply Array.ext'; simpa [ByteArray.toList_eq] using h)
    go_simp
theorem isF_q {wd lit : List UInt8} {c k : Nat} {b : Bool} (h : isF wd c lit k = b) (w : World) : (binOp .eql 55 (.agg #[.string (bstr wd), .int .i64 (c : Int)]) (.agg #[.string (bstr lit), .int .i64 (k : Int)])).run Tryz.prog w = .ok (.bool b) w := by
  rw [eql_form, ← h]
  unfold isF
  have e1 : decide (bstr wd = bstr lit) = decide (wd = lit) := by
    by_cases hw : wd = lit
    · subst hw; simp
    · rw [decide_eq_false hw, decide_eq_false (fun hb => hw (by rw [← bstr_data wd, hb, bstr_data]))]
  have e2 : decide ((c : Int) = (k : Int)) = decide (c = k) := by
    by_cases hc : c = k
    · subst hc; simp
    · rw [decide_eq_false hc, decide_eq_false (by omega)]
  rw [e1, e2]
/-- What a command that changes gives: whether there is one, whether it succeeds, and the network. -/
def GivesCh (w : World) (is b : Bool) (y : Nt) (r : Ending) (w' : World) : Prop :=
  ∃ s, r = .returned (.tuple #[.agg #[.int .i64 y.nodes, .int .i64 y.ends, .int .i64 y.scale, s], .bool is, .bool b]) ∧ w'.ownsRow w.heap.size 45 3 s y.wires.length (icells (flatW y.wires)) ∧ Ge w w'
theorem SlI.at {w : World} {v : Value} {l : List Int} {n : Nat} (h : SlI w v l) (hn : l.length = n) (h0 : 0 < n) : ∃ b o cap, v = .slice (some ⟨b, o, none⟩) n cap ∧ b < w.heap.size ∧ ∀ i, i < n → w.cell? ⟨b, o + i, none⟩ = some (.int .i64 (nth l i)) := by
  obtain ⟨p, cap, rfl, hc⟩ := h.openN hn
  obtain ⟨b, o, rfl, hx0⟩ := hc 0 h0
  refine ⟨b, o, cap, rfl, World.block_lt_of_cell? _ _ hx0, fun i hi => ?_⟩
  obtain ⟨b', o', he, hx⟩ := hc i hi
  simp only [Option.some.injEq, Addr.mk.injEq, and_true] at he
  obtain ⟨rfl, rfl⟩ := he
  exact hx
theorem ch_start (w : World) (n e S : Int) (v : Value) (wd : ByteArray) (c : Int) : ∃ W0, W0 = ((((w.alloc (.cells #[.int .i64 n, .int .i64 e, .int .i64 S, v] 33)).alloc (.cells #[.string wd, .int .i64 c] 55)).alloc (.cells #[.int .i64 0, .int .i64 0, .int .i64 0, .slice none 0 0] 33)).alloc (.cells #[.int .i64 0, .int .i64 0, .int .i64 0, .slice none 0 0] 33)) ∧ NetIn W0 w.heap.size n e S v ∧ ResD W0 (w.heap.size + 1 + 1 + 1) ∧ ResD W0 (w.heap.size + 1 + 1) ∧ Ge w W0 ∧ W0.heap.size = w.heap.size + 1 + 1 + 1 + 1 := by
  refine ⟨_, rfl, (NetIn.new w n e S _).ge (Ge.alloc (Ge.alloc (Ge.alloc (Ge.refl _) _) _) _), ?_, ?_, Ge.alloc (Ge.alloc (Ge.alloc (Ge.alloc (Ge.refl _) _) _) _) _, by simp⟩
  · have h := ResD.new (((w.alloc (.cells #[.int .i64 n, .int .i64 e, .int .i64 S, v] 33)).alloc (.cells #[.string wd, .int .i64 c] 55)).alloc (.cells #[.int .i64 0, .int .i64 0, .int .i64 0, .slice none 0 0] 33)) (.int .i64 0) (.int .i64 0) (.int .i64 0) (.slice none 0 0) 33
    simp only [World.size_alloc] at h
    exact h
  · have h := ResD.new ((w.alloc (.cells #[.int .i64 n, .int .i64 e, .int .i64 S, v] 33)).alloc (.cells #[.string wd, .int .i64 c] 55)) (.int .i64 0) (.int .i64 0) (.int .i64 0) (.slice none 0 0) 33
    simp only [World.size_alloc] at h
    exact h.ge (Ge.alloc (Ge.refl _) _)
theorem set4_keep {w9 : World} {B : Nat} {u0 u1 u2 u3 v : Value} {a : Addr} (h : w9.cell? a = some v) (hne : a.block ≠ B) : ((((w9.setCell ⟨B, 0, none⟩ u0).setCell ⟨B, 1, none⟩ u1).setCell ⟨B, 2, none⟩ u2).setCell ⟨B, 3, none⟩ u3).cell? a = some v :=
  cell_set2 (fun e => hne (congrArg Addr.block e).symm) (cell_set2 (fun e => hne (congrArg Addr.block e).symm) (cell_set2 (fun e => hne (congrArg Addr.block e).symm) (cell_set2 (fun e => hne (congrArg Addr.block e).symm) h)))
theorem set4_ge {w w9 : World} {B : Nat} {u0 u1 u2 u3 : Value} (h : Ge w w9) (hb : w.heap.size ≤ B) : Ge w ((((w9.setCell ⟨B, 0, none⟩ u0).setCell ⟨B, 1, none⟩ u1).setCell ⟨B, 2, none⟩ u2).setCell ⟨B, 3, none⟩ u3) :=
  Ge.setCell (Ge.setCell (Ge.setCell (Ge.setCell h hb _) hb _) hb _) hb _
theorem ch_end {w w9 : World} {Z : Nt} {u : Value} {B : Bool} (ho : w9.ownsRow (w.heap.size + 1 + 1 + 1 + 1) 45 3 u Z.wires.length (icells (flatW Z.wires))) (hg : Ge w w9) :
    GivesCh w true B Z (.returned (.tuple #[.agg #[.int .i64 Z.nodes, .int .i64 Z.ends, .int .i64 Z.scale, u], .bool true, .bool B])) ((((((((w9.setCell ⟨w.heap.size + 1 + 1 + 1, 0, none⟩ (.int .i64 Z.nodes)).setCell ⟨w.heap.size + 1 + 1 + 1, 1, none⟩ (.int .i64 Z.ends)).setCell ⟨w.heap.size + 1 + 1 + 1, 2, none⟩ (.int .i64 Z.scale)).setCell ⟨w.heap.size + 1 + 1 + 1, 3, none⟩ (u)).setCell ⟨w.heap.size + 1 + 1, 0, none⟩ (.int .i64 Z.nodes)).setCell ⟨w.heap.size + 1 + 1, 1, none⟩ (.int .i64 Z.ends)).setCell ⟨w.heap.size + 1 + 1, 2, none⟩ (.int .i64 Z.scale)).setCell ⟨w.heap.size + 1 + 1, 3, none⟩ (u)) :=
  ⟨u, rfl, owns_mono (own_setD (own_setD (own_setD (own_setD (own_setD (own_setD (own_setD (own_setD ho (by omega)) (by omega)) (by omega)) (by omega)) (by omega)) (by omega)) (by omega)) (by omega)) (by omega), by
    have k1 : w.heap.size ≤ w.heap.size + 1 + 1 + 1 := by omega
    have k2 : w.heap.size ≤ w.heap.size + 1 + 1 := by omega
    exact Ge.setCell (Ge.setCell (Ge.setCell (Ge.setCell (Ge.setCell (Ge.setCell (Ge.setCell (Ge.setCell hg k1 _) k1 _) k1 _) k1 _) k2 _) k2 _) k2 _) k2 _⟩
set_option maxHeartbeats 1600000 in
theorem iChPut (n e : Nat) (S : Int) (s vx : Value) (L : List Wr) (x : List Int) (w : World) (hs : SlF w s L.length 3 (flatW L)) (hB : netB n e S L.length (flatW L) = true) (hx : SlI w vx x) (hl : x.length = 3) :
    Calls Tryz.prog 22 #[.agg #[.int .i64 (n : Int), .int .i64 (e : Int), .int .i64 S, s], .agg #[.string ⟨#[112, 117, 116]⟩, .int .i64 3], vx] w (GivesCh w true (putB n e S L.length (flatW L) (nth x 0) (nth x 1) (nth x 2)) (oNet (putB n e S L.length (flatW L) (nth x 0) (nth x 1) (nth x 2)) n e S (putM n L.length (flatW L) (nth x 0) (nth x 1) (nth x 2)))) := by
  have HV := Lib.hid hs
  obtain ⟨p, cap, rfl, _⟩ := hs.open
  have HC := Lib.hid (fun w' (g : Ge w w') => (iPutWire n e S (nth x 0) (nth x 1) (nth x 2) (.slice p L.length cap) L.length (flatW L) w' (HV.out.ge g) hB).mono (fun _ _ h => GivesO.net h))
  obtain ⟨bx, ox, cx, rfl, hbx, hcx⟩ := hx.at hl (by omega)
  have x0 := hcx 0 (by omega)
  have x1 := hcx 1 (by omega)
  have x2 := hcx 2 (by omega)
  generalize oNet (putB n e S L.length (flatW L) (nth x 0) (nth x 1) (nth x 2)) n e S (putM n L.length (flatW L) (nth x 0) (nth x 1) (nth x 2)) = Z at *
  generalize putB n e S L.length (flatW L) (nth x 0) (nth x 1) (nth x 2) = B at *
  generalize nth x 0 = X0 at *
  generalize nth x 1 = X1 at *
  generalize nth x 2 = X2 at *
  generalize L.length = m at *
  clear hs hB hcx hl
  have q0 : ∀ w, (binOp .eql 55 (.agg #[.string ⟨#[112, 117, 116]⟩, .int .i64 3]) (.agg #[.string ⟨#[112, 117, 116]⟩, .int .i64 3])).run Tryz.prog w = .ok (.bool true) w := fun w => isF_q (wd := [112, 117, 116]) (c := 3) (lit := [112, 117, 116]) (k := 3) (by decide) w
  obtain ⟨W0, hW0, NB0, R0, R1, g0, z0⟩ := ch_start w n e S (.slice p m cap) ⟨#[112, 117, 116]⟩ 3
  go_enter Tryz.func22, Tryz.ntmps22
  go_upto_region 6 with fail
  rw [← hW0]
  clear hW0
  have hS : ∀ w', Ge W0 w' → (w'.cell? ⟨w.heap.size, 0, none⟩ = some (.int .i64 (n : Int)) ∧ w'.cell? ⟨w.heap.size, 1, none⟩ = some (.int .i64 (e : Int)) ∧ w'.cell? ⟨w.heap.size, 2, none⟩ = some (.int .i64 S) ∧ w'.cell? ⟨w.heap.size, 3, none⟩ = some (.slice p m cap) ∧ w'.cell? ⟨bx, ox, none⟩ = some (.int .i64 X0) ∧ w'.cell? ⟨bx, ox + 1, none⟩ = some (.int .i64 X1) ∧ w'.cell? ⟨bx, ox + 2, none⟩ = some (.int .i64 X2) ∧ Ge w w') := fun w' g => ⟨g.keep NB0.1, g.keep NB0.2.1, g.keep NB0.2.2.1, g.keep NB0.2.2.2, g.keep (g0.keep x0), g.keep (g0.keep x1), g.keep (g0.keep x2), g0.trans g⟩
  refine wp_region_head (S := fun w' => w'.cell? ⟨w.heap.size, 0, none⟩ = some (.int .i64 (n : Int)) ∧ w'.cell? ⟨w.heap.size, 1, none⟩ = some (.int .i64 (e : Int)) ∧ w'.cell? ⟨w.heap.size, 2, none⟩ = some (.int .i64 S) ∧ w'.cell? ⟨w.heap.size, 3, none⟩ = some (.slice p m cap) ∧ w'.cell? ⟨bx, ox, none⟩ = some (.int .i64 X0) ∧ w'.cell? ⟨bx, ox + 1, none⟩ = some (.int .i64 X1) ∧ w'.cell? ⟨bx, ox + 2, none⟩ = some (.int .i64 X2) ∧ Ge w w') 15 (by kernel_rfl) (by kernel_rfl) (hS _ (Ge.drew (Ge.refl _))) (fun hHeld => ?_)
  refine head_takeR 0 (v := ?_) rfl ?_ ?_; rotate_left; (focus (intro w' hSw; (try dsimp only at hSw); go_simp; (try with_reducible rfl))); (try simp only [Act.put, hnA, hnB, hnC])
  refine head_takeR 1 (v := ?_) rfl ?_ ?_; rotate_left; (focus (intro w' hSw; (try dsimp only at hSw); go_simp; (try with_reducible rfl))); (try simp only [Act.put, hnA, hnB, hnC])
  refine head_takeR 2 (v := ?_) rfl ?_ ?_; rotate_left; (focus (intro w' hSw; (try dsimp only at hSw); go_simp; (try with_reducible rfl))); (try simp only [Act.put, hnA, hnB, hnC])
  refine head_takeR 3 (v := ?_) rfl ?_ ?_; rotate_left; (focus (intro w' hSw; (try dsimp only at hSw); go_simp; (try with_reducible rfl))); (try simp only [Act.put, hnA, hnB, hnC])
  refine head_takeR 4 (v := ?_) rfl ?_ ?_; rotate_left; (focus (intro w' hSw; (try dsimp only at hSw); go_simp; (try with_reducible rfl))); (try simp only [Act.put, hnA, hnB, hnC])
  refine head_takeR 5 (v := ?_) rfl ?_ ?_; rotate_left; (focus (intro w' hSw; (try dsimp only at hSw); go_simp; (try with_reducible rfl))); (try simp only [Act.put, hnA, hnB, hnC])
  refine head_takeR 6 (v := ?_) rfl ?_ ?_; rotate_left; (focus (intro w' hSw; (try dsimp only at hSw); go_simp; (try with_reducible rfl))); (try simp only [Act.put, hnA, hnB, hnC])
  refine head_takeR 7 (v := ?_) rfl ?_ ?_; rotate_left; (focus (intro w' hSw; (try dsimp only at hSw); go_simp; (try with_reducible rfl))); (try simp only [Act.put, hnA, hnB, hnC])
  refine head_takeR 8 (v := ?_) rfl ?_ ?_; rotate_left; (focus (intro w' hSw; (try dsimp only at hSw); go_simp; (try with_reducible rfl))); (try simp only [Act.put, hnA, hnB, hnC])
  refine head_takeR 9 (v := ?_) rfl ?_ ?_; rotate_left; (focus (intro w' hSw; (try dsimp only at hSw); go_simp; (try with_reducible rfl))); (try simp only [Act.put, hnA, hnB, hnC])
  refine head_one 10 rfl (by kernel_rfl) (fun K hK => ?_)
  go_simp
  (go_at_call 34; ((with_reducible refine (HC.out _ (Ge.drew g0)).mono ?_); rintro r w9 ⟨s9, rfl, o9, g9⟩))
  have G9 : Ge W0 w9 := Ge.trans (Ge.drew (Ge.refl _)) g9
  have R0 := R0.ge G9
  have R1 := R1.ge G9
  have HO := Lib.hid (owns_mono o9 (show w.heap.size + 1 + 1 + 1 + 1 ≤ _ by rw [World.size_drew]; omega))
  refine hK.out _ _ (hS _ G9) (fun hHeld2 => ?_)
  clear hK K o9
  (try simp only [Act.put, hnA, hnB, hnC])
  refine head_takeR 11 (v := ?_) rfl ?_ ?_; rotate_left; (focus (intro w' hSw; (try dsimp only at hSw); go_simp; (try with_reducible rfl))); (try simp only [Act.put, hnA, hnB, hnC])
  refine head_takeR 12 (v := ?_) rfl ?_ ?_; rotate_left; (focus (intro w' hSw; (try dsimp only at hSw); go_simp; (try with_reducible rfl))); (try simp only [Act.put, hnA, hnB, hnC])
  refine head_takeR 13 (v := ?_) rfl ?_ ?_; rotate_left; (focus (intro w' hSw; (try dsimp only at hSw); go_simp; (try with_reducible rfl))); (try simp only [Act.put, hnA, hnB, hnC])
  obtain ⟨r0, p0, f0⟩ := R0 0 (by omega)
  obtain ⟨r1, p1, f1⟩ := R0 1 (by omega)
  obtain ⟨r2, p2, f2⟩ := R0 2 (by omega)
  obtain ⟨r3, p3, f3⟩ := R0 3 (by omega)
  obtain ⟨r4, p4, f4⟩ := R1 0 (by omega)
  obtain ⟨r5, p5, f5⟩ := R1 1 (by omega)
  obtain ⟨r6, p6, f6⟩ := R1 2 (by omega)
  obtain ⟨r7, p7, f7⟩ := R1 3 (by omega)
  obtain ⟨pu, cu, rfl⟩ := owns_form HO.out
  refine head_one 14 rfl (by kernel_rfl) (fun K hK => ?_)
  go_simp
  obtain ⟨s0, s1, s2, s3, s4, s5, s6, s7⟩ := hHeld2
  refine hK.out _ _ ⟨set4_keep s0 (by show w.heap.size ≠ w.heap.size + 1 + 1 + 1; omega), set4_keep s1 (by show w.heap.size ≠ w.heap.size + 1 + 1 + 1; omega), set4_keep s2 (by show w.heap.size ≠ w.heap.size + 1 + 1 + 1; omega), set4_keep s3 (by show w.heap.size ≠ w.heap.size + 1 + 1 + 1; omega), set4_keep s4 (by show bx ≠ w.heap.size + 1 + 1 + 1; omega), set4_keep s5 (by show bx ≠ w.heap.size + 1 + 1 + 1; omega), set4_keep s6 (by show bx ≠ w.heap.size + 1 + 1 + 1; omega), set4_ge s7 (by omega)⟩ (fun hHeld3 => ?_)
  clear hK K
  (try simp only [Act.put, hnA, hnB, hnC])
  refine head_done (by kernel_rfl) ?_
  go_wp2_with fail
  exact bodyPost_ret (v := .tuple #[.agg #[.int .i64 Z.nodes, .int .i64 Z.ends, .int .i64 Z.scale, .slice pu Z.wires.length cu], .bool true, .bool B]) (by simp [results, Tryz.results22, go_sem, *]) rfl (ch_end HO.out (g0.trans G9))
set_option maxHeartbeats 1600000 in
theorem iChJoin (n e : Nat) (S : Int) (s vx : Value) (L : List Wr) (x : List Int) (w : World) (hs : SlF w s L.length 3 (flatW L)) (hB : netB n e S L.length (flatW L) = true) (hx : SlI w vx x) (hl : x.length = 2) :
    Calls Tryz.prog 22 #[.agg #[.int .i64 (n : Int), .int .i64 (e : Int), .int .i64 S, s], .agg #[.string ⟨#[106, 111, 105, 110]⟩, .int .i64 2], vx] w (GivesCh w true (jnB n e S L.length (flatW L) (nth x 0) (nth x 1)) (oNet (jnB n e S L.length (flatW L) (nth x 0) (nth x 1)) ((n - 1 : Nat) : Int) (jnE e (nth x 1).toNat) S (jnM n L.length (flatW L) (nth x 0).toNat (nth x 1).toNat))) := by
  have HV := Lib.hid hs
  obtain ⟨p, cap, rfl, _⟩ := hs.open
  have HC := Lib.hid (fun w' (g : Ge w w') => (iJoinNodes n e S (nth x 0) (nth x 1) (.slice p L.length cap) L.length (flatW L) w' (HV.out.ge g) hB).mono (fun _ _ h => GivesO.net h))
  obtain ⟨bx, ox, cx, rfl, hbx, hcx⟩ := hx.at hl (by omega)
  have x0 := hcx 0 (by omega)
  have x1 := hcx 1 (by omega)
  generalize oNet (jnB n e S L.length (flatW L) (nth x 0) (nth x 1)) ((n - 1 : Nat) : Int) (jnE e (nth x 1).toNat) S (jnM n L.length (flatW L) (nth x 0).toNat (nth x 1).toNat) = Z at *
  generalize jnB n e S L.length (flatW L) (nth x 0) (nth x 1) = B at *
  generalize nth x 0 = X0 at *
  generalize nth x 1 = X1 at *
  generalize L.length = m at *
  clear hs hB hcx hl
  have q0 : ∀ w, (binOp .eql 55 (.agg #[.string ⟨#[106, 111, 105, 110]⟩, .int .i64 2]) (.agg #[.string ⟨#[112, 117, 116]⟩, .int .i64 3])).run Tryz.prog w = .ok (.bool false) w := fun w => isF_q (wd := [106, 111, 105, 110]) (c := 2) (lit := [112, 117, 116]) (k := 3) (by decide) w
  have q1 : ∀ w, (binOp .eql 55 (.agg #[.string ⟨#[106, 111, 105, 110]⟩, .int .i64 2]) (.agg #[.string ⟨#[106, 111, 105, 110]⟩, .int .i64 2])).run Tryz.prog w = .ok (.bool true) w := fun w => isF_q (wd := [106, 111, 105, 110]) (c := 2) (lit := [106, 111, 105, 110]) (k := 2) (by decide) w
  obtain ⟨W0, hW0, NB0, R0, R1, g0, z0⟩ := ch_start w n e S (.slice p m cap) ⟨#[106, 111, 105, 110]⟩ 2
  go_enter Tryz.func22, Tryz.ntmps22
  go_upto_region 8 with fail
  rw [← hW0]
  clear hW0
  have hS : ∀ w', Ge W0 w' → (w'.cell? ⟨w.heap.size, 0, none⟩ = some (.int .i64 (n : Int)) ∧ w'.cell? ⟨w.heap.size, 1, none⟩ = some (.int .i64 (e : Int)) ∧ w'.cell? ⟨w.heap.size, 2, none⟩ = some (.int .i64 S) ∧ w'.cell? ⟨w.heap.size, 3, none⟩ = some (.slice p m cap) ∧ w'.cell? ⟨bx, ox, none⟩ = some (.int .i64 X0) ∧ w'.cell? ⟨bx, ox + 1, none⟩ = some (.int .i64 X1) ∧ Ge w w') := fun w' g => ⟨g.keep NB0.1, g.keep NB0.2.1, g.keep NB0.2.2.1, g.keep NB0.2.2.2, g.keep (g0.keep x0), g.keep (g0.keep x1), g0.trans g⟩
  refine wp_region_head (S := fun w' => w'.cell? ⟨w.heap.size, 0, none⟩ = some (.int .i64 (n : Int)) ∧ w'.cell? ⟨w.heap.size, 1, none⟩ = some (.int .i64 (e : Int)) ∧ w'.cell? ⟨w.heap.size, 2, none⟩ = some (.int .i64 S) ∧ w'.cell? ⟨w.heap.size, 3, none⟩ = some (.slice p m cap) ∧ w'.cell? ⟨bx, ox, none⟩ = some (.int .i64 X0) ∧ w'.cell? ⟨bx, ox + 1, none⟩ = some (.int .i64 X1) ∧ Ge w w') 12 (by kernel_rfl) (by kernel_rfl) (hS _ (Ge.drew (Ge.refl _))) (fun hHeld => ?_)
  refine head_takeR 0 (v := ?_) rfl ?_ ?_; rotate_left; (focus (intro w' hSw; (try dsimp only at hSw); go_simp; (try with_reducible rfl))); (try simp only [Act.put, hnA, hnB, hnC])
  refine head_takeR 1 (v := ?_) rfl ?_ ?_; rotate_left; (focus (intro w' hSw; (try dsimp only at hSw); go_simp; (try with_reducible rfl))); (try simp only [Act.put, hnA, hnB, hnC])
  refine head_takeR 2 (v := ?_) rfl ?_ ?_; rotate_left; (focus (intro w' hSw; (try dsimp only at hSw); go_simp; (try with_reducible rfl))); (try simp only [Act.put, hnA, hnB, hnC])
  refine head_takeR 3 (v := ?_) rfl ?_ ?_; rotate_left; (focus (intro w' hSw; (try dsimp only at hSw); go_simp; (try with_reducible rfl))); (try simp only [Act.put, hnA, hnB, hnC])
  refine head_takeR 4 (v := ?_) rfl ?_ ?_; rotate_left; (focus (intro w' hSw; (try dsimp only at hSw); go_simp; (try with_reducible rfl))); (try simp only [Act.put, hnA, hnB, hnC])
  refine head_takeR 5 (v := ?_) rfl ?_ ?_; rotate_left; (focus (intro w' hSw; (try dsimp only at hSw); go_simp; (try with_reducible rfl))); (try simp only [Act.put, hnA, hnB, hnC])
  refine head_takeR 6 (v := ?_) rfl ?_ ?_; rotate_left; (focus (intro w' hSw; (try dsimp only at hSw); go_simp; (try with_reducible rfl))); (try simp only [Act.put, hnA, hnB, hnC])
  refine head_one 7 rfl (by kernel_rfl) (fun K hK => ?_)
  go_simp
  (go_at_call 35; ((with_reducible refine (HC.out _ (Ge.drew g0)).mono ?_); rintro r w9 ⟨s9, rfl, o9, g9⟩))
  have G9 : Ge W0 w9 := Ge.trans (Ge.drew (Ge.refl _)) g9
  have R0 := R0.ge G9
  have R1 := R1.ge G9
  have HO := Lib.hid (owns_mono o9 (show w.heap.size + 1 + 1 + 1 + 1 ≤ _ by rw [World.size_drew]; omega))
  refine hK.out _ _ (hS _ G9) (fun hHeld2 => ?_)
  clear hK K o9
  (try simp only [Act.put, hnA, hnB, hnC])
  refine head_takeR 8 (v := ?_) rfl ?_ ?_; rotate_left; (focus (intro w' hSw; (try dsimp only at hSw); go_simp; (try with_reducible rfl))); (try simp only [Act.put, hnA, hnB, hnC])
  refine head_takeR 9 (v := ?_) rfl ?_ ?_; rotate_left; (focus (intro w' hSw; (try dsimp only at hSw); go_simp; (try with_reducible rfl))); (try simp only [Act.put, hnA, hnB, hnC])
  refine head_takeR 10 (v := ?_) rfl ?_ ?_; rotate_left; (focus (intro w' hSw; (try dsimp only at hSw); go_simp; (try with_reducible rfl))); (try simp only [Act.put, hnA, hnB, hnC])
  obtain ⟨r0, p0, f0⟩ := R0 0 (by omega)
  obtain ⟨r1, p1, f1⟩ := R0 1 (by omega)
  obtain ⟨r2, p2, f2⟩ := R0 2 (by omega)
  obtain ⟨r3, p3, f3⟩ := R0 3 (by omega)
  obtain ⟨r4, p4, f4⟩ := R1 0 (by omega)
  obtain ⟨r5, p5, f5⟩ := R1 1 (by omega)
  obtain ⟨r6, p6, f6⟩ := R1 2 (by omega)
  obtain ⟨r7, p7, f7⟩ := R1 3 (by omega)
  obtain ⟨pu, cu, rfl⟩ := owns_form HO.out
  refine head_one 11 rfl (by kernel_rfl) (fun K hK => ?_)
  go_simp
  obtain ⟨s0, s1, s2, s3, s4, s5, s6⟩ := hHeld2
  refine hK.out _ _ ⟨set4_keep s0 (by show w.heap.size ≠ w.heap.size + 1 + 1 + 1; omega), set4_keep s1 (by show w.heap.size ≠ w.heap.size + 1 + 1 + 1; omega), set4_keep s2 (by show w.heap.size ≠ w.heap.size + 1 + 1 + 1; omega), set4_keep s3 (by show w.heap.size ≠ w.heap.size + 1 + 1 + 1; omega), set4_keep s4 (by show bx ≠ w.heap.size + 1 + 1 + 1; omega), set4_keep s5 (by show bx ≠ w.heap.size + 1 + 1 + 1; omega), set4_ge s6 (by omega)⟩ (fun hHeld3 => ?_)
  clear hK K
  (try simp only [Act.put, hnA, hnB, hnC])
  refine head_done (by kernel_rfl) ?_
  go_wp2_with fail
  exact bodyPost_ret (v := .tuple #[.agg #[.int .i64 Z.nodes, .int .i64 Z.ends, .int .i64 Z.scale, .slice pu Z.wires.length cu], .bool true, .bool B]) (by simp [results, Tryz.results22, go_sem, *]) rfl (ch_end HO.out (g0.trans G9))
set_option maxHeartbeats 1600000 in
theorem iChSwap (n e : Nat) (S : Int) (s vx : Value) (L : List Wr) (x : List Int) (w : World) (hs : SlF w s L.length 3 (flatW L)) (hB : netB n e S L.length (flatW L) = true) (hx : SlI w vx x) (hl : x.length = 2) :
    Calls Tryz.prog 22 #[.agg #[.int .i64 (n : Int), .int .i64 (e : Int), .int .i64 S, s], .agg #[.string ⟨#[115, 119, 97, 112]⟩, .int .i64 2], vx] w (GivesCh w true (swB n e S L.length (flatW L) (nth x 0) (nth x 1)) (oNet (swB n e S L.length (flatW L) (nth x 0) (nth x 1)) n e S (swM n L.length (flatW L) (nth x 0).toNat (nth x 1).toNat))) := by
  have HV := Lib.hid hs
  obtain ⟨p, cap, rfl, _⟩ := hs.open
  have HC := Lib.hid (fun w' (g : Ge w w') => (iSwapNodes n e S (nth x 0) (nth x 1) (.slice p L.length cap) L.length (flatW L) w' (HV.out.ge g) hB).mono (fun _ _ h => GivesO.net h))
  obtain ⟨bx, ox, cx, rfl, hbx, hcx⟩ := hx.at hl (by omega)
  have x0 := hcx 0 (by omega)
  have x1 := hcx 1 (by omega)
  generalize oNet (swB n e S L.length (flatW L) (nth x 0) (nth x 1)) n e S (swM n L.length (flatW L) (nth x 0).toNat (nth x 1).toNat) = Z at *
  generalize swB n e S L.length (flatW L) (nth x 0) (nth x 1) = B at *
  generalize nth x 0 = X0 at *
  generalize nth x 1 = X1 at *
  generalize L.length = m at *
  clear hs hB hcx hl
  have q0 : ∀ w, (binOp .eql 55 (.agg #[.string ⟨#[115, 119, 97, 112]⟩, .int .i64 2]) (.agg #[.string ⟨#[112, 117, 116]⟩, .int .i64 3])).run Tryz.prog w = .ok (.bool false) w := fun w => isF_q (wd := [115, 119, 97, 112]) (c := 2) (lit := [112, 117, 116]) (k := 3) (by decide) w
  have q1 : ∀ w, (binOp .eql 55 (.agg #[.string ⟨#[115, 119, 97, 112]⟩, .int .i64 2]) (.agg #[.string ⟨#[106, 111, 105, 110]⟩, .int .i64 2])).run Tryz.prog w = .ok (.bool false) w := fun w => isF_q (wd := [115, 119, 97, 112]) (c := 2) (lit := [106, 111, 105, 110]) (k := 2) (by decide) w
  have q2 : ∀ w, (binOp .eql 55 (.agg #[.string ⟨#[115, 119, 97, 112]⟩, .int .i64 2]) (.agg #[.string ⟨#[115, 119, 97, 112]⟩, .int .i64 2])).run Tryz.prog w = .ok (.bool true) w := fun w => isF_q (wd := [115, 119, 97, 112]) (c := 2) (lit := [115, 119, 97, 112]) (k := 2) (by decide) w
  obtain ⟨W0, hW0, NB0, R0, R1, g0, z0⟩ := ch_start w n e S (.slice p m cap) ⟨#[115, 119, 97, 112]⟩ 2
  go_enter Tryz.func22, Tryz.ntmps22
  go_upto_region 10 with fail
  rw [← hW0]
  clear hW0
  have hS : ∀ w', Ge W0 w' → (w'.cell? ⟨w.heap.size, 0, none⟩ = some (.int .i64 (n : Int)) ∧ w'.cell? ⟨w.heap.size, 1, none⟩ = some (.int .i64 (e : Int)) ∧ w'.cell? ⟨w.heap.size, 2, none⟩ = some (.int .i64 S) ∧ w'.cell? ⟨w.heap.size, 3, none⟩ = some (.slice p m cap) ∧ w'.cell? ⟨bx, ox, none⟩ = some (.int .i64 X0) ∧ w'.cell? ⟨bx, ox + 1, none⟩ = some (.int .i64 X1) ∧ Ge w w') := fun w' g => ⟨g.keep NB0.1, g.keep NB0.2.1, g.keep NB0.2.2.1, g.keep NB0.2.2.2, g.keep (g0.keep x0), g.keep (g0.keep x1), g0.trans g⟩
  refine wp_region_head (S := fun w' => w'.cell? ⟨w.heap.size, 0, none⟩ = some (.int .i64 (n : Int)) ∧ w'.cell? ⟨w.heap.size, 1, none⟩ = some (.int .i64 (e : Int)) ∧ w'.cell? ⟨w.heap.size, 2, none⟩ = some (.int .i64 S) ∧ w'.cell? ⟨w.heap.size, 3, none⟩ = some (.slice p m cap) ∧ w'.cell? ⟨bx, ox, none⟩ = some (.int .i64 X0) ∧ w'.cell? ⟨bx, ox + 1, none⟩ = some (.int .i64 X1) ∧ Ge w w') 12 (by kernel_rfl) (by kernel_rfl) (hS _ (Ge.drew (Ge.refl _))) (fun hHeld => ?_)
  refine head_takeR 0 (v := ?_) rfl ?_ ?_; rotate_left; (focus (intro w' hSw; (try dsimp only at hSw); go_simp; (try with_reducible rfl))); (try simp only [Act.put, hnA, hnB, hnC])
  refine head_takeR 1 (v := ?_) rfl ?_ ?_; rotate_left; (focus (intro w' hSw; (try dsimp only at hSw); go_simp; (try with_reducible rfl))); (try simp only [Act.put, hnA, hnB, hnC])
  refine head_takeR 2 (v := ?_) rfl ?_ ?_; rotate_left; (focus (intro w' hSw; (try dsimp only at hSw); go_simp; (try with_reducible rfl))); (try simp only [Act.put, hnA, hnB, hnC])
  refine head_takeR 3 (v := ?_) rfl ?_ ?_; rotate_left; (focus (intro w' hSw; (try dsimp only at hSw); go_simp; (try with_reducible rfl))); (try simp only [Act.put, hnA, hnB, hnC])
  refine head_takeR 4 (v := ?_) rfl ?_ ?_; rotate_left; (focus (intro w' hSw; (try dsimp only at hSw); go_simp; (try with_reducible rfl))); (try simp only [Act.put, hnA, hnB, hnC])
  refine head_takeR 5 (v := ?_) rfl ?_ ?_; rotate_left; (focus (intro w' hSw; (try dsimp only at hSw); go_simp; (try with_reducible rfl))); (try simp only [Act.put, hnA, hnB, hnC])
  refine head_takeR 6 (v := ?_) rfl ?_ ?_; rotate_left; (focus (intro w' hSw; (try dsimp only at hSw); go_simp; (try with_reducible rfl))); (try simp only [Act.put, hnA, hnB, hnC])
  refine head_one 7 rfl (by kernel_rfl) (fun K hK => ?_)
  go_simp
  (go_at_call 36; ((with_reducible refine (HC.out _ (Ge.drew g0)).mono ?_); rintro r w9 ⟨s9, rfl, o9, g9⟩))
  have G9 : Ge W0 w9 := Ge.trans (Ge.drew (Ge.refl _)) g9
  have R0 := R0.ge G9
  have R1 := R1.ge G9
  have HO := Lib.hid (owns_mono o9 (show w.heap.size + 1 + 1 + 1 + 1 ≤ _ by rw [World.size_drew]; omega))
  refine hK.out _ _ (hS _ G9) (fun hHeld2 => ?_)
  clear hK K o9
  (try simp only [Act.put, hnA, hnB, hnC])
  refine head_takeR 8 (v := ?_) rfl ?_ ?_; rotate_left; (focus (intro w' hSw; (try dsimp only at hSw); go_simp; (try with_reducible rfl))); (try simp only [Act.put, hnA, hnB, hnC])
  refine head_takeR 9 (v := ?_) rfl ?_ ?_; rotate_left; (focus (intro w' hSw; (try dsimp only at hSw); go_simp; (try with_reducible rfl))); (try simp only [Act.put, hnA, hnB, hnC])
  refine head_takeR 10 (v := ?_) rfl ?_ ?_; rotate_left; (focus (intro w' hSw; (try dsimp only at hSw); go_simp; (try with_reducible rfl))); (try simp only [Act.put, hnA, hnB, hnC])
  obtain ⟨r0, p0, f0⟩ := R0 0 (by omega)
  obtain ⟨r1, p1, f1⟩ := R0 1 (by omega)
  obtain ⟨r2, p2, f2⟩ := R0 2 (by omega)
  obtain ⟨r3, p3, f3⟩ := R0 3 (by omega)
  obtain ⟨r4, p4, f4⟩ := R1 0 (by omega)
  obtain ⟨r5, p5, f5⟩ := R1 1 (by omega)
  obtain ⟨r6, p6, f6⟩ := R1 2 (by omega)
  obtain ⟨r7, p7, f7⟩ := R1 3 (by omega)
  obtain ⟨pu, cu, rfl⟩ := owns_form HO.out
  refine head_one 11 rfl (by kernel_rfl) (fun K hK => ?_)
  go_simp
  obtain ⟨s0, s1, s2, s3, s4, s5, s6⟩ := hHeld2
  refine hK.out _ _ ⟨set4_keep s0 (by show w.heap.size ≠ w.heap.size + 1 + 1 + 1; omega), set4_keep s1 (by show w.heap.size ≠ w.heap.size + 1 + 1 + 1; omega), set4_keep s2 (by show w.heap.size ≠ w.heap.size + 1 + 1 + 1; omega), set4_keep s3 (by show w.heap.size ≠ w.heap.size + 1 + 1 + 1; omega), set4_keep s4 (by show bx ≠ w.heap.size + 1 + 1 + 1; omega), set4_keep s5 (by show bx ≠ w.heap.size + 1 + 1 + 1; omega), set4_ge s6 (by omega)⟩ (fun hHeld3 => ?_)
  clear hK K
  (try simp only [Act.put, hnA, hnB, hnC])
  refine head_done (by kernel_rfl) ?_
  go_wp2_with fail
  exact bodyPost_ret (v := .tuple #[.agg #[.int .i64 Z.nodes, .int .i64 Z.ends, .int .i64 Z.scale, .slice pu Z.wires.length cu], .bool true, .bool B]) (by simp [results, Tryz.results22, go_sem, *]) rfl (ch_end HO.out (g0.trans G9))
set_option maxHeartbeats 1600000 in
theorem iChDrop (n e : Nat) (S : Int) (s vx : Value) (L : List Wr) (x : List Int) (w : World) (hs : SlF w s L.length 3 (flatW L)) (hB : netB n e S L.length (flatW L) = true) (hx : SlI w vx x) (hl : x.length = 1) :
    Calls Tryz.prog 22 #[.agg #[.int .i64 (n : Int), .int .i64 (e : Int), .int .i64 S, s], .agg #[.string ⟨#[100, 114, 111, 112]⟩, .int .i64 1], vx] w (GivesCh w true (dropB n e S L (nth x 0)) (oNet (dropB n e S L (nth x 0)) ((n - 1 : Nat) : Int) e (redS n S L (nth x 0).toNat) (redL n S L (nth x 0).toNat))) := by
  have HV := Lib.hid hs
  obtain ⟨p, cap, rfl, _⟩ := hs.open
  have HC := Lib.hid (fun w' (g : Ge w w') => (iDropNodeA n e S (nth x 0) (.slice p L.length cap) L w' (HV.out.ge g) hB).mono (fun _ _ h => GivesO.net h))
  obtain ⟨bx, ox, cx, rfl, hbx, hcx⟩ := hx.at hl (by omega)
  have x0 := hcx 0 (by omega)
  generalize oNet (dropB n e S L (nth x 0)) ((n - 1 : Nat) : Int) e (redS n S L (nth x 0).toNat) (redL n S L (nth x 0).toNat) = Z at *
  generalize dropB n e S L (nth x 0) = B at *
  generalize nth x 0 = X0 at *
  generalize L.length = m at *
  clear hs hB hcx hl
  have q0 : ∀ w, (binOp .eql 55 (.agg #[.string ⟨#[100, 114, 111, 112]⟩, .int .i64 1]) (.agg #[.string ⟨#[112, 117, 116]⟩, .int .i64 3])).run Tryz.prog w = .ok (.bool false) w := fun w => isF_q (wd := [100, 114, 111, 112]) (c := 1) (lit := [112, 117, 116]) (k := 3) (by decide) w
  have q1 : ∀ w, (binOp .eql 55 (.agg #[.string ⟨#[100, 114, 111, 112]⟩, .int .i64 1]) (.agg #[.string ⟨#[106, 111, 105, 110]⟩, .int .i64 2])).run Tryz.prog w = .ok (.bool false) w := fun w => isF_q (wd := [100, 114, 111, 112]) (c := 1) (lit := [106, 111, 105, 110]) (k := 2) (by decide) w
  have q2 : ∀ w, (binOp .eql 55 (.agg #[.string ⟨#[100, 114, 111, 112]⟩, .int .i64 1]) (.agg #[.string ⟨#[115, 119, 97, 112]⟩, .int .i64 2])).run Tryz.prog w = .ok (.bool false) w := fun w => isF_q (wd := [100, 114, 111, 112]) (c := 1) (lit := [115, 119, 97, 112]) (k := 2) (by decide) w
  have q3 : ∀ w, (binOp .eql 55 (.agg #[.string ⟨#[100, 114, 111, 112]⟩, .int .i64 1]) (.agg #[.string ⟨#[100, 114, 111, 112]⟩, .int .i64 1])).run Tryz.prog w = .ok (.bool true) w := fun w => isF_q (wd := [100, 114, 111, 112]) (c := 1) (lit := [100, 114, 111, 112]) (k := 1) (by decide) w
  obtain ⟨W0, hW0, NB0, R0, R1, g0, z0⟩ := ch_start w n e S (.slice p m cap) ⟨#[100, 114, 111, 112]⟩ 1
  go_enter Tryz.func22, Tryz.ntmps22
  go_upto_region 12 with fail
  rw [← hW0]
  clear hW0
  have hS : ∀ w', Ge W0 w' → (w'.cell? ⟨w.heap.size, 0, none⟩ = some (.int .i64 (n : Int)) ∧ w'.cell? ⟨w.heap.size, 1, none⟩ = some (.int .i64 (e : Int)) ∧ w'.cell? ⟨w.heap.size, 2, none⟩ = some (.int .i64 S) ∧ w'.cell? ⟨w.heap.size, 3, none⟩ = some (.slice p m cap) ∧ w'.cell? ⟨bx, ox, none⟩ = some (.int .i64 X0) ∧ Ge w w') := fun w' g => ⟨g.keep NB0.1, g.keep NB0.2.1, g.keep NB0.2.2.1, g.keep NB0.2.2.2, g.keep (g0.keep x0), g0.trans g⟩
  refine wp_region_head (S := fun w' => w'.cell? ⟨w.heap.size, 0, none⟩ = some (.int .i64 (n : Int)) ∧ w'.cell? ⟨w.heap.size, 1, none⟩ = some (.int .i64 (e : Int)) ∧ w'.cell? ⟨w.heap.size, 2, none⟩ = some (.int .i64 S) ∧ w'.cell? ⟨w.heap.size, 3, none⟩ = some (.slice p m cap) ∧ w'.cell? ⟨bx, ox, none⟩ = some (.int .i64 X0) ∧ Ge w w') 9 (by kernel_rfl) (by kernel_rfl) (hS _ (Ge.drew (Ge.refl _))) (fun hHeld => ?_)
  refine head_takeR 0 (v := ?_) rfl ?_ ?_; rotate_left; (focus (intro w' hSw; (try dsimp only at hSw); go_simp; (try with_reducible rfl))); (try simp only [Act.put, hnA, hnB, hnC])
  refine head_takeR 1 (v := ?_) rfl ?_ ?_; rotate_left; (focus (intro w' hSw; (try dsimp only at hSw); go_simp; (try with_reducible rfl))); (try simp only [Act.put, hnA, hnB, hnC])
  refine head_takeR 2 (v := ?_) rfl ?_ ?_; rotate_left; (focus (intro w' hSw; (try dsimp only at hSw); go_simp; (try with_reducible rfl))); (try simp only [Act.put, hnA, hnB, hnC])
  refine head_takeR 3 (v := ?_) rfl ?_ ?_; rotate_left; (focus (intro w' hSw; (try dsimp only at hSw); go_simp; (try with_reducible rfl))); (try simp only [Act.put, hnA, hnB, hnC])
  refine head_one 4 rfl (by kernel_rfl) (fun K hK => ?_)
  go_simp
  (go_at_call 37; ((with_reducible refine (HC.out _ (Ge.drew g0)).mono ?_); rintro r w9 ⟨s9, rfl, o9, g9⟩))
  have G9 : Ge W0 w9 := Ge.trans (Ge.drew (Ge.refl _)) g9
  have R0 := R0.ge G9
  have R1 := R1.ge G9
  have HO := Lib.hid (owns_mono o9 (show w.heap.size + 1 + 1 + 1 + 1 ≤ _ by rw [World.size_drew]; omega))
  refine hK.out _ _ (hS _ G9) (fun hHeld2 => ?_)
  clear hK K o9
  (try simp only [Act.put, hnA, hnB, hnC])
  refine head_takeR 5 (v := ?_) rfl ?_ ?_; rotate_left; (focus (intro w' hSw; (try dsimp only at hSw); go_simp; (try with_reducible rfl))); (try simp only [Act.put, hnA, hnB, hnC])
  refine head_takeR 6 (v := ?_) rfl ?_ ?_; rotate_left; (focus (intro w' hSw; (try dsimp only at hSw); go_simp; (try with_reducible rfl))); (try simp only [Act.put, hnA, hnB, hnC])
  refine head_takeR 7 (v := ?_) rfl ?_ ?_; rotate_left; (focus (intro w' hSw; (try dsimp only at hSw); go_simp; (try with_reducible rfl))); (try simp only [Act.put, hnA, hnB, hnC])
  obtain ⟨r0, p0, f0⟩ := R0 0 (by omega)
  obtain ⟨r1, p1, f1⟩ := R0 1 (by omega)
  obtain ⟨r2, p2, f2⟩ := R0 2 (by omega)
  obtain ⟨r3, p3, f3⟩ := R0 3 (by omega)
  obtain ⟨r4, p4, f4⟩ := R1 0 (by omega)
  obtain ⟨r5, p5, f5⟩ := R1 1 (by omega)
  obtain ⟨r6, p6, f6⟩ := R1 2 (by omega)
  obtain ⟨r7, p7, f7⟩ := R1 3 (by omega)
  obtain ⟨pu, cu, rfl⟩ := owns_form HO.out
  refine head_one 8 rfl (by kernel_rfl) (fun K hK => ?_)
  go_simp
  obtain ⟨s0, s1, s2, s3, s4, s5⟩ := hHeld2
  refine hK.out _ _ ⟨set4_keep s0 (by show w.heap.size ≠ w.heap.size + 1 + 1 + 1; omega), set4_keep s1 (by show w.heap.size ≠ w.heap.size + 1 + 1 + 1; omega), set4_keep s2 (by show w.heap.size ≠ w.heap.size + 1 + 1 + 1; omega), set4_keep s3 (by show w.heap.size ≠ w.heap.size + 1 + 1 + 1; omega), set4_keep s4 (by show bx ≠ w.heap.size + 1 + 1 + 1; omega), set4_ge s5 (by omega)⟩ (fun hHeld3 => ?_)
  clear hK K
  (try simp only [Act.put, hnA, hnB, hnC])
  refine head_done (by kernel_rfl) ?_
  go_wp2_with fail
  exact bodyPost_ret (v := .tuple #[.agg #[.int .i64 Z.nodes, .int .i64 Z.ends, .int .i64 Z.scale, .slice pu Z.wires.length cu], .bool true, .bool B]) (by simp [results, Tryz.results22, go_sem, *]) rfl (ch_end HO.out (g0.trans G9))
set_option maxHeartbeats 1600000 in
theorem iChMesh (n e : Nat) (S : Int) (s vx : Value) (L : List Wr) (x : List Int) (w : World) (hs : SlF w s L.length 3 (flatW L)) (hB : netB n e S L.length (flatW L) = true) (hx : SlI w vx x) (hl : x.length = 1) :
    Calls Tryz.prog 22 #[.agg #[.int .i64 (n : Int), .int .i64 (e : Int), .int .i64 S, s], .agg #[.string ⟨#[109, 101, 115, 104]⟩, .int .i64 1], vx] w (GivesCh w true (starB n e S L (nth x 0)) (oNet (starB n e S L (nth x 0)) ((n - 1 : Nat) : Int) e (redS n S L (nth x 0).toNat) (redL n S L (nth x 0).toNat))) := by
  have HV := Lib.hid hs
  obtain ⟨p, cap, rfl, _⟩ := hs.open
  have HC := Lib.hid (fun w' (g : Ge w w') => (iStarMeshA n e S (nth x 0) (.slice p L.length cap) L w' (HV.out.ge g) hB).mono (fun _ _ h => GivesO.net h))
  obtain ⟨bx, ox, cx, rfl, hbx, hcx⟩ := hx.at hl (by omega)
  have x0 := hcx 0 (by omega)
  generalize oNet (starB n e S L (nth x 0)) ((n - 1 : Nat) : Int) e (redS n S L (nth x 0).toNat) (redL n S L (nth x 0).toNat) = Z at *
  generalize starB n e S L (nth x 0) = B at *
  generalize nth x 0 = X0 at *
  generalize L.length = m at *
  clear hs hB hcx hl
  have q0 : ∀ w, (binOp .eql 55 (.agg #[.string ⟨#[109, 101, 115, 104]⟩, .int .i64 1]) (.agg #[.string ⟨#[112, 117, 116]⟩, .int .i64 3])).run Tryz.prog w = .ok (.bool false) w := fun w => isF_q (wd := [109, 101, 115, 104]) (c := 1) (lit := [112, 117, 116]) (k := 3) (by decide) w
  have q1 : ∀ w, (binOp .eql 55 (.agg #[.string ⟨#[109, 101, 115, 104]⟩, .int .i64 1]) (.agg #[.string ⟨#[106, 111, 105, 110]⟩, .int .i64 2])).run Tryz.prog w = .ok (.bool false) w := fun w => isF_q (wd := [109, 101, 115, 104]) (c := 1) (lit := [106, 111, 105, 110]) (k := 2) (by decide) w
  have q2 : ∀ w, (binOp .eql 55 (.agg #[.string ⟨#[109, 101, 115, 104]⟩, .int .i64 1]) (.agg #[.string ⟨#[115, 119, 97, 112]⟩, .int .i64 2])).run Tryz.prog w = .ok (.bool false) w := fun w => isF_q (wd := [109, 101, 115, 104]) (c := 1) (lit := [115, 119, 97, 112]) (k := 2) (by decide) w
  have q3 : ∀ w, (binOp .eql 55 (.agg #[.string ⟨#[109, 101, 115, 104]⟩, .int .i64 1]) (.agg #[.string ⟨#[100, 114, 111, 112]⟩, .int .i64 1])).run Tryz.prog w = .ok (.bool false) w := fun w => isF_q (wd := [109, 101, 115, 104]) (c := 1) (lit := [100, 114, 111, 112]) (k := 1) (by decide) w
  have q4 : ∀ w, (binOp .eql 55 (.agg #[.string ⟨#[109, 101, 115, 104]⟩, .int .i64 1]) (.agg #[.string ⟨#[109, 101, 115, 104]⟩, .int .i64 1])).run Tryz.prog w = .ok (.bool true) w := fun w => isF_q (wd := [109, 101, 115, 104]) (c := 1) (lit := [109, 101, 115, 104]) (k := 1) (by decide) w
  obtain ⟨W0, hW0, NB0, R0, R1, g0, z0⟩ := ch_start w n e S (.slice p m cap) ⟨#[109, 101, 115, 104]⟩ 1
  go_enter Tryz.func22, Tryz.ntmps22
  go_upto_region 14 with fail
  rw [← hW0]
  clear hW0
  have hS : ∀ w', Ge W0 w' → (w'.cell? ⟨w.heap.size, 0, none⟩ = some (.int .i64 (n : Int)) ∧ w'.cell? ⟨w.heap.size, 1, none⟩ = some (.int .i64 (e : Int)) ∧ w'.cell? ⟨w.heap.size, 2, none⟩ = some (.int .i64 S) ∧ w'.cell? ⟨w.heap.size, 3, none⟩ = some (.slice p m cap) ∧ w'.cell? ⟨bx, ox, none⟩ = some (.int .i64 X0) ∧ Ge w w') := fun w' g => ⟨g.keep NB0.1, g.keep NB0.2.1, g.keep NB0.2.2.1, g.keep NB0.2.2.2, g.keep (g0.keep x0), g0.trans g⟩
  refine wp_region_head (S := fun w' => w'.cell? ⟨w.heap.size, 0, none⟩ = some (.int .i64 (n : Int)) ∧ w'.cell? ⟨w.heap.size, 1, none⟩ = some (.int .i64 (e : Int)) ∧ w'.cell? ⟨w.heap.size, 2, none⟩ = some (.int .i64 S) ∧ w'.cell? ⟨w.heap.size, 3, none⟩ = some (.slice p m cap) ∧ w'.cell? ⟨bx, ox, none⟩ = some (.int .i64 X0) ∧ Ge w w') 9 (by kernel_rfl) (by kernel_rfl) (hS _ (Ge.drew (Ge.refl _))) (fun hHeld => ?_)
  refine head_takeR 0 (v := ?_) rfl ?_ ?_; rotate_left; (focus (intro w' hSw; (try dsimp only at hSw); go_simp; (try with_reducible rfl))); (try simp only [Act.put, hnA, hnB, hnC])
  refine head_takeR 1 (v := ?_) rfl ?_ ?_; rotate_left; (focus (intro w' hSw; (try dsimp only at hSw); go_simp; (try with_reducible rfl))); (try simp only [Act.put, hnA, hnB, hnC])
  refine head_takeR 2 (v := ?_) rfl ?_ ?_; rotate_left; (focus (intro w' hSw; (try dsimp only at hSw); go_simp; (try with_reducible rfl))); (try simp only [Act.put, hnA, hnB, hnC])
  refine head_takeR 3 (v := ?_) rfl ?_ ?_; rotate_left; (focus (intro w' hSw; (try dsimp only at hSw); go_simp; (try with_reducible rfl))); (try simp only [Act.put, hnA, hnB, hnC])
  refine head_one 4 rfl (by kernel_rfl) (fun K hK => ?_)
  go_simp
  (go_at_call 38; ((with_reducible refine (HC.out _ (Ge.drew g0)).mono ?_); rintro r w9 ⟨s9, rfl, o9, g9⟩))
  have G9 : Ge W0 w9 := Ge.trans (Ge.drew (Ge.refl _)) g9
  have R0 := R0.ge G9
  have R1 := R1.ge G9
  have HO := Lib.hid (owns_mono o9 (show w.heap.size + 1 + 1 + 1 + 1 ≤ _ by rw [World.size_drew]; omega))
  refine hK.out _ _ (hS _ G9) (fun hHeld2 => ?_)
  clear hK K o9
  (try simp only [Act.put, hnA, hnB, hnC])
  refine head_takeR 5 (v := ?_) rfl ?_ ?_; rotate_left; (focus (intro w' hSw; (try dsimp only at hSw); go_simp; (try with_reducible rfl))); (try simp only [Act.put, hnA, hnB, hnC])
  refine head_takeR 6 (v := ?_) rfl ?_ ?_; rotate_left; (focus (intro w' hSw; (try dsimp only at hSw); go_simp; (try with_reducible rfl))); (try simp only [Act.put, hnA, hnB, hnC])
  refine head_takeR 7 (v := ?_) rfl ?_ ?_; rotate_left; (focus (intro w' hSw; (try dsimp only at hSw); go_simp; (try with_reducible rfl))); (try simp only [Act.put, hnA, hnB, hnC])
  obtain ⟨r0, p0, f0⟩ := R0 0 (by omega)
  obtain ⟨r1, p1, f1⟩ := R0 1 (by omega)
  obtain ⟨r2, p2, f2⟩ := R0 2 (by omega)
  obtain ⟨r3, p3, f3⟩ := R0 3 (by omega)
  obtain ⟨r4, p4, f4⟩ := R1 0 (by omega)
  obtain ⟨r5, p5, f5⟩ := R1 1 (by omega)
  obtain ⟨r6, p6, f6⟩ := R1 2 (by omega)
  obtain ⟨r7, p7, f7⟩ := R1 3 (by omega)
  obtain ⟨pu, cu, rfl⟩ := owns_form HO.out
  refine head_one 8 rfl (by kernel_rfl) (fun K hK => ?_)
  go_simp
  obtain ⟨s0, s1, s2, s3, s4, s5⟩ := hHeld2
  refine hK.out _ _ ⟨set4_keep s0 (by show w.heap.size ≠ w.heap.size + 1 + 1 + 1; omega), set4_keep s1 (by show w.heap.size ≠ w.heap.size + 1 + 1 + 1; omega), set4_keep s2 (by show w.heap.size ≠ w.heap.size + 1 + 1 + 1; omega), set4_keep s3 (by show w.heap.size ≠ w.heap.size + 1 + 1 + 1; omega), set4_keep s4 (by show bx ≠ w.heap.size + 1 + 1 + 1; omega), set4_ge s5 (by omega)⟩ (fun hHeld3 => ?_)
  clear hK K
  (try simp only [Act.put, hnA, hnB, hnC])
  refine head_done (by kernel_rfl) ?_
  go_wp2_with fail
  exact bodyPost_ret (v := .tuple #[.agg #[.int .i64 Z.nodes, .int .i64 Z.ends, .int .i64 Z.scale, .slice pu Z.wires.length cu], .bool true, .bool B]) (by simp [results, Tryz.results22, go_sem, *]) rfl (ch_end HO.out (g0.trans G9))
set_option maxHeartbeats 1600000 in
theorem iChStar (n e : Nat) (S : Int) (s vx : Value) (L : List Wr) (x : List Int) (w : World) (hs : SlF w s L.length 3 (flatW L)) (hB : netB n e S L.length (flatW L) = true) (hx : SlI w vx x) (hl : x.length = 3) :
    Calls Tryz.prog 22 #[.agg #[.int .i64 (n : Int), .int .i64 (e : Int), .int .i64 S, s], .agg #[.string ⟨#[115, 116, 97, 114]⟩, .int .i64 3], vx] w (GivesCh w true (trB n e S L.length (flatW L) (nth x 0) (nth x 1) (nth x 2)) (oNet (trB n e S L.length (flatW L) (nth x 0) (nth x 1) (nth x 2)) ((n + 1 : Nat) : Int) e (trS n L.length (flatW L) (nth x 0) (nth x 1) (nth x 2) S) (trL n L.length (flatW L) (nth x 0) (nth x 1) (nth x 2) S))) := by
  have HV := Lib.hid hs
  obtain ⟨p, cap, rfl, _⟩ := hs.open
  have HC := Lib.hid (fun w' (g : Ge w w') => (iTriangleStar n e S (nth x 0) (nth x 1) (nth x 2) (.slice p L.length cap) L.length (flatW L) w' (HV.out.ge g) hB).mono (fun _ _ h => GivesO.net h))
  obtain ⟨bx, ox, cx, rfl, hbx, hcx⟩ := hx.at hl (by omega)
  have x0 := hcx 0 (by omega)
  have x1 := hcx 1 (by omega)
  have x2 := hcx 2 (by omega)
  generalize oNet (trB n e S L.length (flatW L) (nth x 0) (nth x 1) (nth x 2)) ((n + 1 : Nat) : Int) e (trS n L.length (flatW L) (nth x 0) (nth x 1) (nth x 2) S) (trL n L.length (flatW L) (nth x 0) (nth x 1) (nth x 2) S) = Z at *
  generalize trB n e S L.length (flatW L) (nth x 0) (nth x 1) (nth x 2) = B at *
  generalize nth x 0 = X0 at *
  generalize nth x 1 = X1 at *
  generalize nth x 2 = X2 at *
  generalize L.length = m at *
  clear hs hB hcx hl
  have q0 : ∀ w, (binOp .eql 55 (.agg #[.string ⟨#[115, 116, 97, 114]⟩, .int .i64 3]) (.agg #[.string ⟨#[112, 117, 116]⟩, .int .i64 3])).run Tryz.prog w = .ok (.bool false) w := fun w => isF_q (wd := [115, 116, 97, 114]) (c := 3) (lit := [112, 117, 116]) (k := 3) (by decide) w
  have q1 : ∀ w, (binOp .eql 55 (.agg #[.string ⟨#[115, 116, 97, 114]⟩, .int .i64 3]) (.agg #[.string ⟨#[106, 111, 105, 110]⟩, .int .i64 2])).run Tryz.prog w = .ok (.bool false) w := fun w => isF_q (wd := [115, 116, 97, 114]) (c := 3) (lit := [106, 111, 105, 110]) (k := 2) (by decide) w
  have q2 : ∀ w, (binOp .eql 55 (.agg #[.string ⟨#[115, 116, 97, 114]⟩, .int .i64 3]) (.agg #[.string ⟨#[115, 119, 97, 112]⟩, .int .i64 2])).run Tryz.prog w = .ok (.bool false) w := fun w => isF_q (wd := [115, 116, 97, 114]) (c := 3) (lit := [115, 119, 97, 112]) (k := 2) (by decide) w
  have q3 : ∀ w, (binOp .eql 55 (.agg #[.string ⟨#[115, 116, 97, 114]⟩, .int .i64 3]) (.agg #[.string ⟨#[100, 114, 111, 112]⟩, .int .i64 1])).run Tryz.prog w = .ok (.bool false) w := fun w => isF_q (wd := [115, 116, 97, 114]) (c := 3) (lit := [100, 114, 111, 112]) (k := 1) (by decide) w
  have q4 : ∀ w, (binOp .eql 55 (.agg #[.string ⟨#[115, 116, 97, 114]⟩, .int .i64 3]) (.agg #[.string ⟨#[109, 101, 115, 104]⟩, .int .i64 1])).run Tryz.prog w = .ok (.bool false) w := fun w => isF_q (wd := [115, 116, 97, 114]) (c := 3) (lit := [109, 101, 115, 104]) (k := 1) (by decide) w
  have q5 : ∀ w, (binOp .eql 55 (.agg #[.string ⟨#[115, 116, 97, 114]⟩, .int .i64 3]) (.agg #[.string ⟨#[115, 116, 97, 114]⟩, .int .i64 3])).run Tryz.prog w = .ok (.bool true) w := fun w => isF_q (wd := [115, 116, 97, 114]) (c := 3) (lit := [115, 116, 97, 114]) (k := 3) (by decide) w
  obtain ⟨W0, hW0, NB0, R0, R1, g0, z0⟩ := ch_start w n e S (.slice p m cap) ⟨#[115, 116, 97, 114]⟩ 3
  go_enter Tryz.func22, Tryz.ntmps22
  go_upto_region 16 with fail
  rw [← hW0]
  clear hW0
  have hS : ∀ w', Ge W0 w' → (w'.cell? ⟨w.heap.size, 0, none⟩ = some (.int .i64 (n : Int)) ∧ w'.cell? ⟨w.heap.size, 1, none⟩ = some (.int .i64 (e : Int)) ∧ w'.cell? ⟨w.heap.size, 2, none⟩ = some (.int .i64 S) ∧ w'.cell? ⟨w.heap.size, 3, none⟩ = some (.slice p m cap) ∧ w'.cell? ⟨bx, ox, none⟩ = some (.int .i64 X0) ∧ w'.cell? ⟨bx, ox + 1, none⟩ = some (.int .i64 X1) ∧ w'.cell? ⟨bx, ox + 2, none⟩ = some (.int .i64 X2) ∧ Ge w w') := fun w' g => ⟨g.keep NB0.1, g.keep NB0.2.1, g.keep NB0.2.2.1, g.keep NB0.2.2.2, g.keep (g0.keep x0), g.keep (g0.keep x1), g.keep (g0.keep x2), g0.trans g⟩
  refine wp_region_head (S := fun w' => w'.cell? ⟨w.heap.size, 0, none⟩ = some (.int .i64 (n : Int)) ∧ w'.cell? ⟨w.heap.size, 1, none⟩ = some (.int .i64 (e : Int)) ∧ w'.cell? ⟨w.heap.size, 2, none⟩ = some (.int .i64 S) ∧ w'.cell? ⟨w.heap.size, 3, none⟩ = some (.slice p m cap) ∧ w'.cell? ⟨bx, ox, none⟩ = some (.int .i64 X0) ∧ w'.cell? ⟨bx, ox + 1, none⟩ = some (.int .i64 X1) ∧ w'.cell? ⟨bx, ox + 2, none⟩ = some (.int .i64 X2) ∧ Ge w w') 15 (by kernel_rfl) (by kernel_rfl) (hS _ (Ge.drew (Ge.refl _))) (fun hHeld => ?_)
  refine head_takeR 0 (v := ?_) rfl ?_ ?_; rotate_left; (focus (intro w' hSw; (try dsimp only at hSw); go_simp; (try with_reducible rfl))); (try simp only [Act.put, hnA, hnB, hnC])
  refine head_takeR 1 (v := ?_) rfl ?_ ?_; rotate_left; (focus (intro w' hSw; (try dsimp only at hSw); go_simp; (try with_reducible rfl))); (try simp only [Act.put, hnA, hnB, hnC])
  refine head_takeR 2 (v := ?_) rfl ?_ ?_; rotate_left; (focus (intro w' hSw; (try dsimp only at hSw); go_simp; (try with_reducible rfl))); (try simp only [Act.put, hnA, hnB, hnC])
  refine head_takeR 3 (v := ?_) rfl ?_ ?_; rotate_left; (focus (intro w' hSw; (try dsimp only at hSw); go_simp; (try with_reducible rfl))); (try simp only [Act.put, hnA, hnB, hnC])
  refine head_takeR 4 (v := ?_) rfl ?_ ?_; rotate_left; (focus (intro w' hSw; (try dsimp only at hSw); go_simp; (try with_reducible rfl))); (try simp only [Act.put, hnA, hnB, hnC])
  refine head_takeR 5 (v := ?_) rfl ?_ ?_; rotate_left; (focus (intro w' hSw; (try dsimp only at hSw); go_simp; (try with_reducible rfl))); (try simp only [Act.put, hnA, hnB, hnC])
  refine head_takeR 6 (v := ?_) rfl ?_ ?_; rotate_left; (focus (intro w' hSw; (try dsimp only at hSw); go_simp; (try with_reducible rfl))); (try simp only [Act.put, hnA, hnB, hnC])
  refine head_takeR 7 (v := ?_) rfl ?_ ?_; rotate_left; (focus (intro w' hSw; (try dsimp only at hSw); go_simp; (try with_reducible rfl))); (try simp only [Act.put, hnA, hnB, hnC])
  refine head_takeR 8 (v := ?_) rfl ?_ ?_; rotate_left; (focus (intro w' hSw; (try dsimp only at hSw); go_simp; (try with_reducible rfl))); (try simp only [Act.put, hnA, hnB, hnC])
  refine head_takeR 9 (v := ?_) rfl ?_ ?_; rotate_left; (focus (intro w' hSw; (try dsimp only at hSw); go_simp; (try with_reducible rfl))); (try simp only [Act.put, hnA, hnB, hnC])
  refine head_one 10 rfl (by kernel_rfl) (fun K hK => ?_)
  go_simp
  (go_at_call 39; ((with_reducible refine (HC.out _ (Ge.drew g0)).mono ?_); rintro r w9 ⟨s9, rfl, o9, g9⟩))
  have G9 : Ge W0 w9 := Ge.trans (Ge.drew (Ge.refl _)) g9
  have R0 := R0.ge G9
  have R1 := R1.ge G9
  have HO := Lib.hid (owns_mono o9 (show w.heap.size + 1 + 1 + 1 + 1 ≤ _ by rw [World.size_drew]; omega))
  refine hK.out _ _ (hS _ G9) (fun hHeld2 => ?_)
  clear hK K o9
  (try simp only [Act.put, hnA, hnB, hnC])
  refine head_takeR 11 (v := ?_) rfl ?_ ?_; rotate_left; (focus (intro w' hSw; (try dsimp only at hSw); go_simp; (try with_reducible rfl))); (try simp only [Act.put, hnA, hnB, hnC])
  refine head_takeR 12 (v := ?_) rfl ?_ ?_; rotate_left; (focus (intro w' hSw; (try dsimp only at hSw); go_simp; (try with_reducible rfl))); (try simp only [Act.put, hnA, hnB, hnC])
  refine head_takeR 13 (v := ?_) rfl ?_ ?_; rotate_left; (focus (intro w' hSw; (try dsimp only at hSw); go_simp; (try with_reducible rfl))); (try simp only [Act.put, hnA, hnB, hnC])
  obtain ⟨r0, p0, f0⟩ := R0 0 (by omega)
  obtain ⟨r1, p1, f1⟩ := R0 1 (by omega)
  obtain ⟨r2, p2, f2⟩ := R0 2 (by omega)
  obtain ⟨r3, p3, f3⟩ := R0 3 (by omega)
  obtain ⟨r4, p4, f4⟩ := R1 0 (by omega)
  obtain ⟨r5, p5, f5⟩ := R1 1 (by omega)
  obtain ⟨r6, p6, f6⟩ := R1 2 (by omega)
  obtain ⟨r7, p7, f7⟩ := R1 3 (by omega)
  obtain ⟨pu, cu, rfl⟩ := owns_form HO.out
  refine head_one 14 rfl (by kernel_rfl) (fun K hK => ?_)
  go_simp
  obtain ⟨s0, s1, s2, s3, s4, s5, s6, s7⟩ := hHeld2
  refine hK.out _ _ ⟨set4_keep s0 (by show w.heap.size ≠ w.heap.size + 1 + 1 + 1; omega), set4_keep s1 (by show w.heap.size ≠ w.heap.size + 1 + 1 + 1; omega), set4_keep s2 (by show w.heap.size ≠ w.heap.size + 1 + 1 + 1; omega), set4_keep s3 (by show w.heap.size ≠ w.heap.size + 1 + 1 + 1; omega), set4_keep s4 (by show bx ≠ w.heap.size + 1 + 1 + 1; omega), set4_keep s5 (by show bx ≠ w.heap.size + 1 + 1 + 1; omega), set4_keep s6 (by show bx ≠ w.heap.size + 1 + 1 + 1; omega), set4_ge s7 (by omega)⟩ (fun hHeld3 => ?_)
  clear hK K
  (try simp only [Act.put, hnA, hnB, hnC])
  refine head_done (by kernel_rfl) ?_
  go_wp2_with fail
  exact bodyPost_ret (v := .tuple #[.agg #[.int .i64 Z.nodes, .int .i64 Z.ends, .int .i64 Z.scale, .slice pu Z.wires.length cu], .bool true, .bool B]) (by simp [results, Tryz.results22, go_sem, *]) rfl (ch_end HO.out (g0.trans G9))
end Go.Proofs.YtagiecajffhnpaaGreat
