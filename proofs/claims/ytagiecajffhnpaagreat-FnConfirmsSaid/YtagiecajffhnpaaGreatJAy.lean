/- changed of impl: the commands without numbers, and all together. No condition. orNone of impl, and '==' at texts. No condition. shown of impl: commands with numbers. No condition. -/
import Derived.Test.YtagiecajffhnpaaGreatJAx
namespace Go.Proofs.YtagiecajffhnpaaGreat
set_option maxRecDepth 100000
open Go.ChangeShapes Go.WideShapes Go.ChangeAt Go.RowKit Go.Joins

theorem iReduceF (n e : Nat) (S : Int) (s : Value) (L : List Wr) (w : World) (hs : SlF w s L.length 3 (flatW L)) (hB : netB n e S L.length (flatW L) = true) :
    Calls Tryz.prog 41 #[.agg #[.int .i64 (n : Int), .int .i64 (e : Int), .int .i64 S, s]] w fun r w' => ∃ u k, r = .returned (.tuple #[.agg #[.int .i64 (⟨((redF e ⟨n, S, L⟩ 5).n : Int), e, (redF e ⟨n, S, L⟩ 5).s, (redF e ⟨n, S, L⟩ 5).l⟩ : Nt).nodes, .int .i64 (⟨((redF e ⟨n, S, L⟩ 5).n : Int), e, (redF e ⟨n, S, L⟩ 5).s, (redF e ⟨n, S, L⟩ 5).l⟩ : Nt).ends, .int .i64 (⟨((redF e ⟨n, S, L⟩ 5).n : Int), e, (redF e ⟨n, S, L⟩ 5).s, (redF e ⟨n, S, L⟩ 5).l⟩ : Nt).scale, u], .int .i64 k, .bool true]) ∧
      w'.ownsRow w.heap.size 45 3 u (⟨((redF e ⟨n, S, L⟩ 5).n : Int), e, (redF e ⟨n, S, L⟩ 5).s, (redF e ⟨n, S, L⟩ 5).l⟩ : Nt).wires.length (icells (flatW (⟨((redF e ⟨n, S, L⟩ 5).n : Int), e, (redF e ⟨n, S, L⟩ 5).s, (redF e ⟨n, S, L⟩ 5).l⟩ : Nt).wires)) ∧ Ge w w' := by
  refine (iReduceAll e ⟨n, S, L⟩ s w hs hB).mono ?_
  rintro r w' ⟨k, y, u, h1, h2, _, h3, h4, h5, h6⟩
  rw [redF_eq h1 h2 5 h3]
  exact ⟨u, k, h4, h5, h6⟩
/-- What reducing ends with is valid: some run shows it. -/
theorem okR_redF (n e : Nat) (S : Int) (L : List Wr) (hB : netB n e S L.length (flatW L) = true) : okR e (redF e ⟨n, S, L⟩ 5) := by
  have hall : ∀ k, ∀ y, redK e ⟨n, S, L⟩ k = some y → okR e y := fun k => by
    induction k with
    | zero =>
      intro y h
      simp only [redK, Option.some.injEq] at h
      subst h
      exact hB
    | succ k ih =>
      intro y h
      simp only [redK] at h
      cases hk : redK e ⟨n, S, L⟩ k with
      | none => rw [hk] at h; cases h
      | some z =>
        rw [hk] at h
        simp only [Option.bind_some] at h
        unfold redN at h
        split at h
        · cases h
        · split at h
          · next hb =>
            simp only [Option.some.injEq] at h
            subst h
            exact okR_next hb
          · cases h
  have hf : ∀ k, okR e (redF e ⟨n, S, L⟩ k) := fun k => by
    induction k with
    | zero => exact hB
    | succ k ih =>
      unfold redF
      split
      · next y hy => exact hall _ _ hy
      · exact ih
  exact hf 5
set_option maxHeartbeats 1600000 in
theorem iChNone (n e : Nat) (S : Int) (s vx : Value) (_ c : Nat) (wd : List UInt8) (w : World) (h0 : isF wd c wPut 3 = false) (h1 : isF wd c wJoin 2 = false) (h2 : isF wd c wSwap 2 = false) (h3 : isF wd c wDrop 1 = false) (h4 : isF wd c wMesh 1 = false) (h5 : isF wd c wStar 3 = false) (h6 : isF wd c wCanon 0 = false) (h7 : isF wd c wReduce 0 = false) (h8 : isF wd c wAll 0 = false) :
    Calls Tryz.prog 22 #[.agg #[.int .i64 (n : Int), .int .i64 (e : Int), .int .i64 S, s], .agg #[.string (bstr wd), .int .i64 (c : Int)], vx] w (GivesCh w false false ⟨0, 0, 0, []⟩) := by
  have q0 : ∀ w, (binOp .eql 55 (.agg #[.string (bstr wd), .int .i64 (c : Int)]) (.agg #[.string ⟨#[112, 117, 116]⟩, .int .i64 3])).run Tryz.prog w = .ok (.bool false) w := isF_q h0
  have q1 : ∀ w, (binOp .eql 55 (.agg #[.string (bstr wd), .int .i64 (c : Int)]) (.agg #[.string ⟨#[106, 111, 105, 110]⟩, .int .i64 2])).run Tryz.prog w = .ok (.bool false) w := isF_q h1
  have q2 : ∀ w, (binOp .eql 55 (.agg #[.string (bstr wd), .int .i64 (c : Int)]) (.agg #[.string ⟨#[115, 119, 97, 112]⟩, .int .i64 2])).run Tryz.prog w = .ok (.bool false) w := isF_q h2
  have q3 : ∀ w, (binOp .eql 55 (.agg #[.string (bstr wd), .int .i64 (c : Int)]) (.agg #[.string ⟨#[100, 114, 111, 112]⟩, .int .i64 1])).run Tryz.prog w = .ok (.bool false) w := isF_q h3
  have q4 : ∀ w, (binOp .eql 55 (.agg #[.string (bstr wd), .int .i64 (c : Int)]) (.agg #[.string ⟨#[109, 101, 115, 104]⟩, .int .i64 1])).run Tryz.prog w = .ok (.bool false) w := isF_q h4
  have q5 : ∀ w, (binOp .eql 55 (.agg #[.string (bstr wd), .int .i64 (c : Int)]) (.agg #[.string ⟨#[115, 116, 97, 114]⟩, .int .i64 3])).run Tryz.prog w = .ok (.bool false) w := isF_q h5
  have q6 : ∀ w, (binOp .eql 55 (.agg #[.string (bstr wd), .int .i64 (c : Int)]) (.agg #[.string ⟨#[99, 97, 110, 111, 110]⟩, .int .i64 0])).run Tryz.prog w = .ok (.bool false) w := isF_q h6
  have q7 : ∀ w, (binOp .eql 55 (.agg #[.string (bstr wd), .int .i64 (c : Int)]) (.agg #[.string ⟨#[114, 101, 100, 117, 99, 101]⟩, .int .i64 0])).run Tryz.prog w = .ok (.bool false) w := isF_q h7
  have q8 : ∀ w, (binOp .eql 55 (.agg #[.string (bstr wd), .int .i64 (c : Int)]) (.agg #[.string ⟨#[97, 108, 108]⟩, .int .i64 0])).run Tryz.prog w = .ok (.bool false) w := isF_q h8
  clear h0 h1 h2 h3 h4 h5 h6 h7 h8
  obtain ⟨W0, hW0, NB0, R0, R1, g0, z0⟩ := ch_start w n e S s (bstr wd) c
  go_enter Tryz.func22, Tryz.ntmps22
  go_upto_region 4 with fail
  rw [← hW0]
  clear hW0
  obtain ⟨r4, p4, f4⟩ := R1 0 (by omega)
  obtain ⟨r5, p5, f5⟩ := R1 1 (by omega)
  obtain ⟨r6, p6, f6⟩ := R1 2 (by omega)
  obtain ⟨r7, p7, f7⟩ := R1 3 (by omega)
  go_wp2_with fail
  exact bodyPost_ret (v := .tuple #[.agg #[.int .i64 0, .int .i64 0, .int .i64 0, .slice none 0 0], .bool false, .bool false]) (by simp [results, Tryz.results22, go_sem, *]) rfl ⟨_, rfl, owns_nil3 _ _ _, by
    have k2 : w.heap.size ≤ w.heap.size + 1 + 1 := by omega
    exact Ge.setCell (Ge.setCell (Ge.setCell (Ge.setCell g0 k2 _) k2 _) k2 _) k2 _⟩
set_option maxHeartbeats 1600000 in
theorem iChCanon (n e : Nat) (S : Int) (s vx : Value) (L : List Wr) (w : World) (hs : SlF w s L.length 3 (flatW L)) (hB : netB n e S L.length (flatW L) = true) :
    Calls Tryz.prog 22 #[.agg #[.int .i64 (n : Int), .int .i64 (e : Int), .int .i64 S, s], .agg #[.string ⟨#[99, 97, 110, 111, 110]⟩, .int .i64 0], vx] w (GivesCh w true (canB n e S L.length (flatW L)) (oNet (canB n e S L.length (flatW L)) n e (canS n S L.length (flatW L)) (canL n S L.length (flatW L)))) := by
  have HV := Lib.hid hs
  obtain ⟨p, cap, rfl, _⟩ := hs.open
  have HC := Lib.hid (fun w' (g : Ge w w') => (iCanonNet n e S (.slice p L.length cap) L.length (flatW L) w' (HV.out.ge g) hB).mono (fun _ _ h => GivesO.net h))
  generalize oNet (canB n e S L.length (flatW L)) n e (canS n S L.length (flatW L)) (canL n S L.length (flatW L)) = Z at *
  generalize canB n e S L.length (flatW L) = B at *
  generalize L.length = m at *
  clear hs hB
  have q0 : ∀ w, (binOp .eql 55 (.agg #[.string ⟨#[99, 97, 110, 111, 110]⟩, .int .i64 0]) (.agg #[.string ⟨#[112, 117, 116]⟩, .int .i64 3])).run Tryz.prog w = .ok (.bool false) w := fun w => isF_q (wd := [99, 97, 110, 111, 110]) (c := 0) (lit := [112, 117, 116]) (k := 3) (by decide) w
  have q1 : ∀ w, (binOp .eql 55 (.agg #[.string ⟨#[99, 97, 110, 111, 110]⟩, .int .i64 0]) (.agg #[.string ⟨#[106, 111, 105, 110]⟩, .int .i64 2])).run Tryz.prog w = .ok (.bool false) w := fun w => isF_q (wd := [99, 97, 110, 111, 110]) (c := 0) (lit := [106, 111, 105, 110]) (k := 2) (by decide) w
  have q2 : ∀ w, (binOp .eql 55 (.agg #[.string ⟨#[99, 97, 110, 111, 110]⟩, .int .i64 0]) (.agg #[.string ⟨#[115, 119, 97, 112]⟩, .int .i64 2])).run Tryz.prog w = .ok (.bool false) w := fun w => isF_q (wd := [99, 97, 110, 111, 110]) (c := 0) (lit := [115, 119, 97, 112]) (k := 2) (by decide) w
  have q3 : ∀ w, (binOp .eql 55 (.agg #[.string ⟨#[99, 97, 110, 111, 110]⟩, .int .i64 0]) (.agg #[.string ⟨#[100, 114, 111, 112]⟩, .int .i64 1])).run Tryz.prog w = .ok (.bool false) w := fun w => isF_q (wd := [99, 97, 110, 111, 110]) (c := 0) (lit := [100, 114, 111, 112]) (k := 1) (by decide) w
  have q4 : ∀ w, (binOp .eql 55 (.agg #[.string ⟨#[99, 97, 110, 111, 110]⟩, .int .i64 0]) (.agg #[.string ⟨#[109, 101, 115, 104]⟩, .int .i64 1])).run Tryz.prog w = .ok (.bool false) w := fun w => isF_q (wd := [99, 97, 110, 111, 110]) (c := 0) (lit := [109, 101, 115, 104]) (k := 1) (by decide) w
  have q5 : ∀ w, (binOp .eql 55 (.agg #[.string ⟨#[99, 97, 110, 111, 110]⟩, .int .i64 0]) (.agg #[.string ⟨#[115, 116, 97, 114]⟩, .int .i64 3])).run Tryz.prog w = .ok (.bool false) w := fun w => isF_q (wd := [99, 97, 110, 111, 110]) (c := 0) (lit := [115, 116, 97, 114]) (k := 3) (by decide) w
  have q6 : ∀ w, (binOp .eql 55 (.agg #[.string ⟨#[99, 97, 110, 111, 110]⟩, .int .i64 0]) (.agg #[.string ⟨#[99, 97, 110, 111, 110]⟩, .int .i64 0])).run Tryz.prog w = .ok (.bool true) w := fun w => isF_q (wd := [99, 97, 110, 111, 110]) (c := 0) (lit := [99, 97, 110, 111, 110]) (k := 0) (by decide) w
  obtain ⟨W0, hW0, NB0, R0, R1, g0, z0⟩ := ch_start w n e S (.slice p m cap) ⟨#[99, 97, 110, 111, 110]⟩ 0
  go_enter Tryz.func22, Tryz.ntmps22
  go_upto_region 18 with fail
  rw [← hW0]
  clear hW0
  obtain ⟨b0, b1, b2, b3⟩ := NB0
  go_wp2_with ((go_at_call 40; ((with_reducible refine (HC.out _ g0).mono ?_); rintro r w9 ⟨s9, rfl, o9, g9⟩)); have R0 := R0.ge g9; have R1 := R1.ge g9; have HO := Lib.hid (owns_mono o9 (show w.heap.size + 1 + 1 + 1 + 1 ≤ _ by omega)); clear o9; obtain ⟨r0, p0, f0⟩ := R0 0 (by omega); obtain ⟨r1, p1, f1⟩ := R0 1 (by omega); obtain ⟨r2, p2, f2⟩ := R0 2 (by omega); obtain ⟨r3, p3, f3⟩ := R0 3 (by omega); obtain ⟨r4, p4, f4⟩ := R1 0 (by omega); obtain ⟨r5, p5, f5⟩ := R1 1 (by omega); obtain ⟨r6, p6, f6⟩ := R1 2 (by omega); obtain ⟨r7, p7, f7⟩ := R1 3 (by omega); obtain ⟨pu, cu, rfl⟩ := owns_form HO.out)
  exact bodyPost_ret (v := .tuple #[.agg #[.int .i64 Z.nodes, .int .i64 Z.ends, .int .i64 Z.scale, .slice pu Z.wires.length cu], .bool true, .bool B]) (by simp [results, Tryz.results22, go_sem, *]) rfl (ch_end HO.out (g0.trans g9))
set_option maxHeartbeats 1600000 in
theorem iChReduce (n e : Nat) (S : Int) (s vx : Value) (L : List Wr) (w : World) (hs : SlF w s L.length 3 (flatW L)) (hB : netB n e S L.length (flatW L) = true) :
    Calls Tryz.prog 22 #[.agg #[.int .i64 (n : Int), .int .i64 (e : Int), .int .i64 S, s], .agg #[.string ⟨#[114, 101, 100, 117, 99, 101]⟩, .int .i64 0], vx] w (GivesCh w true (true) ((⟨((redF e ⟨n, S, L⟩ 5).n : Int), e, (redF e ⟨n, S, L⟩ 5).s, (redF e ⟨n, S, L⟩ 5).l⟩ : Nt))) := by
  have HV := Lib.hid hs
  obtain ⟨p, cap, rfl, _⟩ := hs.open
  have HC := Lib.hid (fun w' (g : Ge w w') => iReduceF n e S (.slice p L.length cap) L w' (HV.out.ge g) hB)
  generalize (⟨((redF e ⟨n, S, L⟩ 5).n : Int), e, (redF e ⟨n, S, L⟩ 5).s, (redF e ⟨n, S, L⟩ 5).l⟩ : Nt) = Z at *
  generalize L.length = m at *
  clear hs hB
  have q0 : ∀ w, (binOp .eql 55 (.agg #[.string ⟨#[114, 101, 100, 117, 99, 101]⟩, .int .i64 0]) (.agg #[.string ⟨#[112, 117, 116]⟩, .int .i64 3])).run Tryz.prog w = .ok (.bool false) w := fun w => isF_q (wd := [114, 101, 100, 117, 99, 101]) (c := 0) (lit := [112, 117, 116]) (k := 3) (by decide) w
  have q1 : ∀ w, (binOp .eql 55 (.agg #[.string ⟨#[114, 101, 100, 117, 99, 101]⟩, .int .i64 0]) (.agg #[.string ⟨#[106, 111, 105, 110]⟩, .int .i64 2])).run Tryz.prog w = .ok (.bool false) w := fun w => isF_q (wd := [114, 101, 100, 117, 99, 101]) (c := 0) (lit := [106, 111, 105, 110]) (k := 2) (by decide) w
  have q2 : ∀ w, (binOp .eql 55 (.agg #[.string ⟨#[114, 101, 100, 117, 99, 101]⟩, .int .i64 0]) (.agg #[.string ⟨#[115, 119, 97, 112]⟩, .int .i64 2])).run Tryz.prog w = .ok (.bool false) w := fun w => isF_q (wd := [114, 101, 100, 117, 99, 101]) (c := 0) (lit := [115, 119, 97, 112]) (k := 2) (by decide) w
  have q3 : ∀ w, (binOp .eql 55 (.agg #[.string ⟨#[114, 101, 100, 117, 99, 101]⟩, .int .i64 0]) (.agg #[.string ⟨#[100, 114, 111, 112]⟩, .int .i64 1])).run Tryz.prog w = .ok (.bool false) w := fun w => isF_q (wd := [114, 101, 100, 117, 99, 101]) (c := 0) (lit := [100, 114, 111, 112]) (k := 1) (by decide) w
  have q4 : ∀ w, (binOp .eql 55 (.agg #[.string ⟨#[114, 101, 100, 117, 99, 101]⟩, .int .i64 0]) (.agg #[.string ⟨#[109, 101, 115, 104]⟩, .int .i64 1])).run Tryz.prog w = .ok (.bool false) w := fun w => isF_q (wd := [114, 101, 100, 117, 99, 101]) (c := 0) (lit := [109, 101, 115, 104]) (k := 1) (by decide) w
  have q5 : ∀ w, (binOp .eql 55 (.agg #[.string ⟨#[114, 101, 100, 117, 99, 101]⟩, .int .i64 0]) (.agg #[.string ⟨#[115, 116, 97, 114]⟩, .int .i64 3])).run Tryz.prog w = .ok (.bool false) w := fun w => isF_q (wd := [114, 101, 100, 117, 99, 101]) (c := 0) (lit := [115, 116, 97, 114]) (k := 3) (by decide) w
  have q6 : ∀ w, (binOp .eql 55 (.agg #[.string ⟨#[114, 101, 100, 117, 99, 101]⟩, .int .i64 0]) (.agg #[.string ⟨#[99, 97, 110, 111, 110]⟩, .int .i64 0])).run Tryz.prog w = .ok (.bool false) w := fun w => isF_q (wd := [114, 101, 100, 117, 99, 101]) (c := 0) (lit := [99, 97, 110, 111, 110]) (k := 0) (by decide) w
  have q7 : ∀ w, (binOp .eql 55 (.agg #[.string ⟨#[114, 101, 100, 117, 99, 101]⟩, .int .i64 0]) (.agg #[.string ⟨#[114, 101, 100, 117, 99, 101]⟩, .int .i64 0])).run Tryz.prog w = .ok (.bool true) w := fun w => isF_q (wd := [114, 101, 100, 117, 99, 101]) (c := 0) (lit := [114, 101, 100, 117, 99, 101]) (k := 0) (by decide) w
  obtain ⟨W0, hW0, NB0, R0, R1, g0, z0⟩ := ch_start w n e S (.slice p m cap) ⟨#[114, 101, 100, 117, 99, 101]⟩ 0
  go_enter Tryz.func22, Tryz.ntmps22
  go_upto_region 20 with fail
  rw [← hW0]
  clear hW0
  obtain ⟨b0, b1, b2, b3⟩ := NB0
  go_wp2_with ((go_at_call 41; ((with_reducible refine (HC.out _ g0).mono ?_); rintro r w9 ⟨s9, k9, rfl, o9, g9⟩)); have R0 := R0.ge g9; have R1 := R1.ge g9; have HO := Lib.hid (owns_mono o9 (show w.heap.size + 1 + 1 + 1 + 1 ≤ _ by omega)); clear o9; obtain ⟨r0, p0, f0⟩ := R0 0 (by omega); obtain ⟨r1, p1, f1⟩ := R0 1 (by omega); obtain ⟨r2, p2, f2⟩ := R0 2 (by omega); obtain ⟨r3, p3, f3⟩ := R0 3 (by omega); obtain ⟨r4, p4, f4⟩ := R1 0 (by omega); obtain ⟨r5, p5, f5⟩ := R1 1 (by omega); obtain ⟨r6, p6, f6⟩ := R1 2 (by omega); obtain ⟨r7, p7, f7⟩ := R1 3 (by omega); obtain ⟨pu, cu, rfl⟩ := owns_form HO.out)
  exact bodyPost_ret (v := .tuple #[.agg #[.int .i64 Z.nodes, .int .i64 Z.ends, .int .i64 Z.scale, .slice pu Z.wires.length cu], .bool true, .bool true]) (by simp [results, Tryz.results22, go_sem, *]) rfl (ch_end HO.out (g0.trans g9))
set_option maxHeartbeats 1600000 in
theorem iChAll (n e : Nat) (S : Int) (s vx : Value) (L : List Wr) (w : World) (hs : SlF w s L.length 3 (flatW L)) (hB : netB n e S L.length (flatW L) = true) :
    Calls Tryz.prog 22 #[.agg #[.int .i64 (n : Int), .int .i64 (e : Int), .int .i64 S, s], .agg #[.string ⟨#[97, 108, 108]⟩, .int .i64 0], vx] w (GivesCh w true ((meshR n e S L.length (flatW L)).1) ((meshR n e S L.length (flatW L)).2)) := by
  have HV := Lib.hid hs
  obtain ⟨p, cap, rfl, _⟩ := hs.open
  have HC := Lib.hid (fun w' (g : Ge w w') => iMeshAll n e S (.slice p L.length cap) L.length (flatW L) w' (HV.out.ge g) hB)
  generalize (meshR n e S L.length (flatW L)).2 = Z at *
  generalize (meshR n e S L.length (flatW L)).1 = B at *
  generalize L.length = m at *
  clear hs hB
  have q0 : ∀ w, (binOp .eql 55 (.agg #[.string ⟨#[97, 108, 108]⟩, .int .i64 0]) (.agg #[.string ⟨#[112, 117, 116]⟩, .int .i64 3])).run Tryz.prog w = .ok (.bool false) w := fun w => isF_q (wd := [97, 108, 108]) (c := 0) (lit := [112, 117, 116]) (k := 3) (by decide) w
  have q1 : ∀ w, (binOp .eql 55 (.agg #[.string ⟨#[97, 108, 108]⟩, .int .i64 0]) (.agg #[.string ⟨#[106, 111, 105, 110]⟩, .int .i64 2])).run Tryz.prog w = .ok (.bool false) w := fun w => isF_q (wd := [97, 108, 108]) (c := 0) (lit := [106, 111, 105, 110]) (k := 2) (by decide) w
  have q2 : ∀ w, (binOp .eql 55 (.agg #[.string ⟨#[97, 108, 108]⟩, .int .i64 0]) (.agg #[.string ⟨#[115, 119, 97, 112]⟩, .int .i64 2])).run Tryz.prog w = .ok (.bool false) w := fun w => isF_q (wd := [97, 108, 108]) (c := 0) (lit := [115, 119, 97, 112]) (k := 2) (by decide) w
  have q3 : ∀ w, (binOp .eql 55 (.agg #[.string ⟨#[97, 108, 108]⟩, .int .i64 0]) (.agg #[.string ⟨#[100, 114, 111, 112]⟩, .int .i64 1])).run Tryz.prog w = .ok (.bool false) w := fun w => isF_q (wd := [97, 108, 108]) (c := 0) (lit := [100, 114, 111, 112]) (k := 1) (by decide) w
  have q4 : ∀ w, (binOp .eql 55 (.agg #[.string ⟨#[97, 108, 108]⟩, .int .i64 0]) (.agg #[.string ⟨#[109, 101, 115, 104]⟩, .int .i64 1])).run Tryz.prog w = .ok (.bool false) w := fun w => isF_q (wd := [97, 108, 108]) (c := 0) (lit := [109, 101, 115, 104]) (k := 1) (by decide) w
  have q5 : ∀ w, (binOp .eql 55 (.agg #[.string ⟨#[97, 108, 108]⟩, .int .i64 0]) (.agg #[.string ⟨#[115, 116, 97, 114]⟩, .int .i64 3])).run Tryz.prog w = .ok (.bool false) w := fun w => isF_q (wd := [97, 108, 108]) (c := 0) (lit := [115, 116, 97, 114]) (k := 3) (by decide) w
  have q6 : ∀ w, (binOp .eql 55 (.agg #[.string ⟨#[97, 108, 108]⟩, .int .i64 0]) (.agg #[.string ⟨#[99, 97, 110, 111, 110]⟩, .int .i64 0])).run Tryz.prog w = .ok (.bool false) w := fun w => isF_q (wd := [97, 108, 108]) (c := 0) (lit := [99, 97, 110, 111, 110]) (k := 0) (by decide) w
  have q7 : ∀ w, (binOp .eql 55 (.agg #[.string ⟨#[97, 108, 108]⟩, .int .i64 0]) (.agg #[.string ⟨#[114, 101, 100, 117, 99, 101]⟩, .int .i64 0])).run Tryz.prog w = .ok (.bool false) w := fun w => isF_q (wd := [97, 108, 108]) (c := 0) (lit := [114, 101, 100, 117, 99, 101]) (k := 0) (by decide) w
  have q8 : ∀ w, (binOp .eql 55 (.agg #[.string ⟨#[97, 108, 108]⟩, .int .i64 0]) (.agg #[.string ⟨#[97, 108, 108]⟩, .int .i64 0])).run Tryz.prog w = .ok (.bool true) w := fun w => isF_q (wd := [97, 108, 108]) (c := 0) (lit := [97, 108, 108]) (k := 0) (by decide) w
  obtain ⟨W0, hW0, NB0, R0, R1, g0, z0⟩ := ch_start w n e S (.slice p m cap) ⟨#[97, 108, 108]⟩ 0
  go_enter Tryz.func22, Tryz.ntmps22
  go_upto_region 22 with fail
  rw [← hW0]
  clear hW0
  obtain ⟨b0, b1, b2, b3⟩ := NB0
  go_wp2_with ((go_at_call 42; ((with_reducible refine (HC.out _ g0).mono ?_); rintro r w9 ⟨s9, rfl, o9, g9⟩)); have R0 := R0.ge g9; have R1 := R1.ge g9; have HO := Lib.hid (owns_mono o9 (show w.heap.size + 1 + 1 + 1 + 1 ≤ _ by omega)); clear o9; obtain ⟨r0, p0, f0⟩ := R0 0 (by omega); obtain ⟨r1, p1, f1⟩ := R0 1 (by omega); obtain ⟨r2, p2, f2⟩ := R0 2 (by omega); obtain ⟨r3, p3, f3⟩ := R0 3 (by omega); obtain ⟨r4, p4, f4⟩ := R1 0 (by omega); obtain ⟨r5, p5, f5⟩ := R1 1 (by omega); obtain ⟨r6, p6, f6⟩ := R1 2 (by omega); obtain ⟨r7, p7, f7⟩ := R1 3 (by omega); obtain ⟨pu, cu, rfl⟩ := owns_form HO.out)
  exact bodyPost_ret (v := .tuple #[.agg #[.int .i64 Z.nodes, .int .i64 Z.ends, .int .i64 Z.scale, .slice pu Z.wires.length cu], .bool true, .bool B]) (by simp [results, Tryz.results22, go_sem, *]) rfl (ch_end HO.out (g0.trans g9))
/-- changed: what chR says. -/
def GivesChR (w : World) (o : Option (Bool × Nt)) (r : Ending) (w' : World) : Prop := (∀ b z, o = some (b, z) → GivesCh w true b z r w') ∧ (o = none → GivesCh w false false ⟨0, 0, 0, []⟩ r w')
theorem GivesChR.t {w w' : World} {b : Bool} {z : Nt} {r : Ending} (h : GivesCh w true b z r w') : GivesChR w (some (b, z)) r w' := ⟨fun b' z' he => by simp only [Option.some.injEq, Prod.mk.injEq] at he; obtain ⟨rfl, rfl⟩ := he; exact h, fun he => by cases he⟩
theorem GivesChR.f {w w' : World} {r : Ending} (h : GivesCh w false false ⟨0, 0, 0, []⟩ r w') : GivesChR w none r w' := ⟨fun b' z' he => by (cases he), fun _ => h⟩
theorem isF_t {wd lit : List UInt8} {c k : Nat} (h : isF wd c lit k = true) : wd = lit ∧ c = k := by simpa [isF] using h
theorem iChanged (n e : Nat) (S : Int) (s vx : Value) (L : List Wr) (wd : List UInt8) (x : List Int) (w : World) (hs : SlF w s L.length 3 (flatW L)) (hB : netB n e S L.length (flatW L) = true) (hx : SlI w vx x) :
    Calls Tryz.prog 22 #[.agg #[.int .i64 (n : Int), .int .i64 (e : Int), .int .i64 S, s], .agg #[.string (bstr wd), .int .i64 (x.length : Int)], vx] w (GivesChR w (chR n e S L wd x)) := by
  cases h0 : isF wd x.length wPut 3 with
  | true =>
    obtain ⟨rfl, hc⟩ := isF_t h0
    unfold chR
    rw [ if_pos h0, hc]
    exact (iChPut n e S s vx L x w hs hB hx hc).mono fun _ _ h => GivesChR.t h
  | false =>
    cases h1 : isF wd x.length wJoin 2 with
    | true =>
      obtain ⟨rfl, hc⟩ := isF_t h1
      unfold chR
      rw [if_neg (by rw [h0]; simp),  if_pos h1, hc]
      exact (iChJoin n e S s vx L x w hs hB hx hc).mono fun _ _ h => GivesChR.t h
    | false =>
      cases h2 : isF wd x.length wSwap 2 with
      | true =>
        obtain ⟨rfl, hc⟩ := isF_t h2
        unfold chR
        rw [if_neg (by rw [h0]; simp), if_neg (by rw [h1]; simp),  if_pos h2, hc]
        exact (iChSwap n e S s vx L x w hs hB hx hc).mono fun _ _ h => GivesChR.t h
      | false =>
        cases h3 : isF wd x.length wDrop 1 with
        | true =>
          obtain ⟨rfl, hc⟩ := isF_t h3
          unfold chR
          rw [if_neg (by rw [h0]; simp), if_neg (by rw [h1]; simp), if_neg (by rw [h2]; simp),  if_pos h3, hc]
          exact (iChDrop n e S s vx L x w hs hB hx hc).mono fun _ _ h => GivesChR.t h
        | false =>
          cases h4 : isF wd x.length wMesh 1 with
          | true =>
            obtain ⟨rfl, hc⟩ := isF_t h4
            unfold chR
            rw [if_neg (by rw [h0]; simp), if_neg (by rw [h1]; simp), if_neg (by rw [h2]; simp), if_neg (by rw [h3]; simp),  if_pos h4, hc]
            exact (iChMesh n e S s vx L x w hs hB hx hc).mono fun _ _ h => GivesChR.t h
          | false =>
            cases h5 : isF wd x.length wStar 3 with
            | true =>
              obtain ⟨rfl, hc⟩ := isF_t h5
              unfold chR
              rw [if_neg (by rw [h0]; simp), if_neg (by rw [h1]; simp), if_neg (by rw [h2]; simp), if_neg (by rw [h3]; simp), if_neg (by rw [h4]; simp),  if_pos h5, hc]
              exact (iChStar n e S s vx L x w hs hB hx hc).mono fun _ _ h => GivesChR.t h
            | false =>
              cases h6 : isF wd x.length wCanon 0 with
              | true =>
                obtain ⟨rfl, hc⟩ := isF_t h6
                unfold chR
                rw [if_neg (by rw [h0]; simp), if_neg (by rw [h1]; simp), if_neg (by rw [h2]; simp), if_neg (by rw [h3]; simp), if_neg (by rw [h4]; simp), if_neg (by rw [h5]; simp),  if_pos h6, hc]
                exact (iChCanon n e S s vx L w hs hB).mono fun _ _ h => GivesChR.t h
              | false =>
                cases h7 : isF wd x.length wReduce 0 with
                | true =>
                  obtain ⟨rfl, hc⟩ := isF_t h7
                  unfold chR
                  rw [if_neg (by rw [h0]; simp), if_neg (by rw [h1]; simp), if_neg (by rw [h2]; simp), if_neg (by rw [h3]; simp), if_neg (by rw [h4]; simp), if_neg (by rw [h5]; simp), if_neg (by rw [h6]; simp),  if_pos h7, hc]
                  exact (iChReduce n e S s vx L w hs hB).mono fun _ _ h => GivesChR.t h
                | false =>
                  cases h8 : isF wd x.length wAll 0 with
                  | true =>
                    obtain ⟨rfl, hc⟩ := isF_t h8
                    unfold chR
                    rw [if_neg (by rw [h0]; simp), if_neg (by rw [h1]; simp), if_neg (by rw [h2]; simp), if_neg (by rw [h3]; simp), if_neg (by rw [h4]; simp), if_neg (by rw [h5]; simp), if_neg (by rw [h6]; simp), if_neg (by rw [h7]; simp),  if_pos h8, hc]
                    exact (iChAll n e S s vx L w hs hB).mono fun _ _ h => GivesChR.t h
                  | false =>
                    have hr : chR n e S L wd x = none := by unfold chR; rw [if_neg (by rw [h0]; simp), if_neg (by rw [h1]; simp), if_neg (by rw [h2]; simp), if_neg (by rw [h3]; simp), if_neg (by rw [h4]; simp), if_neg (by rw [h5]; simp), if_neg (by rw [h6]; simp), if_neg (by rw [h7]; simp), if_neg (by rw [h8]; simp)]
                    rw [hr]
                    exact (iChNone n e S s vx L.length x.length wd w h0 h1 h2 h3 h4 h5 h6 h7 h8).mono fun _ _ h => GivesChR.f h
end Go.Proofs.YtagiecajffhnpaaGreat

namespace Go.Proofs.YtagiecajffhnpaaGreat
set_option maxRecDepth 100000
open Go.ChangeShapes Go.WideShapes Go.ChangeAt Go.RowKit Go.Joins

theorem eql_str (a b : ByteArray) (w : World) : (binOp .eql 9 (.string a) (.string b)).run Tryz.prog w = .ok (.bool (decide (a = b))) w := by
  by_cases h1 : a = b
  · subst h1
    go_simp
  · have h3 : ¬ a.toList = b.toList := fun h => h1 (by apply ByteArray.ext; apply Array.ext'; simpa [ByteArray.toList_eq] using h)
    go_simp
theorem bstr_dec (a b : List UInt8) : decide (bstr a = bstr b) = decide (a = b) := by
  by_cases hw : a = b
  · subst hw; simp
  · rw [decide_eq_false hw, decide_eq_false (fun hb => hw (bstr_inj hb))]
theorem empty_t : (bstr []).toList.isEmpty = true := by rw [bstr_list]; rfl
theorem empty_f {s : List UInt8} (h : ¬ s = []) : (bstr s).toList.isEmpty = false := by
  rw [bstr_list]
  cases s with
  | nil => exact absurd rfl h
  | cons => rfl
theorem iOrNone (s : List UInt8) (b : Bool) (w : World) : Calls Tryz.prog 45 #[.string (bstr s), .bool b] w fun r w' => r = .returned (.string (bstr (orN s b))) ∧ Ge w w' := by
  cases b with
  | false =>
    go_enter Tryz.func45, Tryz.ntmps45
    go_wp2_with fail
    go_ret
    exact ⟨rfl, kge⟩
  | true =>
    by_cases h : s = []
    · subst h
      have q := empty_t
      go_enter Tryz.func45, Tryz.ntmps45
      go_wp2_with fail
      go_ret
      exact ⟨rfl, kge⟩
    · have q := empty_f h
      have HR : Hid (bstr (orN s true) = bstr s) := by show _ = _; unfold orN; rw [if_pos ⟨rfl, h⟩]
      generalize bstr (orN s true) = R at *
      clear h
      go_enter Tryz.func45, Tryz.ntmps45
      go_wp2_with fail
      go_ret
      exact ⟨ret_str HR.out.symm, kge⟩
end Go.Proofs.YtagiecajffhnpaaGreat

namespace Go.Proofs.YtagiecajffhnpaaGreat
set_option maxRecDepth 100000
open Go.ChangeShapes Go.WideShapes Go.ChangeAt Go.RowKit Go.Joins

/-- What a command shows. -/
def GivesTx (w : World) (s : List UInt8) (r : Ending) (w' : World) : Prop := r = .returned (.string (bstr s)) ∧ Ge w w'
theorem word_q {wd lit : List UInt8} {b : Bool} (h : decide (wd = lit) = b) (w : World) : (binOp .eql 9 (.string (bstr wd)) (.string (bstr lit))).run Tryz.prog w = .ok (.bool b) w := by
  rw [eql_str, bstr_dec, h]
theorem sh_start (w : World) (n e S : Int) (v : Value) (wd : ByteArray) (c : Int) : ∃ W0, W0 = (w.alloc (.cells #[.int .i64 n, .int .i64 e, .int .i64 S, v] 33)).alloc (.cells #[.string wd, .int .i64 c] 55) ∧ NetIn W0 w.heap.size n e S v ∧ Ge w W0 :=
  ⟨_, rfl, (NetIn.new w n e S _).ge (Ge.alloc (Ge.refl _) _), Ge.alloc (Ge.alloc (Ge.refl _) _) _⟩
set_option maxHeartbeats 1600000 in
theorem iShResist (n e : Nat) (S : Int) (s vx : Value) (L : List Wr) (x : List Int) (w : World) (hs : SlF w s L.length 3 (flatW L)) (hB : netB n e S L.length (flatW L) = true) (hx : SlI w vx x) (hl : x.length = 2) :
    Calls Tryz.prog 24 #[.agg #[.int .i64 (n : Int), .int .i64 (e : Int), .int .i64 S, s], .agg #[.string ⟨#[114, 101, 115, 105, 115, 116]⟩, .int .i64 2], vx] w (GivesTx w (orN (resLine n e S L.length (flatW L) (nth x 0) (nth x 1)) true)) := by
  obtain ⟨⟨h1, h5⟩, ⟨e1, e2⟩, _, hok, _⟩ := netP_of hB
  have hm : L.length ≤ 10 := prs_len (by omega) hok
  have HV := Lib.hid hs
  obtain ⟨p, cap, rfl, _⟩ := hs.open
  have HC := Lib.hid (fun w' (g : Ge w w') => iResistLine n e S (.slice p L.length cap) L.length (flatW L) (nth x 0) (nth x 1) w' (HV.out.ge g) (by omega))
  obtain ⟨bx, ox, cx, rfl, hbx, hcx⟩ := hx.at hl (by omega)
  have x0 := hcx 0 (by omega)
  have x1 := hcx 1 (by omega)
  generalize resLine n e S L.length (flatW L) (nth x 0) (nth x 1) = TX at *
  generalize nth x 0 = X0 at *
  generalize nth x 1 = X1 at *
  generalize L.length = m at *
  clear hs hB hcx hl hok
  have qw : ∀ w, (binOp .eql 9 (.string ⟨#[114, 101, 115, 105, 115, 116]⟩) (.string ⟨#[102, 101, 101, 100]⟩)).run Tryz.prog w = .ok (.bool false) w := fun w => word_q (wd := [114, 101, 115, 105, 115, 116]) (lit := [102, 101, 101, 100]) (by decide) w
  have q0 : ∀ w, (binOp .eql 55 (.agg #[.string ⟨#[114, 101, 115, 105, 115, 116]⟩, .int .i64 2]) (.agg #[.string ⟨#[115, 104, 111, 119]⟩, .int .i64 0])).run Tryz.prog w = .ok (.bool false) w := fun w => isF_q (wd := [114, 101, 115, 105, 115, 116]) (c := 2) (lit := [115, 104, 111, 119]) (k := 0) (by decide) w
  have q1 : ∀ w, (binOp .eql 55 (.agg #[.string ⟨#[114, 101, 115, 105, 115, 116]⟩, .int .i64 2]) (.agg #[.string ⟨#[114, 101, 115, 105, 115, 116]⟩, .int .i64 2])).run Tryz.prog w = .ok (.bool true) w := fun w => isF_q (wd := [114, 101, 115, 105, 115, 116]) (c := 2) (lit := [114, 101, 115, 105, 115, 116]) (k := 2) (by decide) w
  obtain ⟨W0, hW0, NB0, g0⟩ := sh_start w n e S (.slice p m cap) ⟨#[114, 101, 115, 105, 115, 116]⟩ 2
  go_enter Tryz.func24, Tryz.ntmps24
  go_upto_region 8 with fail
  rw [← hW0]
  clear hW0
  have hS : ∀ w', Ge W0 w' → (w'.cell? ⟨w.heap.size, 0, none⟩ = some (.int .i64 (n : Int)) ∧ w'.cell? ⟨w.heap.size, 1, none⟩ = some (.int .i64 (e : Int)) ∧ w'.cell? ⟨w.heap.size, 2, none⟩ = some (.int .i64 S) ∧ w'.cell? ⟨w.heap.size, 3, none⟩ = some (.slice p m cap) ∧ w'.cell? ⟨bx, ox, none⟩ = some (.int .i64 X0) ∧ w'.cell? ⟨bx, ox + 1, none⟩ = some (.int .i64 X1) ∧ Ge w w') := fun w' g => ⟨g.keep NB0.1, g.keep NB0.2.1, g.keep NB0.2.2.1, g.keep NB0.2.2.2, g.keep (g0.keep x0), g.keep (g0.keep x1), g0.trans g⟩
  refine wp_region_head (S := fun w' => w'.cell? ⟨w.heap.size, 0, none⟩ = some (.int .i64 (n : Int)) ∧ w'.cell? ⟨w.heap.size, 1, none⟩ = some (.int .i64 (e : Int)) ∧ w'.cell? ⟨w.heap.size, 2, none⟩ = some (.int .i64 S) ∧ w'.cell? ⟨w.heap.size, 3, none⟩ = some (.slice p m cap) ∧ w'.cell? ⟨bx, ox, none⟩ = some (.int .i64 X0) ∧ w'.cell? ⟨bx, ox + 1, none⟩ = some (.int .i64 X1) ∧ Ge w w') 9 (by kernel_rfl) (by kernel_rfl) (hS _ (Ge.drew (Ge.refl _))) (fun hHeld => ?_)
  refine head_takeR 0 (v := ?_) rfl ?_ ?_; rotate_left; (focus (intro w' hSw; (try dsimp only at hSw); go_simp; (try with_reducible rfl))); (try simp only [Act.put, hnA, hnB, hnC])
  refine head_takeR 1 (v := ?_) rfl ?_ ?_; rotate_left; (focus (intro w' hSw; (try dsimp only at hSw); go_simp; (try with_reducible rfl))); (try simp only [Act.put, hnA, hnB, hnC])
  refine head_takeR 2 (v := ?_) rfl ?_ ?_; rotate_left; (focus (intro w' hSw; (try dsimp only at hSw); go_simp; (try with_reducible rfl))); (try simp only [Act.put, hnA, hnB, hnC])
  refine head_takeR 3 (v := ?_) rfl ?_ ?_; rotate_left; (focus (intro w' hSw; (try dsimp only at hSw); go_simp; (try with_reducible rfl))); (try simp only [Act.put, hnA, hnB, hnC])
  refine head_takeR 4 (v := ?_) rfl ?_ ?_; rotate_left; (focus (intro w' hSw; (try dsimp only at hSw); go_simp; (try with_reducible rfl))); (try simp only [Act.put, hnA, hnB, hnC])
  refine head_takeR 5 (v := ?_) rfl ?_ ?_; rotate_left; (focus (intro w' hSw; (try dsimp only at hSw); go_simp; (try with_reducible rfl))); (try simp only [Act.put, hnA, hnB, hnC])
  refine head_takeR 6 (v := ?_) rfl ?_ ?_; rotate_left; (focus (intro w' hSw; (try dsimp only at hSw); go_simp; (try with_reducible rfl))); (try simp only [Act.put, hnA, hnB, hnC])
  refine head_one 7 rfl (by kernel_rfl) (fun K hK => ?_)
  go_simp
  (go_at_call 48; ((with_reducible refine (HC.out _ (Ge.drew g0)).mono ?_); rintro r w9 ⟨rfl, g9⟩))
  have G9 : Ge W0 w9 := Ge.trans (Ge.drew (Ge.refl _)) g9
  refine hK.out _ _ (hS _ G9) (fun hHeld2 => ?_)
  clear hK K
  (try simp only [Act.put, hnA, hnB, hnC])
  refine head_one 8 rfl (by kernel_rfl) (fun K hK => ?_)
  go_simp
  (go_at_call 45; ((with_reducible refine (iOrNone TX true _).mono ?_); rintro r w8 ⟨rfl, g8⟩))
  have G8 : Ge W0 w8 := Ge.trans G9 g8
  refine hK.out _ _ (hS _ G8) (fun hHeld3 => ?_)
  clear hK K
  (try simp only [Act.put, hnA, hnB, hnC])
  refine head_done (by kernel_rfl) ?_
  go_wp2_with fail
  go_ret
  exact ⟨rfl, g0.trans G8⟩
set_option maxHeartbeats 1600000 in
theorem iShVolts (n e : Nat) (S : Int) (s vx : Value) (L : List Wr) (x : List Int) (w : World) (hs : SlF w s L.length 3 (flatW L)) (hB : netB n e S L.length (flatW L) = true) (hx : SlI w vx x) (hl : x.length = 2) :
    Calls Tryz.prog 24 #[.agg #[.int .i64 (n : Int), .int .i64 (e : Int), .int .i64 S, s], .agg #[.string ⟨#[118, 111, 108, 116, 115]⟩, .int .i64 2], vx] w (GivesTx w (orN (potLine n e S L.length (flatW L) (nth x 0) (nth x 1)) true)) := by
  obtain ⟨⟨h1, h5⟩, ⟨e1, e2⟩, _, hok, _⟩ := netP_of hB
  have hm : L.length ≤ 10 := prs_len (by omega) hok
  have HV := Lib.hid hs
  obtain ⟨p, cap, rfl, _⟩ := hs.open
  have HC := Lib.hid (fun w' (g : Ge w w') => iPotentialLine n e S (.slice p L.length cap) L.length (flatW L) (nth x 0) (nth x 1) w' (HV.out.ge g) (by omega))
  obtain ⟨bx, ox, cx, rfl, hbx, hcx⟩ := hx.at hl (by omega)
  have x0 := hcx 0 (by omega)
  have x1 := hcx 1 (by omega)
  generalize potLine n e S L.length (flatW L) (nth x 0) (nth x 1) = TX at *
  generalize nth x 0 = X0 at *
  generalize nth x 1 = X1 at *
  generalize L.length = m at *
  clear hs hB hcx hl hok
  have qw : ∀ w, (binOp .eql 9 (.string ⟨#[118, 111, 108, 116, 115]⟩) (.string ⟨#[102, 101, 101, 100]⟩)).run Tryz.prog w = .ok (.bool false) w := fun w => word_q (wd := [118, 111, 108, 116, 115]) (lit := [102, 101, 101, 100]) (by decide) w
  have q0 : ∀ w, (binOp .eql 55 (.agg #[.string ⟨#[118, 111, 108, 116, 115]⟩, .int .i64 2]) (.agg #[.string ⟨#[115, 104, 111, 119]⟩, .int .i64 0])).run Tryz.prog w = .ok (.bool false) w := fun w => isF_q (wd := [118, 111, 108, 116, 115]) (c := 2) (lit := [115, 104, 111, 119]) (k := 0) (by decide) w
  have q1 : ∀ w, (binOp .eql 55 (.agg #[.string ⟨#[118, 111, 108, 116, 115]⟩, .int .i64 2]) (.agg #[.string ⟨#[114, 101, 115, 105, 115, 116]⟩, .int .i64 2])).run Tryz.prog w = .ok (.bool false) w := fun w => isF_q (wd := [118, 111, 108, 116, 115]) (c := 2) (lit := [114, 101, 115, 105, 115, 116]) (k := 2) (by decide) w
  have q2 : ∀ w, (binOp .eql 55 (.agg #[.string ⟨#[118, 111, 108, 116, 115]⟩, .int .i64 2]) (.agg #[.string ⟨#[118, 111, 108, 116, 115]⟩, .int .i64 2])).run Tryz.prog w = .ok (.bool true) w := fun w => isF_q (wd := [118, 111, 108, 116, 115]) (c := 2) (lit := [118, 111, 108, 116, 115]) (k := 2) (by decide) w
  obtain ⟨W0, hW0, NB0, g0⟩ := sh_start w n e S (.slice p m cap) ⟨#[118, 111, 108, 116, 115]⟩ 2
  go_enter Tryz.func24, Tryz.ntmps24
  go_upto_region 10 with fail
  rw [← hW0]
  clear hW0
  have hS : ∀ w', Ge W0 w' → (w'.cell? ⟨w.heap.size, 0, none⟩ = some (.int .i64 (n : Int)) ∧ w'.cell? ⟨w.heap.size, 1, none⟩ = some (.int .i64 (e : Int)) ∧ w'.cell? ⟨w.heap.size, 2, none⟩ = some (.int .i64 S) ∧ w'.cell? ⟨w.heap.size, 3, none⟩ = some (.slice p m cap) ∧ w'.cell? ⟨bx, ox, none⟩ = some (.int .i64 X0) ∧ w'.cell? ⟨bx, ox + 1, none⟩ = some (.int .i64 X1) ∧ Ge w w') := fun w' g => ⟨g.keep NB0.1, g.keep NB0.2.1, g.keep NB0.2.2.1, g.keep NB0.2.2.2, g.keep (g0.keep x0), g.keep (g0.keep x1), g0.trans g⟩
  refine wp_region_head (S := fun w' => w'.cell? ⟨w.heap.size, 0, none⟩ = some (.int .i64 (n : Int)) ∧ w'.cell? ⟨w.heap.size, 1, none⟩ = some (.int .i64 (e : Int)) ∧ w'.cell? ⟨w.heap.size, 2, none⟩ = some (.int .i64 S) ∧ w'.cell? ⟨w.heap.size, 3, none⟩ = some (.slice p m cap) ∧ w'.cell? ⟨bx, ox, none⟩ = some (.int .i64 X0) ∧ w'.cell? ⟨bx, ox + 1, none⟩ = some (.int .i64 X1) ∧ Ge w w') 9 (by kernel_rfl) (by kernel_rfl) (hS _ (Ge.drew (Ge.refl _))) (fun hHeld => ?_)
  refine head_takeR 0 (v := ?_) rfl ?_ ?_; rotate_left; (focus (intro w' hSw; (try dsimp only at hSw); go_simp; (try with_reducible rfl))); (try simp only [Act.put, hnA, hnB, hnC])
  refine head_takeR 1 (v := ?_) rfl ?_ ?_; rotate_left; (focus (intro w' hSw; (try dsimp only at hSw); go_simp; (try with_reducible rfl))); (try simp only [Act.put, hnA, hnB, hnC])
  refine head_takeR 2 (v := ?_) rfl ?_ ?_; rotate_left; (focus (intro w' hSw; (try dsimp only at hSw); go_simp; (try with_reducible rfl))); (try simp only [Act.put, hnA, hnB, hnC])
  refine head_takeR 3 (v := ?_) rfl ?_ ?_; rotate_left; (focus (intro w' hSw; (try dsimp only at hSw); go_simp; (try with_reducible rfl))); (try simp only [Act.put, hnA, hnB, hnC])
  refine head_takeR 4 (v := ?_) rfl ?_ ?_; rotate_left; (focus (intro w' hSw; (try dsimp only at hSw); go_simp; (try with_reducible rfl))); (try simp only [Act.put, hnA, hnB, hnC])
  refine head_takeR 5 (v := ?_) rfl ?_ ?_; rotate_left; (focus (intro w' hSw; (try dsimp only at hSw); go_simp; (try with_reducible rfl))); (try simp only [Act.put, hnA, hnB, hnC])
  refine head_takeR 6 (v := ?_) rfl ?_ ?_; rotate_left; (focus (intro w' hSw; (try dsimp only at hSw); go_simp; (try with_reducible rfl))); (try simp only [Act.put, hnA, hnB, hnC])
  refine head_one 7 rfl (by kernel_rfl) (fun K hK => ?_)
  go_simp
  (go_at_call 49; ((with_reducible refine (HC.out _ (Ge.drew g0)).mono ?_); rintro r w9 ⟨rfl, g9⟩))
  have G9 : Ge W0 w9 := Ge.trans (Ge.drew (Ge.refl _)) g9
  refine hK.out _ _ (hS _ G9) (fun hHeld2 => ?_)
  clear hK K
  (try simp only [Act.put, hnA, hnB, hnC])
  refine head_one 8 rfl (by kernel_rfl) (fun K hK => ?_)
  go_simp
  (go_at_call 45; ((with_reducible refine (iOrNone TX true _).mono ?_); rintro r w8 ⟨rfl, g8⟩))
  have G8 : Ge W0 w8 := Ge.trans G9 g8
  refine hK.out _ _ (hS _ G8) (fun hHeld3 => ?_)
  clear hK K
  (try simp only [Act.put, hnA, hnB, hnC])
  refine head_done (by kernel_rfl) ?_
  go_wp2_with fail
  go_ret
  exact ⟨rfl, g0.trans G8⟩
set_option maxHeartbeats 1600000 in
theorem iShLadder (n e : Nat) (S : Int) (s vx : Value) (L : List Wr) (x : List Int) (w : World) (hs : SlF w s L.length 3 (flatW L)) (hB : netB n e S L.length (flatW L) = true) (hx : SlI w vx x) (hl : x.length = 2) :
    Calls Tryz.prog 24 #[.agg #[.int .i64 (n : Int), .int .i64 (e : Int), .int .i64 S, s], .agg #[.string ⟨#[108, 97, 100, 100, 101, 114]⟩, .int .i64 2], vx] w (GivesTx w (orN (spTxt (termsOf (nth x 0) (nth x 1))) true)) := by
  obtain ⟨⟨h1, h5⟩, ⟨e1, e2⟩, _, hok, _⟩ := netP_of hB
  have hm : L.length ≤ 10 := prs_len (by omega) hok
  have HV := Lib.hid hs
  obtain ⟨p, cap, rfl, _⟩ := hs.open
  have HC := Lib.hid (fun w' => iTermsOf (nth x 0) (nth x 1) w')
  have HSp := Lib.hid (fun v w' (h : SlI w' v (termsOf (nth x 0) (nth x 1))) => iSpaced v (termsOf (nth x 0) (nth x 1)) _ w' h rfl (by have := termsOf_len (nth x 0) (nth x 1); omega) (fun y hy => by have := termsOf_bd _ _ y hy; omega))
  obtain ⟨bx, ox, cx, rfl, hbx, hcx⟩ := hx.at hl (by omega)
  have x0 := hcx 0 (by omega)
  have x1 := hcx 1 (by omega)
  generalize termsOf (nth x 0) (nth x 1) = TT at *
  generalize spTxt TT = TX at *
  generalize nth x 0 = X0 at *
  generalize nth x 1 = X1 at *
  generalize L.length = m at *
  clear hs hB hcx hl hok
  have qw : ∀ w, (binOp .eql 9 (.string ⟨#[108, 97, 100, 100, 101, 114]⟩) (.string ⟨#[102, 101, 101, 100]⟩)).run Tryz.prog w = .ok (.bool false) w := fun w => word_q (wd := [108, 97, 100, 100, 101, 114]) (lit := [102, 101, 101, 100]) (by decide) w
  have q0 : ∀ w, (binOp .eql 55 (.agg #[.string ⟨#[108, 97, 100, 100, 101, 114]⟩, .int .i64 2]) (.agg #[.string ⟨#[115, 104, 111, 119]⟩, .int .i64 0])).run Tryz.prog w = .ok (.bool false) w := fun w => isF_q (wd := [108, 97, 100, 100, 101, 114]) (c := 2) (lit := [115, 104, 111, 119]) (k := 0) (by decide) w
  have q1 : ∀ w, (binOp .eql 55 (.agg #[.string ⟨#[108, 97, 100, 100, 101, 114]⟩, .int .i64 2]) (.agg #[.string ⟨#[114, 101, 115, 105, 115, 116]⟩, .int .i64 2])).run Tryz.prog w = .ok (.bool false) w := fun w => isF_q (wd := [108, 97, 100, 100, 101, 114]) (c := 2) (lit := [114, 101, 115, 105, 115, 116]) (k := 2) (by decide) w
  have q2 : ∀ w, (binOp .eql 55 (.agg #[.string ⟨#[108, 97, 100, 100, 101, 114]⟩, .int .i64 2]) (.agg #[.string ⟨#[118, 111, 108, 116, 115]⟩, .int .i64 2])).run Tryz.prog w = .ok (.bool false) w := fun w => isF_q (wd := [108, 97, 100, 100, 101, 114]) (c := 2) (lit := [118, 111, 108, 116, 115]) (k := 2) (by decide) w
  have q3 : ∀ w, (binOp .eql 55 (.agg #[.string ⟨#[108, 97, 100, 100, 101, 114]⟩, .int .i64 2]) (.agg #[.string ⟨#[99, 117, 114, 114, 101, 110, 116]⟩, .int .i64 4])).run Tryz.prog w = .ok (.bool false) w := fun w => isF_q (wd := [108, 97, 100, 100, 101, 114]) (c := 2) (lit := [99, 117, 114, 114, 101, 110, 116]) (k := 4) (by decide) w
  have q4 : ∀ w, (binOp .eql 55 (.agg #[.string ⟨#[108, 97, 100, 100, 101, 114]⟩, .int .i64 2]) (.agg #[.string ⟨#[104, 105, 116]⟩, .int .i64 3])).run Tryz.prog w = .ok (.bool false) w := fun w => isF_q (wd := [108, 97, 100, 100, 101, 114]) (c := 2) (lit := [104, 105, 116]) (k := 3) (by decide) w
  have q5 : ∀ w, (binOp .eql 55 (.agg #[.string ⟨#[108, 97, 100, 100, 101, 114]⟩, .int .i64 2]) (.agg #[.string ⟨#[99, 111, 109, 109, 117, 116, 101]⟩, .int .i64 2])).run Tryz.prog w = .ok (.bool false) w := fun w => isF_q (wd := [108, 97, 100, 100, 101, 114]) (c := 2) (lit := [99, 111, 109, 109, 117, 116, 101]) (k := 2) (by decide) w
  have q6 : ∀ w, (binOp .eql 55 (.agg #[.string ⟨#[108, 97, 100, 100, 101, 114]⟩, .int .i64 2]) (.agg #[.string ⟨#[104, 105, 100, 100, 101, 110]⟩, .int .i64 0])).run Tryz.prog w = .ok (.bool false) w := fun w => isF_q (wd := [108, 97, 100, 100, 101, 114]) (c := 2) (lit := [104, 105, 100, 100, 101, 110]) (k := 0) (by decide) w
  have q7 : ∀ w, (binOp .eql 55 (.agg #[.string ⟨#[108, 97, 100, 100, 101, 114]⟩, .int .i64 2]) (.agg #[.string ⟨#[98, 108, 105, 110, 100]⟩, .int .i64 0])).run Tryz.prog w = .ok (.bool false) w := fun w => isF_q (wd := [108, 97, 100, 100, 101, 114]) (c := 2) (lit := [98, 108, 105, 110, 100]) (k := 0) (by decide) w
  have q8 : ∀ w, (binOp .eql 55 (.agg #[.string ⟨#[108, 97, 100, 100, 101, 114]⟩, .int .i64 2]) (.agg #[.string ⟨#[108, 97, 100, 100, 101, 114]⟩, .int .i64 2])).run Tryz.prog w = .ok (.bool true) w := fun w => isF_q (wd := [108, 97, 100, 100, 101, 114]) (c := 2) (lit := [108, 97, 100, 100, 101, 114]) (k := 2) (by decide) w
  obtain ⟨W0, hW0, NB0, g0⟩ := sh_start w n e S (.slice p m cap) ⟨#[108, 97, 100, 100, 101, 114]⟩ 2
  go_enter Tryz.func24, Tryz.ntmps24
  go_upto_region 25 with fail
  rw [← hW0]
  clear hW0
  have hS : ∀ w', Ge W0 w' → (w'.cell? ⟨bx, ox, none⟩ = some (.int .i64 X0) ∧ w'.cell? ⟨bx, ox + 1, none⟩ = some (.int .i64 X1) ∧ Ge w w') := fun w' g => ⟨g.keep (g0.keep x0), g.keep (g0.keep x1), g0.trans g⟩
  refine wp_region_head (S := fun w' => w'.cell? ⟨bx, ox, none⟩ = some (.int .i64 X0) ∧ w'.cell? ⟨bx, ox + 1, none⟩ = some (.int .i64 X1) ∧ Ge w w') 9 (by kernel_rfl) (by kernel_rfl) (hS _ (Ge.drew (Ge.refl _))) (fun hHeld => ?_)
  refine head_takeR 0 (v := ?_) rfl ?_ ?_; rotate_left; (focus (intro w' hSw; (try dsimp only at hSw); go_simp; (try with_reducible rfl))); (try simp only [Act.put, hnA, hnB, hnC])
  refine head_takeR 1 (v := ?_) rfl ?_ ?_; rotate_left; (focus (intro w' hSw; (try dsimp only at hSw); go_simp; (try with_reducible rfl))); (try simp only [Act.put, hnA, hnB, hnC])
  refine head_takeR 2 (v := ?_) rfl ?_ ?_; rotate_left; (focus (intro w' hSw; (try dsimp only at hSw); go_simp; (try with_reducible rfl))); (try simp only [Act.put, hnA, hnB, hnC])
  refine head_takeR 3 (v := ?_) rfl ?_ ?_; rotate_left; (focus (intro w' hSw; (try dsimp only at hSw); go_simp; (try with_reducible rfl))); (try simp only [Act.put, hnA, hnB, hnC])
  refine head_takeR 4 (v := ?_) rfl ?_ ?_; rotate_left; (focus (intro w' hSw; (try dsimp only at hSw); go_simp; (try with_reducible rfl))); (try simp only [Act.put, hnA, hnB, hnC])
  refine head_takeR 5 (v := ?_) rfl ?_ ?_; rotate_left; (focus (intro w' hSw; (try dsimp only at hSw); go_simp; (try with_reducible rfl))); (try simp only [Act.put, hnA, hnB, hnC])
  refine head_one 6 rfl (by kernel_rfl) (fun K hK => ?_)
  go_simp
  (go_at_call 58; ((with_reducible refine (HC.out _).mono ?_); rintro r w9 ⟨v9, rfl, o9, g9⟩))
  have G9 : Ge W0 w9 := Ge.trans (Ge.drew (Ge.refl _)) g9
  have R9 := Lib.hid (SlI.of_owns o9)
  obtain ⟨pu, cu, rfl⟩ := owns_form o9
  clear o9
  refine hK.out _ _ (hS _ G9) (fun hHeld2 => ?_)
  clear hK K
  (try simp only [Act.put, hnA, hnB, hnC])
  refine head_one 7 rfl (by kernel_rfl) (fun K hK => ?_)
  go_simp
  (go_at_call 56; ((with_reducible refine (HSp.out _ _ R9.out).mono ?_); rintro r w7 ⟨rfl, g7⟩))
  have G7 : Ge W0 w7 := Ge.trans G9 g7
  refine hK.out _ _ (hS _ G7) (fun hHeld3 => ?_)
  clear hK K
  (try simp only [Act.put, hnA, hnB, hnC])
  refine head_one 8 rfl (by kernel_rfl) (fun K hK => ?_)
  go_simp
  (go_at_call 45; ((with_reducible refine (iOrNone TX true _).mono ?_); rintro r w8 ⟨rfl, g8⟩))
  have G8 : Ge W0 w8 := Ge.trans G7 g8
  refine hK.out _ _ (hS _ G8) (fun hHeld4 => ?_)
  clear hK K
  (try simp only [Act.put, hnA, hnB, hnC])
  refine head_done (by kernel_rfl) ?_
  go_wp2_with fail
  go_ret
  exact ⟨rfl, g0.trans G8⟩
theorem cap_of {w : World} {base : Nat} {e : TypeId} {sz : Nat} {v : Value} {n : Nat} {xs : List Value} (h : w.ownsRow base e sz v n xs) : ∀ p c, v = .slice p n c → n ≤ c := by
  intro p c hv
  rcases h.2 with ⟨h', h0⟩ | ⟨g, cap, cur, h', _, _, hnc, _⟩
  · omega
  · subst h'
    simp at hv
    omega
theorem cutX_in {w h : Nat} (hw : w ≤ 200) (hh : h ≤ 200) : ∀ k, ∀ x ∈ cutX w h k, 0 ≤ x ∧ x ≤ 200
  | 0, x, hx => by simp [cutX] at hx
  | k + 1, x, hx => by
    have hb := stC_bd hw hh k
    rw [cutX_succ] at hx
    rcases List.mem_append.1 hx with hx | hx
    · exact cutX_in hw hh k x hx
    · simp only [List.mem_cons, List.not_mem_nil, or_false] at hx
      rcases hx with rfl | rfl | rfl <;> omega
theorem cut_facts {a b : Int} {k : Nat} (h : cutO a b = some k) : k ≤ 1000 ∧ ∀ x ∈ cutX a.toNat b.toNat k, -9223372036854775808 ≤ x ∧ x ≤ 9223372036854775807 := by
  unfold cutO at h
  split at h
  · have hk : k ∈ List.range 13 := List.mem_of_find?_eq_some h
    rw [List.mem_range] at hk
    refine ⟨by omega, fun x hx => ?_⟩
    have := cutX_in (by omega) (by omega) k x hx
    omega
  · cases h
set_option maxHeartbeats 1600000 in
theorem iShCut (n e : Nat) (S : Int) (s vx : Value) (L : List Wr) (x : List Int) (w : World) (hs : SlF w s L.length 3 (flatW L)) (hB : netB n e S L.length (flatW L) = true) (hx : SlI w vx x) (hl : x.length = 2) :
    Calls Tryz.prog 24 #[.agg #[.int .i64 (n : Int), .int .i64 (e : Int), .int .i64 S, s], .agg #[.string ⟨#[99, 117, 116]⟩, .int .i64 2], vx] w (GivesTx w ((match cutO (nth x 0) (nth x 1) with
    | none => orN (tileLine 0 []) false
    | some k => orN (tileLine k (cutX (nth x 0).toNat (nth x 1).toNat k)) true))) := by
  obtain ⟨⟨h1, h5⟩, ⟨e1, e2⟩, _, hok, _⟩ := netP_of hB
  have hm : L.length ≤ 10 := prs_len (by omega) hok
  have HV := Lib.hid hs
  obtain ⟨p, cap, rfl, _⟩ := hs.open
  obtain ⟨q, CN, CX, CB, hRes, HC0⟩ : ∃ (q : List UInt8) (CN : Nat) (CX : List Int) (CB : Bool), (match cutO (nth x 0) (nth x 1) with
    | none => orN (tileLine 0 []) false
    | some k => orN (tileLine k (cutX (nth x 0).toNat (nth x 1).toNat k)) true) = orN (tileLine CN CX) CB ∧ (CN ≤ 1000 ∧ (∀ j, -9223372036854775808 ≤ nth CX j ∧ nth CX j ≤ 9223372036854775807) ∧ q = tileLine CN CX) ∧ ∀ w', Calls Tryz.prog 59 #[.int .i64 (nth x 0), .int .i64 (nth x 1)] w' fun r w'' => ∃ v, r = .returned (.tuple #[v, .bool CB]) ∧ w''.ownsRow w'.heap.size 143 3 v CN (icells CX) ∧ Ge w' w'' := by
    cases hc : cutO (nth x 0) (nth x 1) with
    | none => exact ⟨_, 0, [], false, rfl, ⟨by omega, fun j => by simp [nth], rfl⟩, fun w' => (iCut (nth x 0) (nth x 1) w').mono (fun r w'' h => by rw [hc] at h; exact ⟨_, h.1, owns_nil3 _ _ _, h.2⟩)⟩
    | some k => exact ⟨_, k, _, true, rfl, ⟨(cut_facts hc).1, nth_inR (cut_facts hc).2, rfl⟩, fun w' => (iCut (nth x 0) (nth x 1) w').mono (fun r w'' h => by rw [hc] at h; obtain ⟨⟨v, h1, h2⟩, h3⟩ := h; exact ⟨v, h1, h2, h3⟩)⟩
  obtain ⟨⟨hcn, hcb, hq⟩, hcc⟩ := HC0
  rw [hRes]
  have HC := Lib.hid hcc
  have HT := Lib.hid (fun v w' (h : SlF w' v CN 3 CX) hcap => iTilingLine v CN CX w' h (by omega) hcb hcap)
  clear hRes hcc hcb
  rw [← hq] at HT ⊢
  clear hq
  obtain ⟨bx, ox, cx, rfl, hbx, hcx⟩ := hx.at hl (by omega)
  have x0 := hcx 0 (by omega)
  have x1 := hcx 1 (by omega)
  generalize nth x 0 = X0 at *
  generalize nth x 1 = X1 at *
  generalize L.length = m at *
  clear hs hB hcx hl hok
  have qw : ∀ w, (binOp .eql 9 (.string ⟨#[99, 117, 116]⟩) (.string ⟨#[102, 101, 101, 100]⟩)).run Tryz.prog w = .ok (.bool false) w := fun w => word_q (wd := [99, 117, 116]) (lit := [102, 101, 101, 100]) (by decide) w
  have q0 : ∀ w, (binOp .eql 55 (.agg #[.string ⟨#[99, 117, 116]⟩, .int .i64 2]) (.agg #[.string ⟨#[115, 104, 111, 119]⟩, .int .i64 0])).run Tryz.prog w = .ok (.bool false) w := fun w => isF_q (wd := [99, 117, 116]) (c := 2) (lit := [115, 104, 111, 119]) (k := 0) (by decide) w
  have q1 : ∀ w, (binOp .eql 55 (.agg #[.string ⟨#[99, 117, 116]⟩, .int .i64 2]) (.agg #[.string ⟨#[114, 101, 115, 105, 115, 116]⟩, .int .i64 2])).run Tryz.prog w = .ok (.bool false) w := fun w => isF_q (wd := [99, 117, 116]) (c := 2) (lit := [114, 101, 115, 105, 115, 116]) (k := 2) (by decide) w
  have q2 : ∀ w, (binOp .eql 55 (.agg #[.string ⟨#[99, 117, 116]⟩, .int .i64 2]) (.agg #[.string ⟨#[118, 111, 108, 116, 115]⟩, .int .i64 2])).run Tryz.prog w = .ok (.bool false) w := fun w => isF_q (wd := [99, 117, 116]) (c := 2) (lit := [118, 111, 108, 116, 115]) (k := 2) (by decide) w
  have q3 : ∀ w, (binOp .eql 55 (.agg #[.string ⟨#[99, 117, 116]⟩, .int .i64 2]) (.agg #[.string ⟨#[99, 117, 114, 114, 101, 110, 116]⟩, .int .i64 4])).run Tryz.prog w = .ok (.bool false) w := fun w => isF_q (wd := [99, 117, 116]) (c := 2) (lit := [99, 117, 114, 114, 101, 110, 116]) (k := 4) (by decide) w
  have q4 : ∀ w, (binOp .eql 55 (.agg #[.string ⟨#[99, 117, 116]⟩, .int .i64 2]) (.agg #[.string ⟨#[104, 105, 116]⟩, .int .i64 3])).run Tryz.prog w = .ok (.bool false) w := fun w => isF_q (wd := [99, 117, 116]) (c := 2) (lit := [104, 105, 116]) (k := 3) (by decide) w
  have q5 : ∀ w, (binOp .eql 55 (.agg #[.string ⟨#[99, 117, 116]⟩, .int .i64 2]) (.agg #[.string ⟨#[99, 111, 109, 109, 117, 116, 101]⟩, .int .i64 2])).run Tryz.prog w = .ok (.bool false) w := fun w => isF_q (wd := [99, 117, 116]) (c := 2) (lit := [99, 111, 109, 109, 117, 116, 101]) (k := 2) (by decide) w
  have q6 : ∀ w, (binOp .eql 55 (.agg #[.string ⟨#[99, 117, 116]⟩, .int .i64 2]) (.agg #[.string ⟨#[104, 105, 100, 100, 101, 110]⟩, .int .i64 0])).run Tryz.prog w = .ok (.bool false) w := fun w => isF_q (wd := [99, 117, 116]) (c := 2) (lit := [104, 105, 100, 100, 101, 110]) (k := 0) (by decide) w
  have q7 : ∀ w, (binOp .eql 55 (.agg #[.string ⟨#[99, 117, 116]⟩, .int .i64 2]) (.agg #[.string ⟨#[98, 108, 105, 110, 100]⟩, .int .i64 0])).run Tryz.prog w = .ok (.bool false) w := fun w => isF_q (wd := [99, 117, 116]) (c := 2) (lit := [98, 108, 105, 110, 100]) (k := 0) (by decide) w
  have q8 : ∀ w, (binOp .eql 55 (.agg #[.string ⟨#[99, 117, 116]⟩, .int .i64 2]) (.agg #[.string ⟨#[108, 97, 100, 100, 101, 114]⟩, .int .i64 2])).run Tryz.prog w = .ok (.bool false) w := fun w => isF_q (wd := [99, 117, 116]) (c := 2) (lit := [108, 97, 100, 100, 101, 114]) (k := 2) (by decide) w
  have q9 : ∀ w, (binOp .eql 55 (.agg #[.string ⟨#[99, 117, 116]⟩, .int .i64 2]) (.agg #[.string ⟨#[99, 117, 116]⟩, .int .i64 2])).run Tryz.prog w = .ok (.bool true) w := fun w => isF_q (wd := [99, 117, 116]) (c := 2) (lit := [99, 117, 116]) (k := 2) (by decide) w
  obtain ⟨W0, hW0, NB0, g0⟩ := sh_start w n e S (.slice p m cap) ⟨#[99, 117, 116]⟩ 2
  go_enter Tryz.func24, Tryz.ntmps24
  go_upto_region 27 with fail
  rw [← hW0]
  clear hW0
  have hS : ∀ w', Ge W0 w' → (w'.cell? ⟨bx, ox, none⟩ = some (.int .i64 X0) ∧ w'.cell? ⟨bx, ox + 1, none⟩ = some (.int .i64 X1) ∧ Ge w w') := fun w' g => ⟨g.keep (g0.keep x0), g.keep (g0.keep x1), g0.trans g⟩
  refine wp_region_head (S := fun w' => w'.cell? ⟨bx, ox, none⟩ = some (.int .i64 X0) ∧ w'.cell? ⟨bx, ox + 1, none⟩ = some (.int .i64 X1) ∧ Ge w w') 11 (by kernel_rfl) (by kernel_rfl) (hS _ (Ge.drew (Ge.refl _))) (fun hHeld => ?_)
  refine head_takeR 0 (v := ?_) rfl ?_ ?_; rotate_left; (focus (intro w' hSw; (try dsimp only at hSw); go_simp; (try with_reducible rfl))); (try simp only [Act.put, hnA, hnB, hnC])
  refine head_takeR 1 (v := ?_) rfl ?_ ?_; rotate_left; (focus (intro w' hSw; (try dsimp only at hSw); go_simp; (try with_reducible rfl))); (try simp only [Act.put, hnA, hnB, hnC])
  refine head_takeR 2 (v := ?_) rfl ?_ ?_; rotate_left; (focus (intro w' hSw; (try dsimp only at hSw); go_simp; (try with_reducible rfl))); (try simp only [Act.put, hnA, hnB, hnC])
  refine head_takeR 3 (v := ?_) rfl ?_ ?_; rotate_left; (focus (intro w' hSw; (try dsimp only at hSw); go_simp; (try with_reducible rfl))); (try simp only [Act.put, hnA, hnB, hnC])
  refine head_takeR 4 (v := ?_) rfl ?_ ?_; rotate_left; (focus (intro w' hSw; (try dsimp only at hSw); go_simp; (try with_reducible rfl))); (try simp only [Act.put, hnA, hnB, hnC])
  refine head_takeR 5 (v := ?_) rfl ?_ ?_; rotate_left; (focus (intro w' hSw; (try dsimp only at hSw); go_simp; (try with_reducible rfl))); (try simp only [Act.put, hnA, hnB, hnC])
  refine head_one 6 rfl (by kernel_rfl) (fun K hK => ?_)
  go_simp
  (go_at_call 59; ((with_reducible refine (HC.out _).mono ?_); rintro r w9 ⟨v9, rfl, o9, g9⟩))
  have G9 : Ge W0 w9 := Ge.trans (Ge.drew (Ge.refl _)) g9
  have R9 := Lib.hid (SlF.of_owns o9)
  obtain ⟨pu, cu, rfl⟩ := owns_form o9
  have hcp : Hid (∀ p c, Value.slice pu CN cu = .slice p CN c → CN ≤ c) := cap_of o9
  clear o9
  refine hK.out _ _ (hS _ G9) (fun hHeld2 => ?_)
  clear hK K
  (try simp only [Act.put, hnA, hnB, hnC])
  refine head_takeR 7 (v := ?_) rfl ?_ ?_; rotate_left; (focus (intro w' hSw; (try dsimp only at hSw); go_simp; (try with_reducible rfl))); (try simp only [Act.put, hnA, hnB, hnC])
  refine head_takeR 8 (v := ?_) rfl ?_ ?_; rotate_left; (focus (intro w' hSw; (try dsimp only at hSw); go_simp; (try with_reducible rfl))); (try simp only [Act.put, hnA, hnB, hnC])
  refine head_takeR 9 (v := ?_) rfl ?_ ?_; rotate_left; (focus (intro w' hSw; (try dsimp only at hSw); go_simp; (try with_reducible rfl))); (try simp only [Act.put, hnA, hnB, hnC])
  refine head_takeR 10 (v := ?_) rfl ?_ ?_; rotate_left; (focus (intro w' hSw; (try dsimp only at hSw); go_simp; (try with_reducible rfl))); (try simp only [Act.put, hnA, hnB, hnC])
  refine head_done (by kernel_rfl) ?_
  go_wp2_with (first
    | (go_at_call 60; ((with_reducible refine (HT.out _ _ R9.out hcp.out).mono ?_); rintro r w7 ⟨rfl, g7⟩))
    | (go_at_call 45; ((with_reducible refine (iOrNone q CB _).mono ?_); rintro r w8 ⟨rfl, g8⟩)))
  go_ret
  exact ⟨rfl, (g0.trans G9).trans (g7.trans g8)⟩
end Go.Proofs.YtagiecajffhnpaaGreat
