/- shown of impl: the commands without numbers, feed, unknown commands, and all together. No condition. RunLine of impl: the ways that end early. No condition. -/
import Derived.Test.YtagiecajffhnpaaGreatJAz
namespace Go.Proofs.YtagiecajffhnpaaGreat
set_option maxRecDepth 100000
open Go.ChangeShapes Go.WideShapes Go.ChangeAt Go.RowKit Go.Joins

theorem owns_nil2 (w : World) (base : Nat) (e : TypeId) : w.ownsRow base e 2 (.slice none 0 0) 0 [] := ⟨rfl, .inl ⟨rfl, rfl⟩⟩
theorem netLs_each (n e m : Nat) (S : Int) (xs : List Int) (he : e ≤ 5) (hm : m ≤ 10) : ∀ k, k ≤ e → ∀ t ∈ netLs n e m S xs k, t.length ≤ 100000
  | 0, _, t, ht => by
    simp only [netLs, List.mem_cons, List.not_mem_nil, or_false] at ht
    subst ht
    have := netPart_le n e S xs m
    unfold netTxt
    split
    · omega
    · simp
  | k + 1, hk, t, ht => by
    simp only [netLs, List.mem_append, List.mem_cons, List.not_mem_nil, or_false] at ht
    rcases ht with h | h
    · exact netLs_each n e m S xs he hm k (by omega) t h
    · subst h
      have h1 := rowLine_le e (respL n e m S xs k e)
      have h2 := fmtInt_length (k : Int)
      unfold termT
      simp only [List.length_append, List.length_cons, List.length_nil]
      omega
theorem netLs_join (n e m : Nat) (S : Int) (xs : List Int) (he : e ≤ 5) (hm : m ≤ 10) : (Lib.join (netLs n e m S xs e) [59]).length ≤ 140737488355328 := by
  have h := join_le [59] (netLs n e m S xs e) 100001 (fun t ht => by
    have := netLs_each n e m S xs he hm e (Nat.le_refl _) t ht
    simp; omega)
  rw [netLs_length] at h
  have h2 : ([59].length + 100001) * (e + 1) ≤ ([59].length + 100001) * 6 := Nat.mul_le_mul_left _ (by omega)
  simp only [List.length_cons, List.length_nil] at h h2
  omega
theorem like_in (n e : Nat) (S : Int) (m : Nat) (xs : List Int) (D : Nat → List Int) (hm : m ≤ 10) : (likeL n e S m xs D).length ≤ 1000 ∧ ∀ y ∈ flatP (likeL n e S m xs D), 0 ≤ y ∧ y ≤ 1000 := by
  refine ⟨?_, fun y hy => ?_⟩
  · have h1 := allP_len (fltB n e S m xs) m
    have h2 : (likeL n e S m xs D).length ≤ (allP (fltB n e S m xs) m).length := List.length_filter_le _ _
    omega
  · simp only [flatP, List.mem_flatMap] at hy
    obtain ⟨q, hq, hy⟩ := hy
    have h3 := allP_mem (List.mem_filter.1 hq).1
    simp only [List.mem_cons, List.not_mem_nil, or_false] at hy
    rcases hy with rfl | rfl <;> omega
set_option maxHeartbeats 1600000 in
theorem iShShow (n e : Nat) (S : Int) (s vx : Value) (L : List Wr) (w : World) (hs : SlF w s L.length 3 (flatW L)) (hB : netB n e S L.length (flatW L) = true) :
    Calls Tryz.prog 24 #[.agg #[.int .i64 (n : Int), .int .i64 (e : Int), .int .i64 S, s], .agg #[.string ⟨#[115, 104, 111, 119]⟩, .int .i64 0], vx] w (GivesTx w (Lib.join (netLs n e L.length S (flatW L) e) [59])) := by
  obtain ⟨⟨h1, h5⟩, ⟨e1, e2⟩, _, hok, _⟩ := netP_of hB
  have hm : L.length ≤ 10 := prs_len (by omega) hok
  have HV := Lib.hid hs
  obtain ⟨p, cap, rfl, _⟩ := hs.open
  have HC := Lib.hid (fun w' (g : Ge w w') => iNetLines n e S (.slice p L.length cap) L.length (flatW L) w' (HV.out.ge g) (by omega))
  rw [netLines_t hB] at HC
  have HJ : Hid (∀ b v w', World.ownsRow w' b 9 1 v (netLs n e L.length S (flatW L) e).length (scells (netLs n e L.length S (flatW L) e)) → Calls Tryz.prog 12 #[v, .string ⟨#[59]⟩] w' (fun en w'' => en = .returned (.string (bstr (Lib.join (netLs n e L.length S (flatW L) e) [59]))) ∧ Ge w' w'')) := fun b v w' h => iJoin b 9 v (netLs n e L.length S (flatW L) e) [59] w' h (by rw [netLs_length]; omega) (netLs_join n e L.length S (flatW L) (by omega) hm)
  generalize Lib.join (netLs n e L.length S (flatW L) e) [59] = TX at *
  generalize netLs n e L.length S (flatW L) e = NL at *
  generalize L.length = m at *
  clear hs hB hok
  have qw : ∀ w, (binOp .eql 9 (.string ⟨#[115, 104, 111, 119]⟩) (.string ⟨#[102, 101, 101, 100]⟩)).run Tryz.prog w = .ok (.bool false) w := fun w => word_q (wd := [115, 104, 111, 119]) (lit := [102, 101, 101, 100]) (by decide) w
  have q0 : ∀ w, (binOp .eql 55 (.agg #[.string ⟨#[115, 104, 111, 119]⟩, .int .i64 0]) (.agg #[.string ⟨#[115, 104, 111, 119]⟩, .int .i64 0])).run Tryz.prog w = .ok (.bool true) w := fun w => isF_q (wd := [115, 104, 111, 119]) (c := 0) (lit := [115, 104, 111, 119]) (k := 0) (by decide) w
  obtain ⟨W0, hW0, NB0, g0⟩ := sh_start w n e S (.slice p m cap) ⟨#[115, 104, 111, 119]⟩ 0
  go_enter Tryz.func24, Tryz.ntmps24
  go_upto_region 6 with fail
  rw [← hW0]
  clear hW0
  obtain ⟨b0, b1, b2, b3⟩ := NB0
  go_wp2_with (first
    | (go_at_call 47; ((with_reducible refine (HC.out _ g0).mono ?_); rintro r w9 ⟨v9, rfl, o9, g9⟩); have HO := Lib.hid o9; obtain ⟨pu, cu, rfl⟩ := owns_form o9; clear o9)
    | (go_at_call 12; ((with_reducible refine (HJ.out _ _ _ HO.out).mono ?_); rintro r w8 ⟨rfl, g8⟩)))
  go_ret
  exact ⟨rfl, kge⟩
set_option maxHeartbeats 1600000 in
theorem iShHidden (n e : Nat) (S : Int) (s vx : Value) (L : List Wr) (w : World) (hs : SlF w s L.length 3 (flatW L)) (hB : netB n e S L.length (flatW L) = true) :
    Calls Tryz.prog 24 #[.agg #[.int .i64 (n : Int), .int .i64 (e : Int), .int .i64 S, s], .agg #[.string ⟨#[104, 105, 100, 100, 101, 110]⟩, .int .i64 0], vx] w (GivesTx w (faultLine (likeL n e S L.length (flatW L) (fun a => respL n e L.length S (flatW L) a e)).length (flatP (likeL n e S L.length (flatW L) (fun a => respL n e L.length S (flatW L) a e))))) := by
  obtain ⟨⟨h1, h5⟩, ⟨e1, e2⟩, _, hok, _⟩ := netP_of hB
  have hm : L.length ≤ 10 := prs_len (by omega) hok
  have HV := Lib.hid hs
  obtain ⟨p, cap, rfl, _⟩ := hs.open
  have HC := Lib.hid (fun w' (g : Ge w w') => iHiddenFaults n e S (.slice p L.length cap) L.length (flatW L) w' (HV.out.ge g) hB)
  have hlk := like_in n e S L.length (flatW L) (fun a => respL n e L.length S (flatW L) a e) hm
  generalize likeL n e S L.length (flatW L) (fun a => respL n e L.length S (flatW L) a e) = LL at *
  have HF := Lib.hid (fun v w' (h : SlF w' v LL.length 2 (flatP LL)) => iFaultLine v LL.length (flatP LL) w' h (by omega) (nth_inR (fun y hy => by have := hlk.2 y hy; omega)))
  clear hlk
  generalize faultLine LL.length (flatP LL) = TX at *
  generalize L.length = m at *
  clear hs hB hok
  have qw : ∀ w, (binOp .eql 9 (.string ⟨#[104, 105, 100, 100, 101, 110]⟩) (.string ⟨#[102, 101, 101, 100]⟩)).run Tryz.prog w = .ok (.bool false) w := fun w => word_q (wd := [104, 105, 100, 100, 101, 110]) (lit := [102, 101, 101, 100]) (by decide) w
  have q0 : ∀ w, (binOp .eql 55 (.agg #[.string ⟨#[104, 105, 100, 100, 101, 110]⟩, .int .i64 0]) (.agg #[.string ⟨#[115, 104, 111, 119]⟩, .int .i64 0])).run Tryz.prog w = .ok (.bool false) w := fun w => isF_q (wd := [104, 105, 100, 100, 101, 110]) (c := 0) (lit := [115, 104, 111, 119]) (k := 0) (by decide) w
  have q1 : ∀ w, (binOp .eql 55 (.agg #[.string ⟨#[104, 105, 100, 100, 101, 110]⟩, .int .i64 0]) (.agg #[.string ⟨#[114, 101, 115, 105, 115, 116]⟩, .int .i64 2])).run Tryz.prog w = .ok (.bool false) w := fun w => isF_q (wd := [104, 105, 100, 100, 101, 110]) (c := 0) (lit := [114, 101, 115, 105, 115, 116]) (k := 2) (by decide) w
  have q2 : ∀ w, (binOp .eql 55 (.agg #[.string ⟨#[104, 105, 100, 100, 101, 110]⟩, .int .i64 0]) (.agg #[.string ⟨#[118, 111, 108, 116, 115]⟩, .int .i64 2])).run Tryz.prog w = .ok (.bool false) w := fun w => isF_q (wd := [104, 105, 100, 100, 101, 110]) (c := 0) (lit := [118, 111, 108, 116, 115]) (k := 2) (by decide) w
  have q3 : ∀ w, (binOp .eql 55 (.agg #[.string ⟨#[104, 105, 100, 100, 101, 110]⟩, .int .i64 0]) (.agg #[.string ⟨#[99, 117, 114, 114, 101, 110, 116]⟩, .int .i64 4])).run Tryz.prog w = .ok (.bool false) w := fun w => isF_q (wd := [104, 105, 100, 100, 101, 110]) (c := 0) (lit := [99, 117, 114, 114, 101, 110, 116]) (k := 4) (by decide) w
  have q4 : ∀ w, (binOp .eql 55 (.agg #[.string ⟨#[104, 105, 100, 100, 101, 110]⟩, .int .i64 0]) (.agg #[.string ⟨#[104, 105, 116]⟩, .int .i64 3])).run Tryz.prog w = .ok (.bool false) w := fun w => isF_q (wd := [104, 105, 100, 100, 101, 110]) (c := 0) (lit := [104, 105, 116]) (k := 3) (by decide) w
  have q5 : ∀ w, (binOp .eql 55 (.agg #[.string ⟨#[104, 105, 100, 100, 101, 110]⟩, .int .i64 0]) (.agg #[.string ⟨#[99, 111, 109, 109, 117, 116, 101]⟩, .int .i64 2])).run Tryz.prog w = .ok (.bool false) w := fun w => isF_q (wd := [104, 105, 100, 100, 101, 110]) (c := 0) (lit := [99, 111, 109, 109, 117, 116, 101]) (k := 2) (by decide) w
  have q6 : ∀ w, (binOp .eql 55 (.agg #[.string ⟨#[104, 105, 100, 100, 101, 110]⟩, .int .i64 0]) (.agg #[.string ⟨#[104, 105, 100, 100, 101, 110]⟩, .int .i64 0])).run Tryz.prog w = .ok (.bool true) w := fun w => isF_q (wd := [104, 105, 100, 100, 101, 110]) (c := 0) (lit := [104, 105, 100, 100, 101, 110]) (k := 0) (by decide) w
  obtain ⟨W0, hW0, NB0, g0⟩ := sh_start w n e S (.slice p m cap) ⟨#[104, 105, 100, 100, 101, 110]⟩ 0
  go_enter Tryz.func24, Tryz.ntmps24
  go_upto_region 21 with fail
  rw [← hW0]
  clear hW0
  obtain ⟨b0, b1, b2, b3⟩ := NB0
  go_wp2_with (first
    | (go_at_call 55; ((with_reducible refine (HC.out _ g0).mono ?_); rintro r w9 ⟨v9, rfl, o9, g9⟩); have HO := Lib.hid o9; obtain ⟨pu, cu, rfl, _⟩ := SlF.open o9; clear o9)
    | (go_at_call 54; ((with_reducible refine (HF.out _ _ HO.out).mono ?_); rintro r w8 ⟨rfl, g8⟩)))
  go_ret
  exact ⟨rfl, kge⟩
set_option maxHeartbeats 1600000 in
theorem iShBlind (n e : Nat) (S : Int) (s vx : Value) (L : List Wr) (w : World) (hs : SlF w s L.length 3 (flatW L)) (hB : netB n e S L.length (flatW L) = true) :
    Calls Tryz.prog 24 #[.agg #[.int .i64 (n : Int), .int .i64 (e : Int), .int .i64 S, s], .agg #[.string ⟨#[98, 108, 105, 110, 100]⟩, .int .i64 0], vx] w (GivesTx w (orN (spTxt (blindL n e L.length (flatW L) L.length)) true)) := by
  obtain ⟨⟨h1, h5⟩, ⟨e1, e2⟩, _, hok, _⟩ := netP_of hB
  have hm : L.length ≤ 10 := prs_len (by omega) hok
  have HV := Lib.hid hs
  obtain ⟨p, cap, rfl, _⟩ := hs.open
  have HC := Lib.hid (fun w' (g : Ge w w') => iBlindWires n e S (.slice p L.length cap) L.length (flatW L) w' (HV.out.ge g) hB)
  have hbl := blindL_len n e L.length (flatW L) L.length
  have hbi := blindL_in n e L.length (flatW L) L.length
  generalize blindL n e L.length (flatW L) L.length = BL at *
  have HF := Lib.hid (fun v w' (h : SlI w' v BL) => iSpaced v BL _ w' h rfl (by omega) (fun y hy => by have := hbi y hy; omega))
  clear hbl hbi
  generalize spTxt BL = TX at *
  generalize L.length = m at *
  clear hs hB hok
  have qw : ∀ w, (binOp .eql 9 (.string ⟨#[98, 108, 105, 110, 100]⟩) (.string ⟨#[102, 101, 101, 100]⟩)).run Tryz.prog w = .ok (.bool false) w := fun w => word_q (wd := [98, 108, 105, 110, 100]) (lit := [102, 101, 101, 100]) (by decide) w
  have q0 : ∀ w, (binOp .eql 55 (.agg #[.string ⟨#[98, 108, 105, 110, 100]⟩, .int .i64 0]) (.agg #[.string ⟨#[115, 104, 111, 119]⟩, .int .i64 0])).run Tryz.prog w = .ok (.bool false) w := fun w => isF_q (wd := [98, 108, 105, 110, 100]) (c := 0) (lit := [115, 104, 111, 119]) (k := 0) (by decide) w
  have q1 : ∀ w, (binOp .eql 55 (.agg #[.string ⟨#[98, 108, 105, 110, 100]⟩, .int .i64 0]) (.agg #[.string ⟨#[114, 101, 115, 105, 115, 116]⟩, .int .i64 2])).run Tryz.prog w = .ok (.bool false) w := fun w => isF_q (wd := [98, 108, 105, 110, 100]) (c := 0) (lit := [114, 101, 115, 105, 115, 116]) (k := 2) (by decide) w
  have q2 : ∀ w, (binOp .eql 55 (.agg #[.string ⟨#[98, 108, 105, 110, 100]⟩, .int .i64 0]) (.agg #[.string ⟨#[118, 111, 108, 116, 115]⟩, .int .i64 2])).run Tryz.prog w = .ok (.bool false) w := fun w => isF_q (wd := [98, 108, 105, 110, 100]) (c := 0) (lit := [118, 111, 108, 116, 115]) (k := 2) (by decide) w
  have q3 : ∀ w, (binOp .eql 55 (.agg #[.string ⟨#[98, 108, 105, 110, 100]⟩, .int .i64 0]) (.agg #[.string ⟨#[99, 117, 114, 114, 101, 110, 116]⟩, .int .i64 4])).run Tryz.prog w = .ok (.bool false) w := fun w => isF_q (wd := [98, 108, 105, 110, 100]) (c := 0) (lit := [99, 117, 114, 114, 101, 110, 116]) (k := 4) (by decide) w
  have q4 : ∀ w, (binOp .eql 55 (.agg #[.string ⟨#[98, 108, 105, 110, 100]⟩, .int .i64 0]) (.agg #[.string ⟨#[104, 105, 116]⟩, .int .i64 3])).run Tryz.prog w = .ok (.bool false) w := fun w => isF_q (wd := [98, 108, 105, 110, 100]) (c := 0) (lit := [104, 105, 116]) (k := 3) (by decide) w
  have q5 : ∀ w, (binOp .eql 55 (.agg #[.string ⟨#[98, 108, 105, 110, 100]⟩, .int .i64 0]) (.agg #[.string ⟨#[99, 111, 109, 109, 117, 116, 101]⟩, .int .i64 2])).run Tryz.prog w = .ok (.bool false) w := fun w => isF_q (wd := [98, 108, 105, 110, 100]) (c := 0) (lit := [99, 111, 109, 109, 117, 116, 101]) (k := 2) (by decide) w
  have q6 : ∀ w, (binOp .eql 55 (.agg #[.string ⟨#[98, 108, 105, 110, 100]⟩, .int .i64 0]) (.agg #[.string ⟨#[104, 105, 100, 100, 101, 110]⟩, .int .i64 0])).run Tryz.prog w = .ok (.bool false) w := fun w => isF_q (wd := [98, 108, 105, 110, 100]) (c := 0) (lit := [104, 105, 100, 100, 101, 110]) (k := 0) (by decide) w
  have q7 : ∀ w, (binOp .eql 55 (.agg #[.string ⟨#[98, 108, 105, 110, 100]⟩, .int .i64 0]) (.agg #[.string ⟨#[98, 108, 105, 110, 100]⟩, .int .i64 0])).run Tryz.prog w = .ok (.bool true) w := fun w => isF_q (wd := [98, 108, 105, 110, 100]) (c := 0) (lit := [98, 108, 105, 110, 100]) (k := 0) (by decide) w
  obtain ⟨W0, hW0, NB0, g0⟩ := sh_start w n e S (.slice p m cap) ⟨#[98, 108, 105, 110, 100]⟩ 0
  go_enter Tryz.func24, Tryz.ntmps24
  go_upto_region 23 with fail
  rw [← hW0]
  clear hW0
  obtain ⟨b0, b1, b2, b3⟩ := NB0
  go_wp2_with (first
    | (go_at_call 57; ((with_reducible refine (HC.out _ g0).mono ?_); rintro r w9 ⟨v9, rfl, o9, g9⟩); have HO := Lib.hid o9; obtain ⟨pu, cu, rfl, _⟩ := SlI.openN o9 rfl; clear o9)
    | (go_at_call 56; ((with_reducible refine (HF.out _ _ HO.out).mono ?_); rintro r w7 ⟨rfl, g7⟩))
    | (go_at_call 45; ((with_reducible refine (iOrNone TX true _).mono ?_); rintro r w8 ⟨rfl, g8⟩)))
  go_ret
  exact ⟨rfl, kge⟩
set_option maxHeartbeats 1600000 in
theorem iShFeed (n e : Nat) (S : Int) (s vx : Value) (L : List Wr) (x : List Int) (w : World) (hs : SlF w s L.length 3 (flatW L)) (hB : netB n e S L.length (flatW L) = true) (hx : SlI w vx x) (hfd : x.length = e → fdOk e x) :
    Calls Tryz.prog 24 #[.agg #[.int .i64 (n : Int), .int .i64 (e : Int), .int .i64 S, s], .agg #[.string ⟨#[102, 101, 101, 100]⟩, .int .i64 (x.length : Int)], vx] w (GivesTx w (if x.length = e then orN (rowLine e (fdL n e L.length S (flatW L) x e)) true else orN (rowLine 0 []) false)) := by
  obtain ⟨⟨h1, h5⟩, ⟨e1, e2⟩, _, hok, _⟩ := netP_of hB
  have hm : L.length ≤ 10 := prs_len (by omega) hok
  have HV := Lib.hid hs
  obtain ⟨p, cap, rfl, _⟩ := hs.open
  obtain ⟨px, cx, rfl, _⟩ := hx.openN rfl
  have HX := Lib.hid hx
  have qw : ∀ w, (binOp .eql 9 (.string ⟨#[102, 101, 101, 100]⟩) (.string ⟨#[102, 101, 101, 100]⟩)).run Tryz.prog w = .ok (.bool true) w := fun w => word_q (wd := [102, 101, 101, 100]) (lit := [102, 101, 101, 100]) (by decide) w
  obtain ⟨W0, hW0, NB0, g0⟩ := sh_start w n e S (.slice p L.length cap) ⟨#[102, 101, 101, 100]⟩ x.length
  by_cases hl : x.length = e
  · rw [if_pos hl]
    have HC := Lib.hid (fun w' (g : Ge w w') => iCurrentsForT n e S (.slice p L.length cap) (.slice px x.length cx) L.length (flatW L) x w' (HV.out.ge g) (HX.out.ge g) hB hl (hfd hl))
    have HF := Lib.hid (fun v w' (h : SlF w' v e 2 (fdL n e L.length S (flatW L) x e)) => iFormatRow v e _ w' h (by omega) (nth_inR (fdL_in n e L.length S (flatW L) x e)))
    generalize fdL n e L.length S (flatW L) x e = FD at *
    generalize rowLine e FD = TX at *
    generalize x.length = k at *
    generalize L.length = m at *
    clear hs hB hok hx hfd hl
    go_enter Tryz.func24, Tryz.ntmps24
    go_upto_region 2 with fail
    rw [← hW0]
    clear hW0
    obtain ⟨b0, b1, b2, b3⟩ := NB0
    go_wp2_with (first
      | (go_at_call 44; ((with_reducible refine (HC.out _ g0).mono ?_); rintro r w9 ⟨v9, rfl, o9, g9⟩); have R9 := Lib.hid (SlF.of_owns o9); obtain ⟨pu, cu, rfl⟩ := owns_form o9; clear o9)
      | (go_at_call 46; ((with_reducible refine (HF.out _ _ R9.out).mono ?_); rintro r w7 ⟨rfl, g7⟩))
      | (go_at_call 45; ((with_reducible refine (iOrNone TX true _).mono ?_); rintro r w8 ⟨rfl, g8⟩)))
    go_ret
    exact ⟨rfl, (g0.trans g9).trans (g7.trans g8)⟩
  · rw [if_neg hl]
    have HC := Lib.hid (fun w' (g : Ge w w') => iCurrentsForF n e S (.slice p L.length cap) (.slice px x.length cx) L.length (flatW L) x w' (HV.out.ge g) (HX.out.ge g) hB hl)
    have HF := Lib.hid (fun w' => iFormatRow (.slice none 0 0) 0 [] w' (SlF.of_owns (owns_nil2 w' 0 86)) (by omega) (fun j => by simp [nth]))
    generalize rowLine 0 [] = TX at *
    generalize x.length = k at *
    generalize L.length = m at *
    clear hs hB hok hx hfd hl
    go_enter Tryz.func24, Tryz.ntmps24
    go_upto_region 2 with fail
    rw [← hW0]
    clear hW0
    obtain ⟨b0, b1, b2, b3⟩ := NB0
    go_wp2_with (first
      | (go_at_call 44; ((with_reducible refine (HC.out _ g0).mono ?_); rintro r w9 ⟨rfl, g9⟩))
      | (go_at_call 46; ((with_reducible refine (HF.out _).mono ?_); rintro r w7 ⟨rfl, g7⟩))
      | (go_at_call 45; ((with_reducible refine (iOrNone TX false _).mono ?_); rintro r w8 ⟨rfl, g8⟩)))
    go_ret
    exact ⟨rfl, (g0.trans g9).trans (g7.trans g8)⟩
set_option maxHeartbeats 1600000 in
theorem iShNone (n e : Nat) (S : Int) (s vx : Value) (c : Nat) (wd : List UInt8) (w : World) (hw : ¬ wd = wFeed) (h0 : isF wd c wShow 0 = false) (h1 : isF wd c wResist 2 = false) (h2 : isF wd c wVolts 2 = false) (h3 : isF wd c wCurrent 4 = false) (h4 : isF wd c wHit 3 = false) (h5 : isF wd c wCommute 2 = false) (h6 : isF wd c wHidden 0 = false) (h7 : isF wd c wBlind 0 = false) (h8 : isF wd c wLadder 2 = false) (h9 : isF wd c wCut 2 = false) :
    Calls Tryz.prog 24 #[.agg #[.int .i64 (n : Int), .int .i64 (e : Int), .int .i64 S, s], .agg #[.string (bstr wd), .int .i64 (c : Int)], vx] w (GivesTx w unkT) := by
  have qw : ∀ w, (binOp .eql 9 (.string (bstr wd)) (.string ⟨#[102, 101, 101, 100]⟩)).run Tryz.prog w = .ok (.bool false) w := fun w => word_q (lit := wFeed) (decide_eq_false hw) w
  have q0 : ∀ w, (binOp .eql 55 (.agg #[.string (bstr wd), .int .i64 (c : Int)]) (.agg #[.string ⟨#[115, 104, 111, 119]⟩, .int .i64 0])).run Tryz.prog w = .ok (.bool false) w := isF_q h0
  have q1 : ∀ w, (binOp .eql 55 (.agg #[.string (bstr wd), .int .i64 (c : Int)]) (.agg #[.string ⟨#[114, 101, 115, 105, 115, 116]⟩, .int .i64 2])).run Tryz.prog w = .ok (.bool false) w := isF_q h1
  have q2 : ∀ w, (binOp .eql 55 (.agg #[.string (bstr wd), .int .i64 (c : Int)]) (.agg #[.string ⟨#[118, 111, 108, 116, 115]⟩, .int .i64 2])).run Tryz.prog w = .ok (.bool false) w := isF_q h2
  have q3 : ∀ w, (binOp .eql 55 (.agg #[.string (bstr wd), .int .i64 (c : Int)]) (.agg #[.string ⟨#[99, 117, 114, 114, 101, 110, 116]⟩, .int .i64 4])).run Tryz.prog w = .ok (.bool false) w := isF_q h3
  have q4 : ∀ w, (binOp .eql 55 (.agg #[.string (bstr wd), .int .i64 (c : Int)]) (.agg #[.string ⟨#[104, 105, 116]⟩, .int .i64 3])).run Tryz.prog w = .ok (.bool false) w := isF_q h4
  have q5 : ∀ w, (binOp .eql 55 (.agg #[.string (bstr wd), .int .i64 (c : Int)]) (.agg #[.string ⟨#[99, 111, 109, 109, 117, 116, 101]⟩, .int .i64 2])).run Tryz.prog w = .ok (.bool false) w := isF_q h5
  have q6 : ∀ w, (binOp .eql 55 (.agg #[.string (bstr wd), .int .i64 (c : Int)]) (.agg #[.string ⟨#[104, 105, 100, 100, 101, 110]⟩, .int .i64 0])).run Tryz.prog w = .ok (.bool false) w := isF_q h6
  have q7 : ∀ w, (binOp .eql 55 (.agg #[.string (bstr wd), .int .i64 (c : Int)]) (.agg #[.string ⟨#[98, 108, 105, 110, 100]⟩, .int .i64 0])).run Tryz.prog w = .ok (.bool false) w := isF_q h7
  have q8 : ∀ w, (binOp .eql 55 (.agg #[.string (bstr wd), .int .i64 (c : Int)]) (.agg #[.string ⟨#[108, 97, 100, 100, 101, 114]⟩, .int .i64 2])).run Tryz.prog w = .ok (.bool false) w := isF_q h8
  have q9 : ∀ w, (binOp .eql 55 (.agg #[.string (bstr wd), .int .i64 (c : Int)]) (.agg #[.string ⟨#[99, 117, 116]⟩, .int .i64 2])).run Tryz.prog w = .ok (.bool false) w := isF_q h9
  have tw : ((bstr wd).toList == [102, 101, 101, 100]) = false := by rw [bstr_list]; simpa [wFeed] using hw
  clear hw h0 h1 h2 h3 h4 h5 h6 h7 h8 h9
  obtain ⟨W0, hW0, NB0, g0⟩ := sh_start w n e S s (bstr wd) c
  go_enter Tryz.func24, Tryz.ntmps24
  go_upto_region 29 with fail
  rw [← hW0]
  clear hW0
  go_wp2_with fail
  go_ret
  exact ⟨rfl, g0⟩
theorem iShown (n e : Nat) (S : Int) (s vx : Value) (L : List Wr) (wd : List UInt8) (x : List Int) (w : World) (hs : SlF w s L.length 3 (flatW L)) (hB : netB n e S L.length (flatW L) = true) (hx : SlI w vx x) (hfd : wd = wFeed → x.length = e → fdOk e x) :
    Calls Tryz.prog 24 #[.agg #[.int .i64 (n : Int), .int .i64 (e : Int), .int .i64 S, s], .agg #[.string (bstr wd), .int .i64 (x.length : Int)], vx] w (GivesTx w (shR n e S L wd x)) := by
  unfold shR
  by_cases hw : wd = wFeed
  · subst hw
    rw [if_pos rfl]
    exact iShFeed n e S s vx L x w hs hB hx (hfd rfl)
  rw [if_neg hw]
  cases h0 : isF wd x.length wShow 0 with
  | true =>
    obtain ⟨rfl, hc⟩ := isF_t h0
    rw [if_pos rfl, hc]
    exact iShShow n e S s vx L w hs hB
  | false =>
    rw [if_neg (by simp)]
    cases h1 : isF wd x.length wResist 2 with
    | true =>
      obtain ⟨rfl, hc⟩ := isF_t h1
      rw [if_pos rfl, hc]
      exact iShResist n e S s vx L x w hs hB hx hc
    | false =>
      rw [if_neg (by simp)]
      cases h2 : isF wd x.length wVolts 2 with
      | true =>
        obtain ⟨rfl, hc⟩ := isF_t h2
        rw [if_pos rfl, hc]
        exact iShVolts n e S s vx L x w hs hB hx hc
      | false =>
        rw [if_neg (by simp)]
        cases h3 : isF wd x.length wCurrent 4 with
        | true =>
          obtain ⟨rfl, hc⟩ := isF_t h3
          rw [if_pos rfl, hc]
          exact iShCurrent n e S s vx L x w hs hB hx hc
        | false =>
          rw [if_neg (by simp)]
          cases h4 : isF wd x.length wHit 3 with
          | true =>
            obtain ⟨rfl, hc⟩ := isF_t h4
            rw [if_pos rfl, hc]
            exact iShHit n e S s vx L x w hs hB hx hc
          | false =>
            rw [if_neg (by simp)]
            cases h5 : isF wd x.length wCommute 2 with
            | true =>
              obtain ⟨rfl, hc⟩ := isF_t h5
              rw [if_pos rfl, hc]
              exact iShCommute n e S s vx L x w hs hB hx hc
            | false =>
              rw [if_neg (by simp)]
              cases h6 : isF wd x.length wHidden 0 with
              | true =>
                obtain ⟨rfl, hc⟩ := isF_t h6
                rw [if_pos rfl, hc]
                exact iShHidden n e S s vx L w hs hB
              | false =>
                rw [if_neg (by simp)]
                cases h7 : isF wd x.length wBlind 0 with
                | true =>
                  obtain ⟨rfl, hc⟩ := isF_t h7
                  rw [if_pos rfl, hc]
                  exact iShBlind n e S s vx L w hs hB
                | false =>
                  rw [if_neg (by simp)]
                  cases h8 : isF wd x.length wLadder 2 with
                  | true =>
                    obtain ⟨rfl, hc⟩ := isF_t h8
                    rw [if_pos rfl, hc]
                    exact iShLadder n e S s vx L x w hs hB hx hc
                  | false =>
                    rw [if_neg (by simp)]
                    cases h9 : isF wd x.length wCut 2 with
                    | true =>
                      obtain ⟨rfl, hc⟩ := isF_t h9
                      rw [if_pos rfl, hc]
                      exact iShCut n e S s vx L x w hs hB hx hc
                    | false =>
                      rw [if_neg (by simp)]
                      exact iShNone n e S s vx x.length wd w hw h0 h1 h2 h3 h4 h5 h6 h7 h8 h9
end Go.Proofs.YtagiecajffhnpaaGreat

namespace Go.Proofs.YtagiecajffhnpaaGreat
set_option maxRecDepth 100000
open Go.ChangeShapes Go.WideShapes Go.ChangeAt Go.RowKit Go.Joins

/-- The network behind a line, and what the line shows. -/
def GivesRun (w : World) (o : Nt × List UInt8) (r : Ending) (w' : World) : Prop :=
  ∃ u, r = .returned (.tuple #[.agg #[.int .i64 o.1.nodes, .int .i64 o.1.ends, .int .i64 o.1.scale, u], .string (bstr o.2)]) ∧ w'.ownsRow w.heap.size 45 3 u o.1.wires.length (icells (flatW o.1.wires)) ∧ Ge w w'
theorem run_end {w wr : World} {n e S : Int} {L : List Wr} {u : Value} {t : List UInt8} (ho : wr.ownsRow (w.heap.size + 2) 45 3 u L.length (icells (flatW L))) (hg : Ge w wr) :
    GivesRun w (⟨n, e, S, L⟩, t) (.returned (.tuple #[.agg #[.int .i64 n, .int .i64 e, .int .i64 S, u], .string (bstr t)])) ((((wr.setCell ⟨w.heap.size + 1, 0, none⟩ (.int .i64 n)).setCell ⟨w.heap.size + 1, 1, none⟩ (.int .i64 e)).setCell ⟨w.heap.size + 1, 2, none⟩ (.int .i64 S)).setCell ⟨w.heap.size + 1, 3, none⟩ u) :=
  ⟨u, rfl, owns_mono (own_setD (own_setD (own_setD (own_setD ho (by omega)) (by omega)) (by omega)) (by omega)) (by omega), set4_ge hg (by omega)⟩
/-- The network in its box, and the result's box. -/
def RunAt (w wr : World) (n e S : Int) (L : List Wr) (u : Value) : Prop :=
  NetIn wr w.heap.size n e S u ∧ ResD wr (w.heap.size + 1) ∧ wr.ownsRow (w.heap.size + 2) 45 3 u L.length (icells (flatW L)) ∧ Ge w wr
theorem RunAt.ge {w wr W : World} {n e S : Int} {L : List Wr} {u : Value} (h : RunAt w wr n e S L u) (hg : Ge wr W) : RunAt w W n e S L u :=
  ⟨h.1.ge hg, h.2.1.ge hg, hg.owns h.2.2.1, h.2.2.2.trans hg⟩
theorem tail_of {w : World} {base g cap : Nat} {e : TypeId} {l : List (List UInt8)} (h : w.ownsRow base e 1 (.slice (some ⟨g, 0, none⟩) l.length cap) l.length (scells l)) (h0 : 0 < l.length) {v : Value}
    (hv : v = .slice (some ⟨g, 1, none⟩) (l.length - 1) (cap - 1) ∨ (cap = 1 ∧ v = .slice (some ⟨g, 0, none⟩) (l.length - 1) (cap - 1))) : SlS w v l.tail := by
  have hlt : (scells l.tail).length = l.length - 1 := by rw [scells_length, List.length_tail]
  rcases hv with rfl | ⟨hc, rfl⟩
  · refine ⟨by rw [hlt, List.length_tail]; omega, some ⟨g, 1, none⟩, cap - 1, by rw [List.length_tail], fun i u hu => ⟨g, 1, rfl, ?_⟩⟩
    have hi := (List.getElem?_eq_some_iff.1 hu).1
    rw [hlt] at hi
    rw [Nat.add_comm 1 i, h.cellAt (i + 1) (by omega)]
    rw [← hu]
    cases l with
    | nil => simp at h0
    | cons a l => simp [scells]
  · have := cap_of h _ _ rfl
    refine ⟨by rw [hlt, List.length_tail]; omega, some ⟨g, 0, none⟩, cap - 1, by rw [List.length_tail], fun i u hu => ?_⟩
    have hi := (List.getElem?_eq_some_iff.1 hu).1
    rw [hlt] at hi
    omega
theorem cutP (x : List UInt8) (w : World) : Calls Tryz.prog 19 #[.string (bstr x), .string ⟨#[110, 101, 116, 32]⟩] w fun e w' => e = .returned (.tuple #[.string (bstr (Lib.trimPrefix x netW)), .bool (Lib.hasPrefix x netW)]) ∧ w = w' :=
  (Tryz.strings_CutPrefix (bstr x) ⟨#[110, 101, 116, 32]⟩ w).mono fun e w' ⟨he, hw⟩ => ⟨by rw [he, bstr_data]; rfl, hw.symm⟩
theorem trimP_le (x : List UInt8) : (Lib.trimPrefix x netW).length ≤ x.length := by
  unfold Lib.trimPrefix
  split
  · simp
  · omega
set_option maxHeartbeats 1600000 in
theorem iRunEmpty (n e : Nat) (S : Int) (L : List Wr) (s : Value) (ln : List UInt8) (w : World) (hs : SlF w s L.length 3 (flatW L)) (hB : netB n e S L.length (flatW L) = true) (hln : ln.length ≤ 1000) (h0 : ln = []) :
    Calls Tryz.prog 11 #[.agg #[.int .i64 (n : Int), .int .i64 (e : Int), .int .i64 S, s], .string (bstr ln)] w (GivesRun w (⟨n, e, S, L⟩, [])) := by
  obtain ⟨⟨h1, h5⟩, ⟨e1, e2⟩, _, hok, _⟩ := netP_of hB
  have hm : L.length ≤ 10 := prs_len (by omega) hok
  have HV := Lib.hid hs
  obtain ⟨p, cap, rfl, _⟩ := hs.open
  have HCp := Lib.hid (fun w' (g : Ge w w') => iCopyNet n e S (.slice p L.length cap) L.length (flatW L) w' (HV.out.ge g) (by omega))
  subst h0
  have q0 := empty_t
  obtain ⟨NB0, R0⟩ := in_res w n e S (.slice p L.length cap)
  have RB0 : ResD ((w.alloc (.cells #[.int .i64 (n : Int), .int .i64 (e : Int), .int .i64 S, .slice p L.length cap] 33)).alloc (.cells #[.int .i64 0, .int .i64 0, .int .i64 0, .slice none 0 0] 33)) w.heap.size := (ResD.new w _ _ _ _ _).ge (Ge.alloc (Ge.refl _) _)
  go_enter Tryz.func11, Tryz.ntmps11
  go_upto_region 2 with (go_at_call 18; ((with_reducible refine (HCp.out _ (Ge.alloc (Ge.alloc (Ge.refl _) _) _)).mono ?_); rintro r w2 ⟨u2, rfl, o2, g2⟩); have R2 := R0.ge g2; have RB2 := RB0.ge g2; obtain ⟨r0, p0, f0⟩ := RB2 0 (by omega); obtain ⟨r1, p1, f1⟩ := RB2 1 (by omega); obtain ⟨r2, p2, f2⟩ := RB2 2 (by omega); obtain ⟨r3, p3, f3⟩ := RB2 3 (by omega); obtain ⟨pu, cu, rfl⟩ := owns_form o2)
  have HO2 : w2.ownsRow (w.heap.size + 2) 45 3 (.slice pu L.length cu) L.length (icells (flatW L)) := owns_mono o2 (by simp)
  have gw2 : Ge w w2 := Ge.trans (Ge.alloc (Ge.alloc (Ge.refl _) _) _) g2
  have hRA : RunAt w ((((w2.setCell ⟨w.heap.size, 0, none⟩ (.int .i64 (n : Int))).setCell ⟨w.heap.size, 1, none⟩ (.int .i64 (e : Int))).setCell ⟨w.heap.size, 2, none⟩ (.int .i64 S)).setCell ⟨w.heap.size, 3, none⟩ (.slice pu L.length cu)) n e S L (.slice pu L.length cu) :=
    ⟨⟨cell_set2 (by simp) (cell_set2 (by simp) (cell_set2 (by simp) (World.cell?_setCell_same _ _ _ p0))), cell_set2 (by simp) (cell_set2 (by simp) (World.cell?_setCell_same _ _ _ (cell_set2 (by simp) p1))), cell_set2 (by simp) (World.cell?_setCell_same _ _ _ (cell_set2 (by simp) (cell_set2 (by simp) p2))), World.cell?_setCell_same _ _ _ (cell_set2 (by simp) (cell_set2 (by simp) (cell_set2 (by simp) p3)))⟩,
      ResD.setO (ResD.setO (ResD.setO (ResD.setO R2 (by omega)) (by omega)) (by omega)) (by omega), own_setD (own_setD (own_setD (own_setD HO2 (by omega)) (by omega)) (by omega)) (by omega), set4_ge gw2 (Nat.le_refl _)⟩
  generalize ((((w2.setCell ⟨w.heap.size, 0, none⟩ (.int .i64 (n : Int))).setCell ⟨w.heap.size, 1, none⟩ (.int .i64 (e : Int))).setCell ⟨w.heap.size, 2, none⟩ (.int .i64 S)).setCell ⟨w.heap.size, 3, none⟩ (.slice pu L.length cu)) = W0 at *
  have HRA := Lib.hid hRA
  clear hRA HO2 gw2 p0 p1 p2 p3 f0 f1 f2 f3 RB2 R2 RB0 R0 NB0 HCp g2 o2
  obtain ⟨⟨b0, b1, b2, b3⟩, RS, _, g0⟩ := HRA.out
  obtain ⟨r4, p4, f4⟩ := RS 0 (by omega)
  obtain ⟨r5, p5, f5⟩ := RS 1 (by omega)
  obtain ⟨r6, p6, f6⟩ := RS 2 (by omega)
  obtain ⟨r7, p7, f7⟩ := RS 3 (by omega)
  have hmm : Hid (L.length = L.length) := rfl
  go_wp2_with fail
  exact bodyPost_ret (v := .tuple #[.agg #[.int .i64 (n : Int), .int .i64 (e : Int), .int .i64 S, .slice pu L.length cu], .string (bstr [])]) (by simp [results, Tryz.results11, go_sem, *]; rfl) rfl (run_end HRA.out.2.2.1 g0)
set_option maxHeartbeats 1600000 in
theorem iRunSharp (n e : Nat) (S : Int) (L : List Wr) (s : Value) (ln : List UInt8) (w : World) (hs : SlF w s L.length 3 (flatW L)) (hB : netB n e S L.length (flatW L) = true) (hln : ln.length ≤ 1000) (h0 : ¬ ln = []) (hc : bnth ln 0 = 35) :
    Calls Tryz.prog 11 #[.agg #[.int .i64 (n : Int), .int .i64 (e : Int), .int .i64 S, s], .string (bstr ln)] w (GivesRun w (⟨n, e, S, L⟩, [])) := by
  obtain ⟨⟨h1, h5⟩, ⟨e1, e2⟩, _, hok, _⟩ := netP_of hB
  have hm : L.length ≤ 10 := prs_len (by omega) hok
  have HV := Lib.hid hs
  obtain ⟨p, cap, rfl, _⟩ := hs.open
  have HCp := Lib.hid (fun w' (g : Ge w w') => iCopyNet n e S (.slice p L.length cap) L.length (flatW L) w' (HV.out.ge g) (by omega))
  have hpos : 0 < ln.length := by cases ln with | nil => exact absurd rfl h0 | cons => simp
  have hsz : (bstr ln).size = ln.length := bstr_size ln
  have q0 := empty_f h0
  have hx : ∀ h, (bstr ln)[0]'h = 35 := fun h => (bstr_at ln 0 h).trans hc
  obtain ⟨NB0, R0⟩ := in_res w n e S (.slice p L.length cap)
  have RB0 : ResD ((w.alloc (.cells #[.int .i64 (n : Int), .int .i64 (e : Int), .int .i64 S, .slice p L.length cap] 33)).alloc (.cells #[.int .i64 0, .int .i64 0, .int .i64 0, .slice none 0 0] 33)) w.heap.size := (ResD.new w _ _ _ _ _).ge (Ge.alloc (Ge.refl _) _)
  go_enter Tryz.func11, Tryz.ntmps11
  go_upto_region 2 with (go_at_call 18; ((with_reducible refine (HCp.out _ (Ge.alloc (Ge.alloc (Ge.refl _) _) _)).mono ?_); rintro r w2 ⟨u2, rfl, o2, g2⟩); have R2 := R0.ge g2; have RB2 := RB0.ge g2; obtain ⟨r0, p0, f0⟩ := RB2 0 (by omega); obtain ⟨r1, p1, f1⟩ := RB2 1 (by omega); obtain ⟨r2, p2, f2⟩ := RB2 2 (by omega); obtain ⟨r3, p3, f3⟩ := RB2 3 (by omega); obtain ⟨pu, cu, rfl⟩ := owns_form o2)
  have HO2 : w2.ownsRow (w.heap.size + 2) 45 3 (.slice pu L.length cu) L.length (icells (flatW L)) := owns_mono o2 (by simp)
  have gw2 : Ge w w2 := Ge.trans (Ge.alloc (Ge.alloc (Ge.refl _) _) _) g2
  have hRA : RunAt w ((((w2.setCell ⟨w.heap.size, 0, none⟩ (.int .i64 (n : Int))).setCell ⟨w.heap.size, 1, none⟩ (.int .i64 (e : Int))).setCell ⟨w.heap.size, 2, none⟩ (.int .i64 S)).setCell ⟨w.heap.size, 3, none⟩ (.slice pu L.length cu)) n e S L (.slice pu L.length cu) :=
    ⟨⟨cell_set2 (by simp) (cell_set2 (by simp) (cell_set2 (by simp) (World.cell?_setCell_same _ _ _ p0))), cell_set2 (by simp) (cell_set2 (by simp) (World.cell?_setCell_same _ _ _ (cell_set2 (by simp) p1))), cell_set2 (by simp) (World.cell?_setCell_same _ _ _ (cell_set2 (by simp) (cell_set2 (by simp) p2))), World.cell?_setCell_same _ _ _ (cell_set2 (by simp) (cell_set2 (by simp) (cell_set2 (by simp) p3)))⟩,
      ResD.setO (ResD.setO (ResD.setO (ResD.setO R2 (by omega)) (by omega)) (by omega)) (by omega), own_setD (own_setD (own_setD (own_setD HO2 (by omega)) (by omega)) (by omega)) (by omega), set4_ge gw2 (Nat.le_refl _)⟩
  generalize ((((w2.setCell ⟨w.heap.size, 0, none⟩ (.int .i64 (n : Int))).setCell ⟨w.heap.size, 1, none⟩ (.int .i64 (e : Int))).setCell ⟨w.heap.size, 2, none⟩ (.int .i64 S)).setCell ⟨w.heap.size, 3, none⟩ (.slice pu L.length cu)) = W0 at *
  have HRA := Lib.hid hRA
  clear hRA HO2 gw2 p0 p1 p2 p3 f0 f1 f2 f3 RB2 R2 RB0 R0 NB0 HCp g2 o2
  obtain ⟨⟨b0, b1, b2, b3⟩, RS, _, g0⟩ := HRA.out
  obtain ⟨r4, p4, f4⟩ := RS 0 (by omega)
  obtain ⟨r5, p5, f5⟩ := RS 1 (by omega)
  obtain ⟨r6, p6, f6⟩ := RS 2 (by omega)
  obtain ⟨r7, p7, f7⟩ := RS 3 (by omega)
  go_wp2_with fail
  exact bodyPost_ret (v := .tuple #[.agg #[.int .i64 (n : Int), .int .i64 (e : Int), .int .i64 S, .slice pu L.length cu], .string (bstr [])]) (by simp [results, Tryz.results11, go_sem, *]; rfl) rfl (run_end HRA.out.2.2.1 g0)
set_option maxHeartbeats 1600000 in
theorem iRunNetF (n e : Nat) (S : Int) (L : List Wr) (s : Value) (ln : List UInt8) (w : World) (hs : SlF w s L.length 3 (flatW L)) (hB : netB n e S L.length (flatW L) = true) (hln : ln.length ≤ 1000) (h0 : ¬ ln = []) (hc : ¬ bnth ln 0 = 35) (hp : Lib.hasPrefix ln netW = true) (hb : pnB (hdI (Lib.trimPrefix ln netW)) (Lib.trimPrefix ln netW) = false) :
    Calls Tryz.prog 11 #[.agg #[.int .i64 (n : Int), .int .i64 (e : Int), .int .i64 S, s], .string (bstr ln)] w (GivesRun w (⟨n, e, S, L⟩, unkT)) := by
  obtain ⟨⟨h1, h5⟩, ⟨e1, e2⟩, _, hok, _⟩ := netP_of hB
  have hm : L.length ≤ 10 := prs_len (by omega) hok
  have HV := Lib.hid hs
  obtain ⟨p, cap, rfl, _⟩ := hs.open
  have HCp := Lib.hid (fun w' (g : Ge w w') => iCopyNet n e S (.slice p L.length cap) L.length (flatW L) w' (HV.out.ge g) (by omega))
  have hpos : 0 < ln.length := by cases ln with | nil => exact absurd rfl h0 | cons => simp
  have hsz : (bstr ln).size = ln.length := bstr_size ln
  have q0 := empty_f h0
  have hx : ∀ h, (bstr ln)[0]'h = bnth ln 0 := fun h => bstr_at ln 0 h
  have tc : decide (((bnth ln 0).toNat : Int) = 35) = false := by
    rw [decide_eq_false_iff_not]
    intro hh
    exact hc (by apply UInt8.toNat.inj; have : (35 : UInt8).toNat = 35 := rfl; omega)
  have tc2 : (((bnth ln 0).toNat : Int) == 35) = false := tc
  generalize bnth ln 0 = c0 at *
  have HCu := Lib.hid (fun w' => cutP ln w')
  rw [hp] at HCu
  have HPn := Lib.hid (fun w' => iParseNet (Lib.trimPrefix ln netW) w' (by have := trimP_le ln; omega))
  rw [hb] at HPn
  clear hp hb
  generalize pnN (Lib.trimPrefix ln netW) = Z at *
  generalize Lib.trimPrefix ln netW = TP at *
  obtain ⟨NB0, R0⟩ := in_res w n e S (.slice p L.length cap)
  have RB0 : ResD ((w.alloc (.cells #[.int .i64 (n : Int), .int .i64 (e : Int), .int .i64 S, .slice p L.length cap] 33)).alloc (.cells #[.int .i64 0, .int .i64 0, .int .i64 0, .slice none 0 0] 33)) w.heap.size := (ResD.new w _ _ _ _ _).ge (Ge.alloc (Ge.refl _) _)
  go_enter Tryz.func11, Tryz.ntmps11
  go_upto_region 2 with (go_at_call 18; ((with_reducible refine (HCp.out _ (Ge.alloc (Ge.alloc (Ge.refl _) _) _)).mono ?_); rintro r w2 ⟨u2, rfl, o2, g2⟩); have R2 := R0.ge g2; have RB2 := RB0.ge g2; obtain ⟨r0, p0, f0⟩ := RB2 0 (by omega); obtain ⟨r1, p1, f1⟩ := RB2 1 (by omega); obtain ⟨r2, p2, f2⟩ := RB2 2 (by omega); obtain ⟨r3, p3, f3⟩ := RB2 3 (by omega); obtain ⟨pu, cu, rfl⟩ := owns_form o2)
  have HO2 : w2.ownsRow (w.heap.size + 2) 45 3 (.slice pu L.length cu) L.length (icells (flatW L)) := owns_mono o2 (by simp)
  have gw2 : Ge w w2 := Ge.trans (Ge.alloc (Ge.alloc (Ge.refl _) _) _) g2
  have hRA : RunAt w ((((w2.setCell ⟨w.heap.size, 0, none⟩ (.int .i64 (n : Int))).setCell ⟨w.heap.size, 1, none⟩ (.int .i64 (e : Int))).setCell ⟨w.heap.size, 2, none⟩ (.int .i64 S)).setCell ⟨w.heap.size, 3, none⟩ (.slice pu L.length cu)) n e S L (.slice pu L.length cu) :=
    ⟨⟨cell_set2 (by simp) (cell_set2 (by simp) (cell_set2 (by simp) (World.cell?_setCell_same _ _ _ p0))), cell_set2 (by simp) (cell_set2 (by simp) (World.cell?_setCell_same _ _ _ (cell_set2 (by simp) p1))), cell_set2 (by simp) (World.cell?_setCell_same _ _ _ (cell_set2 (by simp) (cell_set2 (by simp) p2))), World.cell?_setCell_same _ _ _ (cell_set2 (by simp) (cell_set2 (by simp) (cell_set2 (by simp) p3)))⟩,
      ResD.setO (ResD.setO (ResD.setO (ResD.setO R2 (by omega)) (by omega)) (by omega)) (by omega), own_setD (own_setD (own_setD (own_setD HO2 (by omega)) (by omega)) (by omega)) (by omega), set4_ge gw2 (Nat.le_refl _)⟩
  generalize ((((w2.setCell ⟨w.heap.size, 0, none⟩ (.int .i64 (n : Int))).setCell ⟨w.heap.size, 1, none⟩ (.int .i64 (e : Int))).setCell ⟨w.heap.size, 2, none⟩ (.int .i64 S)).setCell ⟨w.heap.size, 3, none⟩ (.slice pu L.length cu)) = W0 at *
  have HRA := Lib.hid hRA
  clear hRA HO2 gw2 p0 p1 p2 p3 f0 f1 f2 f3 RB2 R2 RB0 R0 NB0 HCp g2 o2
  obtain ⟨⟨b0, b1, b2, b3⟩, RS, _, g0⟩ := HRA.out
  go_upto_region 8 with (first
    | ((go_at_call 19; ((with_reducible refine (HCu.out _).mono ?_); rintro r w' ⟨rfl, rfl⟩)))
    | (go_at_call 20; ((with_reducible refine (HPn.out _).mono ?_); rintro r w9 ⟨u9, rfl, o9, g9⟩); obtain ⟨pz, cz, rfl⟩ := owns_form o9; clear o9))
  obtain ⟨⟨b0, b1, b2, b3⟩, RS, HO, g1⟩ := HRA.out.ge (Ge.alloc g9 (.cells #[.int .i64 Z.nodes, .int .i64 Z.ends, .int .i64 Z.scale, .slice pz Z.wires.length cz] 33))
  obtain ⟨r4, p4, f4⟩ := RS 0 (by omega)
  obtain ⟨r5, p5, f5⟩ := RS 1 (by omega)
  obtain ⟨r6, p6, f6⟩ := RS 2 (by omega)
  obtain ⟨r7, p7, f7⟩ := RS 3 (by omega)
  go_wp2_with fail
  exact bodyPost_ret (v := .tuple #[.agg #[.int .i64 (n : Int), .int .i64 (e : Int), .int .i64 S, .slice pu L.length cu], .string (bstr unkT)]) (by simp [results, Tryz.results11, go_sem, *]; rfl) rfl (run_end HO g1)
set_option maxHeartbeats 1600000 in
theorem iRunNetT (n e : Nat) (S : Int) (L : List Wr) (s : Value) (ln : List UInt8) (w : World) (hs : SlF w s L.length 3 (flatW L)) (hB : netB n e S L.length (flatW L) = true) (hln : ln.length ≤ 1000) (h0 : ¬ ln = []) (hc : ¬ bnth ln 0 = 35) (hp : Lib.hasPrefix ln netW = true) (hb : pnB (hdI (Lib.trimPrefix ln netW)) (Lib.trimPrefix ln netW) = true) :
    Calls Tryz.prog 11 #[.agg #[.int .i64 (n : Int), .int .i64 (e : Int), .int .i64 S, s], .string (bstr ln)] w (GivesRun w (pnN (Lib.trimPrefix ln netW), [111, 107])) := by
  obtain ⟨⟨h1, h5⟩, ⟨e1, e2⟩, _, hok, _⟩ := netP_of hB
  have hm : L.length ≤ 10 := prs_len (by omega) hok
  have HV := Lib.hid hs
  obtain ⟨p, cap, rfl, _⟩ := hs.open
  have HCp := Lib.hid (fun w' (g : Ge w w') => iCopyNet n e S (.slice p L.length cap) L.length (flatW L) w' (HV.out.ge g) (by omega))
  have hpos : 0 < ln.length := by cases ln with | nil => exact absurd rfl h0 | cons => simp
  have hsz : (bstr ln).size = ln.length := bstr_size ln
  have q0 := empty_f h0
  have hx : ∀ h, (bstr ln)[0]'h = bnth ln 0 := fun h => bstr_at ln 0 h
  have tc : decide (((bnth ln 0).toNat : Int) = 35) = false := by
    rw [decide_eq_false_iff_not]
    intro hh
    exact hc (by apply UInt8.toNat.inj; have : (35 : UInt8).toNat = 35 := rfl; omega)
  have tc2 : (((bnth ln 0).toNat : Int) == 35) = false := tc
  generalize bnth ln 0 = c0 at *
  have HCu := Lib.hid (fun w' => cutP ln w')
  rw [hp] at HCu
  have HPn := Lib.hid (fun w' => iParseNet (Lib.trimPrefix ln netW) w' (by have := trimP_le ln; omega))
  rw [hb] at HPn
  clear hp hb
  generalize pnN (Lib.trimPrefix ln netW) = Z at *
  generalize Lib.trimPrefix ln netW = TP at *
  obtain ⟨NB0, R0⟩ := in_res w n e S (.slice p L.length cap)
  have RB0 : ResD ((w.alloc (.cells #[.int .i64 (n : Int), .int .i64 (e : Int), .int .i64 S, .slice p L.length cap] 33)).alloc (.cells #[.int .i64 0, .int .i64 0, .int .i64 0, .slice none 0 0] 33)) w.heap.size := (ResD.new w _ _ _ _ _).ge (Ge.alloc (Ge.refl _) _)
  go_enter Tryz.func11, Tryz.ntmps11
  go_upto_region 2 with (go_at_call 18; ((with_reducible refine (HCp.out _ (Ge.alloc (Ge.alloc (Ge.refl _) _) _)).mono ?_); rintro r w2 ⟨u2, rfl, o2, g2⟩); have R2 := R0.ge g2; have RB2 := RB0.ge g2; obtain ⟨r0, p0, f0⟩ := RB2 0 (by omega); obtain ⟨r1, p1, f1⟩ := RB2 1 (by omega); obtain ⟨r2, p2, f2⟩ := RB2 2 (by omega); obtain ⟨r3, p3, f3⟩ := RB2 3 (by omega); obtain ⟨pu, cu, rfl⟩ := owns_form o2)
  have HO2 : w2.ownsRow (w.heap.size + 2) 45 3 (.slice pu L.length cu) L.length (icells (flatW L)) := owns_mono o2 (by simp)
  have gw2 : Ge w w2 := Ge.trans (Ge.alloc (Ge.alloc (Ge.refl _) _) _) g2
  have hRA : RunAt w ((((w2.setCell ⟨w.heap.size, 0, none⟩ (.int .i64 (n : Int))).setCell ⟨w.heap.size, 1, none⟩ (.int .i64 (e : Int))).setCell ⟨w.heap.size, 2, none⟩ (.int .i64 S)).setCell ⟨w.heap.size, 3, none⟩ (.slice pu L.length cu)) n e S L (.slice pu L.length cu) :=
    ⟨⟨cell_set2 (by simp) (cell_set2 (by simp) (cell_set2 (by simp) (World.cell?_setCell_same _ _ _ p0))), cell_set2 (by simp) (cell_set2 (by simp) (World.cell?_setCell_same _ _ _ (cell_set2 (by simp) p1))), cell_set2 (by simp) (World.cell?_setCell_same _ _ _ (cell_set2 (by simp) (cell_set2 (by simp) p2))), World.cell?_setCell_same _ _ _ (cell_set2 (by simp) (cell_set2 (by simp) (cell_set2 (by simp) p3)))⟩,
      ResD.setO (ResD.setO (ResD.setO (ResD.setO R2 (by omega)) (by omega)) (by omega)) (by omega), own_setD (own_setD (own_setD (own_setD HO2 (by omega)) (by omega)) (by omega)) (by omega), set4_ge gw2 (Nat.le_refl _)⟩
  generalize ((((w2.setCell ⟨w.heap.size, 0, none⟩ (.int .i64 (n : Int))).setCell ⟨w.heap.size, 1, none⟩ (.int .i64 (e : Int))).setCell ⟨w.heap.size, 2, none⟩ (.int .i64 S)).setCell ⟨w.heap.size, 3, none⟩ (.slice pu L.length cu)) = W0 at *
  have HRA := Lib.hid hRA
  clear hRA HO2 gw2 p0 p1 p2 p3 f0 f1 f2 f3 RB2 R2 RB0 R0 NB0 HCp g2 o2
  obtain ⟨⟨b0, b1, b2, b3⟩, RS, _, g0⟩ := HRA.out
  go_upto_region 9 with (first
    | ((go_at_call 19; ((with_reducible refine (HCu.out _).mono ?_); rintro r w' ⟨rfl, rfl⟩)))
    | (go_at_call 20; ((with_reducible refine (HPn.out _).mono ?_); rintro r w9 ⟨u9, rfl, o9, g9⟩); obtain ⟨pz, cz, rfl⟩ := owns_form o9))
  have gA := Ge.alloc g9 (.cells #[.int .i64 Z.nodes, .int .i64 Z.ends, .int .i64 Z.scale, .slice pz Z.wires.length cz] 33)
  obtain ⟨⟨b0, b1, b2, b3⟩, RS, _, g1⟩ := HRA.out.ge gA
  have HO := Ge.owns (Ge.alloc (Ge.refl w9) (.cells #[.int .i64 Z.nodes, .int .i64 Z.ends, .int .i64 Z.scale, .slice pz Z.wires.length cz] 33)) o9
  have zb : w.heap.size + 1 < W0.heap.size := by obtain ⟨u, hu, _⟩ := HRA.out.2.1 0 (by omega); exact World.block_lt_of_cell? _ _ hu
  obtain ⟨r4, p4, f4⟩ := RS 0 (by omega)
  obtain ⟨r5, p5, f5⟩ := RS 1 (by omega)
  obtain ⟨r6, p6, f6⟩ := RS 2 (by omega)
  obtain ⟨r7, p7, f7⟩ := RS 3 (by omega)
  go_wp2_with fail
  exact bodyPost_ret (v := .tuple #[.agg #[.int .i64 Z.nodes, .int .i64 Z.ends, .int .i64 Z.scale, .slice pz Z.wires.length cz], .string (bstr [111, 107])]) (by simp [results, Tryz.results11, go_sem, *]; rfl) rfl (run_end (n := Z.nodes) (e := Z.ends) (S := Z.scale) (L := Z.wires) (owns_mono HO (by omega)) g1)
set_option maxHeartbeats 1600000 in
theorem iRunIntsF (n e : Nat) (S : Int) (L : List Wr) (s : Value) (ln : List UInt8) (w : World) (hs : SlF w s L.length 3 (flatW L)) (hB : netB n e S L.length (flatW L) = true) (hln : ln.length ≤ 1000) (h0 : ¬ ln = []) (hc : ¬ bnth ln 0 = 35) (hp : Lib.hasPrefix ln netW = false) (hA : allB (pieces [32] ln).tail = false) :
    Calls Tryz.prog 11 #[.agg #[.int .i64 (n : Int), .int .i64 (e : Int), .int .i64 S, s], .string (bstr ln)] w (GivesRun w (⟨n, e, S, L⟩, unkT)) := by
  obtain ⟨⟨h1, h5⟩, ⟨e1, e2⟩, _, hok, _⟩ := netP_of hB
  have hm : L.length ≤ 10 := prs_len (by omega) hok
  have HV := Lib.hid hs
  obtain ⟨p, cap, rfl, _⟩ := hs.open
  have HCp := Lib.hid (fun w' (g : Ge w w') => iCopyNet n e S (.slice p L.length cap) L.length (flatW L) w' (HV.out.ge g) (by omega))
  have hpos : 0 < ln.length := by cases ln with | nil => exact absurd rfl h0 | cons => simp
  have hsz : (bstr ln).size = ln.length := bstr_size ln
  have q0 := empty_f h0
  have hx : ∀ h, (bstr ln)[0]'h = bnth ln 0 := fun h => bstr_at ln 0 h
  have tc : decide (((bnth ln 0).toNat : Int) = 35) = false := by
    rw [decide_eq_false_iff_not]
    intro hh
    exact hc (by apply UInt8.toNat.inj; have : (35 : UInt8).toNat = 35 := rfl; omega)
  have tc2 : (((bnth ln 0).toNat : Int) == 35) = false := tc
  generalize bnth ln 0 = c0 at *
  have HCu := Lib.hid (fun w' => cutP ln w')
  rw [hp] at HCu
  have HSp : Hid (∀ w, Calls Tryz.prog 15 #[.string (bstr ln), .string ⟨#[32]⟩] w (GivesS w (pieces [32] ln))) := fun w => iSplitAny ln [32] w (by omega)
  have hN0 : 0 < (pieces [32] ln).length := by unfold pieces; simp
  have hN1 := pieces_len [32] ln
  have HIn := Lib.hid (fun v w' (h : SlS w' v (pieces [32] ln).tail) => iInts v (pieces [32] ln).tail w' h (by rw [List.length_tail]; omega) (fun x hx => by have := pieces_le x (List.mem_of_mem_tail hx); omega))
  unfold GivesN at HIn
  rw [hA] at HIn
  clear hp hA
  generalize pieces [32] ln = l at *
  obtain ⟨NB0, R0⟩ := in_res w n e S (.slice p L.length cap)
  have RB0 : ResD ((w.alloc (.cells #[.int .i64 (n : Int), .int .i64 (e : Int), .int .i64 S, .slice p L.length cap] 33)).alloc (.cells #[.int .i64 0, .int .i64 0, .int .i64 0, .slice none 0 0] 33)) w.heap.size := (ResD.new w _ _ _ _ _).ge (Ge.alloc (Ge.refl _) _)
  go_enter Tryz.func11, Tryz.ntmps11
  go_upto_region 2 with (go_at_call 18; ((with_reducible refine (HCp.out _ (Ge.alloc (Ge.alloc (Ge.refl _) _) _)).mono ?_); rintro r w2 ⟨u2, rfl, o2, g2⟩); have R2 := R0.ge g2; have RB2 := RB0.ge g2; obtain ⟨r0, p0, f0⟩ := RB2 0 (by omega); obtain ⟨r1, p1, f1⟩ := RB2 1 (by omega); obtain ⟨r2, p2, f2⟩ := RB2 2 (by omega); obtain ⟨r3, p3, f3⟩ := RB2 3 (by omega); obtain ⟨pu, cu, rfl⟩ := owns_form o2)
  have HO2 : w2.ownsRow (w.heap.size + 2) 45 3 (.slice pu L.length cu) L.length (icells (flatW L)) := owns_mono o2 (by simp)
  have gw2 : Ge w w2 := Ge.trans (Ge.alloc (Ge.alloc (Ge.refl _) _) _) g2
  have hRA : RunAt w ((((w2.setCell ⟨w.heap.size, 0, none⟩ (.int .i64 (n : Int))).setCell ⟨w.heap.size, 1, none⟩ (.int .i64 (e : Int))).setCell ⟨w.heap.size, 2, none⟩ (.int .i64 S)).setCell ⟨w.heap.size, 3, none⟩ (.slice pu L.length cu)) n e S L (.slice pu L.length cu) :=
    ⟨⟨cell_set2 (by simp) (cell_set2 (by simp) (cell_set2 (by simp) (World.cell?_setCell_same _ _ _ p0))), cell_set2 (by simp) (cell_set2 (by simp) (World.cell?_setCell_same _ _ _ (cell_set2 (by simp) p1))), cell_set2 (by simp) (World.cell?_setCell_same _ _ _ (cell_set2 (by simp) (cell_set2 (by simp) p2))), World.cell?_setCell_same _ _ _ (cell_set2 (by simp) (cell_set2 (by simp) (cell_set2 (by simp) p3)))⟩,
      ResD.setO (ResD.setO (ResD.setO (ResD.setO R2 (by omega)) (by omega)) (by omega)) (by omega), own_setD (own_setD (own_setD (own_setD HO2 (by omega)) (by omega)) (by omega)) (by omega), set4_ge gw2 (Nat.le_refl _)⟩
  generalize ((((w2.setCell ⟨w.heap.size, 0, none⟩ (.int .i64 (n : Int))).setCell ⟨w.heap.size, 1, none⟩ (.int .i64 (e : Int))).setCell ⟨w.heap.size, 2, none⟩ (.int .i64 S)).setCell ⟨w.heap.size, 3, none⟩ (.slice pu L.length cu)) = W0 at *
  have HRA := Lib.hid hRA
  clear hRA HO2 gw2 p0 p1 p2 p3 f0 f1 f2 f3 RB2 R2 RB0 R0 NB0 HCp g2 o2
  obtain ⟨⟨b0, b1, b2, b3⟩, RS, _, g0⟩ := HRA.out
  go_upto_region 11 with (first
    | ((go_at_call 19; ((with_reducible refine (HCu.out _).mono ?_); rintro r w' ⟨rfl, rfl⟩)))
    | (go_at_call 15; ((with_reducible refine (HSp.out _).mono ?_); rintro r w9 ⟨u9, rfl, o9, g9⟩); have HL9 := Lib.hid o9; obtain ⟨gl, cl, rfl⟩ := Go.Joins.ownsRow_form o9 hN0; have y0 := own_strP o9 hN0; clear o9))
  have HRB := Lib.hid (HRA.out.ge g9)
  have hTl : Hid (∀ v, (v = .slice (some ⟨gl, 1, none⟩) (l.length - 1) (cl - 1) ∨ (cl = 1 ∧ v = .slice (some ⟨gl, 0, none⟩) (l.length - 1) (cl - 1))) → SlS w9 v l.tail) := fun v hv => tail_of HL9.out hN0 hv
  have hcl : 1 ≤ cl := by
    have := cap_of HL9.out _ _ rfl
    omega
  go_cut [11, 12] (fun v bv wx => ∃ (pX : Option Addr) (cX : Nat), v = .slice pX (numsR l.tail).length cX ∧ bv = .bool false ∧ Hid (SlI wx (.slice pX (numsR l.tail).length cX) (numsR l.tail)) ∧ Ge w9 wx)
  case first =>
    by_cases hcl1 : cl = 1
    · have hc1 : (cl = 1) = True := eq_true hcl1
      have hT1 := Lib.hid (hTl.out _ (.inr ⟨hcl1, rfl⟩))
      clear hcl1
      go_wp2_with (go_at_call 21; ((with_reducible refine (HIn.out _ _ hT1.out).mono ?_); rintro r w7 ⟨u7, rfl, o7, g7⟩); obtain ⟨pX, cX, rfl⟩ := owns_form o7)
      go_meet
      exact ⟨pX, cX, rfl, rfl, SlI.of_owns o7, g7⟩
    · have hc1 : (cl = 1) = False := eq_false hcl1
      have hT1 := Lib.hid (hTl.out _ (.inl rfl))
      go_wp2_with (go_at_call 21; ((with_reducible refine (HIn.out _ _ hT1.out).mono ?_); rintro r w7 ⟨u7, rfl, o7, g7⟩); obtain ⟨pX, cX, rfl⟩ := owns_form o7)
      go_meet
      exact ⟨pX, cX, rfl, rfl, SlI.of_owns o7, g7⟩
  obtain ⟨pX, cX, rfl, rfl, HX, gc⟩ := hcut
  obtain ⟨⟨b0, b1, b2, b3⟩, RS, HO, g1⟩ := HRB.out.ge gc
  obtain ⟨r4, p4, f4⟩ := RS 0 (by omega)
  obtain ⟨r5, p5, f5⟩ := RS 1 (by omega)
  obtain ⟨r6, p6, f6⟩ := RS 2 (by omega)
  obtain ⟨r7, p7, f7⟩ := RS 3 (by omega)
  go_wp2_with fail
  exact bodyPost_ret (v := .tuple #[.agg #[.int .i64 (n : Int), .int .i64 (e : Int), .int .i64 S, .slice pu L.length cu], .string (bstr unkT)]) (by simp [results, Tryz.results11, go_sem, *]; rfl) rfl (run_end HO g1)
end Go.Proofs.YtagiecajffhnpaaGreat
