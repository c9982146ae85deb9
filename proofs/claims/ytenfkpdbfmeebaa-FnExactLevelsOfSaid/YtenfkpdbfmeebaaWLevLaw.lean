/- Marks in rows of three integers; the law of LevelsOf, walked. No condition. -/
import Derived.Test.YtenfkpdbfmeebaaWLevS
import Derived.Test.YtenfkpdbfmeebaaWIntSS
import Derived.Test.YtenfkpdbfmeebaaWSizesLaw
import Derived.Test.YtenfkpdbfmeebaaWTileLaws
namespace Go.Proofs.Ytenfkpdbfmeebaa
set_option maxRecDepth 100000
open Go.ChangeShapes Go.WideShapes Go.ChangeAt Go.RowKit Go.Joins

/-- n rows of three integers, each in a block of its own. -/
def Out3 (w : World) (base : Nat) (v : Value) (n : Nat) (R : Nat → List Int) : Prop :=
  ∃ (cs : List Value) (q cq : Nat → Nat), w.ownsRow base 43 1 v n cs ∧
    (∀ i, i < n → cs[i]? = some (.slice (some ⟨q i, 0, none⟩) 3 (cq i)) ∧ w.ownsRow base 3 1 (.slice (some ⟨q i, 0, none⟩) 3 (cq i)) 3 (icells (R i))) ∧
    ∀ i j, i < j → j < n → q i < q j
theorem OutL.three {w : World} {base B f : Nat} {v : Value} {L : List (List Int)} {n : Nat} (h : OutL w base B f v L) (hn : L.length = n) (h3 : ∀ i, i < n → (rowL L i).length = 3) : Out3 w base v n (rowL L) := by
  subst hn
  obtain ⟨cs, q, cq, h1, h2, h4, _⟩ := h
  refine ⟨cs, q, cq, h1, fun i hi => ?_, h4⟩
  have := h2 i hi
  rw [h3 i hi] at this
  exact this
theorem Out3.ge {w w' : World} {base n : Nat} {v : Value} {R : Nat → List Int} (h : Out3 w base v n R) (hg : Ge w w') : Out3 w' base v n R := by
  obtain ⟨cs, q, cq, h1, h2, h3⟩ := h
  exact ⟨cs, q, cq, hg.owns h1, fun i hi => ⟨(h2 i hi).1, hg.owns (h2 i hi).2⟩, h3⟩
theorem Out3.congr {w : World} {base n : Nat} {v : Value} {R S : Nat → List Int} (h : Out3 w base v n R) (he : ∀ i, i < n → R i = S i) : Out3 w base v n S := by
  obtain ⟨cs, q, cq, h1, h2, h3⟩ := h
  exact ⟨cs, q, cq, h1, fun i hi => by rw [← he i hi]; exact h2 i hi, h3⟩
/-- Rows of a third kind: writing them leaves the lists. -/
theorem Out3.typed {w w' : World} {base n b2 e2 s2 n2 : Nat} {v v2 : Value} {x2 : List Value} {R : Nat → List Int} (h : Out3 w base v n R) (h2 : w.ownsRow b2 e2 s2 v2 n2 x2) (he : 43 ≠ e2) (he' : 3 ≠ e2) (hm : Mine w w' v2) : Out3 w' base v n R := by
  obtain ⟨cs, q, cq, h1, h3, h4⟩ := h
  exact ⟨cs, q, cq, owns_typed h1 h2 he hm, fun i hi => ⟨(h3 i hi).1, owns_typed (h3 i hi).2 h2 he' hm⟩, h4⟩
theorem OwnL.typed {w w' : World} {base b2 e2 s2 n2 : Nat} {v v2 : Value} {x2 : List Value} {L : List (List Int)} (h : OwnL w base v L) (h2 : w.ownsRow b2 e2 s2 v2 n2 x2) (he : 43 ≠ e2) (he' : 3 ≠ e2) (hm : Mine w w' v2) : OwnL w' base v L := by
  obtain ⟨cs, h1, h3⟩ := h
  refine ⟨cs, owns_typed h1 h2 he hm, fun i hi => ?_⟩
  obtain ⟨q, cq, h4, h5⟩ := h3 i hi
  exact ⟨q, cq, h4, owns_typed h5 h2 he' hm⟩
theorem Out3.read {w : World} {base n : Nat} {v : Value} {L : List (List Int)} (h : Out3 w base v n (rowL L)) (h3 : ∀ i, i < n → (rowL L i).length = 3) : SlMI w v n L := by
  obtain ⟨cs, q, cq, h1, h2, _⟩ := h
  obtain ⟨p, c, rfl⟩ := owns_form h1
  refine ⟨p, c, rfl, fun i hi => ?_⟩
  obtain ⟨g, c', he⟩ := Go.Joins.ownsRow_form h1 (by omega)
  simp only [Value.slice.injEq] at he
  obtain ⟨rfl, _, rfl⟩ := he
  obtain ⟨a, b⟩ := h2 i hi
  refine ⟨g, 0, some ⟨q i, 0, none⟩, cq i, rfl, by rw [Nat.zero_add, h1.cellAt i (by omega), h3 i hi]; exact a, ?_⟩
  have b' : w.ownsRow base 3 1 (.slice (some ⟨q i, 0, none⟩) (rowL L i).length (cq i)) (rowL L i).length (icells (rowL L i)) := by rw [h3 i hi]; exact b
  exact SlI.of_owns b'
theorem OwnL.readM {w : World} {base n : Nat} {v : Value} {L : List (List Int)} (h : OwnL w base v L) (hn : L.length = n) : SlMI w v n L := by
  obtain ⟨p, c, rfl, hc⟩ := OwnL.read h hn
  refine ⟨p, c, rfl, fun i hi => ?_⟩
  obtain ⟨b, o, q, cq, h1, h2, h3⟩ := hc i hi
  exact ⟨b, o, some q, cq, h1, h2, h3⟩
theorem Out3.size {w : World} {base n : Nat} {v : Value} {R : Nat → List Int} (h : Out3 w base v n R) : ∃ cs, w.ownsRow base 43 1 v n cs := ⟨_, h.choose_spec.choose_spec.choose_spec.1⟩

/-- The first j rows are marked. -/
def markR (R : Nat → List Int) (k : Int) (j : Nat) : Nat → List Int := fun i => if i < j then upFrom (k + i * 3) 3 else R i
set_option maxHeartbeats 1600000 in
theorem lMarkIntSS (base : Nat) (v : Value) (n : Nat) (R : Nat → List Int) (hR : ∀ i, i < n → (R i).length = 3) (k : Int) (w : World) (h : Out3 w base v n R) (hk0 : 0 ≤ k) (hk : k + n * 3 ≤ 4611686018427387904) :
    Calls Try.prog 12 #[v, .int .i64 k] w fun en w' => en = .returned (.int .i64 (k + n * 3)) ∧ Out3 w' base v n (fun i => upFrom (k + i * 3) 3) ∧ ∀ a, Ge a w → a.heap.size ≤ base → Ge a w' := by
  obtain ⟨cs0, hform⟩ := h.size
  obtain ⟨p, c, rfl⟩ := owns_form hform
  clear hform
  have HO := Lib.hid h
  have HRl := Lib.hid hR
  clear h hR
  go_enter Try.func12, Try.ntmps12
  go_wp2_with fail
  go_loopw [1, 5] (fun m i wr => ∃ j : Nat, j ≤ n ∧ i = .int .i64 (j : Int) ∧ m = .int .i64 (k + j * 3) ∧ Out3 wr base (.slice p n c) n (markR R k j) ∧ Hid (∀ a, Ge a w → a.heap.size ≤ base → Ge a wr)) (fun _ i _ => n - (intOf i).toNat)
  case atStart => exact ⟨0, Nat.zero_le _, rfl, by simp, HO.out.congr (fun i _ => by simp [markR]), fun a g _ => g⟩
  case round =>
    obtain ⟨j, hj, rfl, rfl, hown, hg⟩ := hrel
    by_cases hlt : j < n
    · obtain ⟨cs, q, cq, h1, h2, h3⟩ := hown
      obtain ⟨g, c', he⟩ := Go.Joins.ownsRow_form h1 (by omega)
      simp only [Value.slice.injEq] at he
      obtain ⟨rfl, he2, rfl⟩ := he
      clear he2
      obtain ⟨a1, a2⟩ := h2 j hlt
      have hx : wr.cell? ⟨g, j, none⟩ = some (.slice (some ⟨q j, 0, none⟩) 3 (cq j)) := by rw [h1.cellAt j (by omega)]; exact a1
      have hRj : markR R k j j = R j := by simp [markR]
      have a3 : wr.ownsRow base 3 1 (.slice (some ⟨q j, 0, none⟩) (cq j |> fun _ => (R j).length) (cq j)) (R j).length (icells (R j)) := by
        rw [HRl.out j hlt, ← hRj]; exact a2
      have HM := Lib.hid (lMarkIntS base 3 (.slice (some ⟨q j, 0, none⟩) (R j).length (cq j)) (R j) (k + j * 3) wr a3 (by omega) (by rw [HRl.out j hlt]; omega))
      rw [HRl.out j hlt] at HM
      have H1 := Lib.hid h1
      have H2 := Lib.hid h2
      have H3 := Lib.hid h3
      have HA := Lib.hid a2
      have hqb := (a2.lt _ rfl).1
      clear h1 h2 h3 a1 a2 a3
      generalize hqj : q j = qj at *
      generalize hcj : cq j = cj at *
      have HCj := Lib.hid hcj
      clear hcj
      have HQ := Lib.hid hqj
      clear hqj
      go_wp2_with ((go_at_call 30; ((with_reducible refine (HM.out).mono ?_); rintro e w5 ⟨rfl, m5, o5⟩)); have HM5 := Lib.hid m5; have HO5 := Lib.hid o5; clear m5 o5)
      have hS : Out3 w5 base (.slice (some ⟨g, 0, none⟩) n c) n (markR R k (j + 1)) := by
        refine ⟨cs, q, cq, owns_typed H1.out HA.out (Ne.symm ty_int_ints) HM5.out, fun i hi => ?_, H3.out⟩
        obtain ⟨b1, b2⟩ := H2.out i hi
        refine ⟨b1, ?_⟩
        by_cases e : i = j
        · subst e
          have : markR R k (i + 1) i = upFrom (k + i * 3) 3 := by simp [markR]
          rw [this, HQ.out]
          rw [HQ.out] at b1
          have hc : cq i = cj := HCj.out
          rw [hc]
          exact HO5.out
        · have : markR R k (j + 1) i = markR R k j i := by
            unfold markR
            by_cases e2 : i < j
            · rw [if_pos e2, if_pos (by omega)]
            · rw [if_neg e2, if_neg (by omega)]
          rw [this]
          refine own_keepB b2 HM5.out ?_
          have hne : q i ≠ qj := by
            rw [← HQ.out]
            rcases Nat.lt_or_gt_of_ne e with h | h
            · have := H3.out i j h hlt; omega
            · have := H3.out j i h hi; omega
          simp only [Value.ownBlock, ne_eq, Option.some.injEq]
          exact hne
      have hG : ∀ a, Ge a w → a.heap.size ≤ base → Ge a w5 := fun a g hb => (hg.out a g hb).grown HM5.out (fun k hk => by simp [Value.ownBlock] at hk; omega)
      go_roundw
      case rel => exact ⟨j + 1, by omega, by go_num, by go_num, hS, hG⟩
      case measure => simp [intOf]; omega
    · have hjn : j = n := by omega
      subst hjn
      go_wp2_with fail
      go_ret
      exact ⟨rfl, hown.congr (fun i hi => by simp [markR, hi]), hg.out⟩

set_option maxHeartbeats 1600000 in
theorem lHeldIntSS (base : Nat) (v : Value) (n : Nat) (k : Int) (w : World) (h : Out3 w base v n (fun i => upFrom (k + i * 3) 3)) (hk0 : 0 ≤ k) (hk : k + n * 3 ≤ 4611686018427387904) :
    Calls Try.prog 13 #[v, .int .i64 k] w fun en w' => en = .returned (.int .i64 (k + n * 3)) ∧ w = w' := by
  obtain ⟨cs, q, cq, h1, h2, h3⟩ := h
  obtain ⟨p, c, rfl⟩ := owns_form h1
  have H1 := Lib.hid h1
  have H2 := Lib.hid h2
  clear h1 h2 h3
  go_enter Try.func13, Try.ntmps13
  go_wp2_with fail
  go_loopw [1, 5] (fun m i wr => ∃ j : Nat, j ≤ n ∧ i = .int .i64 (j : Int) ∧ m = .int .i64 (k + j * 3) ∧ w = wr) (fun _ i _ => n - (intOf i).toNat)
  case atStart => exact ⟨0, Nat.zero_le _, rfl, by simp, rfl⟩
  case round =>
    obtain ⟨j, hj, rfl, rfl, rfl⟩ := hrel
    by_cases hlt : j < n
    · obtain ⟨g, c', he⟩ := Go.Joins.ownsRow_form H1.out (by omega)
      simp only [Value.slice.injEq] at he
      obtain ⟨rfl, he2, rfl⟩ := he
      clear he2
      obtain ⟨a1, a2⟩ := H2.out j hlt
      have hx : w.cell? ⟨g, j, none⟩ = some (.slice (some ⟨q j, 0, none⟩) 3 (cq j)) := by rw [H1.out.cellAt j (by omega)]; exact a1
      have HH := Lib.hid (lHeldIntS (.slice (some ⟨q j, 0, none⟩) 3 (cq j)) 3 (k + j * 3) w (Sl.of_owns a2) (by omega) (by omega))
      clear a1 a2
      go_wp2_with ((go_at_call 31; ((with_reducible refine (HH.out).mono ?_); rintro e w5 ⟨rfl, rfl⟩)))
      go_roundw
      case rel => exact ⟨j + 1, by omega, by go_num, by go_num, by trivial⟩
      case measure => simp [intOf]; omega
    · have hjn : j = n := by omega
      subst hjn
      go_wp2_with fail
      go_ret
      exact ⟨rfl, rfl⟩

noncomputable def levQ (n : Nat) (xs : List Int) : List (List Int) := if tileB n xs = true then levT xs n else []
theorem levQ_t {n : Nat} {xs : List Int} (h : tileB n xs = true) : levQ n xs = levT xs n := by unfold levQ; rw [if_pos h]
theorem levQ_f {n : Nat} {xs : List Int} (h : tileB n xs = false) : levQ n xs = [] := by unfold levQ; rw [if_neg (by rw [h]; decide)]
theorem levU_three (xs : List Int) (n W : Nat) : ∀ y, ∀ r ∈ levU xs n W y, r.length = 3
  | 0, r, h => by cases h
  | y + 1, r, h => by
    rw [levU] at h
    rcases List.mem_append.1 h with h | h
    · exact levU_three xs n W y r h
    · obtain ⟨p, _, rfl⟩ := List.mem_map.1 h
      rfl
theorem levQ_three (n : Nat) (xs : List Int) : ∀ r ∈ levQ n xs, r.length = 3 := fun r h => by
  unfold levQ at h
  split at h
  · exact levU_three xs n _ _ r h
  · cases h
theorem levQ_len (n : Nat) (xs : List Int) : (levQ n xs).length ≤ 200000 := by
  cases hB : tileB n xs with
  | false => rw [levQ_f hB]; simp
  | true =>
    rw [levQ_t hB]
    obtain ⟨h0, h12, hsq, _⟩ : tileP n xs := by
      unfold tileB at hB
      split at hB
      · assumption
      · cases hB
    have hr := right_bd n (fun i hi => (hsq i hi).1)
    have hl := low_bd n (fun i hi => (hsq i hi).1)
    have h1 := levU_len xs n (rightSq xs n).toNat ((lowSq xs n).toNat + 1)
    have h2 : ((lowSq xs n).toNat + 1) * ((rightSq xs n).toNat + 1) ≤ 401 * 401 := Nat.mul_le_mul (by omega) (by omega)
    unfold levT
    omega
set_option maxHeartbeats 800000 in
theorem iLevelsOf (v : Value) (n : Nat) (xs : List Int) (w : World) (hv : SlF w v n 3 xs) (hm : n ≤ 9223372036854775807) (hb : ∀ j, -9223372036854775808 ≤ nth xs j ∧ nth xs j ≤ 9223372036854775807) (hcap : ∀ p c, v = .slice p n c → n ≤ c) :
    Calls Try.prog 8 #[v] w fun e w' => ∃ u, e = .returned u ∧ OutL w' w.heap.size 0 0 u (levQ n xs) ∧ Ge w w' := by
  cases hB : tileB n xs with
  | true =>
    rw [levQ_t hB]
    exact iLevT v n xs w hv hm hb hcap hB
  | false =>
    obtain ⟨p, cap, rfl, hc⟩ := hv.open
    have HV := Lib.hid hv
    have HBd := Lib.hid hb
    have HCap := Lib.hid hcap
    clear hv hc hb hcap
    have HT := Lib.hid (fun w' (g : Ge w w') => iTilingOk (.slice p n cap) n xs w' (HV.out.ge g) hm HBd.out HCap.out)
    rw [hB] at HT
    have HQ := Lib.hid (levQ_f hB)
    clear hB
    go_enter Try.func8, Try.ntmps8
    go_wp2_with ((go_at_call 24; ((with_reducible refine (HT.out _ (Ge.alloc (Ge.refl w) _)).mono ?_); rintro e w1 ⟨rfl, g1⟩)); have HG1 := Lib.hid g1; clear g1)
    go_ret
    exact ⟨_, rfl, by rw [HQ.out]; exact (OutL.nil w 0 0).ge HG1.out, (Ge.alloc (Ge.refl w) _).trans HG1.out⟩
set_option maxHeartbeats 800000 in
theorem sLevelsOf (v : Value) (n : Nat) (xs : List Int) (w : World) (hv : SlF w v n 3 xs) (hm : n ≤ 9223372036854775807) (hb : ∀ j, -9223372036854775808 ≤ nth xs j ∧ nth xs j ≤ 9223372036854775807) (hcap : ∀ p c, v = .slice p n c → n ≤ c) :
    Calls Try.prog 6 #[v] w fun e w' => ∃ u, e = .returned u ∧ OwnL w' w.heap.size u (levQ n xs) ∧ Ge w w' := by
  cases hB : tileB n xs with
  | true =>
    rw [levQ_t hB]
    exact sLevT v n xs w hv hm hb hcap hB
  | false =>
    obtain ⟨p, cap, rfl, hc⟩ := hv.open
    have HV := Lib.hid hv
    have HBd := Lib.hid hb
    have HCap := Lib.hid hcap
    clear hv hc hb hcap
    have HT := Lib.hid (fun w' (g : Ge w w') => sTilingOk (.slice p n cap) n xs w' (HV.out.ge g) hm HBd.out HCap.out)
    rw [hB] at HT
    have HQ := Lib.hid (levQ_f hB)
    clear hB
    go_enter Try.func6, Try.ntmps6
    go_wp2_with ((go_at_call 19; ((with_reducible refine (HT.out _ (Ge.refl w)).mono ?_); rintro e w1 ⟨rfl, g1⟩)); have HG1 := Lib.hid g1; clear g1)
    go_ret
    exact ⟨_, rfl, by rw [HQ.out]; exact ⟨[], ⟨rfl, .inl ⟨rfl, rfl⟩⟩, fun i hi => by simp at hi⟩, HG1.out⟩

theorem ty_ints_sq : 43 ≠ 45 := by decide
theorem ty_int_sq : 3 ≠ 45 := by decide
set_option maxHeartbeats 3200000 in
theorem lFnExactLevelsOf (v : Value) (n : Nat) (l : List Int) (w : World) (hv : SlF w v n 3 l) (hm : n ≤ 9223372036854775807) (hb : ∀ j, -9223372036854775808 ≤ nth l j ∧ nth l j ≤ 9223372036854775807) :
    Calls Try.prog 3 #[v] w fun e w' => e = .returned (.bool true) ∧ Ge w w' := by
  obtain ⟨pv, cv', rfl, hc⟩ := hv.open
  by_cases hbig : 1048576 < n
  · clear hv hc hb
    have z1 : szI 1048576 n = -1 := by unfold szI; rw [if_pos (by omega)]
    go_enter Try.func3, Try.ntmps3
    go_wp2_with (go_at_call 5; ((with_reducible refine (lSzSquareS _ n _ _ _ hm (by decide) (by decide)).mono ?_); rintro e w' ⟨rfl, rfl⟩))
    go_ret
    exact ⟨rfl, Ge.refl _⟩
  have hle : n ≤ 1048576 := by omega
  have HV := Lib.hid hv
  have HLe := Lib.hid hle
  have HB := Lib.hid hb
  have hsm : n ≤ 9223372036854775807 := hm
  have z1 : szI 1048576 n = 1048576 - n := by unfold szI; rw [if_neg (by omega)]
  have z2 : ¬ (1048576 - (n : Int) < 0) := by omega
  have hsm2 : n ≤ 4611686018427387904 := by omega
  have HSm := Lib.hid hsm2
  have HI := Lib.hid (fun v w hv hc => iLevelsOf v n l w hv hsm HB.out hc)
  have HSp := Lib.hid (fun v w hv hc => sLevelsOf v n l w hv hsm HB.out hc)
  have hS := levQ_len n l
  have hT := levQ_three n l
  generalize levQ n l = R at *
  have tl : decide (l = l) = true := by simp
  obtain ⟨N, hN⟩ : ∃ N, R.length = N := ⟨_, rfl⟩
  have H3 : Hid (∀ i, i < N → (rowL R i).length = 3) := fun i hi => hT _ (rowL_mem (by omega))
  have HNl := Lib.hid hN
  rw [hN] at hS
  have HE : Hid (∀ va vb w, SlMI w va N R → SlMI w vb N R → Calls Try.prog 9 #[va, vb] w fun e w' => e = .returned (.bool true) ∧ Ge w w') := fun va vb w ha hb => lEqIntSS va vb N R w ha hb (by omega) (fun i hi => by rw [H3.out i hi]; omega)
  have kN : (1 : Int) + N * 3 ≤ 4611686018427387904 := by omega
  clear hv hc hm hb hsm2 hT hN
  go_enter Try.func3, Try.ntmps3
  go_wp2_with (first | (go_at_call 5; ((with_reducible refine (lSzSquareS _ n _ _ _ hsm (by decide) (by decide)).mono ?_); rintro e w' ⟨rfl, rfl⟩)) | (go_at_call 7; ((with_reducible refine (lToSquareS _ n l _ HV.out HLe.out).mono ?_); rintro e w1 ⟨v1, rfl, o1, g1⟩)))
  go_wp2_with (go_at_call 6; ((with_reducible refine (HSp.out v1 _ (SlF.of_owns o1) (owns_capT o1)).mono ?_); rintro e w2 ⟨u2, rfl, o2, g2⟩))
  have G2 : Ge w w2 := g1.trans g2
  have O2 := Lib.hid o2
  clear o2
  go_wp2_with (go_at_call 7; ((with_reducible refine (lToSquareS _ n l _ (SlF.ge HV.out G2) HLe.out).mono ?_); rintro e w3 ⟨v3, rfl, o3, g3⟩))
  go_wp2_with (go_at_call 8; ((with_reducible refine (HI.out v3 _ (SlF.of_owns o3) (owns_capT o3)).mono ?_); rintro e w4 ⟨u4, rfl, o4, g4⟩))
  have O4 := Lib.hid (o4.three HNl.out H3.out)
  clear o4
  have G34 := g3.trans g4
  have G4 : Ge w w4 := G2.trans G34
  have p3 := g4.owns o3
  go_wp2_with (go_at_call 9; ((with_reducible refine (HE.out u4 u2 _ (O4.out.read H3.out) ((O2.out.ge G34).readM HNl.out)).mono ?_); rintro e w5 ⟨rfl, g5⟩))
  have G5 := G4.trans g5
  go_wp2_with (go_at_call 7; ((with_reducible refine (lToSquareS _ n l _ (SlF.ge HV.out G5) HLe.out).mono ?_); rintro e w6 ⟨v6, rfl, o6, g6⟩))
  have g56 := g5.trans g6
  have q3 := g56.owns p3
  go_wp2_with (go_at_call 10; ((with_reducible refine (lEqSquareS v3 v6 n n l l _ (SlF.of_owns q3) (SlF.of_owns o6) HSm.out).mono ?_); rintro e w7 ⟨rfl, g7⟩))
  have r3 := g7.owns q3
  have G7 : Ge w w7 := (G5.trans g6).trans g7
  have R2 := Lib.hid (O2.out.ge ((G34.trans g56).trans g7))
  have R4 := Lib.hid (O4.out.ge (g56.trans g7))
  have k1 : (1 : Int) + n * 3 ≤ 4611686018427387904 := by omega
  go_wp2_with (first
    | ((go_at_call 11; ((with_reducible refine (lMarkSquareS _ _ v3 n l 1 _ r3 (by omega) k1).mono ?_); rintro e w8 ⟨rfl, m8, t3⟩)); have G8 : Ge w w8 := G7.mine r3 (G2.size) m8; have S2 := Lib.hid (R2.out.typed r3 ty_ints_sq ty_int_sq m8); have S4 := Lib.hid (R4.out.typed r3 ty_ints_sq ty_int_sq m8); have G28 : Ge w2 w8 := Ge.mine ((G34.trans g56).trans g7) r3 (Nat.le_refl _) m8)
    | (go_at_call 9; ((with_reducible refine (HE.out u4 u2 _ (S4.out.read H3.out) (S2.out.readM HNl.out)).mono ?_); rintro e w9 ⟨rfl, g9⟩)))
  have G9 := G8.trans g9
  have G29 := G28.trans g9
  have z3w := (G2.trans g3).size
  go_wp2_with (go_at_call 12; ((with_reducible refine (lMarkIntSS _ u4 N (rowL R) H3.out 1 _ (S4.out.ge g9) (by omega) kN).mono ?_); rintro e w10 ⟨rfl, b4, k10⟩))
  have G10 : Ge w w10 := k10 w G9 z3w
  have G210 : Ge w2 w10 := k10 w2 G29 g3.size
  have B4 := Lib.hid b4
  clear b4
  go_wp2_with (go_at_call 13; ((with_reducible refine (lHeldIntSS _ u4 N 1 _ B4.out (by omega) kN).mono ?_); rintro e w11 ⟨rfl, rfl⟩))
  go_wp2_with (go_at_call 7; ((with_reducible refine (lToSquareS _ n l _ (SlF.ge HV.out G10) HLe.out).mono ?_); rintro e w12 ⟨v12, rfl, o12, g12⟩))
  go_wp2_with (go_at_call 8; ((with_reducible refine (HI.out v12 _ (SlF.of_owns o12) (owns_capT o12)).mono ?_); rintro e w13 ⟨u13, rfl, o13, g13⟩))
  have O13 := Lib.hid (o13.three HNl.out H3.out)
  clear o13
  have g123 := g12.trans g13
  go_wp2_with (go_at_call 9; ((with_reducible refine (HE.out u13 u2 _ (O13.out.read H3.out) ((O2.out.ge (G210.trans g123)).readM HNl.out)).mono ?_); rintro e w14 ⟨rfl, g14⟩))
  go_wp2_with (go_at_call 13; ((with_reducible refine (lHeldIntSS _ u4 N 1 _ (B4.out.ge (g123.trans g14)) (by omega) kN).mono ?_); rintro e w15 ⟨rfl, rfl⟩))
  go_ret
  exact ⟨rfl, (G10.trans g123).trans g14⟩
end Go.Proofs.Ytenfkpdbfmeebaa
