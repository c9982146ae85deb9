/- Marks in rows of three integers; the law of LevelsOf, walked. No condition. l13Segment of the reference. No condition. NetOfTiling of the reference. No condition. DropNode of impl. No condition. NetOfTiling of impl. No condition. eqWire, eqWireS, markWireS, heldWireS, eqNet, markNet, heldNet. -/
import Derived.Test.YtenfkpdbfmeebaaJAf
import Derived.Test.YtenfkpdbfmeebaaJAg
import Derived.Test.YtenfkpdbfmeebaaWNode
import Derived.Test.YtenfkpdbfmeebaaPlNot
import Derived.Test.YtenfkpdbfmeebaaJAa
import Derived.Test.YtenfkpdbfmeebaaWTail
import Derived.Test.YtenfkpdbfmeebaaJAe
import Derived.Test.YtenfkpdbfmeebaaWFlat
import Derived.Test.YtenfkpdbfmeebaaWEqInt
namespace Go.Proofs.Ytenfkpdbfmeebaa
set_option maxRecDepth 100000
open Go.ChangeShapes Go.WideShapes Go.ChangeAt Go.RowKit Go.Joins

/-- n rows of three integers, each in a block of its own. -/
def Out3 (w : World) (base : Nat) (v : Value) (n : Nat) (R : Nat → List Int) : Prop :=
  ∃ (cs : List Value) (q cq : Nat → Nat), w.ownsRow base 43 1 v n cs ∧
    (∀ i, i < n → cs[i]? = some (.slice (some ⟨q i, 0, none⟩) 3 (cq i)) ∧ w.ownsRow base 3 1 (.slice (some ⟨q i, 0, none⟩) 3 (cq i)) 3 (icells (R i))) ∧
    ∀ i j, i < j → j < n → q i < q j
theorem OutL.three {w : World} {base B f : Nat} {v : Value} {L : List (List Int)} {n : Nat} (h : OutL w base B f v L) (hn : L.length = n) (h3 : ∀ i, i < n → (rowL L i).length = 3) : Out3 w base v n (rowL L) := by
  subst hn
  obtain ⟨cs, q, cq, h1, h2, h4, _⟩ := h
  refine ⟨cs, q, cq, h1, fun i hi => ?_, h4⟩
  have := h2 i hi
  rw [h3 i hi] at this
  exact this
theorem Out3.ge {w w' : World} {base n : Nat} {v : Value} {R : Nat → List Int} (h : Out3 w base v n R) (hg : Ge w w') : Out3 w' base v n R := by
  obtain ⟨cs, q, cq, h1, h2, h3⟩ := h
  exact ⟨cs, q, cq, hg.owns h1, fun i hi => ⟨(h2 i hi).1, hg.owns (h2 i hi).2⟩, h3⟩
theorem Out3.congr {w : World} {base n : Nat} {v : Value} {R S : Nat → List Int} (h : Out3 w base v n R) (he : ∀ i, i < n → R i = S i) : Out3 w base v n S := by
  obtain ⟨cs, q, cq, h1, h2, h3⟩ := h
  exact ⟨cs, q, cq, h1, fun i hi => by rw [← he i hi]; exact h2 i hi, h3⟩
/-- Rows of a third kind: writing them leaves the lists. -/
theorem Out3.typed {w w' : World} {base n b2 e2 s2 n2 : Nat} {v v2 : Value} {x2 : List Value} {R : Nat → List Int} (h : Out3 w base v n R) (h2 : w.ownsRow b2 e2 s2 v2 n2 x2) (he : 43 ≠ e2) (he' : 3 ≠ e2) (hm : Mine w w' v2) : Out3 w' base v n R := by
  obtain ⟨cs, q, cq, h1, h3, h4⟩ := h
  exact ⟨cs, q, cq, owns_typed h1 h2 he hm, fun i hi => ⟨(h3 i hi).1, owns_typed (h3 i hi).2 h2 he' hm⟩, h4⟩
theorem OwnL.typed {w w' : World} {base b2 e2 s2 n2 : Nat} {v v2 : Value} {x2 : List Value} {L : List (List Int)} (h : OwnL w base v L) (h2 : w.ownsRow b2 e2 s2 v2 n2 x2) (he : 43 ≠ e2) (he' : 3 ≠ e2) (hm : Mine w w' v2) : OwnL w' base v L := by
  obtain ⟨cs, h1, h3⟩ := h
  refine ⟨cs, owns_typed h1 h2 he hm, fun i hi => ?_⟩
  obtain ⟨q, cq, h4, h5⟩ := h3 i hi
  exact ⟨q, cq, h4, owns_typed h5 h2 he' hm⟩
theorem Out3.read {w : World} {base n : Nat} {v : Value} {L : List (List Int)} (h : Out3 w base v n (rowL L)) (h3 : ∀ i, i < n → (rowL L i).length = 3) : SlMI w v n L := by
  obtain ⟨cs, q, cq, h1, h2, _⟩ := h
  obtain ⟨p, c, rfl⟩ := owns_form h1
  refine ⟨p, c, rfl, fun i hi => ?_⟩
  obtain ⟨g, c', he⟩ := Go.Joins.ownsRow_form h1 (by omega)
  simp only [Value.slice.injEq] at he
  obtain ⟨rfl, _, rfl⟩ := he
  obtain ⟨a, b⟩ := h2 i hi
  refine ⟨g, 0, some ⟨q i, 0, none⟩, cq i, rfl, by rw [Nat.zero_add, h1.cellAt i (by omega), h3 i hi]; exact a, ?_⟩
  have b' : w.ownsRow base 3 1 (.slice (some ⟨q i, 0, none⟩) (rowL L i).length (cq i)) (rowL L i).length (icells (rowL L i)) := by rw [h3 i hi]; exact b
  exact SlI.of_owns b'
theorem OwnL.readM {w : World} {base n : Nat} {v : Value} {L : List (List Int)} (h : OwnL w base v L) (hn : L.length = n) : SlMI w v n L := by
  obtain ⟨p, c, rfl, hc⟩ := OwnL.read h hn
  refine ⟨p, c, rfl, fun i hi => ?_⟩
  obtain ⟨b, o, q, cq, h1, h2, h3⟩ := hc i hi
  exact ⟨b, o, some q, cq, h1, h2, h3⟩
theorem Out3.size {w : World} {base n : Nat} {v : Value} {R : Nat → List Int} (h : Out3 w base v n R) : ∃ cs, w.ownsRow base 43 1 v n cs := ⟨_, h.choose_spec.choose_spec.choose_spec.1⟩

/-- The first j rows are marked. -/
def markR (R : Nat → List Int) (k : Int) (j : Nat) : Nat → List Int := fun i => if i < j then upFrom (k + i * 3) 3 else R i
set_option maxHeartbeats 1600000 in
theorem lMarkIntSS (base : Nat) (v : Value) (n : Nat) (R : Nat → List Int) (hR : ∀ i, i < n → (R i).length = 3) (k : Int) (w : World) (h : Out3 w base v n R) (hk0 : 0 ≤ k) (hk : k + n * 3 ≤ 4611686018427387904) :
    Calls Try.prog 12 #[v, .int .i64 k] w fun en w' => en = .returned (.int .i64 (k + n * 3)) ∧ Out3 w' base v n (fun i => upFrom (k + i * 3) 3) ∧ ∀ a, Ge a w → a.heap.size ≤ base → Ge a w' := by
  obtain ⟨cs0, hform⟩ := h.size
  obtain ⟨p, c, rfl⟩ := owns_form hform
  clear hform
  have HO := Lib.hid h
  have HRl := Lib.hid hR
  clear h hR
  go_enter Try.func12, Try.ntmps12
  go_wp2_with fail
  go_loopw [1, 5] (fun m i wr => ∃ j : Nat, j ≤ n ∧ i = .int .i64 (j : Int) ∧ m = .int .i64 (k + j * 3) ∧ Out3 wr base (.slice p n c) n (markR R k j) ∧ Hid (∀ a, Ge a w → a.heap.size ≤ base → Ge a wr)) (fun _ i _ => n - (intOf i).toNat)
  case atStart => exact ⟨0, Nat.zero_le _, rfl, by simp, HO.out.congr (fun i _ => by simp [markR]), fun a g _ => g⟩
  case round =>
    obtain ⟨j, hj, rfl, rfl, hown, hg⟩ := hrel
    by_cases hlt : j < n
    · obtain ⟨cs, q, cq, h1, h2, h3⟩ := hown
      obtain ⟨g, c', he⟩ := Go.Joins.ownsRow_form h1 (by omega)
      simp only [Value.slice.injEq] at he
      obtain ⟨rfl, he2, rfl⟩ := he
      clear he2
      obtain ⟨a1, a2⟩ := h2 j hlt
      have hx : wr.cell? ⟨g, j, none⟩ = some (.slice (some ⟨q j, 0, none⟩) 3 (cq j)) := by rw [h1.cellAt j (by omega)]; exact a1
      have hRj : markR R k j j = R j := by simp [markR]
      have a3 : wr.ownsRow base 3 1 (.slice (some ⟨q j, 0, none⟩) (cq j |> fun _ => (R j).length) (cq j)) (R j).length (icells (R j)) := by
        rw [HRl.out j hlt, ← hRj]; exact a2
      have HM := Lib.hid (lMarkIntS base 3 (.slice (some ⟨q j, 0, none⟩) (R j).length (cq j)) (R j) (k + j * 3) wr a3 (by omega) (by rw [HRl.out j hlt]; omega))
      rw [HRl.out j hlt] at HM
      have H1 := Lib.hid h1
      have H2 := Lib.hid h2
      have H3 := Lib.hid h3
      have HA := Lib.hid a2
      have hqb := (a2.lt _ rfl).1
      clear h1 h2 h3 a1 a2 a3
      generalize hqj : q j = qj at *
      generalize hcj : cq j = cj at *
      have HCj := Lib.hid hcj
      clear hcj
      have HQ := Lib.hid hqj
      clear hqj
      go_wp2_with ((go_at_call 30; ((with_reducible refine (HM.out).mono ?_); rintro e w5 ⟨rfl, m5, o5⟩)); have HM5 := Lib.hid m5; have HO5 := Lib.hid o5; clear m5 o5)
      have hS : Out3 w5 base (.slice (some ⟨g, 0, none⟩) n c) n (markR R k (j + 1)) := by
        refine ⟨cs, q, cq, owns_typed H1.out HA.out (Ne.symm ty_int_ints) HM5.out, fun i hi => ?_, H3.out⟩
        obtain ⟨b1, b2⟩ := H2.out i hi
        refine ⟨b1, ?_⟩
        by_cases e : i = j
        · subst e
          have : markR R k (i + 1) i = upFrom (k + i * 3) 3 := by simp [markR]
          rw [this, HQ.out]
          rw [HQ.out] at b1
          have hc : cq i = cj := HCj.out
          rw [hc]
          exact HO5.out
        · have : markR R k (j + 1) i = markR R k j i := by
            unfold markR
            by_cases e2 : i < j
            · rw [if_pos e2, if_pos (by omega)]
            · rw [if_neg e2, if_neg (by omega)]
          rw [this]
          refine own_keepB b2 HM5.out ?_
          have hne : q i ≠ qj := by
            rw [← HQ.out]
            rcases Nat.lt_or_gt_of_ne e with h | h
            · have := H3.out i j h hlt; omega
            · have := H3.out j i h hi; omega
          simp only [Value.ownBlock, ne_eq, Option.some.injEq]
          exact hne
      have hG : ∀ a, Ge a w → a.heap.size ≤ base → Ge a w5 := fun a g hb => (hg.out a g hb).grown HM5.out (fun k hk => by simp [Value.ownBlock] at hk; omega)
      go_roundw
      case rel => exact ⟨j + 1, by omega, by go_num, by go_num, hS, hG⟩
      case measure => simp [intOf]; omega
    · have hjn : j = n := by omega
      subst hjn
      go_wp2_with fail
      go_ret
      exact ⟨rfl, hown.congr (fun i hi => by simp [markR, hi]), hg.out⟩

set_option maxHeartbeats 1600000 in
theorem lHeldIntSS (base : Nat) (v : Value) (n : Nat) (k : Int) (w : World) (h : Out3 w base v n (fun i => upFrom (k + i * 3) 3)) (hk0 : 0 ≤ k) (hk : k + n * 3 ≤ 4611686018427387904) :
    Calls Try.prog 13 #[v, .int .i64 k] w fun en w' => en = .returned (.int .i64 (k + n * 3)) ∧ w = w' := by
  obtain ⟨cs, q, cq, h1, h2, h3⟩ := h
  obtain ⟨p, c, rfl⟩ := owns_form h1
  have H1 := Lib.hid h1
  have H2 := Lib.hid h2
  clear h1 h2 h3
  go_enter Try.func13, Try.ntmps13
  go_wp2_with fail
  go_loopw [1, 5] (fun m i wr => ∃ j : Nat, j ≤ n ∧ i = .int .i64 (j : Int) ∧ m = .int .i64 (k + j * 3) ∧ w = wr) (fun _ i _ => n - (intOf i).toNat)
  case atStart => exact ⟨0, Nat.zero_le _, rfl, by simp, rfl⟩
  case round =>
    obtain ⟨j, hj, rfl, rfl, rfl⟩ := hrel
    by_cases hlt : j < n
    · obtain ⟨g, c', he⟩ := Go.Joins.ownsRow_form H1.out (by omega)
      simp only [Value.slice.injEq] at he
      obtain ⟨rfl, he2, rfl⟩ := he
      clear he2
      obtain ⟨a1, a2⟩ := H2.out j hlt
      have hx : w.cell? ⟨g, j, none⟩ = some (.slice (some ⟨q j, 0, none⟩) 3 (cq j)) := by rw [H1.out.cellAt j (by omega)]; exact a1
      have HH := Lib.hid (lHeldIntS (.slice (some ⟨q j, 0, none⟩) 3 (cq j)) 3 (k + j * 3) w (Sl.of_owns a2) (by omega) (by omega))
      clear a1 a2
      go_wp2_with ((go_at_call 31; ((with_reducible refine (HH.out).mono ?_); rintro e w5 ⟨rfl, rfl⟩)))
      go_roundw
      case rel => exact ⟨j + 1, by omega, by go_num, by go_num, by trivial⟩
      case measure => simp [intOf]; omega
    · have hjn : j = n := by omega
      subst hjn
      go_wp2_with fail
      go_ret
      exact ⟨rfl, rfl⟩

noncomputable def levQ (n : Nat) (xs : List Int) : List (List Int) := if tileB n xs = true then levT xs n else []
theorem levQ_t {n : Nat} {xs : List Int} (h : tileB n xs = true) : levQ n xs = levT xs n := by unfold levQ; rw [if_pos h]
theorem levQ_f {n : Nat} {xs : List Int} (h : tileB n xs = false) : levQ n xs = [] := by unfold levQ; rw [if_neg (by rw [h]; decide)]
theorem levU_three (xs : List Int) (n W : Nat) : ∀ y, ∀ r ∈ levU xs n W y, r.length = 3
  | 0, r, h => by cases h
  | y + 1, r, h => by
    rw [levU] at h
    rcases List.mem_append.1 h with h | h
    · exact levU_three xs n W y r h
    · obtain ⟨p, _, rfl⟩ := List.mem_map.1 h
      rfl
theorem levQ_three (n : Nat) (xs : List Int) : ∀ r ∈ levQ n xs, r.length = 3 := fun r h => by
  unfold levQ at h
  split at h
  · exact levU_three xs n _ _ r h
  · cases h
theorem levQ_len (n : Nat) (xs : List Int) : (levQ n xs).length ≤ 200000 := by
  cases hB : tileB n xs with
  | false => rw [levQ_f hB]; simp
  | true =>
    rw [levQ_t hB]
    obtain ⟨h0, h12, hsq, _⟩ : tileP n xs := by
      unfold tileB at hB
      split at hB
      · assumption
      · cases hB
    have hr := right_bd n (fun i hi => (hsq i hi).1)
    have hl := low_bd n (fun i hi => (hsq i hi).1)
    have h1 := levU_len xs n (rightSq xs n).toNat ((lowSq xs n).toNat + 1)
    have h2 : ((lowSq xs n).toNat + 1) * ((rightSq xs n).toNat + 1) ≤ 401 * 401 := Nat.mul_le_mul (by omega) (by omega)
    unfold levT
    omega
set_option maxHeartbeats 800000 in
theorem iLevelsOf (v : Value) (n : Nat) (xs : List Int) (w : World) (hv : SlF w v n 3 xs) (hm : n ≤ 9223372036854775807) (hb : ∀ j, -9223372036854775808 ≤ nth xs j ∧ nth xs j ≤ 9223372036854775807) (hcap : ∀ p c, v = .slice p n c → n ≤ c) :
    Calls Try.prog 8 #[v] w fun e w' => ∃ u, e = .returned u ∧ OutL w' w.heap.size 0 0 u (levQ n xs) ∧ Ge w w' := by
  cases hB : tileB n xs with
  | true =>
    rw [levQ_t hB]
    exact iLevT v n xs w hv hm hb hcap hB
  | false =>
    obtain ⟨p, cap, rfl, hc⟩ := hv.open
    have HV := Lib.hid hv
    have HBd := Lib.hid hb
    have HCap := Lib.hid hcap
    clear hv hc hb hcap
    have HT := Lib.hid (fun w' (g : Ge w w') => iTilingOk (.slice p n cap) n xs w' (HV.out.ge g) hm HBd.out HCap.out)
    rw [hB] at HT
    have HQ := Lib.hid (levQ_f hB)
    clear hB
    go_enter Try.func8, Try.ntmps8
    go_wp2_with ((go_at_call 24; ((with_reducible refine (HT.out _ (Ge.alloc (Ge.refl w) _)).mono ?_); rintro e w1 ⟨rfl, g1⟩)); have HG1 := Lib.hid g1; clear g1)
    go_ret
    exact ⟨_, rfl, by rw [HQ.out]; exact (OutL.nil w 0 0).ge HG1.out, (Ge.alloc (Ge.refl w) _).trans HG1.out⟩
set_option maxHeartbeats 800000 in
theorem sLevelsOf (v : Value) (n : Nat) (xs : List Int) (w : World) (hv : SlF w v n 3 xs) (hm : n ≤ 9223372036854775807) (hb : ∀ j, -9223372036854775808 ≤ nth xs j ∧ nth xs j ≤ 9223372036854775807) (hcap : ∀ p c, v = .slice p n c → n ≤ c) :
    Calls Try.prog 6 #[v] w fun e w' => ∃ u, e = .returned u ∧ OwnL w' w.heap.size u (levQ n xs) ∧ Ge w w' := by
  cases hB : tileB n xs with
  | true =>
    rw [levQ_t hB]
    exact sLevT v n xs w hv hm hb hcap hB
  | false =>
    obtain ⟨p, cap, rfl, hc⟩ := hv.open
    have HV := Lib.hid hv
    have HBd := Lib.hid hb
    have HCap := Lib.hid hcap
    clear hv hc hb hcap
    have HT := Lib.hid (fun w' (g : Ge w w') => sTilingOk (.slice p n cap) n xs w' (HV.out.ge g) hm HBd.out HCap.out)
    rw [hB] at HT
    have HQ := Lib.hid (levQ_f hB)
    clear hB
    go_enter Try.func6, Try.ntmps6
    go_wp2_with ((go_at_call 19; ((with_reducible refine (HT.out _ (Ge.refl w)).mono ?_); rintro e w1 ⟨rfl, g1⟩)); have HG1 := Lib.hid g1; clear g1)
    go_ret
    exact ⟨_, rfl, by rw [HQ.out]; exact ⟨[], ⟨rfl, .inl ⟨rfl, rfl⟩⟩, fun i hi => by simp at hi⟩, HG1.out⟩

theorem ty_ints_sq : 43 ≠ 45 := by decide
theorem ty_int_sq : 3 ≠ 45 := by decide
set_option maxHeartbeats 3200000 in
theorem lFnExactLevelsOf (v : Value) (n : Nat) (l : List Int) (w : World) (hv : SlF w v n 3 l) (hm : n ≤ 9223372036854775807) (hb : ∀ j, -9223372036854775808 ≤ nth l j ∧ nth l j ≤ 9223372036854775807) :
    Calls Try.prog 3 #[v] w fun e w' => e = .returned (.bool true) ∧ Ge w w' := by
  obtain ⟨pv, cv', rfl, hc⟩ := hv.open
  by_cases hbig : 1048576 < n
  · clear hv hc hb
    have z1 : szI 1048576 n = -1 := by unfold szI; rw [if_pos (by omega)]
    go_enter Try.func3, Try.ntmps3
    go_wp2_with (go_at_call 5; ((with_reducible refine (lSzSquareS _ n _ _ _ hm (by decide) (by decide)).mono ?_); rintro e w' ⟨rfl, rfl⟩))
    go_ret
    exact ⟨rfl, Ge.refl _⟩
  have hle : n ≤ 1048576 := by omega
  have HV := Lib.hid hv
  have HLe := Lib.hid hle
  have HB := Lib.hid hb
  have hsm : n ≤ 9223372036854775807 := hm
  have z1 : szI 1048576 n = 1048576 - n := by unfold szI; rw [if_neg (by omega)]
  have z2 : ¬ (1048576 - (n : Int) < 0) := by omega
  have hsm2 : n ≤ 4611686018427387904 := by omega
  have HSm := Lib.hid hsm2
  have HI := Lib.hid (fun v w hv hc => iLevelsOf v n l w hv hsm HB.out hc)
  have HSp := Lib.hid (fun v w hv hc => sLevelsOf v n l w hv hsm HB.out hc)
  have hS := levQ_len n l
  have hT := levQ_three n l
  generalize levQ n l = R at *
  have tl : decide (l = l) = true := by simp
  obtain ⟨N, hN⟩ : ∃ N, R.length = N := ⟨_, rfl⟩
  have H3 : Hid (∀ i, i < N → (rowL R i).length = 3) := fun i hi => hT _ (rowL_mem (by omega))
  have HNl := Lib.hid hN
  rw [hN] at hS
  have HE : Hid (∀ va vb w, SlMI w va N R → SlMI w vb N R → Calls Try.prog 9 #[va, vb] w fun e w' => e = .returned (.bool true) ∧ Ge w w') := fun va vb w ha hb => lEqIntSS va vb N R w ha hb (by omega) (fun i hi => by rw [H3.out i hi]; omega)
  have kN : (1 : Int) + N * 3 ≤ 4611686018427387904 := by omega
  clear hv hc hm hb hsm2 hT hN
  go_enter Try.func3, Try.ntmps3
  go_wp2_with (first | (go_at_call 5; ((with_reducible refine (lSzSquareS _ n _ _ _ hsm (by decide) (by decide)).mono ?_); rintro e w' ⟨rfl, rfl⟩)) | (go_at_call 7; ((with_reducible refine (lToSquareS _ n l _ HV.out HLe.out).mono ?_); rintro e w1 ⟨v1, rfl, o1, g1⟩)))
  go_wp2_with (go_at_call 6; ((with_reducible refine (HSp.out v1 _ (SlF.of_owns o1) (owns_capT o1)).mono ?_); rintro e w2 ⟨u2, rfl, o2, g2⟩))
  have G2 : Ge w w2 := g1.trans g2
  have O2 := Lib.hid o2
  clear o2
  go_wp2_with (go_at_call 7; ((with_reducible refine (lToSquareS _ n l _ (SlF.ge HV.out G2) HLe.out).mono ?_); rintro e w3 ⟨v3, rfl, o3, g3⟩))
  go_wp2_with (go_at_call 8; ((with_reducible refine (HI.out v3 _ (SlF.of_owns o3) (owns_capT o3)).mono ?_); rintro e w4 ⟨u4, rfl, o4, g4⟩))
  have O4 := Lib.hid (o4.three HNl.out H3.out)
  clear o4
  have G34 := g3.trans g4
  have G4 : Ge w w4 := G2.trans G34
  have p3 := g4.owns o3
  go_wp2_with (go_at_call 9; ((with_reducible refine (HE.out u4 u2 _ (O4.out.read H3.out) ((O2.out.ge G34).readM HNl.out)).mono ?_); rintro e w5 ⟨rfl, g5⟩))
  have G5 := G4.trans g5
  go_wp2_with (go_at_call 7; ((with_reducible refine (lToSquareS _ n l _ (SlF.ge HV.out G5) HLe.out).mono ?_); rintro e w6 ⟨v6, rfl, o6, g6⟩))
  have g56 := g5.trans g6
  have q3 := g56.owns p3
  go_wp2_with (go_at_call 10; ((with_reducible refine (lEqSquareS v3 v6 n n l l _ (SlF.of_owns q3) (SlF.of_owns o6) HSm.out).mono ?_); rintro e w7 ⟨rfl, g7⟩))
  have r3 := g7.owns q3
  have G7 : Ge w w7 := (G5.trans g6).trans g7
  have R2 := Lib.hid (O2.out.ge ((G34.trans g56).trans g7))
  have R4 := Lib.hid (O4.out.ge (g56.trans g7))
  have k1 : (1 : Int) + n * 3 ≤ 4611686018427387904 := by omega
  go_wp2_with (first
    | ((go_at_call 11; ((with_reducible refine (lMarkSquareS _ _ v3 n l 1 _ r3 (by omega) k1).mono ?_); rintro e w8 ⟨rfl, m8, t3⟩)); have G8 : Ge w w8 := G7.mine r3 (G2.size) m8; have S2 := Lib.hid (R2.out.typed r3 ty_ints_sq ty_int_sq m8); have S4 := Lib.hid (R4.out.typed r3 ty_ints_sq ty_int_sq m8); have G28 : Ge w2 w8 := Ge.mine ((G34.trans g56).trans g7) r3 (Nat.le_refl _) m8)
    | (go_at_call 9; ((with_reducible refine (HE.out u4 u2 _ (S4.out.read H3.out) (S2.out.readM HNl.out)).mono ?_); rintro e w9 ⟨rfl, g9⟩)))
  have G9 := G8.trans g9
  have G29 := G28.trans g9
  have z3w := (G2.trans g3).size
  go_wp2_with (go_at_call 12; ((with_reducible refine (lMarkIntSS _ u4 N (rowL R) H3.out 1 _ (S4.out.ge g9) (by omega) kN).mono ?_); rintro e w10 ⟨rfl, b4, k10⟩))
  have G10 : Ge w w10 := k10 w G9 z3w
  have G210 : Ge w2 w10 := k10 w2 G29 g3.size
  have B4 := Lib.hid b4
  clear b4
  go_wp2_with (go_at_call 13; ((with_reducible refine (lHeldIntSS _ u4 N 1 _ B4.out (by omega) kN).mono ?_); rintro e w11 ⟨rfl, rfl⟩))
  go_wp2_with (go_at_call 7; ((with_reducible refine (lToSquareS _ n l _ (SlF.ge HV.out G10) HLe.out).mono ?_); rintro e w12 ⟨v12, rfl, o12, g12⟩))
  go_wp2_with (go_at_call 8; ((with_reducible refine (HI.out v12 _ (SlF.of_owns o12) (owns_capT o12)).mono ?_); rintro e w13 ⟨u13, rfl, o13, g13⟩))
  have O13 := Lib.hid (o13.three HNl.out H3.out)
  clear o13
  have g123 := g12.trans g13
  go_wp2_with (go_at_call 9; ((with_reducible refine (HE.out u13 u2 _ (O13.out.read H3.out) ((O2.out.ge (G210.trans g123)).readM HNl.out)).mono ?_); rintro e w14 ⟨rfl, g14⟩))
  go_wp2_with (go_at_call 13; ((with_reducible refine (lHeldIntSS _ u4 N 1 _ (B4.out.ge (g123.trans g14)) (by omega) kN).mono ?_); rintro e w15 ⟨rfl, rfl⟩))
  go_ret
  exact ⟨rfl, (G10.trans g123).trans g14⟩
end Go.Proofs.Ytenfkpdbfmeebaa

namespace Go.Proofs.Ytenfkpdbfmeebaa
set_option maxRecDepth 100000
open Go.ChangeShapes Go.WideShapes Go.ChangeAt Go.RowKit Go.Joins

def segF (n i : Int) : Int := if i < 0 then 0 else nodeF n i
theorem segF_neg (n : Int) : segF n (-1) = 0 := by unfold segF; rw [if_pos (by omega)]
theorem segF_0 {n : Int} {k : Nat} (h : k = 0) : segF n k = 0 := by subst h; unfold segF nodeF; simp
theorem segF_1 {n : Int} {k : Nat} (h : ¬ k = 0) (h1 : (k : Int) = n - 1) : segF n k = 1 := by unfold segF nodeF; rw [if_neg (by omega), if_neg (by omega), if_pos h1]
theorem segF_k {n : Int} {k : Nat} (h : ¬ k = 0) (h1 : ¬ (k : Int) = n - 1) : segF n k = k + 1 := by unfold segF nodeF; rw [if_neg (by omega), if_neg (by omega), if_neg h1]

set_option maxHeartbeats 3200000 in
theorem sSegment (v : Value) (L : List (List Int)) (N base : Nat) (y X : Int) (w : World) (h : OwnL w base v L) (hN : L.length = N) (hm : N ≤ 1000000) (h3 : ∀ i, i < N → (rowL L i).length = 3) :
    Calls Try.prog 33 #[v, .int .i64 y, .int .i64 X] w fun e w' => e = .returned (.int .i64 (segF N (idxF (hitSeg L y X) N))) ∧ Ge w w' := by
  obtain ⟨p, cap, rfl, hrows⟩ := h.rows hN
  have hrow : Hid (∀ i, i < N → ∃ b o q cq, p = some ⟨b, o, none⟩ ∧ w.cell? ⟨b, o + i, none⟩ = some (.slice (some ⟨q, 0, none⟩) 3 cq) ∧ w.cell? ⟨q, 0, none⟩ = some (.int .i64 (r0 L i)) ∧ w.cell? ⟨q, 1, none⟩ = some (.int .i64 (r1 L i)) ∧ w.cell? ⟨q, 2, none⟩ = some (.int .i64 (r2 L i))) := fun i hi => by
    obtain ⟨b, o, q, cq, e1, e2, e3⟩ := hrows i hi
    have hl := h3 i hi
    rw [hl] at e2 e3
    obtain ⟨a0, a1, a2, ha⟩ : ∃ a0 a1 a2, rowL L i = [a0, a1, a2] := by
      match hr : rowL L i, hl with
      | [a0, a1, a2], _ => exact ⟨a0, a1, a2, rfl⟩
    rw [ha] at e3
    obtain ⟨g, rfl, x0, x1, x2⟩ := three_cellsP e3
    unfold r0 r1 r2
    rw [ha]
    exact ⟨b, o, g, cq, e1, e2, x0, x1, x2⟩
  have H0 := Lib.hid (idx_start (hitSeg L y X) N)
  have HH := Lib.hid (fun k hk => first_hit (p := hitSeg L y X) (n := N) (k := k) hk)
  have HN := Lib.hid (fun k hk => first_next (p := hitSeg L y X) (n := N) (k := k) hk)
  have HE := Lib.hid (fun k hk => first_end (p := hitSeg L y X) (n := N) (k := k) hk)
  have HP : Hid (∀ k, hitSeg L y X k = (decide (r0 L k = y) && decide (r1 L k ≤ X) && decide (X < r2 L k))) := fun k => rfl
  clear hrows h h3 hN
  generalize hitSeg L y X = P at *
  obtain ⟨R, hR⟩ : ∃ R, segF N (idxF P N) = R := ⟨_, rfl⟩
  rw [hR]
  have HR0 := Lib.hid hR
  clear hR
  go_enter Try.func33, Try.ntmps33
  go_wp2_with fail
  go_loopw [11] (fun i wr => ∃ k : Nat, i = .int .i64 (k : Int) ∧ k ≤ N ∧ Hid (idxF P N = firstF P (N - k) k) ∧ w = wr) (fun i _ => N - (intOf i).toNat)
  case atStart => exact ⟨0, rfl, Nat.zero_le _, H0.out, rfl⟩
  case round =>
    obtain ⟨k, rfl, hk, HR, rfl⟩ := hrel
    by_cases hlt : k < N
    · obtain ⟨b, o, q, cq, rfl, x, y0, y1, y2⟩ := hrow.out k hlt
      have HHk := Lib.hid (HH.out k hlt)
      have HNk := Lib.hid (HN.out k hlt)
      have HPk := Lib.hid (HP.out k)
      clear hrow HH HN HE H0 HP
      generalize r0 L k = a at *
      generalize r1 L k = c at *
      generalize r2 L k = d at *
      by_cases h1 : a = y
      · have t1 : (a == y) = true := by simpa using h1
        by_cases h2 : c ≤ X
        · have t2 : decide (c ≤ X) = true := by simpa using h2
          by_cases h4 : X < d
          · have t4 : decide (X < d) = true := by simpa using h4
            have hP : P k = true := by rw [HPk.out]; simp [h1, h2, h4]
            have HI : Hid (idxF P N = (k : Int)) := by show _ = _; rw [HR.out, HHk.out hP]
            clear HHk HNk HPk HR hP h1
            by_cases k0 : k = 0
            · have HF : Hid (R = 0) := by show _ = _; rw [← HR0.out, HI.out, segF_0 k0]
              have tk : ((k : Int) == 0) = true := by simp [k0]
              clear k0 HI HR0
              go_wp2_with fail
              go_ret
              exact ⟨ret_int HF.out.symm, Ge.refl _⟩
            · have tk : ((k : Int) == 0) = false := by simp; omega
              by_cases k1 : (k : Int) = (N : Int) - 1
              · have HF : Hid (R = 1) := by show _ = _; rw [← HR0.out, HI.out, segF_1 k0 k1]
                have tk1 : ((k : Int) == (N : Int) - 1) = true := by simpa using k1
                clear k1 HI HR0
                go_wp2_with fail
                go_ret
                exact ⟨ret_int HF.out.symm, Ge.refl _⟩
              · have HF : Hid (R = k + 1) := by show _ = _; rw [← HR0.out, HI.out, segF_k k0 k1]
                have tk1 : ((k : Int) == (N : Int) - 1) = false := by simpa using k1
                clear HI HR0
                go_wp2_with fail
                go_ret
                exact ⟨ret_int HF.out.symm, Ge.refl _⟩
          · have t4 : decide (X < d) = false := by simpa using h4
            have hP : P k = false := by rw [HPk.out]; simp [h4]
            have HI : Hid (idxF P N = firstF P (N - (k + 1)) (k + 1)) := by show _ = _; rw [HR.out, HNk.out hP]
            clear HHk HNk HPk HR hP h1 HR0
            go_wp2_with fail
            go_roundw
            case rel => exact ⟨k + 1, by go_num, by omega, HI, by trivial⟩
            case measure => simp [intOf]; omega
        · have t2 : decide (c ≤ X) = false := by simpa using h2
          have hP : P k = false := by rw [HPk.out]; simp [h2]
          have HI : Hid (idxF P N = firstF P (N - (k + 1)) (k + 1)) := by show _ = _; rw [HR.out, HNk.out hP]
          clear HHk HNk HPk HR hP h1 HR0
          go_wp2_with fail
          go_roundw
          case rel => exact ⟨k + 1, by go_num, by omega, HI, by trivial⟩
          case measure => simp [intOf]; omega
      · have t1 : (a == y) = false := by simpa using h1
        have hP : P k = false := by rw [HPk.out]; simp [h1]
        have HI : Hid (idxF P N = firstF P (N - (k + 1)) (k + 1)) := by show _ = _; rw [HR.out, HNk.out hP]
        clear HHk HNk HPk HR hP h1 HR0
        go_wp2_with fail
        go_roundw
        case rel => exact ⟨k + 1, by go_num, by omega, HI, by trivial⟩
        case measure => simp [intOf]; omega
    · have HF : Hid (R = 0) := by show _ = _; rw [← HR0.out, HR.out, HE.out k hlt, segF_neg]
      have hkN : k = N := by omega
      subst hkN
      go_wp2_with fail
      go_ret
      exact ⟨ret_int HF.out.symm, Ge.refl _⟩
end Go.Proofs.Ytenfkpdbfmeebaa

namespace Go.Proofs.Ytenfkpdbfmeebaa
set_option maxRecDepth 100000
open Go.ChangeShapes Go.WideShapes Go.ChangeAt Go.RowKit Go.Joins

noncomputable def notN (n : Nat) (xs : List Int) : Nat := (levQ n xs).length
noncomputable def notW (n : Nat) (xs : List Int) : List Wr := wirT xs (levQ n xs) (notN n xs) n
noncomputable def notB (n : Nat) (xs : List Int) : Bool := tileB n xs && netB (notN n xs) 2 1 (notW n xs).length (flatW (notW n xs))

set_option maxHeartbeats 6400000 in
theorem sNotT (v : Value) (n : Nat) (xs : List Int) (w : World) (hv : SlF w v n 3 xs) (hm : n ≤ 9223372036854775807) (hb : ∀ j, -9223372036854775808 ≤ nth xs j ∧ nth xs j ≤ 9223372036854775807) (hcap : ∀ p c, v = .slice p n c → n ≤ c) (hB : tileB n xs = true) :
    Calls Try.prog 14 #[v] w (GivesO w (netB (notN n xs) 2 1 (notW n xs).length (flatW (notW n xs))) (notN n xs) 2 1 (notW n xs)) := by
  obtain ⟨p, cap, rfl, hc⟩ := hv.open
  have HV := Lib.hid hv
  have HC := Lib.hid hc
  have HBd := Lib.hid hb
  have HCap := Lib.hid hcap
  clear hv hc hb hcap
  have HLv := Lib.hid (fun w' (g : Ge w w') => sLevelsOf (.slice p n cap) n xs w' (HV.out.ge g) hm HBd.out HCap.out)
  obtain ⟨h0, h12, hsq, _⟩ : tileP n xs := by
    unfold tileB at hB
    split at hB
    · assumption
    · cases hB
  have hok : ∀ i, i < n → okSq xs i := fun i hi => (hsq i hi).1
  have HOK := Lib.hid hok
  have hr := right_bd n hok
  have hl := low_bd n hok
  obtain ⟨W, hW⟩ : ∃ W : Nat, rightSq xs n = W := ⟨(rightSq xs n).toNat, by omega⟩
  obtain ⟨H, hH⟩ : ∃ H : Nat, lowSq xs n = H := ⟨(lowSq xs n).toNat, by omega⟩
  have hQ : levQ n xs = levU xs n W (H + 1) := by rw [levQ_t hB]; unfold levT; rw [hW, hH]; simp
  have hN3 := levQ_three n xs
  have hNl := levQ_len n xs
  have HNF := Lib.hid (fun k (hk : k < n) => nod_facts hok hW hH hQ rfl (k := k) hk)
  have HWl := Lib.hid (wirT_len xs (levQ n xs) (notN n xs))
  have HW0 : Hid (wirT xs (levQ n xs) (notN n xs) 0 = []) := rfl
  have HW1 : Hid (∀ k, wirT xs (levQ n xs) (notN n xs) (k + 1) = putW (wirT xs (levQ n xs) (notN n xs) k) (nodA xs (levQ n xs) (notN n xs) k) (nodB xs (levQ n xs) (notN n xs) k) 1 true) := fun k => rfl
  have HAd : Hid (∀ k j : Nat, k ≤ n → ∀ a b : Int, -9000000000000000000 ≤ addS true a b 1 ((wirT xs (levQ n xs) (notN n xs) k).take j) ∧ addS true a b 1 ((wirT xs (levQ n xs) (notN n xs) k).take j) ≤ 9000000000000000000) := fun k j hk a b => by
    have := wirT_add xs (levQ n xs) (notN n xs) a b hk h12 j
    unfold addS
    rw [if_pos rfl]
    omega
  have HNW : Hid (notW n xs = wirT xs (levQ n xs) (notN n xs) n) := rfl
  have hNN : (levQ n xs).length = notN n xs := rfl
  have h2N := (HNF.out 0 (by omega)).1
  rw [hNN] at HNF hNl h2N
  generalize notW n xs = LW at *
  generalize notN n xs = N at *
  have H3 : Hid (∀ i, i < N → (rowL (levQ n xs) i).length = 3) := fun i hi => hN3 _ (rowL_mem (by omega))
  have HLN := Lib.hid hNN
  generalize levQ n xs = L at *
  have HSG := Lib.hid (fun (vl : Value) (w1 : World) (o1 : OwnL w1 w.heap.size vl L) (y X : Int) (w' : World) (g : Ge w1 w') => sSegment vl L N w.heap.size y X w' (o1.ge g) HLN.out (by omega) H3.out)
  have HNO := Lib.hid (fun (s : Value) (w' : World) (h : SlF w' s LW.length 3 (flatW LW)) (hl : LW.length ≤ 9223372036854775807) => sNetOk N 2 1 s LW.length (flatW LW) w' h hl)
  have t0 : ((N : Int) == 0) = false := by simp; omega
  clear hQ hN3 hNN hsq hW hH hB
  go_enter Try.func14, Try.ntmps14
  go_upto_region 1 with (fail)
  have R0 := ResD.new w (.int .i64 0) (.int .i64 0) (.int .i64 0) (.slice none 0 0) 35
  have gR := Ge.alloc (Ge.refl w) (.cells #[.int .i64 0, .int .i64 0, .int .i64 0, .slice none 0 0] 35)
  have zR : w.heap.size < (w.alloc (.cells #[.int .i64 0, .int .i64 0, .int .i64 0, .slice none 0 0] 35)).heap.size := by simp
  generalize w.alloc (.cells #[.int .i64 0, .int .i64 0, .int .i64 0, .slice none 0 0] 35) = wR at *
  go_upto_region 5 with ((go_at_call 6; ((with_reducible refine (HLv.out _ gR).mono ?_); rintro e w1 ⟨u1, rfl, o1, g1⟩)); have O1 := Lib.hid o1; have hform := OwnL.read o1 HLN.out; obtain ⟨pl, cl, hfe, _⟩ := hform; subst hfe; have G1 := Lib.hid (gR.trans g1); have R1 := Lib.hid (R0.ge g1); have z1 := g1.size; clear o1 g1)
  have O2 := Lib.hid (O1.out.mono (show w.heap.size ≤ wR.heap.size by omega))
  have NA := Lib.hid (NetAt.start (n := N) (E := 2) (S := 1) R1.out)
  have GA := Lib.hid (Ge.alloc G1.out (.cells #[.int .i64 (N : Int), .int .i64 2, .int .i64 1, .slice none 0 0] 35))
  have GB := Lib.hid (Ge.alloc (Ge.refl w1) (.cells #[.int .i64 (N : Int), .int .i64 2, .int .i64 1, .slice none 0 0] 35))
  have zw2 : w.heap.size < w1.heap.size := by omega
  have HS1 := Lib.hid (HSG.out _ _ O2.out)
  clear O1 O2 HSG R0 R1 gR
  go_wp2_with fail
  go_loopw [19] (fun kv wr => ∃ (k : Nat) (u : Value), kv = .int .i64 (k : Int) ∧ k ≤ n ∧ Hid (NetAt wr w.heap.size w1.heap.size N 2 1 u (wirT xs L N k)) ∧ Hid (Ge w1 wr)) (fun kv _ => n - (intOf kv).toNat)
  case atStart => exact ⟨0, _, rfl, Nat.zero_le _, NA.out, GB.out⟩
  case round =>
    clear NA GA GB
    obtain ⟨k, u, rfl, hk, HN, HG⟩ := hrel
    by_cases hlt : k < n
    · obtain ⟨b, o, rfl, x0, x1, x2⟩ := three_cells HC.out hlt
      have y0 := HG.out.keep (G1.out.keep x0)
      have y1 := HG.out.keep (G1.out.keep x1)
      have y2 := HG.out.keep (G1.out.keep x2)
      clear x0 x1 x2
      obtain ⟨_, ⟨a1, a2⟩, ⟨b1, b2⟩, hne, ⟨iA, eA, fA⟩, ⟨iB, eB, fB⟩⟩ := HNF.out k hlt
      obtain ⟨c1, c2, c3, c4, c5, c6⟩ := HOK.out k hlt
      have hA : segF N (idxF (hitSeg L (sy xs k) (sx xs k)) N) = nodA xs L N k := by rw [eA, ← fA]; unfold segF; rw [if_neg (by omega)]
      have hB : segF N (idxF (hitSeg L (sy xs k + ss xs k) (sx xs k)) N) = nodB xs L N k := by rw [eB, ← fB]; unfold segF; rw [if_neg (by omega)]
      have HSA := Lib.hid (fun w' (g : Ge w1 w') => HS1.out (sy xs k) (sx xs k) w' g)
      have HSB := Lib.hid (fun w' (g : Ge w1 w') => HS1.out (sy xs k + ss xs k) (sx xs k) w' g)
      rw [hA] at HSA
      rw [hB] at HSB
      have HAk := Lib.hid (fun j => HAd.out k j hk)
      have HLk := Lib.hid (HWl.out k)
      have HWk := Lib.hid (HW1.out k)
      change wr.cell? ⟨b, o + k * 3, none⟩ = some (.int .i64 (sx xs k)) at y0
      change wr.cell? ⟨b, o + k * 3 + 1, none⟩ = some (.int .i64 (sy xs k)) at y1
      change wr.cell? ⟨b, o + k * 3 + 2, none⟩ = some (.int .i64 (ss xs k)) at y2
      clear eA fA eB fB hA hB hne
      generalize nodA xs L N k = A at *
      generalize nodB xs L N k = B at *
      generalize sx xs k = X at *
      generalize sy xs k = Y at *
      generalize ss xs k = Z at *
      have tw : IntKind.i64.wrap (Y + Z) = Y + Z := IntWalk.i64_in _ (by omega)
      clear iA iB
      have HNd := Lib.hid (HN.out.ge (Ge.drew (Ge.alloc (Ge.refl wr) (.cells #[.int .i64 X, .int .i64 Y, .int .i64 Z] 45))))
      have HGd := Lib.hid (HG.out.trans (Ge.drew (Ge.alloc (Ge.refl wr) (.cells #[.int .i64 X, .int .i64 Y, .int .i64 Z] 45))))
      have B0 := Lib.hid (cell_drew (cell_new (w := wr) (t := 45) (cs := #[.int .i64 X, .int .i64 Y, .int .i64 Z]) (i := 0) rfl rfl))
      have B1 := Lib.hid (cell_drew (cell_new (w := wr) (t := 45) (cs := #[.int .i64 X, .int .i64 Y, .int .i64 Z]) (i := 1) rfl rfl))
      have B2 := Lib.hid (cell_drew (cell_new (w := wr) (t := 45) (cs := #[.int .i64 X, .int .i64 Y, .int .i64 Z]) (i := 2) rfl rfl))
      go_wp2_with fail
      refine wp_region_head (S := fun w' => w'.cell? ⟨w1.heap.size, 3, none⟩ = some u ∧ w'.cell? ⟨wr.heap.size, 0, none⟩ = some (.int .i64 X) ∧ w'.cell? ⟨wr.heap.size, 1, none⟩ = some (.int .i64 Y) ∧ w'.cell? ⟨wr.heap.size, 2, none⟩ = some (.int .i64 Z)) 19 (by kernel_rfl) (by kernel_rfl) (⟨HNd.out.c3, B0.out, B1.out, B2.out⟩) (fun hHeld => ?_)
      refine head_take 0 (v := ?_) rfl (by kernel_rfl) (by kernel_rfl) (fun _ _ _ h => h) (by assumption) (yields_if (by rfl) ?_) ?_
      rotate_left
      focus (intro w' hSw; (try dsimp only at hSw); go_simp; (try with_reducible rfl))
      (try simp only [Act.put, List.setIfInBounds_toArray, List.set_cons_zero, List.set_cons_succ])
      refine head_take 1 (v := ?_) rfl (by kernel_rfl) (by kernel_rfl) (fun _ _ _ h => h) (by assumption) (yields_if (by rfl) ?_) ?_
      rotate_left
      focus (intro w' hSw; (try dsimp only at hSw); go_simp; (try with_reducible rfl))
      (try simp only [Act.put, List.setIfInBounds_toArray, List.set_cons_zero, List.set_cons_succ])
      refine head_take 2 (v := ?_) rfl (by kernel_rfl) (by kernel_rfl) (fun _ _ _ h => h) (by assumption) (yields_if (by rfl) ?_) ?_
      rotate_left
      focus (intro w' hSw; (try dsimp only at hSw); go_simp; (try with_reducible rfl))
      (try simp only [Act.put, List.setIfInBounds_toArray, List.set_cons_zero, List.set_cons_succ])
      refine head_take 3 (v := ?_) rfl (by kernel_rfl) (by kernel_rfl) (fun _ _ _ h => h) (by assumption) (yields_if (by rfl) ?_) ?_
      rotate_left
      focus (intro w' hSw; (try dsimp only at hSw); go_simp; (try with_reducible rfl))
      (try simp only [Act.put, List.setIfInBounds_toArray, List.set_cons_zero, List.set_cons_succ])
      refine head_take 4 (v := ?_) rfl (by kernel_rfl) (by kernel_rfl) (fun _ _ _ h => h) (by assumption) (yields_if (by rfl) ?_) ?_
      rotate_left
      focus (intro w' hSw; (try dsimp only at hSw); go_simp; (try with_reducible rfl))
      (try simp only [Act.put, List.setIfInBounds_toArray, List.set_cons_zero, List.set_cons_succ])
      refine head_take 5 (v := ?_) rfl (by kernel_rfl) (by kernel_rfl) (fun _ _ _ h => h) (by assumption) (yields_if (by rfl) ?_) ?_
      rotate_left
      focus (intro w' hSw; (try dsimp only at hSw); go_simp; (try with_reducible rfl))
      (try simp only [Act.put, List.setIfInBounds_toArray, List.set_cons_zero, List.set_cons_succ])
      refine head_take 6 (v := ?_) rfl (by kernel_rfl) (by kernel_rfl) (fun _ _ _ h => h) (by assumption) (yields_if (by rfl) ?_) ?_
      rotate_left
      focus (intro w' hSw; (try dsimp only at hSw); go_simp; (try with_reducible rfl))
      (try simp only [Act.put, List.setIfInBounds_toArray, List.set_cons_zero, List.set_cons_succ])
      refine head_take 8 (v := ?_) rfl (by kernel_rfl) (by kernel_rfl) (fun _ _ _ h => h) (by assumption) (yields_if (by rfl) ?_) ?_
      rotate_left
      focus (intro w' hSw; (try dsimp only at hSw); go_simp; (try with_reducible rfl))
      (try simp only [Act.put, List.setIfInBounds_toArray, List.set_cons_zero, List.set_cons_succ])
      refine head_take 9 (v := ?_) rfl (by kernel_rfl) (by kernel_rfl) (fun _ _ _ h => h) (by assumption) (yields_if (by rfl) ?_) ?_
      rotate_left
      focus (intro w' hSw; (try dsimp only at hSw); go_simp; (try with_reducible rfl))
      (try simp only [Act.put, List.setIfInBounds_toArray, List.set_cons_zero, List.set_cons_succ])
      refine head_take 10 (v := ?_) rfl (by kernel_rfl) (by kernel_rfl) (fun _ _ _ h => h) (by assumption) (yields_if (by rfl) ?_) ?_
      rotate_left
      focus (intro w' hSw; (try dsimp only at hSw); go_simp; (try with_reducible rfl))
      (try simp only [Act.put, List.setIfInBounds_toArray, List.set_cons_zero, List.set_cons_succ])
      refine head_take 11 (v := ?_) rfl (by kernel_rfl) (by kernel_rfl) (fun _ _ _ h => h) (by assumption) (yields_if (by rfl) ?_) ?_
      rotate_left
      focus (intro w' hSw; (try dsimp only at hSw); go_simp; (try with_reducible rfl))
      (try simp only [Act.put, List.setIfInBounds_toArray, List.set_cons_zero, List.set_cons_succ])
      refine head_take 12 (v := ?_) rfl (by kernel_rfl) (by kernel_rfl) (fun _ _ _ h => h) (by assumption) (yields_if (by rfl) ?_) ?_
      rotate_left
      focus (intro w' hSw; (try dsimp only at hSw); go_simp; (try with_reducible rfl))
      (try simp only [Act.put, List.setIfInBounds_toArray, List.set_cons_zero, List.set_cons_succ])
      refine head_take 13 (v := ?_) rfl (by kernel_rfl) (by kernel_rfl) (fun _ _ _ h => h) (by assumption) (yields_if (by rfl) ?_) ?_
      rotate_left
      focus (intro w' hSw; (try dsimp only at hSw); go_simp; (try with_reducible rfl))
      (try simp only [Act.put, List.setIfInBounds_toArray, List.set_cons_zero, List.set_cons_succ])
      refine head_take 14 (v := ?_) rfl (by kernel_rfl) (by kernel_rfl) (fun _ _ _ h => h) (by assumption) (yields_if (by rfl) ?_) ?_
      rotate_left
      focus (intro w' hSw; (try dsimp only at hSw); go_simp; (try with_reducible rfl))
      (try simp only [Act.put, List.setIfInBounds_toArray, List.set_cons_zero, List.set_cons_succ])
      refine head_take 15 (v := ?_) rfl (by kernel_rfl) (by kernel_rfl) (fun _ _ _ h => h) (by assumption) (yields_if (by rfl) ?_) ?_
      rotate_left
      focus (intro w' hSw; (try dsimp only at hSw); go_simp; (try with_reducible rfl))
      (try simp only [Act.put, List.setIfInBounds_toArray, List.set_cons_zero, List.set_cons_succ])
      refine head_one 7 rfl (by kernel_rfl) (fun K hK => ?_)
      go_simp
      (go_at_call 33; ((with_reducible refine (HSA.out _ HGd.out).mono ?_); rintro e w4 ⟨rfl, g4⟩))
      refine hK.out _ _ ⟨(HNd.out.ge g4).c3, g4.keep B0.out, g4.keep B1.out, g4.keep B2.out⟩ (fun hHeld => ?_)
      clear hK K
      (try simp only [Act.put, List.setIfInBounds_toArray, List.set_cons_zero, List.set_cons_succ])
      refine head_one 16 rfl (by kernel_rfl) (fun K hK => ?_)
      go_simp
      (go_at_call 33; ((with_reducible refine (HSB.out _ (HGd.out.trans g4)).mono ?_); rintro e w5 ⟨rfl, g5⟩))
      have g45 := g4.trans g5
      refine hK.out _ _ ⟨(HNd.out.ge g45).c3, g45.keep B0.out, g45.keep B1.out, g45.keep B2.out⟩ (fun hHeld => ?_)
      clear hK K
      (try simp only [Act.put, List.setIfInBounds_toArray, List.set_cons_zero, List.set_cons_succ])
      have HN5 := Lib.hid (HNd.out.ge g45)
      have zG := World.block_lt_of_cell? _ _ HN5.out.c3
      refine head_one 17 rfl (by kernel_rfl) (fun K hK => ?_)
      go_simp
      (go_at_call 32; ((with_reducible refine (sL03Put u (wirT xs L N k) A B 1 true _ (SlF.of_owns HN5.out.own) (by have := HLk.out; omega) (fun j _ => HAk.out j _ _)).mono ?_); rintro e w6 ⟨u6, rfl, own6, g6⟩))
      obtain ⟨p6, c6, rfl⟩ := owns_form own6
      have HN6 := Lib.hid (HN5.out.ge g6)
      have g456 := g45.trans g6
      have a3 := HN6.out.c3
      have af := HN6.out.f3
      refine hK.out _ _ ⟨HN6.out.c3, g456.keep B0.out, g456.keep B1.out, g456.keep B2.out⟩ (fun hHeld => ?_)
      clear hK K
      (try simp only [Act.put, List.setIfInBounds_toArray, List.set_cons_zero, List.set_cons_succ])
      refine head_take 18 (v := ?_) rfl (by kernel_rfl) (by kernel_rfl) (fun _ _ _ h => h) (by assumption) (yields_if (by rfl) ?_) ?_
      rotate_left
      focus (intro w' hSw; (try dsimp only at hSw); go_simp; (try with_reducible rfl))
      (try simp only [Act.put, List.setIfInBounds_toArray, List.set_cons_zero, List.set_cons_succ])
      refine head_done (by kernel_rfl) ?_
      go_wp2_with fail
      go_roundw
      case rel => exact ⟨k + 1, _, by go_num, by omega, by rw [HWk.out]; exact HN6.out.put zw2 (owns_mono own6 zG), Ge.setCell (HGd.out.trans g456) (Nat.le_refl _) _⟩
      case measure => simp [intOf]; omega
    · have hkn : k = n := by omega
      subst hkn
      rw [← HNW.out] at HN
      have HOw := Lib.hid (SlF.of_owns HN.out.own)
      have hll : Hid (LW.length ≤ k) := by show _ ≤ _; rw [HNW.out]; exact HWl.out k
      have HNOu := Lib.hid (fun w' (g : Ge wr w') => HNO.out u w' (HOw.out.ge g) (Nat.le_trans hll.out hm))
      obtain ⟨a0, a1, a2, a3, af, ao, ar⟩ := HN.out
      obtain ⟨r0, p0, f0⟩ := ar 0 (by omega)
      obtain ⟨r1, p1, f1⟩ := ar 1 (by omega)
      obtain ⟨r2, p2, f2⟩ := ar 2 (by omega)
      obtain ⟨r3, p3, f3⟩ := ar 3 (by omega)
      obtain ⟨pu, cu, rfl⟩ := owns_form ao
      have HO := Lib.hid ao
      have GW := Lib.hid (G1.out.trans HG.out)
      clear ao ar HNO HAd HWl
      have HL2 : Hid (∃ m, LW.length = m) := ⟨_, rfl⟩
      cases hB : netB N 2 1 LW.length (flatW LW) with
      | true =>
        rw [hB] at HNOu
        have HT1 := Lib.hid (fun u w' ho g => GivesO.t (w := w) (w' := w') (N := N) (E := 2) (S := 1) (L := LW) (u := u) hB ho g)
        go_wp2_with ((go_at_call 34; ((with_reducible refine (HNOu.out _ (Ge.refl _)).mono ?_); rintro r w9 ⟨rfl, g9⟩)); have e0 := g9.keep a0; have e1 := g9.keep a1; have e2 := g9.keep a2; have e3 := g9.keep a3; have q0 := g9.keep p0; have q1 := g9.keep p1; have q2 := g9.keep p2; have q3 := g9.keep p3; have h0 := g9.keepF p0 f0; have h1 := g9.keepF p1 f1; have h2 := g9.keepF p2 f2; have h3 := g9.keepF p3 f3; have o9 := g9.owns HO.out; have gw9 := GW.out.trans g9)
        exact bodyPost_ret (v := .tuple #[.agg #[.int .i64 (N : Int), .int .i64 2, .int .i64 1, .slice pu LW.length cu], .bool true]) (by simp [results, Try.results14, go_sem, *]) rfl (HT1.out _ _ (by refine owns_mono (base := w1.heap.size + 1) ?_ (by omega); repeat (first | exact o9 | refine own_setD ?_ (by omega))) (by repeat (first | exact gw9 | refine Ge.setCell ?_ (Nat.le_refl _) _)))
      | false =>
        rw [hB] at HNOu
        have HT1 := Lib.hid (fun w' g => GivesO.f (w := w) (w' := w') (N := N) (E := 2) (S := 1) (L := LW) hB g)
        go_wp2_with ((go_at_call 34; ((with_reducible refine (HNOu.out _ (Ge.refl _)).mono ?_); rintro r w9 ⟨rfl, g9⟩)); have q0 := g9.keep p0; have q1 := g9.keep p1; have q2 := g9.keep p2; have q3 := g9.keep p3; have h0 := g9.keepF p0 f0; have h1 := g9.keepF p1 f1; have h2 := g9.keepF p2 f2; have h3 := g9.keepF p3 f3; have gw9 := GW.out.trans g9)
        exact bodyPost_ret (v := .tuple #[.agg #[.int .i64 0, .int .i64 0, .int .i64 0, .slice none 0 0], .bool false]) (by simp [results, Try.results14, go_sem, *]) rfl (HT1.out _ (by repeat (first | exact gw9 | refine Ge.setCell ?_ (Nat.le_refl _) _)))

theorem netW_nil (n : Nat) (xs : List Int) (h : tileB n xs = false) : netB (notN n xs) 2 1 (notW n xs).length (flatW (notW n xs)) = false := by
  have e : notN n xs = 0 := by unfold notN; rw [levQ_f h]; rfl
  cases hb : netB (notN n xs) 2 1 (notW n xs).length (flatW (notW n xs)) with
  | false => rfl
  | true => have := (netP_of hb).1; rw [e] at this; omega
theorem sNetOfTiling (v : Value) (n : Nat) (xs : List Int) (w : World) (hv : SlF w v n 3 xs) (hm : n ≤ 9223372036854775807) (hb : ∀ j, -9223372036854775808 ≤ nth xs j ∧ nth xs j ≤ 9223372036854775807) (hcap : ∀ p c, v = .slice p n c → n ≤ c) :
    Calls Try.prog 14 #[v] w (GivesO w (netB (notN n xs) 2 1 (notW n xs).length (flatW (notW n xs))) (notN n xs) 2 1 (notW n xs)) := by
  cases hB : tileB n xs with
  | true => exact sNotT v n xs w hv hm hb hcap hB
  | false =>
    obtain ⟨p, cap, rfl, hc⟩ := hv.open
    have HV := Lib.hid hv
    have HBd := Lib.hid hb
    have HCap := Lib.hid hcap
    clear hv hc hb hcap
    rw [netW_nil n xs hB]
    have HT1 := Lib.hid (fun w' g => GivesO.f (w := w) (w' := w') (b := false) (N := notN n xs) (E := 2) (S := 1) (L := notW n xs) rfl g)
    have HLv := Lib.hid (fun w' (g : Ge w w') => sLevelsOf (.slice p n cap) n xs w' (HV.out.ge g) hm HBd.out HCap.out)
    rw [levQ_f hB] at HLv
    clear hB
    go_enter Try.func14, Try.ntmps14
    go_upto_region 1 with (fail)
    have R0 := ResD.new w (.int .i64 0) (.int .i64 0) (.int .i64 0) (.slice none 0 0) 35
    have gR := Ge.alloc (Ge.refl w) (.cells #[.int .i64 0, .int .i64 0, .int .i64 0, .slice none 0 0] 35)
    generalize w.alloc (.cells #[.int .i64 0, .int .i64 0, .int .i64 0, .slice none 0 0] 35) = wR at *
    go_wp2_with ((go_at_call 6; ((with_reducible refine (HLv.out _ gR).mono ?_); rintro e w1 ⟨u1, rfl, o1, g1⟩)); have hform := OwnL.read o1 rfl; obtain ⟨pl, cl, hfe, _⟩ := hform; subst hfe; have gw9 := gR.trans g1; have R1 := R0.ge g1; obtain ⟨r0, q0, h0⟩ := R1 0 (by omega); obtain ⟨r1, q1, h1⟩ := R1 1 (by omega); obtain ⟨r2, q2, h2⟩ := R1 2 (by omega); obtain ⟨r3, q3, h3⟩ := R1 3 (by omega); clear o1)
    exact bodyPost_ret (v := .tuple #[.agg #[.int .i64 0, .int .i64 0, .int .i64 0, .slice none 0 0], .bool false]) (by simp [results, Try.results14, go_sem, *]) rfl (HT1.out _ (by repeat (first | exact gw9 | refine Ge.setCell ?_ (Nat.le_refl _) _)))
end Go.Proofs.Ytenfkpdbfmeebaa

namespace Go.Proofs.Ytenfkpdbfmeebaa
set_option maxRecDepth 100000
open Go.ChangeShapes Go.WideShapes Go.ChangeAt Go.RowKit Go.Joins

theorem GivesO.tt {w w' : World} {N E S : Int} {L : List Wr} {r : Ending} (h : GivesO w true N E S L r w') : ∃ u, r = .returned (.tuple #[.agg #[.int .i64 N, .int .i64 E, .int .i64 S, u], .bool true]) ∧ w'.ownsRow w.heap.size 71 3 u L.length (icells (flatW L)) ∧ Ge w w' := by
  rcases h.2 with ⟨_, u, h1, h2⟩ | ⟨h1, _⟩
  · exact ⟨u, h1, h2, h.1⟩
  · cases h1
theorem GivesO.ff {w w' : World} {N E S : Int} {L : List Wr} {r : Ending} (h : GivesO w false N E S L r w') : r = .returned (.tuple #[.agg #[.int .i64 0, .int .i64 0, .int .i64 0, .slice none 0 0], .bool false]) ∧ Ge w w' := by
  rcases h.2 with ⟨h1, _⟩ | ⟨_, h1⟩
  · cases h1
  · exact ⟨h1, h.1⟩

end Go.Proofs.Ytenfkpdbfmeebaa

namespace Go.Proofs.Ytenfkpdbfmeebaa
set_option maxRecDepth 100000
open Go.ChangeShapes Go.WideShapes Go.ChangeAt Go.RowKit Go.Joins

theorem OutL.ownL {w : World} {base B f : Nat} {v : Value} {L : List (List Int)} (h : OutL w base B f v L) : OwnL w base v L := by
  obtain ⟨cs, q, cq, h1, h2, _⟩ := h
  exact ⟨cs, h1, fun i hi => ⟨_, _, (h2 i hi).1, owns_mono (h2 i hi).2 (Nat.zero_le _)⟩⟩
theorem netB_big {N E S : Int} {m : Nat} {xs : List Int} (h : 5 < N) : netB N E S m xs = false := by
  cases hb : netB N E S m xs with
  | false => rfl
  | true => have := (netP_of hb).1; omega

set_option maxHeartbeats 6400000 in
theorem iNotT (v : Value) (n : Nat) (xs : List Int) (w : World) (hv : SlF w v n 3 xs) (hm : n ≤ 9223372036854775807) (hb : ∀ j, -9223372036854775808 ≤ nth xs j ∧ nth xs j ≤ 9223372036854775807) (hcap : ∀ p c, v = .slice p n c → n ≤ c) (hB : tileB n xs = true) :
    Calls Try.prog 15 #[v] w (GivesO w (netB (notN n xs) 2 1 (notW n xs).length (flatW (notW n xs))) (notN n xs) 2 1 (notW n xs)) := by
  obtain ⟨p, cap, rfl, hc⟩ := hv.open
  have HV := Lib.hid hv
  have HC := Lib.hid hc
  have HBd := Lib.hid hb
  have HCap := Lib.hid hcap
  clear hv hc hb hcap
  have HLv := Lib.hid (fun w' (g : Ge w w') => iLevelsOf (.slice p n cap) n xs w' (HV.out.ge g) hm HBd.out HCap.out)
  obtain ⟨h0, h12, hsq, _⟩ : tileP n xs := by
    unfold tileB at hB
    split at hB
    · assumption
    · cases hB
  have hok : ∀ i, i < n → okSq xs i := fun i hi => (hsq i hi).1
  have HOK := Lib.hid hok
  have hr := right_bd n hok
  have hl := low_bd n hok
  obtain ⟨W, hW⟩ : ∃ W : Nat, rightSq xs n = W := ⟨(rightSq xs n).toNat, by omega⟩
  obtain ⟨H, hH⟩ : ∃ H : Nat, lowSq xs n = H := ⟨(lowSq xs n).toNat, by omega⟩
  have hQ : levQ n xs = levU xs n W (H + 1) := by rw [levQ_t hB]; unfold levT; rw [hW, hH]; simp
  have hN3 := levQ_three n xs
  have hNl := levQ_len n xs
  have HNF := Lib.hid (fun k (hk : k < n) => nod_facts hok hW hH hQ rfl (k := k) hk)
  have hTab : notW n xs = tabC (fun i j => tabT xs (levQ n xs) (notN n xs) n i j) (notN n xs) (notN n xs) := wirT_tab hok hW hH hQ rfl
  have HTb := Lib.hid (fun (k : Nat) (i j : Int) => tab_bd xs (levQ n xs) (notN n xs) i j k)
  have HT0 : Hid (∀ i j : Int, tabT xs (levQ n xs) (notN n xs) 0 i j = 0) := fun i j => rfl
  have HT1 : Hid (∀ k (i j : Int), tabT xs (levQ n xs) (notN n xs) (k + 1) i j = tabT xs (levQ n xs) (notN n xs) k i j + (if i = min (nodA xs (levQ n xs) (notN n xs) k) (nodB xs (levQ n xs) (notN n xs) k) ∧ j = max (nodA xs (levQ n xs) (notN n xs) k) (nodB xs (levQ n xs) (notN n xs) k) then 1 else 0)) := fun k i j => rfl
  have HND : Hid (∀ k, nodA xs (levQ n xs) (notN n xs) k = nodeF (notN n xs) (idxF (hitImp (levQ n xs) (sy xs k) (sx xs k) (ss xs k)) (notN n xs)) ∧ nodB xs (levQ n xs) (notN n xs) k = nodeF (notN n xs) (idxF (hitImp (levQ n xs) (sy xs k + ss xs k) (sx xs k) (ss xs k)) (notN n xs))) := fun k => ⟨rfl, rfl⟩
  have hNN : (levQ n xs).length = notN n xs := rfl
  have h2N := (HNF.out 0 (by omega)).1
  rw [hNN] at HNF hNl h2N
  generalize notW n xs = LW at *
  generalize notN n xs = N at *
  have H3 : Hid (∀ i, i < N → (rowL (levQ n xs) i).length = 3) := fun i hi => hN3 _ (rowL_mem (by omega))
  have HLN := Lib.hid hNN
  generalize levQ n xs = L at *
  have HLW := Lib.hid hTab
  clear hQ hN3 hNN hsq hW hH hB hTab hok hr hl h0
  go_enter Try.func15, Try.ntmps15
  go_upto_region 1 with (fail)
  have HNU := Lib.hid (fun (k : Nat) (hk5 : k ≤ 5) (T : Int → Int → Int) (hT : ∀ i j : Nat, i < k → j < k → 0 ≤ T i j ∧ T i j ≤ 1000000000) (vm : Value) (w' : World) (h : SlMM w' vm k T) => iNetOfU k 2 1 T vm w' h hk5 (by omega) (by omega) hT)
  have R0 := ResD.new w (.int .i64 0) (.int .i64 0) (.int .i64 0) (.slice none 0 0) 35
  have gR := Ge.alloc (Ge.refl w) (.cells #[.int .i64 0, .int .i64 0, .int .i64 0, .slice none 0 0] 35)
  have zR : w.heap.size < (w.alloc (.cells #[.int .i64 0, .int .i64 0, .int .i64 0, .slice none 0 0] 35)).heap.size := by simp
  generalize w.alloc (.cells #[.int .i64 0, .int .i64 0, .int .i64 0, .slice none 0 0] 35) = wR at *
  have t1 : decide ((N : Int) < 2) = false := by simp; omega
  go_upto_region 3 with ((go_at_call 8; ((with_reducible refine (HLv.out _ gR).mono ?_); rintro e w1 ⟨u1, rfl, o1, g1⟩)); have O1 := Lib.hid o1.ownL; have hform := OwnL.read O1.out HLN.out; obtain ⟨pl, cl, hfe, _⟩ := hform; subst hfe; have G1 := Lib.hid (gR.trans g1); have R1 := Lib.hid (R0.ge g1); have z1 := g1.size; clear o1 g1)
  by_cases h5 : (5 : Int) < N
  · have t2 : decide ((5 : Int) < N) = true := by simpa using h5
    have HTF := Lib.hid (fun w' g => GivesO.f (w := w) (w' := w') (b := netB N 2 1 LW.length (flatW LW)) (N := N) (E := 2) (S := 1) (L := LW) (netB_big h5) g)
    obtain ⟨r0, q0, f0⟩ := R1.out 0 (by omega)
    obtain ⟨r1, q1, f1⟩ := R1.out 1 (by omega)
    obtain ⟨r2, q2, f2⟩ := R1.out 2 (by omega)
    obtain ⟨r3, q3, f3⟩ := R1.out 3 (by omega)
    have gw := G1.out
    have zz : w.heap.size < w1.heap.size := by omega
    clear HND HT0 HT1 HTb HNF HLv HOK
    go_wp2_with fail
    exact bodyPost_ret (v := .tuple #[.agg #[.int .i64 0, .int .i64 0, .int .i64 0, .slice none 0 0], .bool false]) (by simp [results, Try.results15, go_sem, *]) rfl (HTF.out _ (by repeat (first | exact gw | refine Ge.alloc ?_ _ | refine Ge.setCell ?_ (Nat.le_refl _) _)))
  have h5' : N ≤ 5 := by omega
  have t2 : decide ((5 : Int) < N) = false := by simpa using h5
  go_upto_region 6 with fail
  have LV : ((w1.alloc (.cells #[.slice pl N cl] 24)).alloc (.cells #[.int .i64 (N : Int)] 3)).cell? ⟨w1.heap.size, 0, none⟩ = some (.slice pl N cl) := by simp
  have CT : ((w1.alloc (.cells #[.slice pl N cl] 24)).alloc (.cells #[.int .i64 (N : Int)] 3)).cell? ⟨w1.heap.size + 1, 0, none⟩ = some (.int .i64 (N : Int)) := by simp
  have G12 := Lib.hid (Ge.alloc (Ge.alloc (Ge.refl w1) (.cells #[.slice pl N cl] 24)) (.cells #[.int .i64 (N : Int)] 3))
  have z2 : ((w1.alloc (.cells #[.slice pl N cl] 24)).alloc (.cells #[.int .i64 (N : Int)] 3)).heap.size = w1.heap.size + 2 := by simp
  generalize ((w1.alloc (.cells #[.slice pl N cl] 24)).alloc (.cells #[.int .i64 (N : Int)] 3)) = W2 at *
  have HLV := Lib.hid LV
  have HCT := Lib.hid CT
  have zG : w1.heap.size < W2.heap.size ∧ w.heap.size < w1.heap.size := by omega
  clear z2
  have HN := Lib.hid (fun (y X Y Z : Int) (hX : 0 ≤ X ∧ X ≤ 200) (hZ : 0 ≤ Z ∧ Z ≤ 200) (w' : World) (g : Ge W2 w') => iNode (.slice pl N cl) L N wR.heap.size w1.heap.size (w1.heap.size + 1) y X Y Z w' ((O1.out.ge G12.out).ge g) HLN.out (by omega) H3.out (g.keep HLV.out) (g.keep HCT.out) hX hZ)
  clear O1 LV
  go_wp2_with (at_make; refine mk1 rfl _ _ _ rfl 43 _ 1 24 Try.underlying24 inf_rowI (by decide) N rfl rfl (by omega) ?_; intro w3 own3 g3)
  have HO1 : Hid (∃ f cs, OMat w3 W2.heap.size W2.heap.size N f cs 0 (fun _ _ => 0)) := ⟨fun _ => 0, _, own3, fun i hi => by omega⟩
  have HG3 := Lib.hid g3
  clear own3 g3
  go_loopw [29] (fun i wr => ∃ k : Nat, k ≤ N ∧ i = .int .i64 (k : Int) ∧ Hid (∃ f cs, OMat wr W2.heap.size W2.heap.size N f cs k (fun _ _ => 0)) ∧ Hid (Ge W2 wr)) (fun i _ => N - (intOf i).toNat)
  case atStart => exact ⟨0, Nat.zero_le _, rfl, HO1.out, HG3.out⟩
  case round =>
    clear HO1 HG3
    obtain ⟨i, hi, rfl, ⟨f, cs, HO⟩, hg⟩ := hrel
    have HOh := Lib.hid HO
    by_cases hlt : i < N
    · obtain ⟨lg1, lg2, lg3⟩ := HO.lt
      clear lg3 HO
      obtain ⟨u, hu⟩ : ∃ u, wr.cell? ⟨W2.heap.size, i, none⟩ = some u := by
        rw [HOh.out.1.cellAt i (by omega)]
        exact ⟨_, List.getElem?_eq_getElem (by have := HOh.out.1.1; omega)⟩
      have hf := HOh.out.1.frozenAt i
      have hct := hg.out.keep HCT.out
      go_wp2_with (at_make; refine mk1 rfl _ _ _ rfl 3 _ 1 8 Try.underlying43 inf_int (by decide) N rfl rfl (by omega) ?_; intro w5 own5 g5; rw [made_ints, mapR_zero] at own5; have hu5 := g5.keep hu; have hf5 := g5.keepF hu hf; have zr := g5.size)
      have HN5 := Lib.hid (OMat.newRow HOh.out hlt g5 own5 rfl)
      have HN6 := Lib.hid (HN5.out.1.congr (M' := fun _ _ => 0) (fun a b _ _ => by simp))
      have hg6 := (Ge.trans hg.out g5).grown HN5.out.2 (fun q hq => by simp at hq; subst hq; omega)
      clear own5
      go_roundw
      case rel => exact ⟨i + 1, by omega, by go_num, ⟨_, _, HN6.out⟩, hg6⟩
      case measure => simp [intOf]; omega
    · have hin : i = N := by omega
      subst hin
      go_wp2_with fail
      clear HO
      go_loopw [40] (fun kv wr => ∃ k : Nat, k ≤ n ∧ kv = .int .i64 (k : Int) ∧ Hid (∃ f cs, OMat wr W2.heap.size W2.heap.size i f cs i (fun a b => tabT xs L i k (a : Int) (b : Int))) ∧ Hid (Ge W2 wr)) (fun kv _ => n - (intOf kv).toNat)
      case atStart => exact ⟨0, Nat.zero_le _, rfl, ⟨f, cs, HOh.out.congr (fun a b _ _ => by rw [HT0.out])⟩, hg.out⟩
      case round =>
        clear HOh hg
        obtain ⟨k, hk, rfl, ⟨f, cs, HO⟩, hg⟩ := hrel
        have HOh := Lib.hid HO
        clear HO
        by_cases hlt2 : k < n
        · obtain ⟨b, o, rfl, x0, x1, x2⟩ := three_cells HC.out hlt2
          have gw := G1.out.trans (G12.out.trans hg.out)
          have y0 := gw.keep x0
          have y1 := gw.keep x1
          have y2 := gw.keep x2
          clear x0 x1 x2 gw
          obtain ⟨_, ⟨a1, a2⟩, ⟨b1, b2⟩, hne, _, _⟩ := HNF.out k hlt2
          obtain ⟨c1, c2, c3, c4, c5, c6⟩ := HOK.out k hlt2
          have HA := Lib.hid (fun (Y' : Int) w' g => HN.out (sy xs k) (sx xs k) Y' (ss xs k) ⟨c1, c2⟩ ⟨by omega, c6⟩ w' g)
          have HB := Lib.hid (fun (Y' : Int) w' g => HN.out (sy xs k + ss xs k) (sx xs k) Y' (ss xs k) ⟨c1, c2⟩ ⟨by omega, c6⟩ w' g)
          rw [← (HND.out k).1] at HA
          rw [← (HND.out k).2] at HB
          have HTk := Lib.hid (HT1.out k)
          have HTbk := Lib.hid (HTb.out k)
          change wr.cell? ⟨b, o + k * 3, none⟩ = some (.int .i64 (sx xs k)) at y0
          change wr.cell? ⟨b, o + k * 3 + 1, none⟩ = some (.int .i64 (sy xs k)) at y1
          change wr.cell? ⟨b, o + k * 3 + 2, none⟩ = some (.int .i64 (ss xs k)) at y2
          generalize nodA xs L i k = A at *
          generalize nodB xs L i k = B at *
          generalize sx xs k = X at *
          generalize sy xs k = Y at *
          generalize ss xs k = Z at *
          have tw : wrap64 (Y + Z) = Y + Z := IntWalk.wrap64_in _ ⟨by omega, by omega⟩
          obtain ⟨a, rfl⟩ := Int.eq_ofNat_of_zero_le a1
          obtain ⟨bb, rfl⟩ := Int.eq_ofNat_of_zero_le b1
          obtain ⟨lo, hi, hlo, hhi, mn, mx⟩ : ∃ lo hi : Nat, lo < i ∧ hi < i ∧ min (a : Int) (bb : Int) = (lo : Int) ∧ max (a : Int) (bb : Int) = (hi : Int) := by
            by_cases hab : a < bb
            · exact ⟨a, bb, by omega, by omega, by omega, by omega⟩
            · exact ⟨bb, a, by omega, by omega, by omega, by omega⟩
          rw [mn, mx] at HTk
          have u0 := HOh.out.row hlo hlo
          have u1 := HOh.out.entry hlo hhi
          have uf := HOh.out.froz hlo hi
          have ub := HTbk.out lo hi
          have ul := (HOh.out.lt.2.2 lo hlo).1
          obtain ⟨τ, hτ⟩ : ∃ τ, tabT xs L i k (lo : Int) (hi : Int) = τ := ⟨_, rfl⟩
          rw [hτ] at u1 ub
          have Hτ := Lib.hid hτ
          have tw2 : wrap64 (τ + 1) = τ + 1 := IntWalk.wrap64_in _ ⟨by omega, by omega⟩
          clear hτ
          have gB := Lib.hid (hg.out.trans (Ge.alloc (Ge.refl wr) (.cells #[.int .i64 X, .int .i64 Y, .int .i64 Z] 45)))
          go_wp2_with (first
            | (go_at_call 35; ((with_reducible refine (HA.out _ _ gB.out).mono ?_); rintro e w5 ⟨rfl, g5⟩); have gB5 := Lib.hid (gB.out.trans g5); have e0 := g5.keep (cell_new (w := wr) (t := 45) (cs := #[.int .i64 X, .int .i64 Y, .int .i64 Z]) (i := 0) rfl rfl); have e1 := g5.keep (cell_new (w := wr) (t := 45) (cs := #[.int .i64 X, .int .i64 Y, .int .i64 Z]) (i := 1) rfl rfl); have e2 := g5.keep (cell_new (w := wr) (t := 45) (cs := #[.int .i64 X, .int .i64 Y, .int .i64 Z]) (i := 2) rfl rfl); have g5a := (Ge.alloc (Ge.refl wr) (.cells #[.int .i64 X, .int .i64 Y, .int .i64 Z] 45)).trans g5; clear HA)
            | (go_at_call 35; ((with_reducible refine (HB.out _ _ gB5.out).mono ?_); rintro e w6 ⟨rfl, g6⟩); have gB6 := Lib.hid (gB5.out.trans g6); have g6a := g5a.trans g6; have v0 := g6a.keep u0; have v1 := g6a.keep u1; have vf := g6a.keepF u1 uf))
          have HE := Lib.hid ((HOh.out.ge g6a).setE hlo hhi (τ + 1))
          have HE2 := Lib.hid (HE.out.1.congr (M' := fun (x y : Nat) => tabT xs L i (k + 1) (x : Int) (y : Int)) (fun x y _ _ => by
            rw [HTk.out]
            by_cases e : x = lo ∧ y = hi
            · obtain ⟨rfl, rfl⟩ := e
              simp [Hτ.out]
            · have e2 : ¬ ((x : Int) = (lo : Int) ∧ (y : Int) = (hi : Int)) := by omega
              rw [if_neg e, if_neg e2]; simp))
          have hgE := (Ge.trans hg.out g6a).grown HE.out.2 (fun q hq => by simp at hq; subst hq; exact ul)
          go_roundw
          case rel => exact ⟨k + 1, by omega, by go_num, ⟨_, _, HE2.out⟩, hgE⟩
          case measure => simp [intOf]; omega
        · have hkn : k = n := by omega
          subst hkn
          have HMM := Lib.hid (HOh.out.slMM (Z := fun (a b : Int) => tabT xs L i k a b) (fun a b _ _ => rfl))
          have gw := G1.out.trans (G12.out.trans hg.out)
          have HNO := Lib.hid (HNU.out i (by omega) (fun (a b : Int) => tabT xs L i k a b) (fun a b _ _ => by have := HTb.out k a b; omega) (.slice (some ⟨W2.heap.size, 0, none⟩) i i) wr HMM.out)
          rw [← HLW.out] at HNO
          have hgR := G12.out.trans hg.out
          obtain ⟨r0, p0, f0⟩ := (R1.out.ge hgR) 0 (by omega)
          obtain ⟨r1, p1, f1⟩ := (R1.out.ge hgR) 1 (by omega)
          obtain ⟨r2, p2, f2⟩ := (R1.out.ge hgR) 2 (by omega)
          obtain ⟨r3, p3, f3⟩ := (R1.out.ge hgR) 3 (by omega)
          have zz : W2.heap.size ≤ wr.heap.size := hg.out.size
          clear HMM HLW HTb HNU HT0 HT1 HND HNF HN
          cases hB : netB i 2 1 LW.length (flatW LW) with
          | true =>
            rw [hB] at HNO
            have HT1 := Lib.hid (fun u w' ho g => GivesO.t (w := w) (w' := w') (N := i) (E := 2) (S := 1) (L := LW) (u := u) hB ho g)
            have HNt := Lib.hid (HNO.out.mono (fun e w' h => h.tt))
            go_wp2_with ((go_at_call 38; ((with_reducible refine (HNt.out).mono ?_); rintro r w9 ⟨u9, rfl, o9, g9⟩)); obtain ⟨pu, cu, rfl⟩ := owns_form o9; have q0 := g9.keep p0; have q1 := g9.keep p1; have q2 := g9.keep p2; have q3 := g9.keep p3; have h0 := g9.keepF p0 f0; have h1 := g9.keepF p1 f1; have h2 := g9.keepF p2 f2; have h3 := g9.keepF p3 f3; have gw9 := gw.trans g9; have O9 := Lib.hid o9; clear o9)
            exact bodyPost_ret (v := .tuple #[.agg #[.int .i64 (i : Int), .int .i64 2, .int .i64 1, .slice pu LW.length cu], .bool true]) (by simp [results, Try.results15, go_sem, *]) rfl (HT1.out _ _ (by refine owns_mono (base := wr.heap.size) ?_ (by omega); repeat (first | exact O9.out | refine own_setD ?_ (by omega))) (by repeat (first | exact gw9 | refine Ge.setCell ?_ (Nat.le_refl _) _)))
          | false =>
            rw [hB] at HNO
            have HT1 := Lib.hid (fun w' g => GivesO.f (w := w) (w' := w') (N := i) (E := 2) (S := 1) (L := LW) hB g)
            have HNt := Lib.hid (HNO.out.mono (fun e w' h => h.ff))
            go_wp2_with ((go_at_call 38; ((with_reducible refine (HNt.out).mono ?_); rintro r w9 ⟨rfl, g9⟩)); have q0 := g9.keep p0; have q1 := g9.keep p1; have q2 := g9.keep p2; have q3 := g9.keep p3; have h0 := g9.keepF p0 f0; have h1 := g9.keepF p1 f1; have h2 := g9.keepF p2 f2; have h3 := g9.keepF p3 f3; have gw9 := gw.trans g9)
            exact bodyPost_ret (v := .tuple #[.agg #[.int .i64 0, .int .i64 0, .int .i64 0, .slice none 0 0], .bool false]) (by simp [results, Try.results15, go_sem, *]) rfl (HT1.out _ (by repeat (first | exact gw9 | refine Ge.setCell ?_ (Nat.le_refl _) _)))

set_option maxHeartbeats 800000 in
theorem iNetOfTiling (v : Value) (n : Nat) (xs : List Int) (w : World) (hv : SlF w v n 3 xs) (hm : n ≤ 9223372036854775807) (hb : ∀ j, -9223372036854775808 ≤ nth xs j ∧ nth xs j ≤ 9223372036854775807) (hcap : ∀ p c, v = .slice p n c → n ≤ c) :
    Calls Try.prog 15 #[v] w (GivesO w (netB (notN n xs) 2 1 (notW n xs).length (flatW (notW n xs))) (notN n xs) 2 1 (notW n xs)) := by
  cases hB : tileB n xs with
  | true => exact iNotT v n xs w hv hm hb hcap hB
  | false =>
    obtain ⟨p, cap, rfl, hc⟩ := hv.open
    have HV := Lib.hid hv
    have HBd := Lib.hid hb
    have HCap := Lib.hid hcap
    clear hv hc hb hcap
    rw [netW_nil n xs hB]
    have HT1 := Lib.hid (fun w' g => GivesO.f (w := w) (w' := w') (b := false) (N := notN n xs) (E := 2) (S := 1) (L := notW n xs) rfl g)
    have HLv := Lib.hid (fun w' (g : Ge w w') => iLevelsOf (.slice p n cap) n xs w' (HV.out.ge g) hm HBd.out HCap.out)
    rw [levQ_f hB] at HLv
    clear hB
    generalize notW n xs = LW at *
    generalize notN n xs = NN at *
    go_enter Try.func15, Try.ntmps15
    go_upto_region 1 with (fail)
    have R0 := ResD.new w (.int .i64 0) (.int .i64 0) (.int .i64 0) (.slice none 0 0) 35
    have gR := Ge.alloc (Ge.refl w) (.cells #[.int .i64 0, .int .i64 0, .int .i64 0, .slice none 0 0] 35)
    have zR : w.heap.size < (w.alloc (.cells #[.int .i64 0, .int .i64 0, .int .i64 0, .slice none 0 0] 35)).heap.size := by simp
    generalize w.alloc (.cells #[.int .i64 0, .int .i64 0, .int .i64 0, .slice none 0 0] 35) = wR at *
    go_wp2_with ((go_at_call 8; ((with_reducible refine (HLv.out _ gR).mono ?_); rintro e w1 ⟨u1, rfl, o1, g1⟩)); have hform := OwnL.read o1.ownL rfl; obtain ⟨pl, cl, hfe, _⟩ := hform; subst hfe; have gw9 := gR.trans g1; have zz : w.heap.size < w1.heap.size := (by have := g1.size; omega); have R1 := R0.ge g1; obtain ⟨r0, q0, h0⟩ := R1 0 (by omega); obtain ⟨r1, q1, h1⟩ := R1 1 (by omega); obtain ⟨r2, q2, h2⟩ := R1 2 (by omega); obtain ⟨r3, q3, h3⟩ := R1 3 (by omega); clear o1)
    exact bodyPost_ret (v := .tuple #[.agg #[.int .i64 0, .int .i64 0, .int .i64 0, .slice none 0 0], .bool false]) (by simp [results, Try.results15, go_sem, *]) rfl (HT1.out _ (by repeat (first | with_reducible exact gw9 | with_reducible refine Ge.alloc ?_ _ | with_reducible refine Ge.setCell ?_ (Nat.le_refl _) _)))
end Go.Proofs.Ytenfkpdbfmeebaa

namespace Go.Proofs.Ytenfkpdbfmeebaa

open Go.RowKit

def eq3 (a b c x y z : Int) : Bool := decide (a = x) && decide (b = y) && decide (c = z)

set_option maxHeartbeats 400000 in
theorem lEqWire (a b c x y z : Int) (w : World) :
    Calls Try.prog 51 #[.agg #[.int .i64 a, .int .i64 b, .int .i64 c], .agg #[.int .i64 x, .int .i64 y, .int .i64 z]] w fun e w' => e = .returned (.bool (eq3 a b c x y z)) ∧ Ge w w' := by
  by_cases h1 : a = x
  · subst h1
    by_cases h2 : b = y
    · subst h2
      by_cases h3 : c = z
      · subst h3
        go_enter Try.func51, Try.ntmps51
        go_wp2_with fail
        go_ret
        exact ⟨ret_bool (by simp [eq3]), by (repeat (first | with_reducible exact Ge.refl _ | assumption | with_reducible refine Ge.drew ?_ | with_reducible refine Ge.drewN ?_ _ | with_reducible refine Ge.alloc ?_ _ | (with_reducible refine Ge.setCell ?_ (by first | (simp; done) | omega | (simp; omega)) _) | with_reducible refine Ge.trans ?_ (by assumption)))⟩
      · have t : (c != z) = true := by simp [h3]
        have t' := Lib.hid h3
        clear h3
        go_enter Try.func51, Try.ntmps51
        go_wp2_with fail
        go_ret
        exact ⟨ret_bool (by simp [eq3, t'.out]), by (repeat (first | with_reducible exact Ge.refl _ | assumption | with_reducible refine Ge.drew ?_ | with_reducible refine Ge.drewN ?_ _ | with_reducible refine Ge.alloc ?_ _ | (with_reducible refine Ge.setCell ?_ (by first | (simp; done) | omega | (simp; omega)) _) | with_reducible refine Ge.trans ?_ (by assumption)))⟩
    · have t : (b != y) = true := by simp [h2]
      have t' := Lib.hid h2
      clear h2
      go_enter Try.func51, Try.ntmps51
      go_wp2_with fail
      go_ret
      exact ⟨ret_bool (by simp [eq3, t'.out]), by (repeat (first | with_reducible exact Ge.refl _ | assumption | with_reducible refine Ge.drew ?_ | with_reducible refine Ge.drewN ?_ _ | with_reducible refine Ge.alloc ?_ _ | (with_reducible refine Ge.setCell ?_ (by first | (simp; done) | omega | (simp; omega)) _) | with_reducible refine Ge.trans ?_ (by assumption)))⟩
  · have t : (a != x) = true := by simp [h1]
    have t' := Lib.hid h1
    clear h1
    go_enter Try.func51, Try.ntmps51
    go_wp2_with fail
    go_ret
    exact ⟨ret_bool (by simp [eq3, t'.out]), by (repeat (first | with_reducible exact Ge.refl _ | assumption | with_reducible refine Ge.drew ?_ | with_reducible refine Ge.drewN ?_ _ | with_reducible refine Ge.alloc ?_ _ | (with_reducible refine Ge.setCell ?_ (by first | (simp; done) | omega | (simp; omega)) _) | with_reducible refine Ge.trans ?_ (by assumption)))⟩

theorem same_step3 {xs ys : List Int} {k : Nat} (h : Hid (∀ j, j < k → ∀ i, i < 3 → nth xs (j * 3 + i) = nth ys (j * 3 + i)))
    (he : eq3 (nth xs (k * 3)) (nth xs (k * 3 + 1)) (nth xs (k * 3 + 2)) (nth ys (k * 3)) (nth ys (k * 3 + 1)) (nth ys (k * 3 + 2)) = true) :
    Hid (∀ j, j < k + 1 → ∀ i, i < 3 → nth xs (j * 3 + i) = nth ys (j * 3 + i)) := by
  intro j h1 i hi
  by_cases e : j = k
  · subst e
    simp [eq3] at he
    obtain ⟨⟨e1, e2⟩, e3⟩ := he
    match i, hi with
    | 0, _ => exact e1
    | 1, _ => exact e2
    | 2, _ => exact e3
  · exact h.out j (by omega) i hi

set_option maxHeartbeats 800000 in
theorem lEqWireS (va vb : Value) (n m : Nat) (xs ys : List Int) (w : World) (ha : SlF w va n 3 xs) (hb : SlF w vb m 3 ys) (hm : n ≤ 4611686018427387904) :
    Calls Try.prog 39 #[va, vb] w fun e w' => e = .returned (.bool (decide (xs = ys))) ∧ Ge w w' := by
  have lx := ha.length
  have ly := hb.length
  obtain ⟨pa, ca, rfl, ca'⟩ := ha.open
  obtain ⟨pb, cb, rfl, cb'⟩ := hb.open
  have HX := Lib.hid lx
  have HY := Lib.hid ly
  clear lx ly ha hb
  by_cases hl : n = m
  · subst hl
    go_enter Try.func39, Try.ntmps39
    go_wp2_with fail
    go_loopw [5] (fun i wr => ∃ k : Nat, k ≤ n ∧ i = .int .i64 k ∧ Hid (∀ j, j < k → ∀ i, i < 3 → nth xs (j * 3 + i) = nth ys (j * 3 + i)) ∧ Ge w wr) (fun i _ => n - (intOf i).toNat)
    case atStart => exact ⟨0, Nat.zero_le _, rfl, fun j h1 => by omega, Ge.refl _⟩
    case round =>
      obtain ⟨k, hk, rfl, HS, hg⟩ := hrel
      by_cases hlt : k < n
      · obtain ⟨b1, o1, rfl, x1, x2, x3⟩ := three_cells ca' hlt
        obtain ⟨b2, o2, rfl, y1, y2, y3⟩ := three_cells cb' hlt
        have x1 := hg.keep x1
        have x2 := hg.keep x2
        have x3 := hg.keep x3
        have y1 := hg.keep y1
        have y2 := hg.keep y2
        have y3 := hg.keep y3
        clear ca' cb'
        cases he : eq3 (nth xs (k * 3)) (nth xs (k * 3 + 1)) (nth xs (k * 3 + 2)) (nth ys (k * 3)) (nth ys (k * 3 + 1)) (nth ys (k * 3 + 2)) with
        | true =>
          go_wp2_with fail
          go_region_held3 (fun w' => w'.cell? ⟨b1, o1 + k * 3, none⟩ = some (.int .i64 (nth xs (k * 3))) ∧ w'.cell? ⟨b1, o1 + k * 3 + 1, none⟩ = some (.int .i64 (nth xs (k * 3 + 1))) ∧ w'.cell? ⟨b1, o1 + k * 3 + 2, none⟩ = some (.int .i64 (nth xs (k * 3 + 2))) ∧ w'.cell? ⟨b2, o2 + k * 3, none⟩ = some (.int .i64 (nth ys (k * 3))) ∧ w'.cell? ⟨b2, o2 + k * 3 + 1, none⟩ = some (.int .i64 (nth ys (k * 3 + 1))) ∧ w'.cell? ⟨b2, o2 + k * 3 + 2, none⟩ = some (.int .i64 (nth ys (k * 3 + 2))) ∧ Ge w w') (first | exact ⟨hb.keep (‹_ ∧ _ ∧ _ ∧ _ ∧ _ ∧ _ ∧ _›).1, hb.keep (‹_ ∧ _ ∧ _ ∧ _ ∧ _ ∧ _ ∧ _›).2.1, hb.keep (‹_ ∧ _ ∧ _ ∧ _ ∧ _ ∧ _ ∧ _›).2.2.1, hb.keep (‹_ ∧ _ ∧ _ ∧ _ ∧ _ ∧ _ ∧ _›).2.2.2.1, hb.keep (‹_ ∧ _ ∧ _ ∧ _ ∧ _ ∧ _ ∧ _›).2.2.2.2.1, hb.keep (‹_ ∧ _ ∧ _ ∧ _ ∧ _ ∧ _ ∧ _›).2.2.2.2.2.1, Ge.trans (‹_ ∧ _ ∧ _ ∧ _ ∧ _ ∧ _ ∧ _›).2.2.2.2.2.2 hb⟩ | exact ⟨(by first | assumption | (simp; done) | (simp [*]; done)), (by first | assumption | (simp; done) | (simp [*]; done)), (by first | assumption | (simp; done) | (simp [*]; done)), (by first | assumption | (simp; done) | (simp [*]; done)), (by first | assumption | (simp; done) | (simp [*]; done)), (by first | assumption | (simp; done) | (simp [*]; done)), (by (repeat (first | with_reducible exact Ge.refl _ | assumption | with_reducible refine Ge.drew ?_ | with_reducible refine Ge.drewN ?_ _ | with_reducible refine Ge.alloc ?_ _ | (with_reducible refine Ge.setCell ?_ (by first | (simp; done) | omega | (simp; omega)) _) | with_reducible refine Ge.trans ?_ (by assumption))))⟩) (first | (go_at_call 51; ((with_reducible refine (lEqWire _ _ _ _ _ _ _).mono ?_); rintro e w' ⟨rfl, hb⟩)) | fail)
          go_wp2_with fail
          go_roundw
          case rel => exact ⟨k + 1, by omega, by go_num, same_step3 HS he, by (repeat (first | with_reducible exact Ge.refl _ | assumption | with_reducible refine Ge.drew ?_ | with_reducible refine Ge.drewN ?_ _ | with_reducible refine Ge.alloc ?_ _ | (with_reducible refine Ge.setCell ?_ (by first | (simp; done) | omega | (simp; omega)) _) | with_reducible refine Ge.trans ?_ (by assumption)))⟩
          case measure => simp [intOf]; omega
        | false =>
          go_wp2_with fail
          go_region_held3 (fun w' => w'.cell? ⟨b1, o1 + k * 3, none⟩ = some (.int .i64 (nth xs (k * 3))) ∧ w'.cell? ⟨b1, o1 + k * 3 + 1, none⟩ = some (.int .i64 (nth xs (k * 3 + 1))) ∧ w'.cell? ⟨b1, o1 + k * 3 + 2, none⟩ = some (.int .i64 (nth xs (k * 3 + 2))) ∧ w'.cell? ⟨b2, o2 + k * 3, none⟩ = some (.int .i64 (nth ys (k * 3))) ∧ w'.cell? ⟨b2, o2 + k * 3 + 1, none⟩ = some (.int .i64 (nth ys (k * 3 + 1))) ∧ w'.cell? ⟨b2, o2 + k * 3 + 2, none⟩ = some (.int .i64 (nth ys (k * 3 + 2))) ∧ Ge w w') (first | exact ⟨hb.keep (‹_ ∧ _ ∧ _ ∧ _ ∧ _ ∧ _ ∧ _›).1, hb.keep (‹_ ∧ _ ∧ _ ∧ _ ∧ _ ∧ _ ∧ _›).2.1, hb.keep (‹_ ∧ _ ∧ _ ∧ _ ∧ _ ∧ _ ∧ _›).2.2.1, hb.keep (‹_ ∧ _ ∧ _ ∧ _ ∧ _ ∧ _ ∧ _›).2.2.2.1, hb.keep (‹_ ∧ _ ∧ _ ∧ _ ∧ _ ∧ _ ∧ _›).2.2.2.2.1, hb.keep (‹_ ∧ _ ∧ _ ∧ _ ∧ _ ∧ _ ∧ _›).2.2.2.2.2.1, Ge.trans (‹_ ∧ _ ∧ _ ∧ _ ∧ _ ∧ _ ∧ _›).2.2.2.2.2.2 hb⟩ | exact ⟨(by first | assumption | (simp; done) | (simp [*]; done)), (by first | assumption | (simp; done) | (simp [*]; done)), (by first | assumption | (simp; done) | (simp [*]; done)), (by first | assumption | (simp; done) | (simp [*]; done)), (by first | assumption | (simp; done) | (simp [*]; done)), (by first | assumption | (simp; done) | (simp [*]; done)), (by (repeat (first | with_reducible exact Ge.refl _ | assumption | with_reducible refine Ge.drew ?_ | with_reducible refine Ge.drewN ?_ _ | with_reducible refine Ge.alloc ?_ _ | (with_reducible refine Ge.setCell ?_ (by first | (simp; done) | omega | (simp; omega)) _) | with_reducible refine Ge.trans ?_ (by assumption))))⟩) (first | (go_at_call 51; ((with_reducible refine (lEqWire _ _ _ _ _ _ _).mono ?_); rintro e w' ⟨rfl, hb⟩)) | fail)
          go_wp2_with fail
          go_ret
          refine ⟨ret_bool ?_, by (repeat (first | with_reducible exact Ge.refl _ | assumption | with_reducible refine Ge.drew ?_ | with_reducible refine Ge.drewN ?_ _ | with_reducible refine Ge.alloc ?_ _ | (with_reducible refine Ge.setCell ?_ (by first | (simp; done) | omega | (simp; omega)) _) | with_reducible refine Ge.trans ?_ (by assumption)))⟩
          have h' : ¬ xs = ys := fun e => by rw [e] at he; simp [eq3] at he
          simp [h']
      · go_wp2_with fail
        go_ret
        refine ⟨ret_bool ?_, by (repeat (first | with_reducible exact Ge.refl _ | assumption | with_reducible refine Ge.drew ?_ | with_reducible refine Ge.drewN ?_ _ | with_reducible refine Ge.alloc ?_ _ | (with_reducible refine Ge.setCell ?_ (by first | (simp; done) | omega | (simp; omega)) _) | with_reducible refine Ge.trans ?_ (by assumption)))⟩
        have h' : xs = ys := same_rows HX.out HY.out (fun j hj => HS.out j (by omega))
        simp [h']
  · have h1 : ((n : Int) == (m : Int)) = false := by simp; omega
    have h2 : ((n : Int) != (m : Int)) = true := by simp; omega
    go_enter Try.func39, Try.ntmps39
    go_wp2_with fail
    go_ret
    refine ⟨ret_bool ?_, by (repeat (first | with_reducible exact Ge.refl _ | assumption | with_reducible refine Ge.drew ?_ | with_reducible refine Ge.drewN ?_ _ | with_reducible refine Ge.alloc ?_ _ | (with_reducible refine Ge.setCell ?_ (by first | (simp; done) | omega | (simp; omega)) _) | with_reducible refine Ge.trans ?_ (by assumption)))⟩
    have h' : ¬ xs = ys := fun e => hl (by have := HX.out; have := HY.out; rw [e] at *; omega)
    simp [h']

theorem marked_step3w (l : List Int) (k : Int) (j : Nat) (h : j * 3 + 2 < l.length) :
    (((marked l k (j * 3)).set (j * 3) (k + j * 3)).set (j * 3 + 1) (k + j * 3 + 1)).set (j * 3 + 2) (k + j * 3 + 1 + 1) = marked l k ((j + 1) * 3) := by
  have e1 : k + (j : Int) * 3 = k + ((j * 3 : Nat) : Int) := by simp
  have e2 : k + (j : Int) * 3 + 1 = k + ((j * 3 + 1 : Nat) : Int) := by simp; omega
  have e3 : k + (j : Int) * 3 + 1 + 1 = k + ((j * 3 + 2 : Nat) : Int) := by simp; omega
  rw [e3, e2, e1, marked_step _ _ _ (by omega), marked_step _ _ _ (by omega), marked_step _ _ _ (by omega)]
  congr 1
  omega

set_option maxHeartbeats 800000 in
theorem lMarkWireS (base e : Nat) (v : Value) (n : Nat) (xs : List Int) (k : Int) (w : World) (h : w.ownsRow base e 3 v n (icells xs)) (hk0 : 0 ≤ k) (hk : k + n * 3 ≤ 4611686018427387904) :
    Calls Try.prog 40 #[v, .int .i64 k] w fun en w' => en = .returned (.int .i64 (k + n * 3)) ∧ Mine w w' v ∧ w'.ownsRow base e 3 v n (icells (upFrom k (n * 3))) := by
  have hlen : xs.length = n * 3 := by have := h.1; rwa [icells_length] at this
  rcases owns_cases h with ⟨rfl, rfl⟩ | ⟨g, cap, rfl⟩
  · go_enter Try.func40, Try.ntmps40
    go_wp2_with fail
    go_loopw [1, 5] (fun m i wr => m = .int .i64 k ∧ i = .int .i64 0 ∧ w = wr) (fun _ _ _ => 0)
    case atStart => exact ⟨rfl, rfl, rfl⟩
    case round =>
      obtain ⟨rfl, rfl, rfl⟩ := hrel
      go_wp2_with fail
      go_ret
      have hx : xs = upFrom k 0 := by simpa [upFrom] using hlen
      exact ⟨ret_int (by simp), World.grownBy.refl _ _, by rw [← hx]; exact h⟩
  · have HN := Lib.hid hlen
    clear hlen
    go_enter Try.func40, Try.ntmps40
    go_wp2_with fail
    go_loopw [1, 5] (fun m i wr => ∃ j : Nat, j ≤ n ∧ i = .int .i64 j ∧ m = .int .i64 (k + j * 3) ∧ wr.ownsRow base e 3 (.slice (some ⟨g, 0, none⟩) n cap) n (icells (marked xs k (j * 3))) ∧ w.grownBy wr (some g)) (fun _ i _ => n - (intOf i).toNat)
    case atStart => exact ⟨0, Nat.zero_le _, rfl, by simp, by rw [Nat.zero_mul, marked_zero]; exact h, World.grownBy.refl _ _⟩
    case round =>
      obtain ⟨j, hj, rfl, rfl, hown, hg⟩ := hrel
      by_cases hlt : j < n
      · have st1 := hown.stored (j * 3) (.int .i64 (k + j * 3))
        have st2 := st1.1.stored (j * 3 + 1) (.int .i64 (k + j * 3 + 1))
        have st3 := st2.1.stored (j * 3 + 2) (.int .i64 (k + j * 3 + 1 + 1))
        have f1 := hown.frozenAt (j * 3)
        have f2 := hown.frozenAt (j * 3 + 1)
        have f3 := hown.frozenAt (j * 3 + 2)
        obtain ⟨u1, c1⟩ : ∃ u, wr.cell? ⟨g, j * 3, none⟩ = some u := by
          rw [hown.cellAt (j * 3) (by omega)]; exact ⟨_, List.getElem?_eq_getElem (by have := hown.1; omega)⟩
        obtain ⟨u2, c2⟩ : ∃ u, wr.cell? ⟨g, j * 3 + 1, none⟩ = some u := by
          rw [hown.cellAt (j * 3 + 1) (by omega)]; exact ⟨_, List.getElem?_eq_getElem (by have := hown.1; omega)⟩
        obtain ⟨u3, c3⟩ : ∃ u, wr.cell? ⟨g, j * 3 + 2, none⟩ = some u := by
          rw [hown.cellAt (j * 3 + 2) (by omega)]; exact ⟨_, List.getElem?_eq_getElem (by have := hown.1; omega)⟩
        have T1 := Lib.hid st1.2
        have T2 := Lib.hid st2.2
        have T3 := Lib.hid st3
        clear st1 st2 st3
        go_wp2_with fail
        go_roundw
        case rel =>
          refine ⟨j + 1, by omega, by go_num, by go_num, ?_, grown_trans (grown_trans (grown_trans hg T1.out) T2.out) T3.out.2⟩
          have := T3.out.1
          rwa [icells_set, icells_set, icells_set, marked_step3w xs k j (by have := HN.out; omega)] at this
        case measure => simp [intOf]; omega
      · have hjn : j = n := by omega
        have hfin : marked xs k (j * 3) = upFrom k (n * 3) := by rw [hjn, ← HN.out, marked_all]
        rw [hfin] at hown
        clear hfin
        go_wp2_with fail
        go_ret
        exact ⟨ret_int (by omega), hg, hown⟩

set_option maxHeartbeats 800000 in
theorem lHeldWireS (v : Value) (n : Nat) (k : Int) (w : World) (h : Sl w v n 3 (icells (upFrom k (n * 3)))) (hk0 : 0 ≤ k) (hk : k + n * 3 ≤ 4611686018427387904) :
    Calls Try.prog 41 #[v, .int .i64 k] w fun en w' => en = .returned (.int .i64 (k + n * 3)) ∧ w = w' := by
  have h' : SlF w v n 3 (upFrom k (n * 3)) := h
  obtain ⟨p, c, rfl, hc⟩ := h'.open
  clear h h'
  go_enter Try.func41, Try.ntmps41
  go_wp2_with fail
  go_loop [1, 5] (fun m i => ∃ j : Nat, j ≤ n ∧ i = .int .i64 j ∧ m = .int .i64 (k + j * 3)) (fun _ i => n - (intOf i).toNat)
  case atStart => exact ⟨0, Nat.zero_le _, rfl, by simp⟩
  case round =>
    obtain ⟨j, hj, rfl, rfl⟩ := hrel
    by_cases hlt : j < n
    · obtain ⟨b, o, rfl, x1, x2, x3⟩ := three_cells hc hlt
      have e1 : nth (upFrom k (n * 3)) (j * 3) = k + j * 3 := by rw [nth_upFrom _ _ _ (by omega)]; simp
      have e2 : nth (upFrom k (n * 3)) (j * 3 + 1) = k + j * 3 + 1 := by rw [nth_upFrom _ _ _ (by omega)]; simp; omega
      have e3 : nth (upFrom k (n * 3)) (j * 3 + 2) = k + j * 3 + 1 + 1 := by rw [nth_upFrom _ _ _ (by omega)]; simp; omega
      rw [e1] at x1
      rw [e2] at x2
      rw [e3] at x3
      clear hc e1 e2 e3
      go_wp2_with fail
      go_round
      case rel => exact ⟨j + 1, by omega, by go_num, by go_num⟩
      case measure => simp [intOf]; omega
    · go_wp2_with fail
      go_ret
      exact ⟨ret_int (by omega), rfl⟩

/-- The value v reads as the network n. -/
def IsNet (w : World) (v : Value) (n : Nt) : Prop := ∃ s, v = .agg #[.int .i64 n.nodes, .int .i64 n.ends, .int .i64 n.scale, s] ∧ SlF w s n.wires.length 3 (flatW n.wires)
/-- The value v is the network n, in memory of its own from block base on. -/
def OwnsNet (w : World) (base : Nat) (v : Value) (n : Nt) : Prop :=
  ∃ s, v = .agg #[.int .i64 n.nodes, .int .i64 n.ends, .int .i64 n.scale, s] ∧ w.ownsRow base 71 3 s n.wires.length (icells (flatW n.wires))
theorem OwnsNet.is {w : World} {base : Nat} {v : Value} {n : Nt} (h : OwnsNet w base v n) : IsNet w v n := by
  obtain ⟨s, hv, ho⟩ := h; exact ⟨s, hv, SlF.of_owns ho⟩
theorem IsNet.ge {w w' : World} {v : Value} {n : Nt} (h : IsNet w v n) (hg : Ge w w') : IsNet w' v n := by
  obtain ⟨s, hv, ho⟩ := h; exact ⟨s, hv, ho.ge hg⟩
theorem OwnsNet.ge {w w' : World} {base : Nat} {v : Value} {n : Nt} (h : OwnsNet w base v n) (hg : Ge w w') : OwnsNet w' base v n := by
  obtain ⟨s, hv, ho⟩ := h; exact ⟨s, hv, hg.owns ho⟩

def netEq (a b : Nt) : Bool := decide (a = b)

set_option maxHeartbeats 800000 in
theorem lEqNet (va vb : Value) (a b : Nt) (w : World) (ha : IsNet w va a) (hb : IsNet w vb b) (hm : a.wires.length ≤ 1000000000000) :
    Calls Try.prog 16 #[va, vb] w fun e w' => e = .returned (.bool (netEq a b)) ∧ Ge w w' := by
  obtain ⟨sa, rfl, ha⟩ := ha
  obtain ⟨sb, rfl, hb'⟩ := hb
  obtain ⟨a1, a2, a3, al⟩ := a
  obtain ⟨b1, b2, b3, bl⟩ := b
  simp only at ha hb' hm ⊢
  by_cases h1 : a1 = b1
  · subst h1
    by_cases h2 : a2 = b2
    · subst h2
      by_cases h3 : a3 = b3
      · subst h3
        have HA := Lib.hid ha
        have HB := Lib.hid hb'
        clear ha hb'
        by_cases e : al = bl
        · have d : decide (flatW al = flatW bl) = true := by simp [e]
          have E := Lib.hid e
          clear e
          go_enter Try.func16, Try.ntmps16
          go_wp2_with (go_at_call 39; ((with_reducible refine (lEqWireS sa sb _ _ _ _ _ (HA.out.ge (by (repeat (first | with_reducible exact Ge.refl _ | assumption | with_reducible refine Ge.drew ?_ | with_reducible refine Ge.drewN ?_ _ | with_reducible refine Ge.alloc ?_ _ | (with_reducible refine Ge.setCell ?_ (by first | (simp; done) | omega | (simp; omega)) _) | with_reducible refine Ge.trans ?_ (by assumption))))) (HB.out.ge (by (repeat (first | with_reducible exact Ge.refl _ | assumption | with_reducible refine Ge.drew ?_ | with_reducible refine Ge.drewN ?_ _ | with_reducible refine Ge.alloc ?_ _ | (with_reducible refine Ge.setCell ?_ (by first | (simp; done) | omega | (simp; omega)) _) | with_reducible refine Ge.trans ?_ (by assumption))))) (by omega)).mono ?_); rintro e w' ⟨rfl, hb⟩))
          go_ret
          exact ⟨ret_bool (by rw [E.out]; simp [netEq]), by (repeat (first | with_reducible exact Ge.refl _ | assumption | with_reducible refine Ge.drew ?_ | with_reducible refine Ge.drewN ?_ _ | with_reducible refine Ge.alloc ?_ _ | (with_reducible refine Ge.setCell ?_ (by first | (simp; done) | omega | (simp; omega)) _) | with_reducible refine Ge.trans ?_ (by assumption)))⟩
        · have d : decide (flatW al = flatW bl) = false := by simp; exact fun e' => e (flatW_inj e')
          have E := Lib.hid e
          clear e
          go_enter Try.func16, Try.ntmps16
          go_wp2_with (go_at_call 39; ((with_reducible refine (lEqWireS sa sb _ _ _ _ _ (HA.out.ge (by (repeat (first | with_reducible exact Ge.refl _ | assumption | with_reducible refine Ge.drew ?_ | with_reducible refine Ge.drewN ?_ _ | with_reducible refine Ge.alloc ?_ _ | (with_reducible refine Ge.setCell ?_ (by first | (simp; done) | omega | (simp; omega)) _) | with_reducible refine Ge.trans ?_ (by assumption))))) (HB.out.ge (by (repeat (first | with_reducible exact Ge.refl _ | assumption | with_reducible refine Ge.drew ?_ | with_reducible refine Ge.drewN ?_ _ | with_reducible refine Ge.alloc ?_ _ | (with_reducible refine Ge.setCell ?_ (by first | (simp; done) | omega | (simp; omega)) _) | with_reducible refine Ge.trans ?_ (by assumption))))) (by omega)).mono ?_); rintro e w' ⟨rfl, hb⟩))
          go_ret
          exact ⟨ret_bool (by simp [netEq]; exact E.out), by (repeat (first | with_reducible exact Ge.refl _ | assumption | with_reducible refine Ge.drew ?_ | with_reducible refine Ge.drewN ?_ _ | with_reducible refine Ge.alloc ?_ _ | (with_reducible refine Ge.setCell ?_ (by first | (simp; done) | omega | (simp; omega)) _) | with_reducible refine Ge.trans ?_ (by assumption)))⟩
      · have t : (a3 != b3) = true := by simp [h3]
        have E := Lib.hid h3
        clear h3 ha hb'
        go_enter Try.func16, Try.ntmps16
        go_wp2_with fail
        go_ret
        exact ⟨ret_bool (by simp [netEq, E.out]), by (repeat (first | with_reducible exact Ge.refl _ | assumption | with_reducible refine Ge.drew ?_ | with_reducible refine Ge.drewN ?_ _ | with_reducible refine Ge.alloc ?_ _ | (with_reducible refine Ge.setCell ?_ (by first | (simp; done) | omega | (simp; omega)) _) | with_reducible refine Ge.trans ?_ (by assumption)))⟩
    · have t : (a2 != b2) = true := by simp [h2]
      have E := Lib.hid h2
      clear h2 ha hb'
      go_enter Try.func16, Try.ntmps16
      go_wp2_with fail
      go_ret
      exact ⟨ret_bool (by simp [netEq, E.out]), by (repeat (first | with_reducible exact Ge.refl _ | assumption | with_reducible refine Ge.drew ?_ | with_reducible refine Ge.drewN ?_ _ | with_reducible refine Ge.alloc ?_ _ | (with_reducible refine Ge.setCell ?_ (by first | (simp; done) | omega | (simp; omega)) _) | with_reducible refine Ge.trans ?_ (by assumption)))⟩
  · have t : (a1 != b1) = true := by simp [h1]
    have E := Lib.hid h1
    clear h1 ha hb'
    go_enter Try.func16, Try.ntmps16
    go_wp2_with fail
    go_ret
    exact ⟨ret_bool (by simp [netEq, E.out]), by (repeat (first | with_reducible exact Ge.refl _ | assumption | with_reducible refine Ge.drew ?_ | with_reducible refine Ge.drewN ?_ _ | with_reducible refine Ge.alloc ?_ _ | (with_reducible refine Ge.setCell ?_ (by first | (simp; done) | omega | (simp; omega)) _) | with_reducible refine Ge.trans ?_ (by assumption)))⟩

/-- The slice of wires in a network's value. -/
def wiresOf : Value → Value
  | .agg c => c.getD 3 undef
  | v => v

set_option maxHeartbeats 800000 in
theorem lMarkNet (base : Nat) (a1 a2 a3 : Int) (s : Value) (n : Nat) (xs : List Int) (k : Int) (w : World) (h : w.ownsRow base 71 3 s n (icells xs)) (hk0 : 0 ≤ k) (hk : k + n * 3 ≤ 4611686018427387904) :
    Calls Try.prog 17 #[.agg #[.int .i64 a1, .int .i64 a2, .int .i64 a3, s], .int .i64 k] w fun en w' => en = .returned (.int .i64 (k + n * 3)) ∧ Mine w w' s ∧ w'.ownsRow base 71 3 s n (icells (upFrom k (n * 3))) := by
  have HO := Lib.hid h
  clear h
  go_enter Try.func17, Try.ntmps17
  go_wp2_with (go_at_call 40; ((with_reducible refine (lMarkWireS _ _ s n xs k _ (Ge.owns (by (repeat (first | with_reducible exact Ge.refl _ | assumption | with_reducible refine Ge.drew ?_ | with_reducible refine Ge.drewN ?_ _ | with_reducible refine Ge.alloc ?_ _ | (with_reducible refine Ge.setCell ?_ (by first | (simp; done) | omega | (simp; omega)) _) | with_reducible refine Ge.trans ?_ (by assumption)))) HO.out) hk0 hk).mono ?_); rintro e w' ⟨rfl, hm, ho⟩))
  go_ret
  exact ⟨rfl, Mine.alloc _ hm, ho⟩

set_option maxHeartbeats 800000 in
theorem lHeldNet (a1 a2 a3 : Int) (s : Value) (n : Nat) (k : Int) (w : World) (h : Sl w s n 3 (icells (upFrom k (n * 3)))) (hk0 : 0 ≤ k) (hk : k + n * 3 ≤ 4611686018427387904) :
    Calls Try.prog 18 #[.agg #[.int .i64 a1, .int .i64 a2, .int .i64 a3, s], .int .i64 k] w fun en w' => en = .returned (.int .i64 (k + n * 3)) ∧ Ge w w' := by
  have HO := Lib.hid h
  clear h
  have t : decide (k + (n : Int) * 3 < 0) = false := by simp; omega
  go_enter Try.func18, Try.ntmps18
  go_wp2_with (go_at_call 41; ((with_reducible refine (lHeldWireS s n k _ (Sl.ge HO.out (by (repeat (first | with_reducible exact Ge.refl _ | assumption | with_reducible refine Ge.drew ?_ | with_reducible refine Ge.drewN ?_ _ | with_reducible refine Ge.alloc ?_ _ | (with_reducible refine Ge.setCell ?_ (by first | (simp; done) | omega | (simp; omega)) _) | with_reducible refine Ge.trans ?_ (by assumption))))) hk0 hk).mono ?_); rintro e w' ⟨rfl, rfl⟩))
  go_ret
  exact ⟨rfl, by (repeat (first | with_reducible exact Ge.refl _ | assumption | with_reducible refine Ge.drew ?_ | with_reducible refine Ge.drewN ?_ _ | with_reducible refine Ge.alloc ?_ _ | (with_reducible refine Ge.setCell ?_ (by first | (simp; done) | omega | (simp; omega)) _) | with_reducible refine Ge.trans ?_ (by assumption)))⟩
end Go.Proofs.Ytenfkpdbfmeebaa
