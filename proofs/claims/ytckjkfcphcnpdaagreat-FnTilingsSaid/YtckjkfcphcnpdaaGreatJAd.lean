/- The law of SizesOf, walked. No condition. Marks in rows of three integers; the law of LevelsOf, walked. No condition. NetOfTiling of the reference. No condition. Plain law: chances of walks out of tree sums. No program in sight. Plain law: the potentials by forests are twice the potentials by minors. No program in sight. WeightBetween, WeightAt, isNode, l03Find. No condition. table, LaplacianOf of impl. No condition. -/
import Derived.Test.YtckjkfcphcnpdaaGreatJAc
import Derived.Test.YtckjkfcphcnpdaaGreatWSeg
import Derived.Test.YtckjkfcphcnpdaaGreatJAa
import Derived.Test.YtckjkfcphcnpdaaGreatJAb
import Derived.Test.YtckjkfcphcnpdaaGreatPlLap
import Derived.Test.YtckjkfcphcnpdaaGreatPlWeight
import Derived.Test.YtckjkfcphcnpdaaGreatWIn
import Derived.Test.YtckjkfcphcnpdaaGreatWLaw
import Derived.Test.YtckjkfcphcnpdaaGreatWOthers
namespace Go.Proofs.YtckjkfcphcnpdaaGreat
set_option maxRecDepth 100000
open Go.ChangeShapes Go.WideShapes Go.ChangeAt Go.RowKit Go.Joins

/-- A younger row is not touched by what is done to an older one. -/
theorem owns_apart2 {w2 w w' : World} {b1 b2 e1 e2 s1 s2 : Nat} {v1 v2 : Value} {n1 n2 : Nat} {x1 x2 : List Value}
    (h2 : w2.ownsRow b2 e2 s2 v2 n2 x2) (h1 : w.ownsRow b1 e1 s1 v1 n1 x1) (hb : w2.heap.size ≤ b1) (hm : Mine w w' v2) : w'.ownsRow b1 e1 s1 v1 n1 x1 := by
  refine h1.kept hm ?_
  cases hv : v1.ownBlock with
  | none => exact .inl rfl
  | some k =>
    right
    intro e
    have := (h1.lt k hv).1
    have := (h2.lt k e.symm).2
    omega

theorem sizesV_le (n : Nat) (xs : List Int) : (sizesV n xs).length ≤ 201 := by
  cases hB : tileB n xs with
  | false => rw [sizesV_f hB]; simp
  | true =>
    rw [sizesV_t hB, ← upJ_0]
    exact upJ_len xs n 200 0

end Go.Proofs.YtckjkfcphcnpdaaGreat

namespace Go.Proofs.YtckjkfcphcnpdaaGreat
set_option maxRecDepth 100000
open Go.ChangeShapes Go.WideShapes Go.ChangeAt Go.RowKit Go.Joins

/-- n rows of three integers, each in a block of its own. -/
def Out3 (w : World) (base : Nat) (v : Value) (n : Nat) (R : Nat → List Int) : Prop :=
  ∃ (cs : List Value) (q cq : Nat → Nat), w.ownsRow base 35 1 v n cs ∧
    (∀ i, i < n → cs[i]? = some (.slice (some ⟨q i, 0, none⟩) 3 (cq i)) ∧ w.ownsRow base 3 1 (.slice (some ⟨q i, 0, none⟩) 3 (cq i)) 3 (icells (R i))) ∧
    ∀ i j, i < j → j < n → q i < q j
theorem OutL.three {w : World} {base B f : Nat} {v : Value} {L : List (List Int)} {n : Nat} (h : OutL w base B f v L) (hn : L.length = n) (h3 : ∀ i, i < n → (rowL L i).length = 3) : Out3 w base v n (rowL L) := by
  subst hn
  obtain ⟨cs, q, cq, h1, h2, h4, _⟩ := h
  refine ⟨cs, q, cq, h1, fun i hi => ?_, h4⟩
  have := h2 i hi
  rw [h3 i hi] at this
  exact this
theorem Out3.ge {w w' : World} {base n : Nat} {v : Value} {R : Nat → List Int} (h : Out3 w base v n R) (hg : Ge w w') : Out3 w' base v n R := by
  obtain ⟨cs, q, cq, h1, h2, h3⟩ := h
  exact ⟨cs, q, cq, hg.owns h1, fun i hi => ⟨(h2 i hi).1, hg.owns (h2 i hi).2⟩, h3⟩
theorem Out3.congr {w : World} {base n : Nat} {v : Value} {R S : Nat → List Int} (h : Out3 w base v n R) (he : ∀ i, i < n → R i = S i) : Out3 w base v n S := by
  obtain ⟨cs, q, cq, h1, h2, h3⟩ := h
  exact ⟨cs, q, cq, h1, fun i hi => by rw [← he i hi]; exact h2 i hi, h3⟩
/-- Rows of a third kind: writing them leaves the lists. -/
theorem Out3.typed {w w' : World} {base n b2 e2 s2 n2 : Nat} {v v2 : Value} {x2 : List Value} {R : Nat → List Int} (h : Out3 w base v n R) (h2 : w.ownsRow b2 e2 s2 v2 n2 x2) (he : 35 ≠ e2) (he' : 3 ≠ e2) (hm : Mine w w' v2) : Out3 w' base v n R := by
  obtain ⟨cs, q, cq, h1, h3, h4⟩ := h
  exact ⟨cs, q, cq, owns_typed h1 h2 he hm, fun i hi => ⟨(h3 i hi).1, owns_typed (h3 i hi).2 h2 he' hm⟩, h4⟩
theorem OwnL.typed {w w' : World} {base b2 e2 s2 n2 : Nat} {v v2 : Value} {x2 : List Value} {L : List (List Int)} (h : OwnL w base v L) (h2 : w.ownsRow b2 e2 s2 v2 n2 x2) (he : 35 ≠ e2) (he' : 3 ≠ e2) (hm : Mine w w' v2) : OwnL w' base v L := by
  obtain ⟨cs, h1, h3⟩ := h
  refine ⟨cs, owns_typed h1 h2 he hm, fun i hi => ?_⟩
  obtain ⟨q, cq, h4, h5⟩ := h3 i hi
  exact ⟨q, cq, h4, owns_typed h5 h2 he' hm⟩
theorem Out3.read {w : World} {base n : Nat} {v : Value} {L : List (List Int)} (h : Out3 w base v n (rowL L)) (h3 : ∀ i, i < n → (rowL L i).length = 3) : SlMI w v n L := by
  obtain ⟨cs, q, cq, h1, h2, _⟩ := h
  obtain ⟨p, c, rfl⟩ := owns_form h1
  refine ⟨p, c, rfl, fun i hi => ?_⟩
  obtain ⟨g, c', he⟩ := Go.Joins.ownsRow_form h1 (by omega)
  simp only [Value.slice.injEq] at he
  obtain ⟨rfl, _, rfl⟩ := he
  obtain ⟨a, b⟩ := h2 i hi
  refine ⟨g, 0, some ⟨q i, 0, none⟩, cq i, rfl, by rw [Nat.zero_add, h1.cellAt i (by omega), h3 i hi]; exact a, ?_⟩
  have b' : w.ownsRow base 3 1 (.slice (some ⟨q i, 0, none⟩) (rowL L i).length (cq i)) (rowL L i).length (icells (rowL L i)) := by rw [h3 i hi]; exact b
  exact SlI.of_owns b'
theorem OwnL.readM {w : World} {base n : Nat} {v : Value} {L : List (List Int)} (h : OwnL w base v L) (hn : L.length = n) : SlMI w v n L := by
  obtain ⟨p, c, rfl, hc⟩ := OwnL.read h hn
  refine ⟨p, c, rfl, fun i hi => ?_⟩
  obtain ⟨b, o, q, cq, h1, h2, h3⟩ := hc i hi
  exact ⟨b, o, some q, cq, h1, h2, h3⟩
theorem Out3.size {w : World} {base n : Nat} {v : Value} {R : Nat → List Int} (h : Out3 w base v n R) : ∃ cs, w.ownsRow base 35 1 v n cs := ⟨_, h.choose_spec.choose_spec.choose_spec.1⟩

/-- The first j rows are marked. -/
def markR (R : Nat → List Int) (k : Int) (j : Nat) : Nat → List Int := fun i => if i < j then upFrom (k + i * 3) 3 else R i
noncomputable def levQ (n : Nat) (xs : List Int) : List (List Int) := if tileB n xs = true then levT xs n else []
theorem levQ_t {n : Nat} {xs : List Int} (h : tileB n xs = true) : levQ n xs = levT xs n := by unfold levQ; rw [if_pos h]
theorem levQ_f {n : Nat} {xs : List Int} (h : tileB n xs = false) : levQ n xs = [] := by unfold levQ; rw [if_neg (by rw [h]; decide)]
theorem levU_three (xs : List Int) (n W : Nat) : ∀ y, ∀ r ∈ levU xs n W y, r.length = 3
  | 0, r, h => by cases h
  | y + 1, r, h => by
    rw [levU] at h
    rcases List.mem_append.1 h with h | h
    · exact levU_three xs n W y r h
    · obtain ⟨p, _, rfl⟩ := List.mem_map.1 h
      rfl
theorem levQ_three (n : Nat) (xs : List Int) : ∀ r ∈ levQ n xs, r.length = 3 := fun r h => by
  unfold levQ at h
  split at h
  · exact levU_three xs n _ _ r h
  · cases h
theorem levQ_len (n : Nat) (xs : List Int) : (levQ n xs).length ≤ 200000 := by
  cases hB : tileB n xs with
  | false => rw [levQ_f hB]; simp
  | true =>
    rw [levQ_t hB]
    obtain ⟨h0, h12, hsq, _⟩ : tileP n xs := by
      unfold tileB at hB
      split at hB
      · assumption
      · cases hB
    have hr := right_bd n (fun i hi => (hsq i hi).1)
    have hl := low_bd n (fun i hi => (hsq i hi).1)
    have h1 := levU_len xs n (rightSq xs n).toNat ((lowSq xs n).toNat + 1)
    have h2 : ((lowSq xs n).toNat + 1) * ((rightSq xs n).toNat + 1) ≤ 401 * 401 := Nat.mul_le_mul (by omega) (by omega)
    unfold levT
    omega
set_option maxHeartbeats 800000 in
theorem iLevelsOf (v : Value) (n : Nat) (xs : List Int) (w : World) (hv : SlF w v n 3 xs) (hm : n ≤ 9223372036854775807) (hb : ∀ j, -9223372036854775808 ≤ nth xs j ∧ nth xs j ≤ 9223372036854775807) (hcap : ∀ p c, v = .slice p n c → n ≤ c) :
    Calls Tryz.prog 9 #[v] w fun e w' => ∃ u, e = .returned u ∧ OutL w' w.heap.size 0 0 u (levQ n xs) ∧ Ge w w' := by
  cases hB : tileB n xs with
  | true =>
    rw [levQ_t hB]
    exact iLevT v n xs w hv hm hb hcap hB
  | false =>
    obtain ⟨p, cap, rfl, hc⟩ := hv.open
    have HV := Lib.hid hv
    have HBd := Lib.hid hb
    have HCap := Lib.hid hcap
    clear hv hc hb hcap
    have HT := Lib.hid (fun w' (g : Ge w w') => iTilingOk (.slice p n cap) n xs w' (HV.out.ge g) hm HBd.out HCap.out)
    rw [hB] at HT
    have HQ := Lib.hid (levQ_f hB)
    clear hB
    go_enter Tryz.func9, Tryz.ntmps9
    go_wp2_with ((go_at_call 11; ((with_reducible refine (HT.out _ (Ge.alloc (Ge.refl w) _)).mono ?_); rintro e w1 ⟨rfl, g1⟩)); have HG1 := Lib.hid g1; clear g1)
    go_ret
    exact ⟨_, rfl, by rw [HQ.out]; exact (OutL.nil w 0 0).ge HG1.out, (Ge.alloc (Ge.refl w) _).trans HG1.out⟩
set_option maxHeartbeats 800000 in
theorem sLevelsOf (v : Value) (n : Nat) (xs : List Int) (w : World) (hv : SlF w v n 3 xs) (hm : n ≤ 9223372036854775807) (hb : ∀ j, -9223372036854775808 ≤ nth xs j ∧ nth xs j ≤ 9223372036854775807) (hcap : ∀ p c, v = .slice p n c → n ≤ c) :
    Calls Tryz.prog 19 #[v] w fun e w' => ∃ u, e = .returned u ∧ OwnL w' w.heap.size u (levQ n xs) ∧ Ge w w' := by
  cases hB : tileB n xs with
  | true =>
    rw [levQ_t hB]
    exact sLevT v n xs w hv hm hb hcap hB
  | false =>
    obtain ⟨p, cap, rfl, hc⟩ := hv.open
    have HV := Lib.hid hv
    have HBd := Lib.hid hb
    have HCap := Lib.hid hcap
    clear hv hc hb hcap
    have HT := Lib.hid (fun w' (g : Ge w w') => sTilingOk (.slice p n cap) n xs w' (HV.out.ge g) hm HBd.out HCap.out)
    rw [hB] at HT
    have HQ := Lib.hid (levQ_f hB)
    clear hB
    go_enter Tryz.func19, Tryz.ntmps19
    go_wp2_with ((go_at_call 43; ((with_reducible refine (HT.out _ (Ge.refl w)).mono ?_); rintro e w1 ⟨rfl, g1⟩)); have HG1 := Lib.hid g1; clear g1)
    go_ret
    exact ⟨_, rfl, by rw [HQ.out]; exact ⟨[], ⟨rfl, .inl ⟨rfl, rfl⟩⟩, fun i hi => by simp at hi⟩, HG1.out⟩

theorem ty_ints_sq : 35 ≠ 27 := by decide
theorem ty_int_sq : 3 ≠ 27 := by decide
end Go.Proofs.YtckjkfcphcnpdaaGreat

namespace Go.Proofs.YtckjkfcphcnpdaaGreat
set_option maxRecDepth 100000
open Go.ChangeShapes Go.WideShapes Go.ChangeAt Go.RowKit Go.Joins

noncomputable def notN (n : Nat) (xs : List Int) : Nat := (levQ n xs).length
noncomputable def notW (n : Nat) (xs : List Int) : List Wr := wirT xs (levQ n xs) (notN n xs) n
noncomputable def notB (n : Nat) (xs : List Int) : Bool := tileB n xs && netB (notN n xs) 2 1 (notW n xs).length (flatW (notW n xs))

set_option maxHeartbeats 6400000 in
theorem sNotT (v : Value) (n : Nat) (xs : List Int) (w : World) (hv : SlF w v n 3 xs) (hm : n ≤ 9223372036854775807) (hb : ∀ j, -9223372036854775808 ≤ nth xs j ∧ nth xs j ≤ 9223372036854775807) (hcap : ∀ p c, v = .slice p n c → n ≤ c) (hB : tileB n xs = true) :
    Calls Tryz.prog 7 #[v] w (GivesO w (netB (notN n xs) 2 1 (notW n xs).length (flatW (notW n xs))) (notN n xs) 2 1 (notW n xs)) := by
  obtain ⟨p, cap, rfl, hc⟩ := hv.open
  have HV := Lib.hid hv
  have HC := Lib.hid hc
  have HBd := Lib.hid hb
  have HCap := Lib.hid hcap
  clear hv hc hb hcap
  have HLv := Lib.hid (fun w' (g : Ge w w') => sLevelsOf (.slice p n cap) n xs w' (HV.out.ge g) hm HBd.out HCap.out)
  obtain ⟨h0, h12, hsq, _⟩ : tileP n xs := by
    unfold tileB at hB
    split at hB
    · assumption
    · cases hB
  have hok : ∀ i, i < n → okSq xs i := fun i hi => (hsq i hi).1
  have HOK := Lib.hid hok
  have hr := right_bd n hok
  have hl := low_bd n hok
  obtain ⟨W, hW⟩ : ∃ W : Nat, rightSq xs n = W := ⟨(rightSq xs n).toNat, by omega⟩
  obtain ⟨H, hH⟩ : ∃ H : Nat, lowSq xs n = H := ⟨(lowSq xs n).toNat, by omega⟩
  have hQ : levQ n xs = levU xs n W (H + 1) := by rw [levQ_t hB]; unfold levT; rw [hW, hH]; simp
  have hN3 := levQ_three n xs
  have hNl := levQ_len n xs
  have HNF := Lib.hid (fun k (hk : k < n) => nod_facts hok hW hH hQ rfl (k := k) hk)
  have HWl := Lib.hid (wirT_len xs (levQ n xs) (notN n xs))
  have HW0 : Hid (wirT xs (levQ n xs) (notN n xs) 0 = []) := rfl
  have HW1 : Hid (∀ k, wirT xs (levQ n xs) (notN n xs) (k + 1) = putW (wirT xs (levQ n xs) (notN n xs) k) (nodA xs (levQ n xs) (notN n xs) k) (nodB xs (levQ n xs) (notN n xs) k) 1 true) := fun k => rfl
  have HAd : Hid (∀ k j : Nat, k ≤ n → ∀ a b : Int, -9000000000000000000 ≤ addS true a b 1 ((wirT xs (levQ n xs) (notN n xs) k).take j) ∧ addS true a b 1 ((wirT xs (levQ n xs) (notN n xs) k).take j) ≤ 9000000000000000000) := fun k j hk a b => by
    have := wirT_add xs (levQ n xs) (notN n xs) a b hk h12 j
    unfold addS
    rw [if_pos rfl]
    omega
  have HNW : Hid (notW n xs = wirT xs (levQ n xs) (notN n xs) n) := rfl
  have hNN : (levQ n xs).length = notN n xs := rfl
  have h2N := (HNF.out 0 (by omega)).1
  rw [hNN] at HNF hNl h2N
  generalize notW n xs = LW at *
  generalize notN n xs = N at *
  have H3 : Hid (∀ i, i < N → (rowL (levQ n xs) i).length = 3) := fun i hi => hN3 _ (rowL_mem (by omega))
  have HLN := Lib.hid hNN
  generalize levQ n xs = L at *
  have HSG := Lib.hid (fun (vl : Value) (w1 : World) (o1 : OwnL w1 w.heap.size vl L) (y X : Int) (w' : World) (g : Ge w1 w') => sSegment vl L N w.heap.size y X w' (o1.ge g) HLN.out (by omega) H3.out)
  have HNO := Lib.hid (fun (s : Value) (w' : World) (h : SlF w' s LW.length 3 (flatW LW)) (hl : LW.length ≤ 9223372036854775807) => sNetOk N 2 1 s LW.length (flatW LW) w' h hl)
  have t0 : ((N : Int) == 0) = false := by simp; omega
  clear hQ hN3 hNN hsq hW hH hB
  go_enter Tryz.func7, Tryz.ntmps7
  go_upto_region 1 with (fail)
  have R0 := ResD.new w (.int .i64 0) (.int .i64 0) (.int .i64 0) (.slice none 0 0) 30
  have gR := Ge.alloc (Ge.refl w) (.cells #[.int .i64 0, .int .i64 0, .int .i64 0, .slice none 0 0] 30)
  have zR : w.heap.size < (w.alloc (.cells #[.int .i64 0, .int .i64 0, .int .i64 0, .slice none 0 0] 30)).heap.size := by simp
  generalize w.alloc (.cells #[.int .i64 0, .int .i64 0, .int .i64 0, .slice none 0 0] 30) = wR at *
  go_upto_region 5 with ((go_at_call 19; ((with_reducible refine (HLv.out _ gR).mono ?_); rintro e w1 ⟨u1, rfl, o1, g1⟩)); have O1 := Lib.hid o1; have hform := OwnL.read o1 HLN.out; obtain ⟨pl, cl, hfe, _⟩ := hform; subst hfe; have G1 := Lib.hid (gR.trans g1); have R1 := Lib.hid (R0.ge g1); have z1 := g1.size; clear o1 g1)
  have O2 := Lib.hid (O1.out.mono (show w.heap.size ≤ wR.heap.size by omega))
  have NA := Lib.hid (NetAt.start (n := N) (E := 2) (S := 1) R1.out)
  have GA := Lib.hid (Ge.alloc G1.out (.cells #[.int .i64 (N : Int), .int .i64 2, .int .i64 1, .slice none 0 0] 30))
  have GB := Lib.hid (Ge.alloc (Ge.refl w1) (.cells #[.int .i64 (N : Int), .int .i64 2, .int .i64 1, .slice none 0 0] 30))
  have zw2 : w.heap.size < w1.heap.size := by omega
  have HS1 := Lib.hid (HSG.out _ _ O2.out)
  clear O1 O2 HSG R0 R1 gR
  go_wp2_with fail
  go_loopw [19] (fun kv wr => ∃ (k : Nat) (u : Value), kv = .int .i64 (k : Int) ∧ k ≤ n ∧ Hid (NetAt wr w.heap.size w1.heap.size N 2 1 u (wirT xs L N k)) ∧ Hid (Ge w1 wr)) (fun kv _ => n - (intOf kv).toNat)
  case atStart => exact ⟨0, _, rfl, Nat.zero_le _, NA.out, GB.out⟩
  case round =>
    clear NA GA GB
    obtain ⟨k, u, rfl, hk, HN, HG⟩ := hrel
    by_cases hlt : k < n
    · obtain ⟨b, o, rfl, x0, x1, x2⟩ := three_cells HC.out hlt
      have y0 := HG.out.keep (G1.out.keep x0)
      have y1 := HG.out.keep (G1.out.keep x1)
      have y2 := HG.out.keep (G1.out.keep x2)
      clear x0 x1 x2
      obtain ⟨_, ⟨a1, a2⟩, ⟨b1, b2⟩, hne, ⟨iA, eA, fA⟩, ⟨iB, eB, fB⟩⟩ := HNF.out k hlt
      obtain ⟨c1, c2, c3, c4, c5, c6⟩ := HOK.out k hlt
      have hA : segF N (idxF (hitSeg L (sy xs k) (sx xs k)) N) = nodA xs L N k := by rw [eA, ← fA]; unfold segF; rw [if_neg (by omega)]
      have hB : segF N (idxF (hitSeg L (sy xs k + ss xs k) (sx xs k)) N) = nodB xs L N k := by rw [eB, ← fB]; unfold segF; rw [if_neg (by omega)]
      have HSA := Lib.hid (fun w' (g : Ge w1 w') => HS1.out (sy xs k) (sx xs k) w' g)
      have HSB := Lib.hid (fun w' (g : Ge w1 w') => HS1.out (sy xs k + ss xs k) (sx xs k) w' g)
      rw [hA] at HSA
      rw [hB] at HSB
      have HAk := Lib.hid (fun j => HAd.out k j hk)
      have HLk := Lib.hid (HWl.out k)
      have HWk := Lib.hid (HW1.out k)
      change wr.cell? ⟨b, o + k * 3, none⟩ = some (.int .i64 (sx xs k)) at y0
      change wr.cell? ⟨b, o + k * 3 + 1, none⟩ = some (.int .i64 (sy xs k)) at y1
      change wr.cell? ⟨b, o + k * 3 + 2, none⟩ = some (.int .i64 (ss xs k)) at y2
      clear eA fA eB fB hA hB hne
      generalize nodA xs L N k = A at *
      generalize nodB xs L N k = B at *
      generalize sx xs k = X at *
      generalize sy xs k = Y at *
      generalize ss xs k = Z at *
      have tw : IntKind.i64.wrap (Y + Z) = Y + Z := IntWalk.i64_in _ (by omega)
      clear iA iB
      have HNd := Lib.hid (HN.out.ge (Ge.drew (Ge.alloc (Ge.refl wr) (.cells #[.int .i64 X, .int .i64 Y, .int .i64 Z] 27))))
      have HGd := Lib.hid (HG.out.trans (Ge.drew (Ge.alloc (Ge.refl wr) (.cells #[.int .i64 X, .int .i64 Y, .int .i64 Z] 27))))
      have B0 := Lib.hid (cell_drew (cell_new (w := wr) (t := 27) (cs := #[.int .i64 X, .int .i64 Y, .int .i64 Z]) (i := 0) rfl rfl))
      have B1 := Lib.hid (cell_drew (cell_new (w := wr) (t := 27) (cs := #[.int .i64 X, .int .i64 Y, .int .i64 Z]) (i := 1) rfl rfl))
      have B2 := Lib.hid (cell_drew (cell_new (w := wr) (t := 27) (cs := #[.int .i64 X, .int .i64 Y, .int .i64 Z]) (i := 2) rfl rfl))
      go_wp2_with fail
      refine wp_region_head (S := fun w' => w'.cell? ⟨w1.heap.size, 3, none⟩ = some u ∧ w'.cell? ⟨wr.heap.size, 0, none⟩ = some (.int .i64 X) ∧ w'.cell? ⟨wr.heap.size, 1, none⟩ = some (.int .i64 Y) ∧ w'.cell? ⟨wr.heap.size, 2, none⟩ = some (.int .i64 Z)) 19 (by kernel_rfl) (by kernel_rfl) (⟨HNd.out.c3, B0.out, B1.out, B2.out⟩) (fun hHeld => ?_)
      refine head_take 0 (v := ?_) rfl (by kernel_rfl) (by kernel_rfl) (fun _ _ _ h => h) (by assumption) (yields_if (by rfl) ?_) ?_
      rotate_left
      focus (intro w' hSw; (try dsimp only at hSw); go_simp; (try with_reducible rfl))
      (try simp only [Act.put, List.setIfInBounds_toArray, List.set_cons_zero, List.set_cons_succ])
      refine head_take 1 (v := ?_) rfl (by kernel_rfl) (by kernel_rfl) (fun _ _ _ h => h) (by assumption) (yields_if (by rfl) ?_) ?_
      rotate_left
      focus (intro w' hSw; (try dsimp only at hSw); go_simp; (try with_reducible rfl))
      (try simp only [Act.put, List.setIfInBounds_toArray, List.set_cons_zero, List.set_cons_succ])
      refine head_take 2 (v := ?_) rfl (by kernel_rfl) (by kernel_rfl) (fun _ _ _ h => h) (by assumption) (yields_if (by rfl) ?_) ?_
      rotate_left
      focus (intro w' hSw; (try dsimp only at hSw); go_simp; (try with_reducible rfl))
      (try simp only [Act.put, List.setIfInBounds_toArray, List.set_cons_zero, List.set_cons_succ])
      refine head_take 3 (v := ?_) rfl (by kernel_rfl) (by kernel_rfl) (fun _ _ _ h => h) (by assumption) (yields_if (by rfl) ?_) ?_
      rotate_left
      focus (intro w' hSw; (try dsimp only at hSw); go_simp; (try with_reducible rfl))
      (try simp only [Act.put, List.setIfInBounds_toArray, List.set_cons_zero, List.set_cons_succ])
      refine head_take 4 (v := ?_) rfl (by kernel_rfl) (by kernel_rfl) (fun _ _ _ h => h) (by assumption) (yields_if (by rfl) ?_) ?_
      rotate_left
      focus (intro w' hSw; (try dsimp only at hSw); go_simp; (try with_reducible rfl))
      (try simp only [Act.put, List.setIfInBounds_toArray, List.set_cons_zero, List.set_cons_succ])
      refine head_take 5 (v := ?_) rfl (by kernel_rfl) (by kernel_rfl) (fun _ _ _ h => h) (by assumption) (yields_if (by rfl) ?_) ?_
      rotate_left
      focus (intro w' hSw; (try dsimp only at hSw); go_simp; (try with_reducible rfl))
      (try simp only [Act.put, List.setIfInBounds_toArray, List.set_cons_zero, List.set_cons_succ])
      refine head_take 6 (v := ?_) rfl (by kernel_rfl) (by kernel_rfl) (fun _ _ _ h => h) (by assumption) (yields_if (by rfl) ?_) ?_
      rotate_left
      focus (intro w' hSw; (try dsimp only at hSw); go_simp; (try with_reducible rfl))
      (try simp only [Act.put, List.setIfInBounds_toArray, List.set_cons_zero, List.set_cons_succ])
      refine head_take 8 (v := ?_) rfl (by kernel_rfl) (by kernel_rfl) (fun _ _ _ h => h) (by assumption) (yields_if (by rfl) ?_) ?_
      rotate_left
      focus (intro w' hSw; (try dsimp only at hSw); go_simp; (try with_reducible rfl))
      (try simp only [Act.put, List.setIfInBounds_toArray, List.set_cons_zero, List.set_cons_succ])
      refine head_take 9 (v := ?_) rfl (by kernel_rfl) (by kernel_rfl) (fun _ _ _ h => h) (by assumption) (yields_if (by rfl) ?_) ?_
      rotate_left
      focus (intro w' hSw; (try dsimp only at hSw); go_simp; (try with_reducible rfl))
      (try simp only [Act.put, List.setIfInBounds_toArray, List.set_cons_zero, List.set_cons_succ])
      refine head_take 10 (v := ?_) rfl (by kernel_rfl) (by kernel_rfl) (fun _ _ _ h => h) (by assumption) (yields_if (by rfl) ?_) ?_
      rotate_left
      focus (intro w' hSw; (try dsimp only at hSw); go_simp; (try with_reducible rfl))
      (try simp only [Act.put, List.setIfInBounds_toArray, List.set_cons_zero, List.set_cons_succ])
      refine head_take 11 (v := ?_) rfl (by kernel_rfl) (by kernel_rfl) (fun _ _ _ h => h) (by assumption) (yields_if (by rfl) ?_) ?_
      rotate_left
      focus (intro w' hSw; (try dsimp only at hSw); go_simp; (try with_reducible rfl))
      (try simp only [Act.put, List.setIfInBounds_toArray, List.set_cons_zero, List.set_cons_succ])
      refine head_take 12 (v := ?_) rfl (by kernel_rfl) (by kernel_rfl) (fun _ _ _ h => h) (by assumption) (yields_if (by rfl) ?_) ?_
      rotate_left
      focus (intro w' hSw; (try dsimp only at hSw); go_simp; (try with_reducible rfl))
      (try simp only [Act.put, List.setIfInBounds_toArray, List.set_cons_zero, List.set_cons_succ])
      refine head_take 13 (v := ?_) rfl (by kernel_rfl) (by kernel_rfl) (fun _ _ _ h => h) (by assumption) (yields_if (by rfl) ?_) ?_
      rotate_left
      focus (intro w' hSw; (try dsimp only at hSw); go_simp; (try with_reducible rfl))
      (try simp only [Act.put, List.setIfInBounds_toArray, List.set_cons_zero, List.set_cons_succ])
      refine head_take 14 (v := ?_) rfl (by kernel_rfl) (by kernel_rfl) (fun _ _ _ h => h) (by assumption) (yields_if (by rfl) ?_) ?_
      rotate_left
      focus (intro w' hSw; (try dsimp only at hSw); go_simp; (try with_reducible rfl))
      (try simp only [Act.put, List.setIfInBounds_toArray, List.set_cons_zero, List.set_cons_succ])
      refine head_take 15 (v := ?_) rfl (by kernel_rfl) (by kernel_rfl) (fun _ _ _ h => h) (by assumption) (yields_if (by rfl) ?_) ?_
      rotate_left
      focus (intro w' hSw; (try dsimp only at hSw); go_simp; (try with_reducible rfl))
      (try simp only [Act.put, List.setIfInBounds_toArray, List.set_cons_zero, List.set_cons_succ])
      refine head_one 7 rfl (by kernel_rfl) (fun K hK => ?_)
      go_simp
      (go_at_call 21; ((with_reducible refine (HSA.out _ HGd.out).mono ?_); rintro e w4 ⟨rfl, g4⟩))
      refine hK.out _ _ ⟨(HNd.out.ge g4).c3, g4.keep B0.out, g4.keep B1.out, g4.keep B2.out⟩ (fun hHeld => ?_)
      clear hK K
      (try simp only [Act.put, List.setIfInBounds_toArray, List.set_cons_zero, List.set_cons_succ])
      refine head_one 16 rfl (by kernel_rfl) (fun K hK => ?_)
      go_simp
      (go_at_call 21; ((with_reducible refine (HSB.out _ (HGd.out.trans g4)).mono ?_); rintro e w5 ⟨rfl, g5⟩))
      have g45 := g4.trans g5
      refine hK.out _ _ ⟨(HNd.out.ge g45).c3, g45.keep B0.out, g45.keep B1.out, g45.keep B2.out⟩ (fun hHeld => ?_)
      clear hK K
      (try simp only [Act.put, List.setIfInBounds_toArray, List.set_cons_zero, List.set_cons_succ])
      have HN5 := Lib.hid (HNd.out.ge g45)
      have zG := World.block_lt_of_cell? _ _ HN5.out.c3
      refine head_one 17 rfl (by kernel_rfl) (fun K hK => ?_)
      go_simp
      (go_at_call 20; ((with_reducible refine (sL03Put u (wirT xs L N k) A B 1 true _ (SlF.of_owns HN5.out.own) (by have := HLk.out; omega) (fun j _ => HAk.out j _ _)).mono ?_); rintro e w6 ⟨u6, rfl, own6, g6⟩))
      obtain ⟨p6, c6, rfl⟩ := owns_form own6
      have HN6 := Lib.hid (HN5.out.ge g6)
      have g456 := g45.trans g6
      have a3 := HN6.out.c3
      have af := HN6.out.f3
      refine hK.out _ _ ⟨HN6.out.c3, g456.keep B0.out, g456.keep B1.out, g456.keep B2.out⟩ (fun hHeld => ?_)
      clear hK K
      (try simp only [Act.put, List.setIfInBounds_toArray, List.set_cons_zero, List.set_cons_succ])
      refine head_take 18 (v := ?_) rfl (by kernel_rfl) (by kernel_rfl) (fun _ _ _ h => h) (by assumption) (yields_if (by rfl) ?_) ?_
      rotate_left
      focus (intro w' hSw; (try dsimp only at hSw); go_simp; (try with_reducible rfl))
      (try simp only [Act.put, List.setIfInBounds_toArray, List.set_cons_zero, List.set_cons_succ])
      refine head_done (by kernel_rfl) ?_
      go_wp2_with fail
      go_roundw
      case rel => exact ⟨k + 1, _, by go_num, by omega, by rw [HWk.out]; exact HN6.out.put zw2 (owns_mono own6 zG), Ge.setCell (HGd.out.trans g456) (Nat.le_refl _) _⟩
      case measure => simp [intOf]; omega
    · have hkn : k = n := by omega
      subst hkn
      rw [← HNW.out] at HN
      have HOw := Lib.hid (SlF.of_owns HN.out.own)
      have hll : Hid (LW.length ≤ k) := by show _ ≤ _; rw [HNW.out]; exact HWl.out k
      have HNOu := Lib.hid (fun w' (g : Ge wr w') => HNO.out u w' (HOw.out.ge g) (Nat.le_trans hll.out hm))
      obtain ⟨a0, a1, a2, a3, af, ao, ar⟩ := HN.out
      obtain ⟨r0, p0, f0⟩ := ar 0 (by omega)
      obtain ⟨r1, p1, f1⟩ := ar 1 (by omega)
      obtain ⟨r2, p2, f2⟩ := ar 2 (by omega)
      obtain ⟨r3, p3, f3⟩ := ar 3 (by omega)
      obtain ⟨pu, cu, rfl⟩ := owns_form ao
      have HO := Lib.hid ao
      have GW := Lib.hid (G1.out.trans HG.out)
      clear ao ar HNO HAd HWl
      have HL2 : Hid (∃ m, LW.length = m) := ⟨_, rfl⟩
      cases hB : netB N 2 1 LW.length (flatW LW) with
      | true =>
        rw [hB] at HNOu
        have HT1 := Lib.hid (fun u w' ho g => GivesO.t (w := w) (w' := w') (N := N) (E := 2) (S := 1) (L := LW) (u := u) hB ho g)
        go_wp2_with ((go_at_call 22; ((with_reducible refine (HNOu.out _ (Ge.refl _)).mono ?_); rintro r w9 ⟨rfl, g9⟩)); have e0 := g9.keep a0; have e1 := g9.keep a1; have e2 := g9.keep a2; have e3 := g9.keep a3; have q0 := g9.keep p0; have q1 := g9.keep p1; have q2 := g9.keep p2; have q3 := g9.keep p3; have h0 := g9.keepF p0 f0; have h1 := g9.keepF p1 f1; have h2 := g9.keepF p2 f2; have h3 := g9.keepF p3 f3; have o9 := g9.owns HO.out; have gw9 := GW.out.trans g9)
        exact bodyPost_ret (v := .tuple #[.agg #[.int .i64 (N : Int), .int .i64 2, .int .i64 1, .slice pu LW.length cu], .bool true]) (by simp [results, Tryz.results7, go_sem, *]) rfl (HT1.out _ _ (by refine owns_mono (base := w1.heap.size + 1) ?_ (by omega); repeat (first | exact o9 | refine own_setD ?_ (by omega))) (by repeat (first | exact gw9 | refine Ge.setCell ?_ (Nat.le_refl _) _)))
      | false =>
        rw [hB] at HNOu
        have HT1 := Lib.hid (fun w' g => GivesO.f (w := w) (w' := w') (N := N) (E := 2) (S := 1) (L := LW) hB g)
        go_wp2_with ((go_at_call 22; ((with_reducible refine (HNOu.out _ (Ge.refl _)).mono ?_); rintro r w9 ⟨rfl, g9⟩)); have q0 := g9.keep p0; have q1 := g9.keep p1; have q2 := g9.keep p2; have q3 := g9.keep p3; have h0 := g9.keepF p0 f0; have h1 := g9.keepF p1 f1; have h2 := g9.keepF p2 f2; have h3 := g9.keepF p3 f3; have gw9 := GW.out.trans g9)
        exact bodyPost_ret (v := .tuple #[.agg #[.int .i64 0, .int .i64 0, .int .i64 0, .slice none 0 0], .bool false]) (by simp [results, Tryz.results7, go_sem, *]) rfl (HT1.out _ (by repeat (first | exact gw9 | refine Ge.setCell ?_ (Nat.le_refl _) _)))

theorem netW_nil (n : Nat) (xs : List Int) (h : tileB n xs = false) : netB (notN n xs) 2 1 (notW n xs).length (flatW (notW n xs)) = false := by
  have e : notN n xs = 0 := by unfold notN; rw [levQ_f h]; rfl
  cases hb : netB (notN n xs) 2 1 (notW n xs).length (flatW (notW n xs)) with
  | false => rfl
  | true => have := (netP_of hb).1; rw [e] at this; omega
theorem sNetOfTiling (v : Value) (n : Nat) (xs : List Int) (w : World) (hv : SlF w v n 3 xs) (hm : n ≤ 9223372036854775807) (hb : ∀ j, -9223372036854775808 ≤ nth xs j ∧ nth xs j ≤ 9223372036854775807) (hcap : ∀ p c, v = .slice p n c → n ≤ c) :
    Calls Tryz.prog 7 #[v] w (GivesO w (netB (notN n xs) 2 1 (notW n xs).length (flatW (notW n xs))) (notN n xs) 2 1 (notW n xs)) := by
  cases hB : tileB n xs with
  | true => exact sNotT v n xs w hv hm hb hcap hB
  | false =>
    obtain ⟨p, cap, rfl, hc⟩ := hv.open
    have HV := Lib.hid hv
    have HBd := Lib.hid hb
    have HCap := Lib.hid hcap
    clear hv hc hb hcap
    rw [netW_nil n xs hB]
    have HT1 := Lib.hid (fun w' g => GivesO.f (w := w) (w' := w') (b := false) (N := notN n xs) (E := 2) (S := 1) (L := notW n xs) rfl g)
    have HLv := Lib.hid (fun w' (g : Ge w w') => sLevelsOf (.slice p n cap) n xs w' (HV.out.ge g) hm HBd.out HCap.out)
    rw [levQ_f hB] at HLv
    clear hB
    go_enter Tryz.func7, Tryz.ntmps7
    go_upto_region 1 with (fail)
    have R0 := ResD.new w (.int .i64 0) (.int .i64 0) (.int .i64 0) (.slice none 0 0) 30
    have gR := Ge.alloc (Ge.refl w) (.cells #[.int .i64 0, .int .i64 0, .int .i64 0, .slice none 0 0] 30)
    generalize w.alloc (.cells #[.int .i64 0, .int .i64 0, .int .i64 0, .slice none 0 0] 30) = wR at *
    go_wp2_with ((go_at_call 19; ((with_reducible refine (HLv.out _ gR).mono ?_); rintro e w1 ⟨u1, rfl, o1, g1⟩)); have hform := OwnL.read o1 rfl; obtain ⟨pl, cl, hfe, _⟩ := hform; subst hfe; have gw9 := gR.trans g1; have R1 := R0.ge g1; obtain ⟨r0, q0, h0⟩ := R1 0 (by omega); obtain ⟨r1, q1, h1⟩ := R1 1 (by omega); obtain ⟨r2, q2, h2⟩ := R1 2 (by omega); obtain ⟨r3, q3, h3⟩ := R1 3 (by omega); clear o1)
    exact bodyPost_ret (v := .tuple #[.agg #[.int .i64 0, .int .i64 0, .int .i64 0, .slice none 0 0], .bool false]) (by simp [results, Tryz.results7, go_sem, *]) rfl (HT1.out _ (by repeat (first | exact gw9 | refine Ge.setCell ?_ (Nat.le_refl _) _)))
end Go.Proofs.YtckjkfcphcnpdaaGreat

namespace Go.Proofs.YtckjkfcphcnpdaaGreat

open Go.RowKit

noncomputable def grdR (c : Bool) (r : Rt) : Rt := if c = true then r else ⟨0, 0⟩
theorem grdR_t (r : Rt) : grdR true r = r := rfl
theorem grdR_f (r : Rt) : grdR false r = ⟨0, 0⟩ := rfl
/-- a and b are two nodes of a valid network. -/
noncomputable def difB (N E S : Int) (m : Nat) (xs : List Int) (a b : Int) : Bool := netB N E S m xs && (decide (0 ≤ a ∧ a < N) && (decide (0 ≤ b ∧ b < N) && !decide (a = b)))
theorem dif_f0 {N E S : Int} {m : Nat} {xs : List Int} {a b : Int} (h : netB N E S m xs = false) : difB N E S m xs a b = false := by simp [difB, h]
theorem dif_f1 {N E S : Int} {m : Nat} {xs : List Int} {a b : Int} (h : ¬ (0 ≤ a ∧ a < N)) : difB N E S m xs a b = false := by simp [difB, h]
theorem dif_f2 {N E S : Int} {m : Nat} {xs : List Int} {a b : Int} (h : ¬ (0 ≤ b ∧ b < N)) : difB N E S m xs a b = false := by simp [difB, h]
theorem dif_f3 {N E S : Int} {m : Nat} {xs : List Int} {a b : Int} (h : a = b) : difB N E S m xs a b = false := by simp [difB, h]
theorem dif_t {N E S : Int} {m : Nat} {xs : List Int} {a b : Int} (h : netB N E S m xs = true) (h1 : 0 ≤ a ∧ a < N) (h2 : 0 ≤ b ∧ b < N) (h3 : ¬ a = b) : difB N E S m xs a b = true := by simp [difB, h, h1, h2, h3]
theorem dif_of {N E S : Int} {m : Nat} {xs : List Int} {a b : Int} (h : difB N E S m xs a b = true) : netB N E S m xs = true ∧ (0 ≤ a ∧ a < N) ∧ (0 ≤ b ∧ b < N) ∧ ¬ a = b := by simpa [difB] using h

theorem without_lt2 {k : Nat} {l : List Int} {x y : Int} (hx : x ∈ l) (hy : y ∈ l) (hxy : ¬ x = y) (h0 : 0 ≤ x ∧ x < k) (h1 : 0 ≤ y ∧ y < k) : (without k l).length + 2 ≤ k := by
  induction k with
  | zero => omega
  | succ k ih =>
    by_cases e : x = k
    · rw [without_in (by rw [← e]; exact hx)]
      have := without_lt hy (k := k) (by omega) (by omega)
      omega
    · by_cases e2 : y = k
      · rw [without_in (by rw [← e2]; exact hy)]
        have := without_lt hx (k := k) (by omega) (by omega)
        omega
      · have h2 := ih (by omega) (by omega)
        by_cases c : (k : Int) ∈ l
        · rw [without_in c]; omega
        · rw [without_out c]; simp; omega
theorem detB_le3 {k : Nat} (h : k ≤ 3) : detB k ≤ 1000000000000 := by
  have e : k = 0 ∨ k = 1 ∨ k = 2 ∨ k = 3 := by omega
  rcases e with rfl | rfl | rfl | rfl <;> decide
/-- An open walk's facts of a valid network. -/
theorem net_wires {N E S : Int} {m : Nat} {xs : List Int} (h : netB N E S m xs = true) : (1 ≤ N ∧ N ≤ 5) ∧ m ≤ 10 ∧ (∀ k, k < m → goodW N xs k) := by
  obtain ⟨⟨n1, n2⟩, _, _, hK, _⟩ := netP_of h
  obtain ⟨n, rfl⟩ : ∃ n : Nat, N = (n : Int) := ⟨N.toNat, by omega⟩
  exact ⟨⟨n1, n2⟩, prs_len (N := n) (by omega) hK, hK⟩
theorem treeV_bd (N E S : Int) (m : Nat) (xs : List Int) : -10000000000000000 ≤ treeV N E S m xs ∧ treeV N E S m xs ≤ 10000000000000000 := by
  cases h : netB N E S m xs with
  | false => rw [treeV_f h]; omega
  | true =>
    rw [treeV_t h]
    obtain ⟨⟨n1, n2⟩, h10, hK⟩ := net_wires h
    obtain ⟨n, rfl⟩ : ∃ n : Nat, N = (n : Int) := ⟨N.toNat, by omega⟩
    rw [show ((n : Int)).toNat = n by omega]
    refine minor_bd (n := n) hK h10 (by omega) _ _ ?_
    have := without_lt (k := n) (l := [0]) (x := 0) (by simp) (by omega) (by omega)
    omega
theorem forV_bd (N E S : Int) (m : Nat) (xs : List Int) (a b : Int) : -1000000000000 ≤ forV N E S m xs a b ∧ forV N E S m xs a b ≤ 1000000000000 := by
  by_cases h : netB N E S m xs = true ∧ (0 ≤ a ∧ a < N) ∧ (0 ≤ b ∧ b < N) ∧ ¬ a = b
  · rw [forV_t h.1 h.2.1 h.2.2.1 h.2.2.2]
    obtain ⟨⟨n1, n2⟩, h10, hK⟩ := net_wires h.1
    obtain ⟨n, rfl⟩ : ∃ n : Nat, N = (n : Int) := ⟨N.toNat, by omega⟩
    rw [show ((n : Int)).toNat = n by omega]
    have h0 := without_lt2 (k := n) (l := [a, b]) (x := a) (y := b) (by simp) (by simp) h.2.2.2 h.2.1 h.2.2.1
    have h1 := detF_bd (lapZ_bd hK h10) (without n [a, b]) (without n [a, b]) (Nat.le_trans (without_len n _) (by omega))
    have h2 := detB_le3 (k := (without n [a, b]).length) (by omega)
    unfold absB at h1
    unfold forT minorV
    omega
  · rw [forV_f h]; omega
theorem mul_bd {u f A B : Int} (h0 : 0 ≤ u) (h1 : u ≤ A) (h2 : -B ≤ f) (h3 : f ≤ B) (hB : 0 ≤ B) : -(A * B) ≤ u * f ∧ u * f ≤ A * B := by
  have := absB_mul (x := u) (y := f) (A := A) (B := B) (by omega) (by unfold absB; omega) (by unfold absB; omega) hB
  unfold absB at this
  omega
theorem wf_bd {N E S : Int} {m : Nat} {xs : List Int} {u : Int} (h0 : 0 ≤ u) (h1 : u ≤ 20000) (a b : Int) : -20000000000000000 ≤ u * forV N E S m xs a b ∧ u * forV N E S m xs a b ≤ 20000000000000000 := by
  obtain ⟨f0, f1⟩ := forV_bd N E S m xs a b
  have := mul_bd h0 h1 f0 f1 (by omega)
  omega
/-- The weights of all nodes. -/
def wtAll (xs : List Int) : Nat → Int
  | 0 => 0
  | k + 1 => wtAll xs k + 2 * ww xs k
theorem wtAll_bd {N : Int} {xs : List Int} : ∀ {m : Nat}, (∀ k, k < m → goodW N xs k) → 0 ≤ wtAll xs m ∧ wtAll xs m ≤ 400 * m
  | 0, _ => by simp [wtAll]
  | m + 1, h => by
    have h1 := wtAll_bd (m := m) (fun k hk => h k (by omega))
    obtain ⟨_, _, _, q1, q2⟩ := (h m (by omega)).1
    simp only [wtAll]
    omega
/-- The weights at the first k nodes. -/
def watS (xs : List Int) (m : Nat) : Nat → Int
  | 0 => 0
  | k + 1 => watS xs m k + wat xs k m
theorem watS_bd {N : Int} {xs : List Int} {m : Nat} (h : ∀ k, k < m → goodW N xs k) : ∀ k : Nat, 0 ≤ watS xs m k ∧ watS xs m k ≤ 200 * m * k
  | 0 => by simp [watS]
  | k + 1 => by
    have h1 := watS_bd h k
    have h2 := wat_bd (k : Int) h
    simp only [watS]
    have e : 200 * (m : Int) * ((k + 1 : Nat) : Int) = 200 * m * k + 200 * m := by
      rw [show ((k + 1 : Nat) : Int) = (k : Int) + 1 by omega, Int.mul_add, Int.mul_one]
    omega
theorem watS_step (xs : List Int) (m : Nat) (hA : 0 ≤ wa xs m) (hB : 0 ≤ wb xs m) (hne : wa xs m ≠ wb xs m) : ∀ k : Nat, watS xs (m + 1) k = watS xs m k + ((if wa xs m < k then ww xs m else 0) + (if wb xs m < k then ww xs m else 0))
  | 0 => by
    rw [if_neg (by omega), if_neg (by omega)]; simp [watS]
  | k + 1 => by
    have ih := watS_step xs m hA hB hne k
    simp only [watS, wat]
    rw [ih]
    repeat' split
    all_goals omega
theorem watS_zero (xs : List Int) : ∀ k : Nat, watS xs 0 k = 0
  | 0 => rfl
  | k + 1 => by simp [watS, watS_zero xs k, wat]
theorem watS_all {n : Nat} {xs : List Int} : ∀ {m : Nat}, (∀ k, k < m → goodW n xs k) → watS xs m n = wtAll xs m
  | 0, _ => watS_zero xs n
  | m + 1, h => by
    obtain ⟨q0, q1, q2, _, _⟩ := (h m (by omega)).1
    rw [watS_step xs m (by omega) (by omega) (by omega) n, watS_all (m := m) (fun k hk => h k (by omega)), if_pos (by omega), if_pos (by omega)]
    simp only [wtAll]
    omega
/-- The sum of a hitting time over the first k nodes. -/
noncomputable def hitS (N E S : Int) (m : Nat) (xs : List Int) (a b : Int) : Nat → Int
  | 0 => 0
  | k + 1 => hitS N E S m xs a b k + wat xs k m * (forV N E S m xs a b + forV N E S m xs k b - forV N E S m xs a k)
theorem hitS_bd {N E S : Int} {m : Nat} {xs : List Int} {a b : Int} (h : ∀ k, k < m → goodW N xs k) (hm : m ≤ 10) : ∀ k : Nat, -(6000000000000000 * (k : Int)) ≤ hitS N E S m xs a b k ∧ hitS N E S m xs a b k ≤ 6000000000000000 * k
  | 0 => by simp [hitS]
  | k + 1 => by
    have ih := hitS_bd (E := E) (S := S) (a := a) (b := b) h hm k
    have h2 := wat_bd (k : Int) h
    have f1 := forV_bd N E S m xs a b
    have f2 := forV_bd N E S m xs k b
    have f3 := forV_bd N E S m xs a k
    have h3 := mul_bd (u := wat xs k m) (f := forV N E S m xs a b + forV N E S m xs k b - forV N E S m xs a k) (A := 2000) (B := 3000000000000) (by omega) (by omega) (by omega) (by omega) (by omega)
    simp only [hitS]
    omega
noncomputable def escR (N E S : Int) (m : Nat) (xs : List Int) (a b : Int) : Rt := grdR (difB N E S m xs a b) (ratioOf (treeV N E S m xs) (wat xs a m * forV N E S m xs a b))
noncomputable def wireB (N E S : Int) (m : Nat) (xs : List Int) (k : Int) : Bool := netB N E S m xs && decide (0 ≤ k ∧ k < m)
noncomputable def trcR (N E S : Int) (m : Nat) (xs : List Int) (k : Int) : Rt := grdR (wireB N E S m xs k) (ratioOf (ww xs k.toNat * forV N E S m xs (wa xs k.toNat) (wb xs k.toNat)) (treeV N E S m xs))
theorem esc_f {N E S : Int} {m : Nat} {xs : List Int} {a b : Int} (h : difB N E S m xs a b = false) : escR N E S m xs a b = ⟨0, 0⟩ := by unfold escR; rw [h]; rfl
theorem esc_t {N E S : Int} {m : Nat} {xs : List Int} {a b : Int} (h : difB N E S m xs a b = true) : escR N E S m xs a b = ratioOf (treeV N E S m xs) (wat xs a m * forV N E S m xs a b) := by unfold escR; rw [h]; rfl
theorem wire_f0 {N E S : Int} {m : Nat} {xs : List Int} {k : Int} (h : netB N E S m xs = false) : wireB N E S m xs k = false := by simp [wireB, h]
theorem wire_f1 {N E S : Int} {m : Nat} {xs : List Int} {k : Int} (h : ¬ (0 ≤ k ∧ k < m)) : wireB N E S m xs k = false := by simp [wireB, h]
theorem wire_t {N E S : Int} {m : Nat} {xs : List Int} {k : Int} (h : netB N E S m xs = true) (h1 : 0 ≤ k ∧ k < m) : wireB N E S m xs k = true := by simp [wireB, h, h1]
theorem wire_of {N E S : Int} {m : Nat} {xs : List Int} {k : Int} (h : wireB N E S m xs k = true) : netB N E S m xs = true ∧ 0 ≤ k ∧ k < m := by simpa [wireB] using h
theorem trc_f {N E S : Int} {m : Nat} {xs : List Int} {k : Int} (h : wireB N E S m xs k = false) : trcR N E S m xs k = ⟨0, 0⟩ := by unfold trcR; rw [h]; rfl
theorem trc_t {N E S : Int} {m : Nat} {xs : List Int} {k : Nat} (h : wireB N E S m xs k = true) : trcR N E S m xs k = ratioOf (ww xs k * forV N E S m xs (wa xs k) (wb xs k)) (treeV N E S m xs) := by unfold trcR; rw [h]; rfl
end Go.Proofs.YtckjkfcphcnpdaaGreat

namespace Go.Proofs.YtckjkfcphcnpdaaGreat

open Go.RowKit

theorem isW_symm (xs : List Int) (a b : Int) (k : Nat) : isW xs a b k ↔ isW xs b a k := by unfold isW; rw [Int.min_comm, Int.max_comm]
theorem wfind_symm (xs : List Int) (a b : Int) : ∀ m, wfind xs a b m = wfind xs b a m
  | 0 => rfl
  | m + 1 => by
    simp only [wfind, wfind_symm xs a b m]
    by_cases h : isW xs a b m
    · rw [if_pos h, if_pos ((isW_symm xs a b m).1 h)]
    · rw [if_neg h, if_neg (fun k => h ((isW_symm xs a b m).2 k))]
theorem wbet_symm (xs : List Int) (m : Nat) (a b : Int) : wbet xs m a b = wbet xs m b a := by unfold wbet; rw [wfind_symm]
theorem lapZ_symm (xs : List Int) (m : Nat) (a b : Int) : lapZ xs m a b = lapZ xs m b a := by
  unfold lapZ
  by_cases h : a = b
  · rw [h]
  · rw [if_neg h, if_neg (fun k => h k.symm), wbet_symm]
/-- One wire more. -/
theorem wbet_snoc {N : Int} {xs : List Int} {m : Nat} (h : ∀ k, k < m + 1 → goodW N xs k) (a b : Int) : wbet xs (m + 1) a b = wbet xs m a b + (if isW xs a b m then ww xs m else 0) := by
  unfold wbet
  cases e : wfind xs a b m with
  | some k =>
    obtain ⟨hk, hw⟩ := wfind_lt e
    have e2 : wfind xs a b (m + 1) = some k := by simp only [wfind, e]
    rw [e2]
    have h2 : ¬ isW xs a b m := fun h2 => by
      have h3 := (prs_pair xs (m + 1) N h).2 m (by omega) k hk
      obtain ⟨p1, p2⟩ := hw
      obtain ⟨p3, p4⟩ := h2
      rw [p1, p2, p3, p4] at h3
      unfold ltP at h3
      omega
    rw [if_neg h2]; simp
  | none =>
    by_cases h2 : isW xs a b m
    · have e2 : wfind xs a b (m + 1) = some m := by simp only [wfind, e, if_pos h2]
      rw [e2, if_pos h2]; simp
    · have e2 : wfind xs a b (m + 1) = none := by simp only [wfind, e, if_neg h2]
      rw [e2, if_neg h2]; simp
theorem ind_sum (xs : List Int) (m : Nat) (v : Int) (hv : 0 ≤ v) (hA : 0 ≤ wa xs m) (hB : wa xs m < wb xs m) : ∀ k : Nat, sumTo (fun (u : Nat) => if isW xs v u m then ww xs m else 0) k = if (wa xs m = v ∧ wb xs m < k) ∨ (wb xs m = v ∧ wa xs m < k) then ww xs m else 0
  | 0 => by rw [if_neg (by omega)]; rfl
  | k + 1 => by
    simp only [sumTo, ind_sum xs m v hv hA hB k]
    by_cases c : isW xs v (k : Int) m
    · rw [if_pos c]
      obtain ⟨c1, c2⟩ := c
      rw [if_neg (by omega), if_pos (by omega)]; omega
    · rw [if_neg c]
      unfold isW at c
      by_cases d : (wa xs m = v ∧ wb xs m < k) ∨ (wb xs m = v ∧ wa xs m < k)
      · rw [if_pos d, if_pos (by omega)]; omega
      · rw [if_neg d, if_neg (by omega)]; omega
theorem sumTo_add (f g : Nat → Int) : ∀ k, sumTo (fun u => f u + g u) k = sumTo f k + sumTo g k
  | 0 => rfl
  | k + 1 => by simp only [sumTo, sumTo_add f g k]; omega
theorem sumTo_congr {f g : Nat → Int} : ∀ {k : Nat}, (∀ u, u < k → f u = g u) → sumTo f k = sumTo g k
  | 0, _ => rfl
  | k + 1, h => by simp only [sumTo]; rw [sumTo_congr (k := k) (fun u hu => h u (by omega)), h k (by omega)]
theorem wat_sum {n : Nat} {xs : List Int} {v : Int} (h0 : 0 ≤ v) (h1 : v < n) : ∀ {m : Nat}, (∀ k, k < m → goodW n xs k) → sumTo (fun (u : Nat) => wbet xs m v u) n = wat xs v m
  | 0, _ => by
    show _ = (0 : Int)
    have : ∀ k, sumTo (fun (u : Nat) => wbet xs 0 v u) k = 0 := fun k => by
      induction k with
      | zero => rfl
      | succ k ih => simp only [sumTo, ih]; rfl
    exact this n
  | m + 1, h => by
    obtain ⟨q0, q1, q2, _, _⟩ := (h m (by omega)).1
    have e1 : sumTo (fun (u : Nat) => wbet xs (m + 1) v u) n = sumTo (fun (u : Nat) => wbet xs m v u + (if isW xs v u m then ww xs m else 0)) n := sumTo_congr (fun u _ => wbet_snoc h v u)
    rw [e1, sumTo_add, wat_sum h0 h1 (m := m) (fun k hk => h k (by omega)), ind_sum xs m v h0 (by omega) (by omega)]
    simp only [wat]
    by_cases d : wa xs m = v ∨ wb xs m = v
    · rw [if_pos d, if_pos (by omega)]
    · rw [if_neg d, if_neg (by omega)]
theorem lap_sum {N : Int} {xs : List Int} {m : Nat} (h : ∀ k, k < m → goodW N xs k) (v : Int) (h0 : 0 ≤ v) : ∀ k : Nat, sumTo (fun (u : Nat) => lapZ xs m v u) k = (if v < k then wat xs v m else 0) - sumTo (fun (u : Nat) => wbet xs m v u) k
  | 0 => by rw [if_neg (by omega)]; rfl
  | k + 1 => by
    simp only [sumTo, lap_sum h v h0 k]
    unfold lapZ
    by_cases e : v = (k : Int)
    · rw [if_pos e, if_neg (by omega), if_pos (by omega), e, wbet_none (wfind_self h _)]; omega
    · rw [if_neg e]
      by_cases d : v < (k : Int)
      · rw [if_pos d, if_pos (by omega)]; omega
      · rw [if_neg d, if_neg (by omega)]; omega
theorem lap_row {n : Nat} {xs : List Int} {m : Nat} {v : Int} (h : ∀ k, k < m → goodW n xs k) (h0 : 0 ≤ v) (h1 : v < n) : sumTo (fun (u : Nat) => lapZ xs m v u) n = 0 := by
  rw [lap_sum h v h0, if_pos h1, wat_sum h0 h1 h]; omega

def idxZ (v b : Int) : Int := if v > b then v - 1 else v
/-- The potential of a node by minors. -/
noncomputable def potV (n m : Nat) (xs : List Int) (a b v : Int) : Int := if v = b then 0 else if (idxZ a b + idxZ v b) % 2 = 0 then minorV n m xs [min a b, max a b] [min v b, max v b] else -(minorV n m xs [min a b, max a b] [min v b, max v b])
theorem potV_0 {n m : Nat} {xs : List Int} {a b v : Int} (h : v = b) : potV n m xs a b v = 0 := if_pos h
theorem potV_e {n m : Nat} {xs : List Int} {a b v : Int} (h : ¬ v = b) (h2 : (idxZ a b + idxZ v b) % 2 = 0) : potV n m xs a b v = minorV n m xs [min a b, max a b] [min v b, max v b] := by unfold potV; rw [if_neg h, if_pos h2]
theorem potV_o {n m : Nat} {xs : List Int} {a b v : Int} (h : ¬ v = b) (h2 : ¬ (idxZ a b + idxZ v b) % 2 = 0) : potV n m xs a b v = -(minorV n m xs [min a b, max a b] [min v b, max v b]) := by unfold potV; rw [if_neg h, if_neg h2]
/-- The forests, none if the nodes are one. -/
def forZ (n m : Nat) (xs : List Int) (a b : Int) : Int := if a = b then 0 else forT n m xs a b
theorem without_mm (n : Nat) (a b : Int) : without n [min a b, max a b] = without n [a, b] := by
  unfold without
  congr 1
  funext x
  congr 2
  simp only [List.mem_cons, List.not_mem_nil, or_false, eq_iff_iff]
  omega
theorem pot_3012 (M : Int → Int → Int) (hs : ∀ a b, M a b = M b a) (r0 : M 0 0 = -(M 0 1 + M 0 2)) (r1 : M 1 1 = -(M 0 1 + M 1 2)) (r2 : M 2 2 = -(M 0 2 + M 1 2)) : detF M [2] [2] + detF M [0] [0] - detF M [1] [1] = 2 * (-detF M [2] [0]) := by
  have h10 := hs 1 0
  have h20 := hs 2 0
  have h21 := hs 2 1
  clear hs
  simp only [detF, sumTo, sgn, nth, List.length, List.getD_cons_zero, h20, r0, r1, r2]
  generalize M 0 1 = x01 at *
  generalize M 0 2 = x02 at *
  generalize M 1 2 = x12 at *
  clear h10 h20 h21 r0 r1 r2
  grind

theorem pot_3021 (M : Int → Int → Int) (hs : ∀ a b, M a b = M b a) (r0 : M 0 0 = -(M 0 1 + M 0 2)) (r1 : M 1 1 = -(M 0 1 + M 1 2)) (r2 : M 2 2 = -(M 0 2 + M 1 2)) : detF M [1] [1] + detF M [0] [0] - detF M [2] [2] = 2 * (-detF M [1] [0]) := by
  have h10 := hs 1 0
  have h20 := hs 2 0
  have h21 := hs 2 1
  clear hs
  simp only [detF, sumTo, sgn, nth, List.length, List.getD_cons_zero, h10, r0, r1, r2]
  generalize M 0 1 = x01 at *
  generalize M 0 2 = x02 at *
  generalize M 1 2 = x12 at *
  clear h10 h20 h21 r0 r1 r2
  grind

theorem pot_3102 (M : Int → Int → Int) (hs : ∀ a b, M a b = M b a) (r0 : M 0 0 = -(M 0 1 + M 0 2)) (r1 : M 1 1 = -(M 0 1 + M 1 2)) (r2 : M 2 2 = -(M 0 2 + M 1 2)) : detF M [2] [2] + detF M [1] [1] - detF M [0] [0] = 2 * (-detF M [2] [1]) := by
  have h10 := hs 1 0
  have h20 := hs 2 0
  have h21 := hs 2 1
  clear hs
  simp only [detF, sumTo, sgn, nth, List.length, List.getD_cons_zero, h21, r0, r1, r2]
  generalize M 0 1 = x01 at *
  generalize M 0 2 = x02 at *
  generalize M 1 2 = x12 at *
  clear h10 h20 h21 r0 r1 r2
  grind

theorem pot_3120 (M : Int → Int → Int) (hs : ∀ a b, M a b = M b a) (r0 : M 0 0 = -(M 0 1 + M 0 2)) (r1 : M 1 1 = -(M 0 1 + M 1 2)) (r2 : M 2 2 = -(M 0 2 + M 1 2)) : detF M [0] [0] + detF M [1] [1] - detF M [2] [2] = 2 * (-detF M [0] [1]) := by
  have h10 := hs 1 0
  have h20 := hs 2 0
  have h21 := hs 2 1
  clear hs
  simp only [detF, sumTo, sgn, nth, List.length, List.getD_cons_zero, r0, r1, r2]
  generalize M 0 1 = x01 at *
  generalize M 0 2 = x02 at *
  generalize M 1 2 = x12 at *
  clear h10 h20 h21 r0 r1 r2
  grind

theorem pot_3201 (M : Int → Int → Int) (hs : ∀ a b, M a b = M b a) (r0 : M 0 0 = -(M 0 1 + M 0 2)) (r1 : M 1 1 = -(M 0 1 + M 1 2)) (r2 : M 2 2 = -(M 0 2 + M 1 2)) : detF M [1] [1] + detF M [2] [2] - detF M [0] [0] = 2 * (-detF M [1] [2]) := by
  have h10 := hs 1 0
  have h20 := hs 2 0
  have h21 := hs 2 1
  clear hs
  simp only [detF, sumTo, sgn, nth, List.length, List.getD_cons_zero, r0, r1, r2]
  generalize M 0 1 = x01 at *
  generalize M 0 2 = x02 at *
  generalize M 1 2 = x12 at *
  clear h10 h20 h21 r0 r1 r2
  grind

theorem pot_3210 (M : Int → Int → Int) (hs : ∀ a b, M a b = M b a) (r0 : M 0 0 = -(M 0 1 + M 0 2)) (r1 : M 1 1 = -(M 0 1 + M 1 2)) (r2 : M 2 2 = -(M 0 2 + M 1 2)) : detF M [0] [0] + detF M [2] [2] - detF M [1] [1] = 2 * (-detF M [0] [2]) := by
  have h10 := hs 1 0
  have h20 := hs 2 0
  have h21 := hs 2 1
  clear hs
  simp only [detF, sumTo, sgn, nth, List.length, List.getD_cons_zero, r0, r1, r2]
  generalize M 0 1 = x01 at *
  generalize M 0 2 = x02 at *
  generalize M 1 2 = x12 at *
  clear h10 h20 h21 r0 r1 r2
  grind

theorem pot_4012 (M : Int → Int → Int) (hs : ∀ a b, M a b = M b a) (r0 : M 0 0 = -(M 0 1 + M 0 2 + M 0 3)) (r1 : M 1 1 = -(M 0 1 + M 1 2 + M 1 3)) (r2 : M 2 2 = -(M 0 2 + M 1 2 + M 2 3)) (r3 : M 3 3 = -(M 0 3 + M 1 3 + M 2 3)) : detF M [2, 3] [2, 3] + detF M [0, 3] [0, 3] - detF M [1, 3] [1, 3] = 2 * (-detF M [2, 3] [0, 3]) := by
  have h10 := hs 1 0
  have h20 := hs 2 0
  have h21 := hs 2 1
  have h30 := hs 3 0
  have h31 := hs 3 1
  have h32 := hs 3 2
  clear hs
  simp only [detF, sumTo, sgn, nth, List.length, List.getD_cons_zero, List.getD_cons_succ, List.eraseIdx, h20, h30, h31, h32, r0, r1, r2, r3]
  generalize M 0 1 = x01 at *
  generalize M 0 2 = x02 at *
  generalize M 1 2 = x12 at *
  generalize M 0 3 = x03 at *
  generalize M 1 3 = x13 at *
  generalize M 2 3 = x23 at *
  clear h10 h20 h21 h30 h31 h32 r0 r1 r2 r3
  grind

theorem pot_4013 (M : Int → Int → Int) (hs : ∀ a b, M a b = M b a) (r0 : M 0 0 = -(M 0 1 + M 0 2 + M 0 3)) (r1 : M 1 1 = -(M 0 1 + M 1 2 + M 1 3)) (r2 : M 2 2 = -(M 0 2 + M 1 2 + M 2 3)) (r3 : M 3 3 = -(M 0 3 + M 1 3 + M 2 3)) : detF M [2, 3] [2, 3] + detF M [0, 2] [0, 2] - detF M [1, 2] [1, 2] = 2 * (detF M [2, 3] [0, 2]) := by
  have h10 := hs 1 0
  have h20 := hs 2 0
  have h21 := hs 2 1
  have h30 := hs 3 0
  have h31 := hs 3 1
  have h32 := hs 3 2
  clear hs
  simp only [detF, sumTo, sgn, nth, List.length, List.getD_cons_zero, List.getD_cons_succ, List.eraseIdx, h20, h21, h30, h32, r0, r1, r2, r3]
  generalize M 0 1 = x01 at *
  generalize M 0 2 = x02 at *
  generalize M 1 2 = x12 at *
  generalize M 0 3 = x03 at *
  generalize M 1 3 = x13 at *
  generalize M 2 3 = x23 at *
  clear h10 h20 h21 h30 h31 h32 r0 r1 r2 r3
  grind

theorem pot_4021 (M : Int → Int → Int) (hs : ∀ a b, M a b = M b a) (r0 : M 0 0 = -(M 0 1 + M 0 2 + M 0 3)) (r1 : M 1 1 = -(M 0 1 + M 1 2 + M 1 3)) (r2 : M 2 2 = -(M 0 2 + M 1 2 + M 2 3)) (r3 : M 3 3 = -(M 0 3 + M 1 3 + M 2 3)) : detF M [1, 3] [1, 3] + detF M [0, 3] [0, 3] - detF M [2, 3] [2, 3] = 2 * (-detF M [1, 3] [0, 3]) := by
  have h10 := hs 1 0
  have h20 := hs 2 0
  have h21 := hs 2 1
  have h30 := hs 3 0
  have h31 := hs 3 1
  have h32 := hs 3 2
  clear hs
  simp only [detF, sumTo, sgn, nth, List.length, List.getD_cons_zero, List.getD_cons_succ, List.eraseIdx, h10, h30, h31, h32, r0, r1, r2, r3]
  generalize M 0 1 = x01 at *
  generalize M 0 2 = x02 at *
  generalize M 1 2 = x12 at *
  generalize M 0 3 = x03 at *
  generalize M 1 3 = x13 at *
  generalize M 2 3 = x23 at *
  clear h10 h20 h21 h30 h31 h32 r0 r1 r2 r3
  grind

theorem pot_4023 (M : Int → Int → Int) (hs : ∀ a b, M a b = M b a) (r0 : M 0 0 = -(M 0 1 + M 0 2 + M 0 3)) (r1 : M 1 1 = -(M 0 1 + M 1 2 + M 1 3)) (r2 : M 2 2 = -(M 0 2 + M 1 2 + M 2 3)) (r3 : M 3 3 = -(M 0 3 + M 1 3 + M 2 3)) : detF M [1, 3] [1, 3] + detF M [0, 1] [0, 1] - detF M [1, 2] [1, 2] = 2 * (detF M [1, 3] [0, 1]) := by
  have h10 := hs 1 0
  have h20 := hs 2 0
  have h21 := hs 2 1
  have h30 := hs 3 0
  have h31 := hs 3 1
  have h32 := hs 3 2
  clear hs
  simp only [detF, sumTo, sgn, nth, List.length, List.getD_cons_zero, List.getD_cons_succ, List.eraseIdx, h10, h21, h30, h31, r0, r1, r2, r3]
  generalize M 0 1 = x01 at *
  generalize M 0 2 = x02 at *
  generalize M 1 2 = x12 at *
  generalize M 0 3 = x03 at *
  generalize M 1 3 = x13 at *
  generalize M 2 3 = x23 at *
  clear h10 h20 h21 h30 h31 h32 r0 r1 r2 r3
  grind

theorem pot_4031 (M : Int → Int → Int) (hs : ∀ a b, M a b = M b a) (r0 : M 0 0 = -(M 0 1 + M 0 2 + M 0 3)) (r1 : M 1 1 = -(M 0 1 + M 1 2 + M 1 3)) (r2 : M 2 2 = -(M 0 2 + M 1 2 + M 2 3)) (r3 : M 3 3 = -(M 0 3 + M 1 3 + M 2 3)) : detF M [1, 2] [1, 2] + detF M [0, 2] [0, 2] - detF M [2, 3] [2, 3] = 2 * (-detF M [1, 2] [0, 2]) := by
  have h10 := hs 1 0
  have h20 := hs 2 0
  have h21 := hs 2 1
  have h30 := hs 3 0
  have h31 := hs 3 1
  have h32 := hs 3 2
  clear hs
  simp only [detF, sumTo, sgn, nth, List.length, List.getD_cons_zero, List.getD_cons_succ, List.eraseIdx, h10, h20, h21, h32, r0, r1, r2, r3]
  generalize M 0 1 = x01 at *
  generalize M 0 2 = x02 at *
  generalize M 1 2 = x12 at *
  generalize M 0 3 = x03 at *
  generalize M 1 3 = x13 at *
  generalize M 2 3 = x23 at *
  clear h10 h20 h21 h30 h31 h32 r0 r1 r2 r3
  grind

theorem pot_4032 (M : Int → Int → Int) (hs : ∀ a b, M a b = M b a) (r0 : M 0 0 = -(M 0 1 + M 0 2 + M 0 3)) (r1 : M 1 1 = -(M 0 1 + M 1 2 + M 1 3)) (r2 : M 2 2 = -(M 0 2 + M 1 2 + M 2 3)) (r3 : M 3 3 = -(M 0 3 + M 1 3 + M 2 3)) : detF M [1, 2] [1, 2] + detF M [0, 1] [0, 1] - detF M [1, 3] [1, 3] = 2 * (detF M [1, 2] [0, 1]) := by
  have h10 := hs 1 0
  have h20 := hs 2 0
  have h21 := hs 2 1
  have h30 := hs 3 0
  have h31 := hs 3 1
  have h32 := hs 3 2
  clear hs
  simp only [detF, sumTo, sgn, nth, List.length, List.getD_cons_zero, List.getD_cons_succ, List.eraseIdx, h10, h20, h21, h31, r0, r1, r2, r3]
  generalize M 0 1 = x01 at *
  generalize M 0 2 = x02 at *
  generalize M 1 2 = x12 at *
  generalize M 0 3 = x03 at *
  generalize M 1 3 = x13 at *
  generalize M 2 3 = x23 at *
  clear h10 h20 h21 h30 h31 h32 r0 r1 r2 r3
  grind

theorem pot_4102 (M : Int → Int → Int) (hs : ∀ a b, M a b = M b a) (r0 : M 0 0 = -(M 0 1 + M 0 2 + M 0 3)) (r1 : M 1 1 = -(M 0 1 + M 1 2 + M 1 3)) (r2 : M 2 2 = -(M 0 2 + M 1 2 + M 2 3)) (r3 : M 3 3 = -(M 0 3 + M 1 3 + M 2 3)) : detF M [2, 3] [2, 3] + detF M [1, 3] [1, 3] - detF M [0, 3] [0, 3] = 2 * (-detF M [2, 3] [1, 3]) := by
  have h10 := hs 1 0
  have h20 := hs 2 0
  have h21 := hs 2 1
  have h30 := hs 3 0
  have h31 := hs 3 1
  have h32 := hs 3 2
  clear hs
  simp only [detF, sumTo, sgn, nth, List.length, List.getD_cons_zero, List.getD_cons_succ, List.eraseIdx, h21, h30, h31, h32, r0, r1, r2, r3]
  generalize M 0 1 = x01 at *
  generalize M 0 2 = x02 at *
  generalize M 1 2 = x12 at *
  generalize M 0 3 = x03 at *
  generalize M 1 3 = x13 at *
  generalize M 2 3 = x23 at *
  clear h10 h20 h21 h30 h31 h32 r0 r1 r2 r3
  grind

theorem pot_4103 (M : Int → Int → Int) (hs : ∀ a b, M a b = M b a) (r0 : M 0 0 = -(M 0 1 + M 0 2 + M 0 3)) (r1 : M 1 1 = -(M 0 1 + M 1 2 + M 1 3)) (r2 : M 2 2 = -(M 0 2 + M 1 2 + M 2 3)) (r3 : M 3 3 = -(M 0 3 + M 1 3 + M 2 3)) : detF M [2, 3] [2, 3] + detF M [1, 2] [1, 2] - detF M [0, 2] [0, 2] = 2 * (detF M [2, 3] [1, 2]) := by
  have h10 := hs 1 0
  have h20 := hs 2 0
  have h21 := hs 2 1
  have h30 := hs 3 0
  have h31 := hs 3 1
  have h32 := hs 3 2
  clear hs
  simp only [detF, sumTo, sgn, nth, List.length, List.getD_cons_zero, List.getD_cons_succ, List.eraseIdx, h20, h21, h31, h32, r0, r1, r2, r3]
  generalize M 0 1 = x01 at *
  generalize M 0 2 = x02 at *
  generalize M 1 2 = x12 at *
  generalize M 0 3 = x03 at *
  generalize M 1 3 = x13 at *
  generalize M 2 3 = x23 at *
  clear h10 h20 h21 h30 h31 h32 r0 r1 r2 r3
  grind

theorem pot_4120 (M : Int → Int → Int) (hs : ∀ a b, M a b = M b a) (r0 : M 0 0 = -(M 0 1 + M 0 2 + M 0 3)) (r1 : M 1 1 = -(M 0 1 + M 1 2 + M 1 3)) (r2 : M 2 2 = -(M 0 2 + M 1 2 + M 2 3)) (r3 : M 3 3 = -(M 0 3 + M 1 3 + M 2 3)) : detF M [0, 3] [0, 3] + detF M [1, 3] [1, 3] - detF M [2, 3] [2, 3] = 2 * (-detF M [0, 3] [1, 3]) := by
  have h10 := hs 1 0
  have h20 := hs 2 0
  have h21 := hs 2 1
  have h30 := hs 3 0
  have h31 := hs 3 1
  have h32 := hs 3 2
  clear hs
  simp only [detF, sumTo, sgn, nth, List.length, List.getD_cons_zero, List.getD_cons_succ, List.eraseIdx, h30, h31, h32, r0, r1, r2, r3]
  generalize M 0 1 = x01 at *
  generalize M 0 2 = x02 at *
  generalize M 1 2 = x12 at *
  generalize M 0 3 = x03 at *
  generalize M 1 3 = x13 at *
  generalize M 2 3 = x23 at *
  clear h10 h20 h21 h30 h31 h32 r0 r1 r2 r3
  grind

theorem pot_4123 (M : Int → Int → Int) (hs : ∀ a b, M a b = M b a) (r0 : M 0 0 = -(M 0 1 + M 0 2 + M 0 3)) (r1 : M 1 1 = -(M 0 1 + M 1 2 + M 1 3)) (r2 : M 2 2 = -(M 0 2 + M 1 2 + M 2 3)) (r3 : M 3 3 = -(M 0 3 + M 1 3 + M 2 3)) : detF M [0, 3] [0, 3] + detF M [0, 1] [0, 1] - detF M [0, 2] [0, 2] = 2 * (-detF M [0, 3] [0, 1]) := by
  have h10 := hs 1 0
  have h20 := hs 2 0
  have h21 := hs 2 1
  have h30 := hs 3 0
  have h31 := hs 3 1
  have h32 := hs 3 2
  clear hs
  simp only [detF, sumTo, sgn, nth, List.length, List.getD_cons_zero, List.getD_cons_succ, List.eraseIdx, h10, h20, h30, h31, r0, r1, r2, r3]
  generalize M 0 1 = x01 at *
  generalize M 0 2 = x02 at *
  generalize M 1 2 = x12 at *
  generalize M 0 3 = x03 at *
  generalize M 1 3 = x13 at *
  generalize M 2 3 = x23 at *
  clear h10 h20 h21 h30 h31 h32 r0 r1 r2 r3
  grind

theorem pot_4130 (M : Int → Int → Int) (hs : ∀ a b, M a b = M b a) (r0 : M 0 0 = -(M 0 1 + M 0 2 + M 0 3)) (r1 : M 1 1 = -(M 0 1 + M 1 2 + M 1 3)) (r2 : M 2 2 = -(M 0 2 + M 1 2 + M 2 3)) (r3 : M 3 3 = -(M 0 3 + M 1 3 + M 2 3)) : detF M [0, 2] [0, 2] + detF M [1, 2] [1, 2] - detF M [2, 3] [2, 3] = 2 * (-detF M [0, 2] [1, 2]) := by
  have h10 := hs 1 0
  have h20 := hs 2 0
  have h21 := hs 2 1
  have h30 := hs 3 0
  have h31 := hs 3 1
  have h32 := hs 3 2
  clear hs
  simp only [detF, sumTo, sgn, nth, List.length, List.getD_cons_zero, List.getD_cons_succ, List.eraseIdx, h20, h21, h32, r0, r1, r2, r3]
  generalize M 0 1 = x01 at *
  generalize M 0 2 = x02 at *
  generalize M 1 2 = x12 at *
  generalize M 0 3 = x03 at *
  generalize M 1 3 = x13 at *
  generalize M 2 3 = x23 at *
  clear h10 h20 h21 h30 h31 h32 r0 r1 r2 r3
  grind

theorem pot_4132 (M : Int → Int → Int) (hs : ∀ a b, M a b = M b a) (r0 : M 0 0 = -(M 0 1 + M 0 2 + M 0 3)) (r1 : M 1 1 = -(M 0 1 + M 1 2 + M 1 3)) (r2 : M 2 2 = -(M 0 2 + M 1 2 + M 2 3)) (r3 : M 3 3 = -(M 0 3 + M 1 3 + M 2 3)) : detF M [0, 2] [0, 2] + detF M [0, 1] [0, 1] - detF M [0, 3] [0, 3] = 2 * (-detF M [0, 2] [0, 1]) := by
  have h10 := hs 1 0
  have h20 := hs 2 0
  have h21 := hs 2 1
  have h30 := hs 3 0
  have h31 := hs 3 1
  have h32 := hs 3 2
  clear hs
  simp only [detF, sumTo, sgn, nth, List.length, List.getD_cons_zero, List.getD_cons_succ, List.eraseIdx, h10, h20, h21, h30, r0, r1, r2, r3]
  generalize M 0 1 = x01 at *
  generalize M 0 2 = x02 at *
  generalize M 1 2 = x12 at *
  generalize M 0 3 = x03 at *
  generalize M 1 3 = x13 at *
  generalize M 2 3 = x23 at *
  clear h10 h20 h21 h30 h31 h32 r0 r1 r2 r3
  grind

theorem pot_4201 (M : Int → Int → Int) (hs : ∀ a b, M a b = M b a) (r0 : M 0 0 = -(M 0 1 + M 0 2 + M 0 3)) (r1 : M 1 1 = -(M 0 1 + M 1 2 + M 1 3)) (r2 : M 2 2 = -(M 0 2 + M 1 2 + M 2 3)) (r3 : M 3 3 = -(M 0 3 + M 1 3 + M 2 3)) : detF M [1, 3] [1, 3] + detF M [2, 3] [2, 3] - detF M [0, 3] [0, 3] = 2 * (-detF M [1, 3] [2, 3]) := by
  have h10 := hs 1 0
  have h20 := hs 2 0
  have h21 := hs 2 1
  have h30 := hs 3 0
  have h31 := hs 3 1
  have h32 := hs 3 2
  clear hs
  simp only [detF, sumTo, sgn, nth, List.length, List.getD_cons_zero, List.getD_cons_succ, List.eraseIdx, h30, h31, h32, r0, r1, r2, r3]
  generalize M 0 1 = x01 at *
  generalize M 0 2 = x02 at *
  generalize M 1 2 = x12 at *
  generalize M 0 3 = x03 at *
  generalize M 1 3 = x13 at *
  generalize M 2 3 = x23 at *
  clear h10 h20 h21 h30 h31 h32 r0 r1 r2 r3
  grind

theorem pot_4203 (M : Int → Int → Int) (hs : ∀ a b, M a b = M b a) (r0 : M 0 0 = -(M 0 1 + M 0 2 + M 0 3)) (r1 : M 1 1 = -(M 0 1 + M 1 2 + M 1 3)) (r2 : M 2 2 = -(M 0 2 + M 1 2 + M 2 3)) (r3 : M 3 3 = -(M 0 3 + M 1 3 + M 2 3)) : detF M [1, 3] [1, 3] + detF M [1, 2] [1, 2] - detF M [0, 1] [0, 1] = 2 * (-detF M [1, 3] [1, 2]) := by
  have h10 := hs 1 0
  have h20 := hs 2 0
  have h21 := hs 2 1
  have h30 := hs 3 0
  have h31 := hs 3 1
  have h32 := hs 3 2
  clear hs
  simp only [detF, sumTo, sgn, nth, List.length, List.getD_cons_zero, List.getD_cons_succ, List.eraseIdx, h10, h21, h31, h32, r0, r1, r2, r3]
  generalize M 0 1 = x01 at *
  generalize M 0 2 = x02 at *
  generalize M 1 2 = x12 at *
  generalize M 0 3 = x03 at *
  generalize M 1 3 = x13 at *
  generalize M 2 3 = x23 at *
  clear h10 h20 h21 h30 h31 h32 r0 r1 r2 r3
  grind

theorem pot_4210 (M : Int → Int → Int) (hs : ∀ a b, M a b = M b a) (r0 : M 0 0 = -(M 0 1 + M 0 2 + M 0 3)) (r1 : M 1 1 = -(M 0 1 + M 1 2 + M 1 3)) (r2 : M 2 2 = -(M 0 2 + M 1 2 + M 2 3)) (r3 : M 3 3 = -(M 0 3 + M 1 3 + M 2 3)) : detF M [0, 3] [0, 3] + detF M [2, 3] [2, 3] - detF M [1, 3] [1, 3] = 2 * (-detF M [0, 3] [2, 3]) := by
  have h10 := hs 1 0
  have h20 := hs 2 0
  have h21 := hs 2 1
  have h30 := hs 3 0
  have h31 := hs 3 1
  have h32 := hs 3 2
  clear hs
  simp only [detF, sumTo, sgn, nth, List.length, List.getD_cons_zero, List.getD_cons_succ, List.eraseIdx, h30, h31, h32, r0, r1, r2, r3]
  generalize M 0 1 = x01 at *
  generalize M 0 2 = x02 at *
  generalize M 1 2 = x12 at *
  generalize M 0 3 = x03 at *
  generalize M 1 3 = x13 at *
  generalize M 2 3 = x23 at *
  clear h10 h20 h21 h30 h31 h32 r0 r1 r2 r3
  grind

theorem pot_4213 (M : Int → Int → Int) (hs : ∀ a b, M a b = M b a) (r0 : M 0 0 = -(M 0 1 + M 0 2 + M 0 3)) (r1 : M 1 1 = -(M 0 1 + M 1 2 + M 1 3)) (r2 : M 2 2 = -(M 0 2 + M 1 2 + M 2 3)) (r3 : M 3 3 = -(M 0 3 + M 1 3 + M 2 3)) : detF M [0, 3] [0, 3] + detF M [0, 2] [0, 2] - detF M [0, 1] [0, 1] = 2 * (-detF M [0, 3] [0, 2]) := by
  have h10 := hs 1 0
  have h20 := hs 2 0
  have h21 := hs 2 1
  have h30 := hs 3 0
  have h31 := hs 3 1
  have h32 := hs 3 2
  clear hs
  simp only [detF, sumTo, sgn, nth, List.length, List.getD_cons_zero, List.getD_cons_succ, List.eraseIdx, h10, h20, h30, h32, r0, r1, r2, r3]
  generalize M 0 1 = x01 at *
  generalize M 0 2 = x02 at *
  generalize M 1 2 = x12 at *
  generalize M 0 3 = x03 at *
  generalize M 1 3 = x13 at *
  generalize M 2 3 = x23 at *
  clear h10 h20 h21 h30 h31 h32 r0 r1 r2 r3
  grind

theorem pot_4230 (M : Int → Int → Int) (hs : ∀ a b, M a b = M b a) (r0 : M 0 0 = -(M 0 1 + M 0 2 + M 0 3)) (r1 : M 1 1 = -(M 0 1 + M 1 2 + M 1 3)) (r2 : M 2 2 = -(M 0 2 + M 1 2 + M 2 3)) (r3 : M 3 3 = -(M 0 3 + M 1 3 + M 2 3)) : detF M [0, 1] [0, 1] + detF M [1, 2] [1, 2] - detF M [1, 3] [1, 3] = 2 * (detF M [0, 1] [1, 2]) := by
  have h10 := hs 1 0
  have h20 := hs 2 0
  have h21 := hs 2 1
  have h30 := hs 3 0
  have h31 := hs 3 1
  have h32 := hs 3 2
  clear hs
  simp only [detF, sumTo, sgn, nth, List.length, List.getD_cons_zero, List.getD_cons_succ, List.eraseIdx, h10, h21, h31, r0, r1, r2, r3]
  generalize M 0 1 = x01 at *
  generalize M 0 2 = x02 at *
  generalize M 1 2 = x12 at *
  generalize M 0 3 = x03 at *
  generalize M 1 3 = x13 at *
  generalize M 2 3 = x23 at *
  clear h10 h20 h21 h30 h31 h32 r0 r1 r2 r3
  grind

theorem pot_4231 (M : Int → Int → Int) (hs : ∀ a b, M a b = M b a) (r0 : M 0 0 = -(M 0 1 + M 0 2 + M 0 3)) (r1 : M 1 1 = -(M 0 1 + M 1 2 + M 1 3)) (r2 : M 2 2 = -(M 0 2 + M 1 2 + M 2 3)) (r3 : M 3 3 = -(M 0 3 + M 1 3 + M 2 3)) : detF M [0, 1] [0, 1] + detF M [0, 2] [0, 2] - detF M [0, 3] [0, 3] = 2 * (-detF M [0, 1] [0, 2]) := by
  have h10 := hs 1 0
  have h20 := hs 2 0
  have h21 := hs 2 1
  have h30 := hs 3 0
  have h31 := hs 3 1
  have h32 := hs 3 2
  clear hs
  simp only [detF, sumTo, sgn, nth, List.length, List.getD_cons_zero, List.getD_cons_succ, List.eraseIdx, h10, h20, h30, r0, r1, r2, r3]
  generalize M 0 1 = x01 at *
  generalize M 0 2 = x02 at *
  generalize M 1 2 = x12 at *
  generalize M 0 3 = x03 at *
  generalize M 1 3 = x13 at *
  generalize M 2 3 = x23 at *
  clear h10 h20 h21 h30 h31 h32 r0 r1 r2 r3
  grind

theorem pot_4301 (M : Int → Int → Int) (hs : ∀ a b, M a b = M b a) (r0 : M 0 0 = -(M 0 1 + M 0 2 + M 0 3)) (r1 : M 1 1 = -(M 0 1 + M 1 2 + M 1 3)) (r2 : M 2 2 = -(M 0 2 + M 1 2 + M 2 3)) (r3 : M 3 3 = -(M 0 3 + M 1 3 + M 2 3)) : detF M [1, 2] [1, 2] + detF M [2, 3] [2, 3] - detF M [0, 2] [0, 2] = 2 * (detF M [1, 2] [2, 3]) := by
  have h10 := hs 1 0
  have h20 := hs 2 0
  have h21 := hs 2 1
  have h30 := hs 3 0
  have h31 := hs 3 1
  have h32 := hs 3 2
  clear hs
  simp only [detF, sumTo, sgn, nth, List.length, List.getD_cons_zero, List.getD_cons_succ, List.eraseIdx, h20, h21, h32, r0, r1, r2, r3]
  generalize M 0 1 = x01 at *
  generalize M 0 2 = x02 at *
  generalize M 1 2 = x12 at *
  generalize M 0 3 = x03 at *
  generalize M 1 3 = x13 at *
  generalize M 2 3 = x23 at *
  clear h10 h20 h21 h30 h31 h32 r0 r1 r2 r3
  grind

theorem pot_4302 (M : Int → Int → Int) (hs : ∀ a b, M a b = M b a) (r0 : M 0 0 = -(M 0 1 + M 0 2 + M 0 3)) (r1 : M 1 1 = -(M 0 1 + M 1 2 + M 1 3)) (r2 : M 2 2 = -(M 0 2 + M 1 2 + M 2 3)) (r3 : M 3 3 = -(M 0 3 + M 1 3 + M 2 3)) : detF M [1, 2] [1, 2] + detF M [1, 3] [1, 3] - detF M [0, 1] [0, 1] = 2 * (-detF M [1, 2] [1, 3]) := by
  have h10 := hs 1 0
  have h20 := hs 2 0
  have h21 := hs 2 1
  have h30 := hs 3 0
  have h31 := hs 3 1
  have h32 := hs 3 2
  clear hs
  simp only [detF, sumTo, sgn, nth, List.length, List.getD_cons_zero, List.getD_cons_succ, List.eraseIdx, h10, h21, h31, r0, r1, r2, r3]
  generalize M 0 1 = x01 at *
  generalize M 0 2 = x02 at *
  generalize M 1 2 = x12 at *
  generalize M 0 3 = x03 at *
  generalize M 1 3 = x13 at *
  generalize M 2 3 = x23 at *
  clear h10 h20 h21 h30 h31 h32 r0 r1 r2 r3
  grind

theorem pot_4310 (M : Int → Int → Int) (hs : ∀ a b, M a b = M b a) (r0 : M 0 0 = -(M 0 1 + M 0 2 + M 0 3)) (r1 : M 1 1 = -(M 0 1 + M 1 2 + M 1 3)) (r2 : M 2 2 = -(M 0 2 + M 1 2 + M 2 3)) (r3 : M 3 3 = -(M 0 3 + M 1 3 + M 2 3)) : detF M [0, 2] [0, 2] + detF M [2, 3] [2, 3] - detF M [1, 2] [1, 2] = 2 * (detF M [0, 2] [2, 3]) := by
  have h10 := hs 1 0
  have h20 := hs 2 0
  have h21 := hs 2 1
  have h30 := hs 3 0
  have h31 := hs 3 1
  have h32 := hs 3 2
  clear hs
  simp only [detF, sumTo, sgn, nth, List.length, List.getD_cons_zero, List.getD_cons_succ, List.eraseIdx, h20, h21, h32, r0, r1, r2, r3]
  generalize M 0 1 = x01 at *
  generalize M 0 2 = x02 at *
  generalize M 1 2 = x12 at *
  generalize M 0 3 = x03 at *
  generalize M 1 3 = x13 at *
  generalize M 2 3 = x23 at *
  clear h10 h20 h21 h30 h31 h32 r0 r1 r2 r3
  grind

theorem pot_4312 (M : Int → Int → Int) (hs : ∀ a b, M a b = M b a) (r0 : M 0 0 = -(M 0 1 + M 0 2 + M 0 3)) (r1 : M 1 1 = -(M 0 1 + M 1 2 + M 1 3)) (r2 : M 2 2 = -(M 0 2 + M 1 2 + M 2 3)) (r3 : M 3 3 = -(M 0 3 + M 1 3 + M 2 3)) : detF M [0, 2] [0, 2] + detF M [0, 3] [0, 3] - detF M [0, 1] [0, 1] = 2 * (-detF M [0, 2] [0, 3]) := by
  have h10 := hs 1 0
  have h20 := hs 2 0
  have h21 := hs 2 1
  have h30 := hs 3 0
  have h31 := hs 3 1
  have h32 := hs 3 2
  clear hs
  simp only [detF, sumTo, sgn, nth, List.length, List.getD_cons_zero, List.getD_cons_succ, List.eraseIdx, h10, h20, h30, r0, r1, r2, r3]
  generalize M 0 1 = x01 at *
  generalize M 0 2 = x02 at *
  generalize M 1 2 = x12 at *
  generalize M 0 3 = x03 at *
  generalize M 1 3 = x13 at *
  generalize M 2 3 = x23 at *
  clear h10 h20 h21 h30 h31 h32 r0 r1 r2 r3
  grind

theorem pot_4320 (M : Int → Int → Int) (hs : ∀ a b, M a b = M b a) (r0 : M 0 0 = -(M 0 1 + M 0 2 + M 0 3)) (r1 : M 1 1 = -(M 0 1 + M 1 2 + M 1 3)) (r2 : M 2 2 = -(M 0 2 + M 1 2 + M 2 3)) (r3 : M 3 3 = -(M 0 3 + M 1 3 + M 2 3)) : detF M [0, 1] [0, 1] + detF M [1, 3] [1, 3] - detF M [1, 2] [1, 2] = 2 * (detF M [0, 1] [1, 3]) := by
  have h10 := hs 1 0
  have h20 := hs 2 0
  have h21 := hs 2 1
  have h30 := hs 3 0
  have h31 := hs 3 1
  have h32 := hs 3 2
  clear hs
  simp only [detF, sumTo, sgn, nth, List.length, List.getD_cons_zero, List.getD_cons_succ, List.eraseIdx, h10, h21, h31, r0, r1, r2, r3]
  generalize M 0 1 = x01 at *
  generalize M 0 2 = x02 at *
  generalize M 1 2 = x12 at *
  generalize M 0 3 = x03 at *
  generalize M 1 3 = x13 at *
  generalize M 2 3 = x23 at *
  clear h10 h20 h21 h30 h31 h32 r0 r1 r2 r3
  grind

theorem pot_4321 (M : Int → Int → Int) (hs : ∀ a b, M a b = M b a) (r0 : M 0 0 = -(M 0 1 + M 0 2 + M 0 3)) (r1 : M 1 1 = -(M 0 1 + M 1 2 + M 1 3)) (r2 : M 2 2 = -(M 0 2 + M 1 2 + M 2 3)) (r3 : M 3 3 = -(M 0 3 + M 1 3 + M 2 3)) : detF M [0, 1] [0, 1] + detF M [0, 3] [0, 3] - detF M [0, 2] [0, 2] = 2 * (-detF M [0, 1] [0, 3]) := by
  have h10 := hs 1 0
  have h20 := hs 2 0
  have h21 := hs 2 1
  have h30 := hs 3 0
  have h31 := hs 3 1
  have h32 := hs 3 2
  clear hs
  simp only [detF, sumTo, sgn, nth, List.length, List.getD_cons_zero, List.getD_cons_succ, List.eraseIdx, h10, h20, h30, r0, r1, r2, r3]
  generalize M 0 1 = x01 at *
  generalize M 0 2 = x02 at *
  generalize M 1 2 = x12 at *
  generalize M 0 3 = x03 at *
  generalize M 1 3 = x13 at *
  generalize M 2 3 = x23 at *
  clear h10 h20 h21 h30 h31 h32 r0 r1 r2 r3
  grind

theorem pot_5012 (M : Int → Int → Int) (hs : ∀ a b, M a b = M b a) (r0 : M 0 0 = -(M 0 1 + M 0 2 + M 0 3 + M 0 4)) (r1 : M 1 1 = -(M 0 1 + M 1 2 + M 1 3 + M 1 4)) (r2 : M 2 2 = -(M 0 2 + M 1 2 + M 2 3 + M 2 4)) (r3 : M 3 3 = -(M 0 3 + M 1 3 + M 2 3 + M 3 4)) (r4 : M 4 4 = -(M 0 4 + M 1 4 + M 2 4 + M 3 4)) : detF M [2, 3, 4] [2, 3, 4] + detF M [0, 3, 4] [0, 3, 4] - detF M [1, 3, 4] [1, 3, 4] = 2 * (-detF M [2, 3, 4] [0, 3, 4]) := by
  have h10 := hs 1 0
  have h20 := hs 2 0
  have h21 := hs 2 1
  have h30 := hs 3 0
  have h31 := hs 3 1
  have h32 := hs 3 2
  have h40 := hs 4 0
  have h41 := hs 4 1
  have h42 := hs 4 2
  have h43 := hs 4 3
  clear hs
  simp only [detF, sumTo, sgn, nth, List.length, List.getD_cons_zero, List.getD_cons_succ, List.eraseIdx, h20, h30, h31, h32, h40, h41, h42, h43, r0, r1, r2, r3, r4]
  generalize M 0 1 = x01 at *
  generalize M 0 2 = x02 at *
  generalize M 1 2 = x12 at *
  generalize M 0 3 = x03 at *
  generalize M 1 3 = x13 at *
  generalize M 2 3 = x23 at *
  generalize M 0 4 = x04 at *
  generalize M 1 4 = x14 at *
  generalize M 2 4 = x24 at *
  generalize M 3 4 = x34 at *
  clear h10 h20 h21 h30 h31 h32 h40 h41 h42 h43 r0 r1 r2 r3 r4
  grind

theorem pot_5013 (M : Int → Int → Int) (hs : ∀ a b, M a b = M b a) (r0 : M 0 0 = -(M 0 1 + M 0 2 + M 0 3 + M 0 4)) (r1 : M 1 1 = -(M 0 1 + M 1 2 + M 1 3 + M 1 4)) (r2 : M 2 2 = -(M 0 2 + M 1 2 + M 2 3 + M 2 4)) (r3 : M 3 3 = -(M 0 3 + M 1 3 + M 2 3 + M 3 4)) (r4 : M 4 4 = -(M 0 4 + M 1 4 + M 2 4 + M 3 4)) : detF M [2, 3, 4] [2, 3, 4] + detF M [0, 2, 4] [0, 2, 4] - detF M [1, 2, 4] [1, 2, 4] = 2 * (detF M [2, 3, 4] [0, 2, 4]) := by
  have h10 := hs 1 0
  have h20 := hs 2 0
  have h21 := hs 2 1
  have h30 := hs 3 0
  have h31 := hs 3 1
  have h32 := hs 3 2
  have h40 := hs 4 0
  have h41 := hs 4 1
  have h42 := hs 4 2
  have h43 := hs 4 3
  clear hs
  simp only [detF, sumTo, sgn, nth, List.length, List.getD_cons_zero, List.getD_cons_succ, List.eraseIdx, h20, h21, h30, h32, h40, h41, h42, h43, r0, r1, r2, r3, r4]
  generalize M 0 1 = x01 at *
  generalize M 0 2 = x02 at *
  generalize M 1 2 = x12 at *
  generalize M 0 3 = x03 at *
  generalize M 1 3 = x13 at *
  generalize M 2 3 = x23 at *
  generalize M 0 4 = x04 at *
  generalize M 1 4 = x14 at *
  generalize M 2 4 = x24 at *
  generalize M 3 4 = x34 at *
  clear h10 h20 h21 h30 h31 h32 h40 h41 h42 h43 r0 r1 r2 r3 r4
  grind

theorem pot_5014 (M : Int → Int → Int) (hs : ∀ a b, M a b = M b a) (r0 : M 0 0 = -(M 0 1 + M 0 2 + M 0 3 + M 0 4)) (r1 : M 1 1 = -(M 0 1 + M 1 2 + M 1 3 + M 1 4)) (r2 : M 2 2 = -(M 0 2 + M 1 2 + M 2 3 + M 2 4)) (r3 : M 3 3 = -(M 0 3 + M 1 3 + M 2 3 + M 3 4)) (r4 : M 4 4 = -(M 0 4 + M 1 4 + M 2 4 + M 3 4)) : detF M [2, 3, 4] [2, 3, 4] + detF M [0, 2, 3] [0, 2, 3] - detF M [1, 2, 3] [1, 2, 3] = 2 * (-detF M [2, 3, 4] [0, 2, 3]) := by
  have h10 := hs 1 0
  have h20 := hs 2 0
  have h21 := hs 2 1
  have h30 := hs 3 0
  have h31 := hs 3 1
  have h32 := hs 3 2
  have h40 := hs 4 0
  have h41 := hs 4 1
  have h42 := hs 4 2
  have h43 := hs 4 3
  clear hs
  simp only [detF, sumTo, sgn, nth, List.length, List.getD_cons_zero, List.getD_cons_succ, List.eraseIdx, h20, h21, h30, h31, h32, h40, h42, h43, r0, r1, r2, r3, r4]
  generalize M 0 1 = x01 at *
  generalize M 0 2 = x02 at *
  generalize M 1 2 = x12 at *
  generalize M 0 3 = x03 at *
  generalize M 1 3 = x13 at *
  generalize M 2 3 = x23 at *
  generalize M 0 4 = x04 at *
  generalize M 1 4 = x14 at *
  generalize M 2 4 = x24 at *
  generalize M 3 4 = x34 at *
  clear h10 h20 h21 h30 h31 h32 h40 h41 h42 h43 r0 r1 r2 r3 r4
  grind

theorem pot_5021 (M : Int → Int → Int) (hs : ∀ a b, M a b = M b a) (r0 : M 0 0 = -(M 0 1 + M 0 2 + M 0 3 + M 0 4)) (r1 : M 1 1 = -(M 0 1 + M 1 2 + M 1 3 + M 1 4)) (r2 : M 2 2 = -(M 0 2 + M 1 2 + M 2 3 + M 2 4)) (r3 : M 3 3 = -(M 0 3 + M 1 3 + M 2 3 + M 3 4)) (r4 : M 4 4 = -(M 0 4 + M 1 4 + M 2 4 + M 3 4)) : detF M [1, 3, 4] [1, 3, 4] + detF M [0, 3, 4] [0, 3, 4] - detF M [2, 3, 4] [2, 3, 4] = 2 * (-detF M [1, 3, 4] [0, 3, 4]) := by
  have h10 := hs 1 0
  have h20 := hs 2 0
  have h21 := hs 2 1
  have h30 := hs 3 0
  have h31 := hs 3 1
  have h32 := hs 3 2
  have h40 := hs 4 0
  have h41 := hs 4 1
  have h42 := hs 4 2
  have h43 := hs 4 3
  clear hs
  simp only [detF, sumTo, sgn, nth, List.length, List.getD_cons_zero, List.getD_cons_succ, List.eraseIdx, h10, h30, h31, h32, h40, h41, h42, h43, r0, r1, r2, r3, r4]
  generalize M 0 1 = x01 at *
  generalize M 0 2 = x02 at *
  generalize M 1 2 = x12 at *
  generalize M 0 3 = x03 at *
  generalize M 1 3 = x13 at *
  generalize M 2 3 = x23 at *
  generalize M 0 4 = x04 at *
  generalize M 1 4 = x14 at *
  generalize M 2 4 = x24 at *
  generalize M 3 4 = x34 at *
  clear h10 h20 h21 h30 h31 h32 h40 h41 h42 h43 r0 r1 r2 r3 r4
  grind

theorem pot_5023 (M : Int → Int → Int) (hs : ∀ a b, M a b = M b a) (r0 : M 0 0 = -(M 0 1 + M 0 2 + M 0 3 + M 0 4)) (r1 : M 1 1 = -(M 0 1 + M 1 2 + M 1 3 + M 1 4)) (r2 : M 2 2 = -(M 0 2 + M 1 2 + M 2 3 + M 2 4)) (r3 : M 3 3 = -(M 0 3 + M 1 3 + M 2 3 + M 3 4)) (r4 : M 4 4 = -(M 0 4 + M 1 4 + M 2 4 + M 3 4)) : detF M [1, 3, 4] [1, 3, 4] + detF M [0, 1, 4] [0, 1, 4] - detF M [1, 2, 4] [1, 2, 4] = 2 * (detF M [1, 3, 4] [0, 1, 4]) := by
  have h10 := hs 1 0
  have h20 := hs 2 0
  have h21 := hs 2 1
  have h30 := hs 3 0
  have h31 := hs 3 1
  have h32 := hs 3 2
  have h40 := hs 4 0
  have h41 := hs 4 1
  have h42 := hs 4 2
  have h43 := hs 4 3
  clear hs
  simp only [detF, sumTo, sgn, nth, List.length, List.getD_cons_zero, List.getD_cons_succ, List.eraseIdx, h10, h21, h30, h31, h40, h41, h42, h43, r0, r1, r2, r3, r4]
  generalize M 0 1 = x01 at *
  generalize M 0 2 = x02 at *
  generalize M 1 2 = x12 at *
  generalize M 0 3 = x03 at *
  generalize M 1 3 = x13 at *
  generalize M 2 3 = x23 at *
  generalize M 0 4 = x04 at *
  generalize M 1 4 = x14 at *
  generalize M 2 4 = x24 at *
  generalize M 3 4 = x34 at *
  clear h10 h20 h21 h30 h31 h32 h40 h41 h42 h43 r0 r1 r2 r3 r4
  grind

theorem pot_5024 (M : Int → Int → Int) (hs : ∀ a b, M a b = M b a) (r0 : M 0 0 = -(M 0 1 + M 0 2 + M 0 3 + M 0 4)) (r1 : M 1 1 = -(M 0 1 + M 1 2 + M 1 3 + M 1 4)) (r2 : M 2 2 = -(M 0 2 + M 1 2 + M 2 3 + M 2 4)) (r3 : M 3 3 = -(M 0 3 + M 1 3 + M 2 3 + M 3 4)) (r4 : M 4 4 = -(M 0 4 + M 1 4 + M 2 4 + M 3 4)) : detF M [1, 3, 4] [1, 3, 4] + detF M [0, 1, 3] [0, 1, 3] - detF M [1, 2, 3] [1, 2, 3] = 2 * (-detF M [1, 3, 4] [0, 1, 3]) := by
  have h10 := hs 1 0
  have h20 := hs 2 0
  have h21 := hs 2 1
  have h30 := hs 3 0
  have h31 := hs 3 1
  have h32 := hs 3 2
  have h40 := hs 4 0
  have h41 := hs 4 1
  have h42 := hs 4 2
  have h43 := hs 4 3
  clear hs
  simp only [detF, sumTo, sgn, nth, List.length, List.getD_cons_zero, List.getD_cons_succ, List.eraseIdx, h10, h21, h30, h31, h32, h40, h41, h43, r0, r1, r2, r3, r4]
  generalize M 0 1 = x01 at *
  generalize M 0 2 = x02 at *
  generalize M 1 2 = x12 at *
  generalize M 0 3 = x03 at *
  generalize M 1 3 = x13 at *
  generalize M 2 3 = x23 at *
  generalize M 0 4 = x04 at *
  generalize M 1 4 = x14 at *
  generalize M 2 4 = x24 at *
  generalize M 3 4 = x34 at *
  clear h10 h20 h21 h30 h31 h32 h40 h41 h42 h43 r0 r1 r2 r3 r4
  grind

theorem pot_5031 (M : Int → Int → Int) (hs : ∀ a b, M a b = M b a) (r0 : M 0 0 = -(M 0 1 + M 0 2 + M 0 3 + M 0 4)) (r1 : M 1 1 = -(M 0 1 + M 1 2 + M 1 3 + M 1 4)) (r2 : M 2 2 = -(M 0 2 + M 1 2 + M 2 3 + M 2 4)) (r3 : M 3 3 = -(M 0 3 + M 1 3 + M 2 3 + M 3 4)) (r4 : M 4 4 = -(M 0 4 + M 1 4 + M 2 4 + M 3 4)) : detF M [1, 2, 4] [1, 2, 4] + detF M [0, 2, 4] [0, 2, 4] - detF M [2, 3, 4] [2, 3, 4] = 2 * (-detF M [1, 2, 4] [0, 2, 4]) := by
  have h10 := hs 1 0
  have h20 := hs 2 0
  have h21 := hs 2 1
  have h30 := hs 3 0
  have h31 := hs 3 1
  have h32 := hs 3 2
  have h40 := hs 4 0
  have h41 := hs 4 1
  have h42 := hs 4 2
  have h43 := hs 4 3
  clear hs
  simp only [detF, sumTo, sgn, nth, List.length, List.getD_cons_zero, List.getD_cons_succ, List.eraseIdx, h10, h20, h21, h32, h40, h41, h42, h43, r0, r1, r2, r3, r4]
  generalize M 0 1 = x01 at *
  generalize M 0 2 = x02 at *
  generalize M 1 2 = x12 at *
  generalize M 0 3 = x03 at *
  generalize M 1 3 = x13 at *
  generalize M 2 3 = x23 at *
  generalize M 0 4 = x04 at *
  generalize M 1 4 = x14 at *
  generalize M 2 4 = x24 at *
  generalize M 3 4 = x34 at *
  clear h10 h20 h21 h30 h31 h32 h40 h41 h42 h43 r0 r1 r2 r3 r4
  grind

theorem pot_5032 (M : Int → Int → Int) (hs : ∀ a b, M a b = M b a) (r0 : M 0 0 = -(M 0 1 + M 0 2 + M 0 3 + M 0 4)) (r1 : M 1 1 = -(M 0 1 + M 1 2 + M 1 3 + M 1 4)) (r2 : M 2 2 = -(M 0 2 + M 1 2 + M 2 3 + M 2 4)) (r3 : M 3 3 = -(M 0 3 + M 1 3 + M 2 3 + M 3 4)) (r4 : M 4 4 = -(M 0 4 + M 1 4 + M 2 4 + M 3 4)) : detF M [1, 2, 4] [1, 2, 4] + detF M [0, 1, 4] [0, 1, 4] - detF M [1, 3, 4] [1, 3, 4] = 2 * (detF M [1, 2, 4] [0, 1, 4]) := by
  have h10 := hs 1 0
  have h20 := hs 2 0
  have h21 := hs 2 1
  have h30 := hs 3 0
  have h31 := hs 3 1
  have h32 := hs 3 2
  have h40 := hs 4 0
  have h41 := hs 4 1
  have h42 := hs 4 2
  have h43 := hs 4 3
  clear hs
  simp only [detF, sumTo, sgn, nth, List.length, List.getD_cons_zero, List.getD_cons_succ, List.eraseIdx, h10, h20, h21, h31, h40, h41, h42, h43, r0, r1, r2, r3, r4]
  generalize M 0 1 = x01 at *
  generalize M 0 2 = x02 at *
  generalize M 1 2 = x12 at *
  generalize M 0 3 = x03 at *
  generalize M 1 3 = x13 at *
  generalize M 2 3 = x23 at *
  generalize M 0 4 = x04 at *
  generalize M 1 4 = x14 at *
  generalize M 2 4 = x24 at *
  generalize M 3 4 = x34 at *
  clear h10 h20 h21 h30 h31 h32 h40 h41 h42 h43 r0 r1 r2 r3 r4
  grind

theorem pot_5034 (M : Int → Int → Int) (hs : ∀ a b, M a b = M b a) (r0 : M 0 0 = -(M 0 1 + M 0 2 + M 0 3 + M 0 4)) (r1 : M 1 1 = -(M 0 1 + M 1 2 + M 1 3 + M 1 4)) (r2 : M 2 2 = -(M 0 2 + M 1 2 + M 2 3 + M 2 4)) (r3 : M 3 3 = -(M 0 3 + M 1 3 + M 2 3 + M 3 4)) (r4 : M 4 4 = -(M 0 4 + M 1 4 + M 2 4 + M 3 4)) : detF M [1, 2, 4] [1, 2, 4] + detF M [0, 1, 2] [0, 1, 2] - detF M [1, 2, 3] [1, 2, 3] = 2 * (-detF M [1, 2, 4] [0, 1, 2]) := by
  have h10 := hs 1 0
  have h20 := hs 2 0
  have h21 := hs 2 1
  have h30 := hs 3 0
  have h31 := hs 3 1
  have h32 := hs 3 2
  have h40 := hs 4 0
  have h41 := hs 4 1
  have h42 := hs 4 2
  have h43 := hs 4 3
  clear hs
  simp only [detF, sumTo, sgn, nth, List.length, List.getD_cons_zero, List.getD_cons_succ, List.eraseIdx, h10, h20, h21, h31, h32, h40, h41, h42, r0, r1, r2, r3, r4]
  generalize M 0 1 = x01 at *
  generalize M 0 2 = x02 at *
  generalize M 1 2 = x12 at *
  generalize M 0 3 = x03 at *
  generalize M 1 3 = x13 at *
  generalize M 2 3 = x23 at *
  generalize M 0 4 = x04 at *
  generalize M 1 4 = x14 at *
  generalize M 2 4 = x24 at *
  generalize M 3 4 = x34 at *
  clear h10 h20 h21 h30 h31 h32 h40 h41 h42 h43 r0 r1 r2 r3 r4
  grind

theorem pot_5041 (M : Int → Int → Int) (hs : ∀ a b, M a b = M b a) (r0 : M 0 0 = -(M 0 1 + M 0 2 + M 0 3 + M 0 4)) (r1 : M 1 1 = -(M 0 1 + M 1 2 + M 1 3 + M 1 4)) (r2 : M 2 2 = -(M 0 2 + M 1 2 + M 2 3 + M 2 4)) (r3 : M 3 3 = -(M 0 3 + M 1 3 + M 2 3 + M 3 4)) (r4 : M 4 4 = -(M 0 4 + M 1 4 + M 2 4 + M 3 4)) : detF M [1, 2, 3] [1, 2, 3] + detF M [0, 2, 3] [0, 2, 3] - detF M [2, 3, 4] [2, 3, 4] = 2 * (-detF M [1, 2, 3] [0, 2, 3]) := by
  have h10 := hs 1 0
  have h20 := hs 2 0
  have h21 := hs 2 1
  have h30 := hs 3 0
  have h31 := hs 3 1
  have h32 := hs 3 2
  have h40 := hs 4 0
  have h41 := hs 4 1
  have h42 := hs 4 2
  have h43 := hs 4 3
  clear hs
  simp only [detF, sumTo, sgn, nth, List.length, List.getD_cons_zero, List.getD_cons_succ, List.eraseIdx, h10, h20, h21, h30, h31, h32, h42, h43, r0, r1, r2, r3, r4]
  generalize M 0 1 = x01 at *
  generalize M 0 2 = x02 at *
  generalize M 1 2 = x12 at *
  generalize M 0 3 = x03 at *
  generalize M 1 3 = x13 at *
  generalize M 2 3 = x23 at *
  generalize M 0 4 = x04 at *
  generalize M 1 4 = x14 at *
  generalize M 2 4 = x24 at *
  generalize M 3 4 = x34 at *
  clear h10 h20 h21 h30 h31 h32 h40 h41 h42 h43 r0 r1 r2 r3 r4
  grind

theorem pot_5042 (M : Int → Int → Int) (hs : ∀ a b, M a b = M b a) (r0 : M 0 0 = -(M 0 1 + M 0 2 + M 0 3 + M 0 4)) (r1 : M 1 1 = -(M 0 1 + M 1 2 + M 1 3 + M 1 4)) (r2 : M 2 2 = -(M 0 2 + M 1 2 + M 2 3 + M 2 4)) (r3 : M 3 3 = -(M 0 3 + M 1 3 + M 2 3 + M 3 4)) (r4 : M 4 4 = -(M 0 4 + M 1 4 + M 2 4 + M 3 4)) : detF M [1, 2, 3] [1, 2, 3] + detF M [0, 1, 3] [0, 1, 3] - detF M [1, 3, 4] [1, 3, 4] = 2 * (detF M [1, 2, 3] [0, 1, 3]) := by
  have h10 := hs 1 0
  have h20 := hs 2 0
  have h21 := hs 2 1
  have h30 := hs 3 0
  have h31 := hs 3 1
  have h32 := hs 3 2
  have h40 := hs 4 0
  have h41 := hs 4 1
  have h42 := hs 4 2
  have h43 := hs 4 3
  clear hs
  simp only [detF, sumTo, sgn, nth, List.length, List.getD_cons_zero, List.getD_cons_succ, List.eraseIdx, h10, h20, h21, h30, h31, h32, h41, h43, r0, r1, r2, r3, r4]
  generalize M 0 1 = x01 at *
  generalize M 0 2 = x02 at *
  generalize M 1 2 = x12 at *
  generalize M 0 3 = x03 at *
  generalize M 1 3 = x13 at *
  generalize M 2 3 = x23 at *
  generalize M 0 4 = x04 at *
  generalize M 1 4 = x14 at *
  generalize M 2 4 = x24 at *
  generalize M 3 4 = x34 at *
  clear h10 h20 h21 h30 h31 h32 h40 h41 h42 h43 r0 r1 r2 r3 r4
  grind

theorem pot_5043 (M : Int → Int → Int) (hs : ∀ a b, M a b = M b a) (r0 : M 0 0 = -(M 0 1 + M 0 2 + M 0 3 + M 0 4)) (r1 : M 1 1 = -(M 0 1 + M 1 2 + M 1 3 + M 1 4)) (r2 : M 2 2 = -(M 0 2 + M 1 2 + M 2 3 + M 2 4)) (r3 : M 3 3 = -(M 0 3 + M 1 3 + M 2 3 + M 3 4)) (r4 : M 4 4 = -(M 0 4 + M 1 4 + M 2 4 + M 3 4)) : detF M [1, 2, 3] [1, 2, 3] + detF M [0, 1, 2] [0, 1, 2] - detF M [1, 2, 4] [1, 2, 4] = 2 * (-detF M [1, 2, 3] [0, 1, 2]) := by
  have h10 := hs 1 0
  have h20 := hs 2 0
  have h21 := hs 2 1
  have h30 := hs 3 0
  have h31 := hs 3 1
  have h32 := hs 3 2
  have h40 := hs 4 0
  have h41 := hs 4 1
  have h42 := hs 4 2
  have h43 := hs 4 3
  clear hs
  simp only [detF, sumTo, sgn, nth, List.length, List.getD_cons_zero, List.getD_cons_succ, List.eraseIdx, h10, h20, h21, h30, h31, h32, h41, h42, r0, r1, r2, r3, r4]
  generalize M 0 1 = x01 at *
  generalize M 0 2 = x02 at *
  generalize M 1 2 = x12 at *
  generalize M 0 3 = x03 at *
  generalize M 1 3 = x13 at *
  generalize M 2 3 = x23 at *
  generalize M 0 4 = x04 at *
  generalize M 1 4 = x14 at *
  generalize M 2 4 = x24 at *
  generalize M 3 4 = x34 at *
  clear h10 h20 h21 h30 h31 h32 h40 h41 h42 h43 r0 r1 r2 r3 r4
  grind

theorem pot_5102 (M : Int → Int → Int) (hs : ∀ a b, M a b = M b a) (r0 : M 0 0 = -(M 0 1 + M 0 2 + M 0 3 + M 0 4)) (r1 : M 1 1 = -(M 0 1 + M 1 2 + M 1 3 + M 1 4)) (r2 : M 2 2 = -(M 0 2 + M 1 2 + M 2 3 + M 2 4)) (r3 : M 3 3 = -(M 0 3 + M 1 3 + M 2 3 + M 3 4)) (r4 : M 4 4 = -(M 0 4 + M 1 4 + M 2 4 + M 3 4)) : detF M [2, 3, 4] [2, 3, 4] + detF M [1, 3, 4] [1, 3, 4] - detF M [0, 3, 4] [0, 3, 4] = 2 * (-detF M [2, 3, 4] [1, 3, 4]) := by
  have h10 := hs 1 0
  have h20 := hs 2 0
  have h21 := hs 2 1
  have h30 := hs 3 0
  have h31 := hs 3 1
  have h32 := hs 3 2
  have h40 := hs 4 0
  have h41 := hs 4 1
  have h42 := hs 4 2
  have h43 := hs 4 3
  clear hs
  simp only [detF, sumTo, sgn, nth, List.length, List.getD_cons_zero, List.getD_cons_succ, List.eraseIdx, h21, h30, h31, h32, h40, h41, h42, h43, r0, r1, r2, r3, r4]
  generalize M 0 1 = x01 at *
  generalize M 0 2 = x02 at *
  generalize M 1 2 = x12 at *
  generalize M 0 3 = x03 at *
  generalize M 1 3 = x13 at *
  generalize M 2 3 = x23 at *
  generalize M 0 4 = x04 at *
  generalize M 1 4 = x14 at *
  generalize M 2 4 = x24 at *
  generalize M 3 4 = x34 at *
  clear h10 h20 h21 h30 h31 h32 h40 h41 h42 h43 r0 r1 r2 r3 r4
  grind

theorem pot_5103 (M : Int → Int → Int) (hs : ∀ a b, M a b = M b a) (r0 : M 0 0 = -(M 0 1 + M 0 2 + M 0 3 + M 0 4)) (r1 : M 1 1 = -(M 0 1 + M 1 2 + M 1 3 + M 1 4)) (r2 : M 2 2 = -(M 0 2 + M 1 2 + M 2 3 + M 2 4)) (r3 : M 3 3 = -(M 0 3 + M 1 3 + M 2 3 + M 3 4)) (r4 : M 4 4 = -(M 0 4 + M 1 4 + M 2 4 + M 3 4)) : detF M [2, 3, 4] [2, 3, 4] + detF M [1, 2, 4] [1, 2, 4] - detF M [0, 2, 4] [0, 2, 4] = 2 * (detF M [2, 3, 4] [1, 2, 4]) := by
  have h10 := hs 1 0
  have h20 := hs 2 0
  have h21 := hs 2 1
  have h30 := hs 3 0
  have h31 := hs 3 1
  have h32 := hs 3 2
  have h40 := hs 4 0
  have h41 := hs 4 1
  have h42 := hs 4 2
  have h43 := hs 4 3
  clear hs
  simp only [detF, sumTo, sgn, nth, List.length, List.getD_cons_zero, List.getD_cons_succ, List.eraseIdx, h20, h21, h31, h32, h40, h41, h42, h43, r0, r1, r2, r3, r4]
  generalize M 0 1 = x01 at *
  generalize M 0 2 = x02 at *
  generalize M 1 2 = x12 at *
  generalize M 0 3 = x03 at *
  generalize M 1 3 = x13 at *
  generalize M 2 3 = x23 at *
  generalize M 0 4 = x04 at *
  generalize M 1 4 = x14 at *
  generalize M 2 4 = x24 at *
  generalize M 3 4 = x34 at *
  clear h10 h20 h21 h30 h31 h32 h40 h41 h42 h43 r0 r1 r2 r3 r4
  grind

theorem pot_5104 (M : Int → Int → Int) (hs : ∀ a b, M a b = M b a) (r0 : M 0 0 = -(M 0 1 + M 0 2 + M 0 3 + M 0 4)) (r1 : M 1 1 = -(M 0 1 + M 1 2 + M 1 3 + M 1 4)) (r2 : M 2 2 = -(M 0 2 + M 1 2 + M 2 3 + M 2 4)) (r3 : M 3 3 = -(M 0 3 + M 1 3 + M 2 3 + M 3 4)) (r4 : M 4 4 = -(M 0 4 + M 1 4 + M 2 4 + M 3 4)) : detF M [2, 3, 4] [2, 3, 4] + detF M [1, 2, 3] [1, 2, 3] - detF M [0, 2, 3] [0, 2, 3] = 2 * (-detF M [2, 3, 4] [1, 2, 3]) := by
  have h10 := hs 1 0
  have h20 := hs 2 0
  have h21 := hs 2 1
  have h30 := hs 3 0
  have h31 := hs 3 1
  have h32 := hs 3 2
  have h40 := hs 4 0
  have h41 := hs 4 1
  have h42 := hs 4 2
  have h43 := hs 4 3
  clear hs
  simp only [detF, sumTo, sgn, nth, List.length, List.getD_cons_zero, List.getD_cons_succ, List.eraseIdx, h20, h21, h30, h31, h32, h41, h42, h43, r0, r1, r2, r3, r4]
  generalize M 0 1 = x01 at *
  generalize M 0 2 = x02 at *
  generalize M 1 2 = x12 at *
  generalize M 0 3 = x03 at *
  generalize M 1 3 = x13 at *
  generalize M 2 3 = x23 at *
  generalize M 0 4 = x04 at *
  generalize M 1 4 = x14 at *
  generalize M 2 4 = x24 at *
  generalize M 3 4 = x34 at *
  clear h10 h20 h21 h30 h31 h32 h40 h41 h42 h43 r0 r1 r2 r3 r4
  grind

theorem pot_5120 (M : Int → Int → Int) (hs : ∀ a b, M a b = M b a) (r0 : M 0 0 = -(M 0 1 + M 0 2 + M 0 3 + M 0 4)) (r1 : M 1 1 = -(M 0 1 + M 1 2 + M 1 3 + M 1 4)) (r2 : M 2 2 = -(M 0 2 + M 1 2 + M 2 3 + M 2 4)) (r3 : M 3 3 = -(M 0 3 + M 1 3 + M 2 3 + M 3 4)) (r4 : M 4 4 = -(M 0 4 + M 1 4 + M 2 4 + M 3 4)) : detF M [0, 3, 4] [0, 3, 4] + detF M [1, 3, 4] [1, 3, 4] - detF M [2, 3, 4] [2, 3, 4] = 2 * (-detF M [0, 3, 4] [1, 3, 4]) := by
  have h10 := hs 1 0
  have h20 := hs 2 0
  have h21 := hs 2 1
  have h30 := hs 3 0
  have h31 := hs 3 1
  have h32 := hs 3 2
  have h40 := hs 4 0
  have h41 := hs 4 1
  have h42 := hs 4 2
  have h43 := hs 4 3
  clear hs
  simp only [detF, sumTo, sgn, nth, List.length, List.getD_cons_zero, List.getD_cons_succ, List.eraseIdx, h30, h31, h32, h40, h41, h42, h43, r0, r1, r2, r3, r4]
  generalize M 0 1 = x01 at *
  generalize M 0 2 = x02 at *
  generalize M 1 2 = x12 at *
  generalize M 0 3 = x03 at *
  generalize M 1 3 = x13 at *
  generalize M 2 3 = x23 at *
  generalize M 0 4 = x04 at *
  generalize M 1 4 = x14 at *
  generalize M 2 4 = x24 at *
  generalize M 3 4 = x34 at *
  clear h10 h20 h21 h30 h31 h32 h40 h41 h42 h43 r0 r1 r2 r3 r4
  grind

theorem pot_5123 (M : Int → Int → Int) (hs : ∀ a b, M a b = M b a) (r0 : M 0 0 = -(M 0 1 + M 0 2 + M 0 3 + M 0 4)) (r1 : M 1 1 = -(M 0 1 + M 1 2 + M 1 3 + M 1 4)) (r2 : M 2 2 = -(M 0 2 + M 1 2 + M 2 3 + M 2 4)) (r3 : M 3 3 = -(M 0 3 + M 1 3 + M 2 3 + M 3 4)) (r4 : M 4 4 = -(M 0 4 + M 1 4 + M 2 4 + M 3 4)) : detF M [0, 3, 4] [0, 3, 4] + detF M [0, 1, 4] [0, 1, 4] - detF M [0, 2, 4] [0, 2, 4] = 2 * (-detF M [0, 3, 4] [0, 1, 4]) := by
  have h10 := hs 1 0
  have h20 := hs 2 0
  have h21 := hs 2 1
  have h30 := hs 3 0
  have h31 := hs 3 1
  have h32 := hs 3 2
  have h40 := hs 4 0
  have h41 := hs 4 1
  have h42 := hs 4 2
  have h43 := hs 4 3
  clear hs
  simp only [detF, sumTo, sgn, nth, List.length, List.getD_cons_zero, List.getD_cons_succ, List.eraseIdx, h10, h20, h30, h31, h40, h41, h42, h43, r0, r1, r2, r3, r4]
  generalize M 0 1 = x01 at *
  generalize M 0 2 = x02 at *
  generalize M 1 2 = x12 at *
  generalize M 0 3 = x03 at *
  generalize M 1 3 = x13 at *
  generalize M 2 3 = x23 at *
  generalize M 0 4 = x04 at *
  generalize M 1 4 = x14 at *
  generalize M 2 4 = x24 at *
  generalize M 3 4 = x34 at *
  clear h10 h20 h21 h30 h31 h32 h40 h41 h42 h43 r0 r1 r2 r3 r4
  grind

theorem pot_5124 (M : Int → Int → Int) (hs : ∀ a b, M a b = M b a) (r0 : M 0 0 = -(M 0 1 + M 0 2 + M 0 3 + M 0 4)) (r1 : M 1 1 = -(M 0 1 + M 1 2 + M 1 3 + M 1 4)) (r2 : M 2 2 = -(M 0 2 + M 1 2 + M 2 3 + M 2 4)) (r3 : M 3 3 = -(M 0 3 + M 1 3 + M 2 3 + M 3 4)) (r4 : M 4 4 = -(M 0 4 + M 1 4 + M 2 4 + M 3 4)) : detF M [0, 3, 4] [0, 3, 4] + detF M [0, 1, 3] [0, 1, 3] - detF M [0, 2, 3] [0, 2, 3] = 2 * (detF M [0, 3, 4] [0, 1, 3]) := by
  have h10 := hs 1 0
  have h20 := hs 2 0
  have h21 := hs 2 1
  have h30 := hs 3 0
  have h31 := hs 3 1
  have h32 := hs 3 2
  have h40 := hs 4 0
  have h41 := hs 4 1
  have h42 := hs 4 2
  have h43 := hs 4 3
  clear hs
  simp only [detF, sumTo, sgn, nth, List.length, List.getD_cons_zero, List.getD_cons_succ, List.eraseIdx, h10, h20, h30, h31, h32, h40, h41, h43, r0, r1, r2, r3, r4]
  generalize M 0 1 = x01 at *
  generalize M 0 2 = x02 at *
  generalize M 1 2 = x12 at *
  generalize M 0 3 = x03 at *
  generalize M 1 3 = x13 at *
  generalize M 2 3 = x23 at *
  generalize M 0 4 = x04 at *
  generalize M 1 4 = x14 at *
  generalize M 2 4 = x24 at *
  generalize M 3 4 = x34 at *
  clear h10 h20 h21 h30 h31 h32 h40 h41 h42 h43 r0 r1 r2 r3 r4
  grind

theorem pot_5130 (M : Int → Int → Int) (hs : ∀ a b, M a b = M b a) (r0 : M 0 0 = -(M 0 1 + M 0 2 + M 0 3 + M 0 4)) (r1 : M 1 1 = -(M 0 1 + M 1 2 + M 1 3 + M 1 4)) (r2 : M 2 2 = -(M 0 2 + M 1 2 + M 2 3 + M 2 4)) (r3 : M 3 3 = -(M 0 3 + M 1 3 + M 2 3 + M 3 4)) (r4 : M 4 4 = -(M 0 4 + M 1 4 + M 2 4 + M 3 4)) : detF M [0, 2, 4] [0, 2, 4] + detF M [1, 2, 4] [1, 2, 4] - detF M [2, 3, 4] [2, 3, 4] = 2 * (-detF M [0, 2, 4] [1, 2, 4]) := by
  have h10 := hs 1 0
  have h20 := hs 2 0
  have h21 := hs 2 1
  have h30 := hs 3 0
  have h31 := hs 3 1
  have h32 := hs 3 2
  have h40 := hs 4 0
  have h41 := hs 4 1
  have h42 := hs 4 2
  have h43 := hs 4 3
  clear hs
  simp only [detF, sumTo, sgn, nth, List.length, List.getD_cons_zero, List.getD_cons_succ, List.eraseIdx, h20, h21, h32, h40, h41, h42, h43, r0, r1, r2, r3, r4]
  generalize M 0 1 = x01 at *
  generalize M 0 2 = x02 at *
  generalize M 1 2 = x12 at *
  generalize M 0 3 = x03 at *
  generalize M 1 3 = x13 at *
  generalize M 2 3 = x23 at *
  generalize M 0 4 = x04 at *
  generalize M 1 4 = x14 at *
  generalize M 2 4 = x24 at *
  generalize M 3 4 = x34 at *
  clear h10 h20 h21 h30 h31 h32 h40 h41 h42 h43 r0 r1 r2 r3 r4
  grind

theorem pot_5132 (M : Int → Int → Int) (hs : ∀ a b, M a b = M b a) (r0 : M 0 0 = -(M 0 1 + M 0 2 + M 0 3 + M 0 4)) (r1 : M 1 1 = -(M 0 1 + M 1 2 + M 1 3 + M 1 4)) (r2 : M 2 2 = -(M 0 2 + M 1 2 + M 2 3 + M 2 4)) (r3 : M 3 3 = -(M 0 3 + M 1 3 + M 2 3 + M 3 4)) (r4 : M 4 4 = -(M 0 4 + M 1 4 + M 2 4 + M 3 4)) : detF M [0, 2, 4] [0, 2, 4] + detF M [0, 1, 4] [0, 1, 4] - detF M [0, 3, 4] [0, 3, 4] = 2 * (-detF M [0, 2, 4] [0, 1, 4]) := by
  have h10 := hs 1 0
  have h20 := hs 2 0
  have h21 := hs 2 1
  have h30 := hs 3 0
  have h31 := hs 3 1
  have h32 := hs 3 2
  have h40 := hs 4 0
  have h41 := hs 4 1
  have h42 := hs 4 2
  have h43 := hs 4 3
  clear hs
  simp only [detF, sumTo, sgn, nth, List.length, List.getD_cons_zero, List.getD_cons_succ, List.eraseIdx, h10, h20, h21, h30, h40, h41, h42, h43, r0, r1, r2, r3, r4]
  generalize M 0 1 = x01 at *
  generalize M 0 2 = x02 at *
  generalize M 1 2 = x12 at *
  generalize M 0 3 = x03 at *
  generalize M 1 3 = x13 at *
  generalize M 2 3 = x23 at *
  generalize M 0 4 = x04 at *
  generalize M 1 4 = x14 at *
  generalize M 2 4 = x24 at *
  generalize M 3 4 = x34 at *
  clear h10 h20 h21 h30 h31 h32 h40 h41 h42 h43 r0 r1 r2 r3 r4
  grind

theorem pot_5134 (M : Int → Int → Int) (hs : ∀ a b, M a b = M b a) (r0 : M 0 0 = -(M 0 1 + M 0 2 + M 0 3 + M 0 4)) (r1 : M 1 1 = -(M 0 1 + M 1 2 + M 1 3 + M 1 4)) (r2 : M 2 2 = -(M 0 2 + M 1 2 + M 2 3 + M 2 4)) (r3 : M 3 3 = -(M 0 3 + M 1 3 + M 2 3 + M 3 4)) (r4 : M 4 4 = -(M 0 4 + M 1 4 + M 2 4 + M 3 4)) : detF M [0, 2, 4] [0, 2, 4] + detF M [0, 1, 2] [0, 1, 2] - detF M [0, 2, 3] [0, 2, 3] = 2 * (detF M [0, 2, 4] [0, 1, 2]) := by
  have h10 := hs 1 0
  have h20 := hs 2 0
  have h21 := hs 2 1
  have h30 := hs 3 0
  have h31 := hs 3 1
  have h32 := hs 3 2
  have h40 := hs 4 0
  have h41 := hs 4 1
  have h42 := hs 4 2
  have h43 := hs 4 3
  clear hs
  simp only [detF, sumTo, sgn, nth, List.length, List.getD_cons_zero, List.getD_cons_succ, List.eraseIdx, h10, h20, h21, h30, h32, h40, h41, h42, r0, r1, r2, r3, r4]
  generalize M 0 1 = x01 at *
  generalize M 0 2 = x02 at *
  generalize M 1 2 = x12 at *
  generalize M 0 3 = x03 at *
  generalize M 1 3 = x13 at *
  generalize M 2 3 = x23 at *
  generalize M 0 4 = x04 at *
  generalize M 1 4 = x14 at *
  generalize M 2 4 = x24 at *
  generalize M 3 4 = x34 at *
  clear h10 h20 h21 h30 h31 h32 h40 h41 h42 h43 r0 r1 r2 r3 r4
  grind

theorem pot_5140 (M : Int → Int → Int) (hs : ∀ a b, M a b = M b a) (r0 : M 0 0 = -(M 0 1 + M 0 2 + M 0 3 + M 0 4)) (r1 : M 1 1 = -(M 0 1 + M 1 2 + M 1 3 + M 1 4)) (r2 : M 2 2 = -(M 0 2 + M 1 2 + M 2 3 + M 2 4)) (r3 : M 3 3 = -(M 0 3 + M 1 3 + M 2 3 + M 3 4)) (r4 : M 4 4 = -(M 0 4 + M 1 4 + M 2 4 + M 3 4)) : detF M [0, 2, 3] [0, 2, 3] + detF M [1, 2, 3] [1, 2, 3] - detF M [2, 3, 4] [2, 3, 4] = 2 * (-detF M [0, 2, 3] [1, 2, 3]) := by
  have h10 := hs 1 0
  have h20 := hs 2 0
  have h21 := hs 2 1
  have h30 := hs 3 0
  have h31 := hs 3 1
  have h32 := hs 3 2
  have h40 := hs 4 0
  have h41 := hs 4 1
  have h42 := hs 4 2
  have h43 := hs 4 3
  clear hs
  simp only [detF, sumTo, sgn, nth, List.length, List.getD_cons_zero, List.getD_cons_succ, List.eraseIdx, h20, h21, h30, h31, h32, h42, h43, r0, r1, r2, r3, r4]
  generalize M 0 1 = x01 at *
  generalize M 0 2 = x02 at *
  generalize M 1 2 = x12 at *
  generalize M 0 3 = x03 at *
  generalize M 1 3 = x13 at *
  generalize M 2 3 = x23 at *
  generalize M 0 4 = x04 at *
  generalize M 1 4 = x14 at *
  generalize M 2 4 = x24 at *
  generalize M 3 4 = x34 at *
  clear h10 h20 h21 h30 h31 h32 h40 h41 h42 h43 r0 r1 r2 r3 r4
  grind

theorem pot_5142 (M : Int → Int → Int) (hs : ∀ a b, M a b = M b a) (r0 : M 0 0 = -(M 0 1 + M 0 2 + M 0 3 + M 0 4)) (r1 : M 1 1 = -(M 0 1 + M 1 2 + M 1 3 + M 1 4)) (r2 : M 2 2 = -(M 0 2 + M 1 2 + M 2 3 + M 2 4)) (r3 : M 3 3 = -(M 0 3 + M 1 3 + M 2 3 + M 3 4)) (r4 : M 4 4 = -(M 0 4 + M 1 4 + M 2 4 + M 3 4)) : detF M [0, 2, 3] [0, 2, 3] + detF M [0, 1, 3] [0, 1, 3] - detF M [0, 3, 4] [0, 3, 4] = 2 * (-detF M [0, 2, 3] [0, 1, 3]) := by
  have h10 := hs 1 0
  have h20 := hs 2 0
  have h21 := hs 2 1
  have h30 := hs 3 0
  have h31 := hs 3 1
  have h32 := hs 3 2
  have h40 := hs 4 0
  have h41 := hs 4 1
  have h42 := hs 4 2
  have h43 := hs 4 3
  clear hs
  simp only [detF, sumTo, sgn, nth, List.length, List.getD_cons_zero, List.getD_cons_succ, List.eraseIdx, h10, h20, h21, h30, h31, h32, h40, h43, r0, r1, r2, r3, r4]
  generalize M 0 1 = x01 at *
  generalize M 0 2 = x02 at *
  generalize M 1 2 = x12 at *
  generalize M 0 3 = x03 at *
  generalize M 1 3 = x13 at *
  generalize M 2 3 = x23 at *
  generalize M 0 4 = x04 at *
  generalize M 1 4 = x14 at *
  generalize M 2 4 = x24 at *
  generalize M 3 4 = x34 at *
  clear h10 h20 h21 h30 h31 h32 h40 h41 h42 h43 r0 r1 r2 r3 r4
  grind

theorem pot_5143 (M : Int → Int → Int) (hs : ∀ a b, M a b = M b a) (r0 : M 0 0 = -(M 0 1 + M 0 2 + M 0 3 + M 0 4)) (r1 : M 1 1 = -(M 0 1 + M 1 2 + M 1 3 + M 1 4)) (r2 : M 2 2 = -(M 0 2 + M 1 2 + M 2 3 + M 2 4)) (r3 : M 3 3 = -(M 0 3 + M 1 3 + M 2 3 + M 3 4)) (r4 : M 4 4 = -(M 0 4 + M 1 4 + M 2 4 + M 3 4)) : detF M [0, 2, 3] [0, 2, 3] + detF M [0, 1, 2] [0, 1, 2] - detF M [0, 2, 4] [0, 2, 4] = 2 * (detF M [0, 2, 3] [0, 1, 2]) := by
  have h10 := hs 1 0
  have h20 := hs 2 0
  have h21 := hs 2 1
  have h30 := hs 3 0
  have h31 := hs 3 1
  have h32 := hs 3 2
  have h40 := hs 4 0
  have h41 := hs 4 1
  have h42 := hs 4 2
  have h43 := hs 4 3
  clear hs
  simp only [detF, sumTo, sgn, nth, List.length, List.getD_cons_zero, List.getD_cons_succ, List.eraseIdx, h10, h20, h21, h30, h31, h32, h40, h42, r0, r1, r2, r3, r4]
  generalize M 0 1 = x01 at *
  generalize M 0 2 = x02 at *
  generalize M 1 2 = x12 at *
  generalize M 0 3 = x03 at *
  generalize M 1 3 = x13 at *
  generalize M 2 3 = x23 at *
  generalize M 0 4 = x04 at *
  generalize M 1 4 = x14 at *
  generalize M 2 4 = x24 at *
  generalize M 3 4 = x34 at *
  clear h10 h20 h21 h30 h31 h32 h40 h41 h42 h43 r0 r1 r2 r3 r4
  grind

theorem pot_5201 (M : Int → Int → Int) (hs : ∀ a b, M a b = M b a) (r0 : M 0 0 = -(M 0 1 + M 0 2 + M 0 3 + M 0 4)) (r1 : M 1 1 = -(M 0 1 + M 1 2 + M 1 3 + M 1 4)) (r2 : M 2 2 = -(M 0 2 + M 1 2 + M 2 3 + M 2 4)) (r3 : M 3 3 = -(M 0 3 + M 1 3 + M 2 3 + M 3 4)) (r4 : M 4 4 = -(M 0 4 + M 1 4 + M 2 4 + M 3 4)) : detF M [1, 3, 4] [1, 3, 4] + detF M [2, 3, 4] [2, 3, 4] - detF M [0, 3, 4] [0, 3, 4] = 2 * (-detF M [1, 3, 4] [2, 3, 4]) := by
  have h10 := hs 1 0
  have h20 := hs 2 0
  have h21 := hs 2 1
  have h30 := hs 3 0
  have h31 := hs 3 1
  have h32 := hs 3 2
  have h40 := hs 4 0
  have h41 := hs 4 1
  have h42 := hs 4 2
  have h43 := hs 4 3
  clear hs
  simp only [detF, sumTo, sgn, nth, List.length, List.getD_cons_zero, List.getD_cons_succ, List.eraseIdx, h30, h31, h32, h40, h41, h42, h43, r0, r1, r2, r3, r4]
  generalize M 0 1 = x01 at *
  generalize M 0 2 = x02 at *
  generalize M 1 2 = x12 at *
  generalize M 0 3 = x03 at *
  generalize M 1 3 = x13 at *
  generalize M 2 3 = x23 at *
  generalize M 0 4 = x04 at *
  generalize M 1 4 = x14 at *
  generalize M 2 4 = x24 at *
  generalize M 3 4 = x34 at *
  clear h10 h20 h21 h30 h31 h32 h40 h41 h42 h43 r0 r1 r2 r3 r4
  grind

theorem pot_5203 (M : Int → Int → Int) (hs : ∀ a b, M a b = M b a) (r0 : M 0 0 = -(M 0 1 + M 0 2 + M 0 3 + M 0 4)) (r1 : M 1 1 = -(M 0 1 + M 1 2 + M 1 3 + M 1 4)) (r2 : M 2 2 = -(M 0 2 + M 1 2 + M 2 3 + M 2 4)) (r3 : M 3 3 = -(M 0 3 + M 1 3 + M 2 3 + M 3 4)) (r4 : M 4 4 = -(M 0 4 + M 1 4 + M 2 4 + M 3 4)) : detF M [1, 3, 4] [1, 3, 4] + detF M [1, 2, 4] [1, 2, 4] - detF M [0, 1, 4] [0, 1, 4] = 2 * (-detF M [1, 3, 4] [1, 2, 4]) := by
  have h10 := hs 1 0
  have h20 := hs 2 0
  have h21 := hs 2 1
  have h30 := hs 3 0
  have h31 := hs 3 1
  have h32 := hs 3 2
  have h40 := hs 4 0
  have h41 := hs 4 1
  have h42 := hs 4 2
  have h43 := hs 4 3
  clear hs
  simp only [detF, sumTo, sgn, nth, List.length, List.getD_cons_zero, List.getD_cons_succ, List.eraseIdx, h10, h21, h31, h32, h40, h41, h42, h43, r0, r1, r2, r3, r4]
  generalize M 0 1 = x01 at *
  generalize M 0 2 = x02 at *
  generalize M 1 2 = x12 at *
  generalize M 0 3 = x03 at *
  generalize M 1 3 = x13 at *
  generalize M 2 3 = x23 at *
  generalize M 0 4 = x04 at *
  generalize M 1 4 = x14 at *
  generalize M 2 4 = x24 at *
  generalize M 3 4 = x34 at *
  clear h10 h20 h21 h30 h31 h32 h40 h41 h42 h43 r0 r1 r2 r3 r4
  grind

theorem pot_5204 (M : Int → Int → Int) (hs : ∀ a b, M a b = M b a) (r0 : M 0 0 = -(M 0 1 + M 0 2 + M 0 3 + M 0 4)) (r1 : M 1 1 = -(M 0 1 + M 1 2 + M 1 3 + M 1 4)) (r2 : M 2 2 = -(M 0 2 + M 1 2 + M 2 3 + M 2 4)) (r3 : M 3 3 = -(M 0 3 + M 1 3 + M 2 3 + M 3 4)) (r4 : M 4 4 = -(M 0 4 + M 1 4 + M 2 4 + M 3 4)) : detF M [1, 3, 4] [1, 3, 4] + detF M [1, 2, 3] [1, 2, 3] - detF M [0, 1, 3] [0, 1, 3] = 2 * (detF M [1, 3, 4] [1, 2, 3]) := by
  have h10 := hs 1 0
  have h20 := hs 2 0
  have h21 := hs 2 1
  have h30 := hs 3 0
  have h31 := hs 3 1
  have h32 := hs 3 2
  have h40 := hs 4 0
  have h41 := hs 4 1
  have h42 := hs 4 2
  have h43 := hs 4 3
  clear hs
  simp only [detF, sumTo, sgn, nth, List.length, List.getD_cons_zero, List.getD_cons_succ, List.eraseIdx, h10, h21, h30, h31, h32, h41, h42, h43, r0, r1, r2, r3, r4]
  generalize M 0 1 = x01 at *
  generalize M 0 2 = x02 at *
  generalize M 1 2 = x12 at *
  generalize M 0 3 = x03 at *
  generalize M 1 3 = x13 at *
  generalize M 2 3 = x23 at *
  generalize M 0 4 = x04 at *
  generalize M 1 4 = x14 at *
  generalize M 2 4 = x24 at *
  generalize M 3 4 = x34 at *
  clear h10 h20 h21 h30 h31 h32 h40 h41 h42 h43 r0 r1 r2 r3 r4
  grind

theorem pot_5210 (M : Int → Int → Int) (hs : ∀ a b, M a b = M b a) (r0 : M 0 0 = -(M 0 1 + M 0 2 + M 0 3 + M 0 4)) (r1 : M 1 1 = -(M 0 1 + M 1 2 + M 1 3 + M 1 4)) (r2 : M 2 2 = -(M 0 2 + M 1 2 + M 2 3 + M 2 4)) (r3 : M 3 3 = -(M 0 3 + M 1 3 + M 2 3 + M 3 4)) (r4 : M 4 4 = -(M 0 4 + M 1 4 + M 2 4 + M 3 4)) : detF M [0, 3, 4] [0, 3, 4] + detF M [2, 3, 4] [2, 3, 4] - detF M [1, 3, 4] [1, 3, 4] = 2 * (-detF M [0, 3, 4] [2, 3, 4]) := by
  have h10 := hs 1 0
  have h20 := hs 2 0
  have h21 := hs 2 1
  have h30 := hs 3 0
  have h31 := hs 3 1
  have h32 := hs 3 2
  have h40 := hs 4 0
  have h41 := hs 4 1
  have h42 := hs 4 2
  have h43 := hs 4 3
  clear hs
  simp only [detF, sumTo, sgn, nth, List.length, List.getD_cons_zero, List.getD_cons_succ, List.eraseIdx, h30, h31, h32, h40, h41, h42, h43, r0, r1, r2, r3, r4]
  generalize M 0 1 = x01 at *
  generalize M 0 2 = x02 at *
  generalize M 1 2 = x12 at *
  generalize M 0 3 = x03 at *
  generalize M 1 3 = x13 at *
  generalize M 2 3 = x23 at *
  generalize M 0 4 = x04 at *
  generalize M 1 4 = x14 at *
  generalize M 2 4 = x24 at *
  generalize M 3 4 = x34 at *
  clear h10 h20 h21 h30 h31 h32 h40 h41 h42 h43 r0 r1 r2 r3 r4
  grind

theorem pot_5213 (M : Int → Int → Int) (hs : ∀ a b, M a b = M b a) (r0 : M 0 0 = -(M 0 1 + M 0 2 + M 0 3 + M 0 4)) (r1 : M 1 1 = -(M 0 1 + M 1 2 + M 1 3 + M 1 4)) (r2 : M 2 2 = -(M 0 2 + M 1 2 + M 2 3 + M 2 4)) (r3 : M 3 3 = -(M 0 3 + M 1 3 + M 2 3 + M 3 4)) (r4 : M 4 4 = -(M 0 4 + M 1 4 + M 2 4 + M 3 4)) : detF M [0, 3, 4] [0, 3, 4] + detF M [0, 2, 4] [0, 2, 4] - detF M [0, 1, 4] [0, 1, 4] = 2 * (-detF M [0, 3, 4] [0, 2, 4]) := by
  have h10 := hs 1 0
  have h20 := hs 2 0
  have h21 := hs 2 1
  have h30 := hs 3 0
  have h31 := hs 3 1
  have h32 := hs 3 2
  have h40 := hs 4 0
  have h41 := hs 4 1
  have h42 := hs 4 2
  have h43 := hs 4 3
  clear hs
  simp only [detF, sumTo, sgn, nth, List.length, List.getD_cons_zero, List.getD_cons_succ, List.eraseIdx, h10, h20, h30, h32, h40, h41, h42, h43, r0, r1, r2, r3, r4]
  generalize M 0 1 = x01 at *
  generalize M 0 2 = x02 at *
  generalize M 1 2 = x12 at *
  generalize M 0 3 = x03 at *
  generalize M 1 3 = x13 at *
  generalize M 2 3 = x23 at *
  generalize M 0 4 = x04 at *
  generalize M 1 4 = x14 at *
  generalize M 2 4 = x24 at *
  generalize M 3 4 = x34 at *
  clear h10 h20 h21 h30 h31 h32 h40 h41 h42 h43 r0 r1 r2 r3 r4
  grind

theorem pot_5214 (M : Int → Int → Int) (hs : ∀ a b, M a b = M b a) (r0 : M 0 0 = -(M 0 1 + M 0 2 + M 0 3 + M 0 4)) (r1 : M 1 1 = -(M 0 1 + M 1 2 + M 1 3 + M 1 4)) (r2 : M 2 2 = -(M 0 2 + M 1 2 + M 2 3 + M 2 4)) (r3 : M 3 3 = -(M 0 3 + M 1 3 + M 2 3 + M 3 4)) (r4 : M 4 4 = -(M 0 4 + M 1 4 + M 2 4 + M 3 4)) : detF M [0, 3, 4] [0, 3, 4] + detF M [0, 2, 3] [0, 2, 3] - detF M [0, 1, 3] [0, 1, 3] = 2 * (detF M [0, 3, 4] [0, 2, 3]) := by
  have h10 := hs 1 0
  have h20 := hs 2 0
  have h21 := hs 2 1
  have h30 := hs 3 0
  have h31 := hs 3 1
  have h32 := hs 3 2
  have h40 := hs 4 0
  have h41 := hs 4 1
  have h42 := hs 4 2
  have h43 := hs 4 3
  clear hs
  simp only [detF, sumTo, sgn, nth, List.length, List.getD_cons_zero, List.getD_cons_succ, List.eraseIdx, h10, h20, h30, h31, h32, h40, h42, h43, r0, r1, r2, r3, r4]
  generalize M 0 1 = x01 at *
  generalize M 0 2 = x02 at *
  generalize M 1 2 = x12 at *
  generalize M 0 3 = x03 at *
  generalize M 1 3 = x13 at *
  generalize M 2 3 = x23 at *
  generalize M 0 4 = x04 at *
  generalize M 1 4 = x14 at *
  generalize M 2 4 = x24 at *
  generalize M 3 4 = x34 at *
  clear h10 h20 h21 h30 h31 h32 h40 h41 h42 h43 r0 r1 r2 r3 r4
  grind

theorem pot_5230 (M : Int → Int → Int) (hs : ∀ a b, M a b = M b a) (r0 : M 0 0 = -(M 0 1 + M 0 2 + M 0 3 + M 0 4)) (r1 : M 1 1 = -(M 0 1 + M 1 2 + M 1 3 + M 1 4)) (r2 : M 2 2 = -(M 0 2 + M 1 2 + M 2 3 + M 2 4)) (r3 : M 3 3 = -(M 0 3 + M 1 3 + M 2 3 + M 3 4)) (r4 : M 4 4 = -(M 0 4 + M 1 4 + M 2 4 + M 3 4)) : detF M [0, 1, 4] [0, 1, 4] + detF M [1, 2, 4] [1, 2, 4] - detF M [1, 3, 4] [1, 3, 4] = 2 * (detF M [0, 1, 4] [1, 2, 4]) := by
  have h10 := hs 1 0
  have h20 := hs 2 0
  have h21 := hs 2 1
  have h30 := hs 3 0
  have h31 := hs 3 1
  have h32 := hs 3 2
  have h40 := hs 4 0
  have h41 := hs 4 1
  have h42 := hs 4 2
  have h43 := hs 4 3
  clear hs
  simp only [detF, sumTo, sgn, nth, List.length, List.getD_cons_zero, List.getD_cons_succ, List.eraseIdx, h10, h21, h31, h40, h41, h42, h43, r0, r1, r2, r3, r4]
  generalize M 0 1 = x01 at *
  generalize M 0 2 = x02 at *
  generalize M 1 2 = x12 at *
  generalize M 0 3 = x03 at *
  generalize M 1 3 = x13 at *
  generalize M 2 3 = x23 at *
  generalize M 0 4 = x04 at *
  generalize M 1 4 = x14 at *
  generalize M 2 4 = x24 at *
  generalize M 3 4 = x34 at *
  clear h10 h20 h21 h30 h31 h32 h40 h41 h42 h43 r0 r1 r2 r3 r4
  grind

theorem pot_5231 (M : Int → Int → Int) (hs : ∀ a b, M a b = M b a) (r0 : M 0 0 = -(M 0 1 + M 0 2 + M 0 3 + M 0 4)) (r1 : M 1 1 = -(M 0 1 + M 1 2 + M 1 3 + M 1 4)) (r2 : M 2 2 = -(M 0 2 + M 1 2 + M 2 3 + M 2 4)) (r3 : M 3 3 = -(M 0 3 + M 1 3 + M 2 3 + M 3 4)) (r4 : M 4 4 = -(M 0 4 + M 1 4 + M 2 4 + M 3 4)) : detF M [0, 1, 4] [0, 1, 4] + detF M [0, 2, 4] [0, 2, 4] - detF M [0, 3, 4] [0, 3, 4] = 2 * (-detF M [0, 1, 4] [0, 2, 4]) := by
  have h10 := hs 1 0
  have h20 := hs 2 0
  have h21 := hs 2 1
  have h30 := hs 3 0
  have h31 := hs 3 1
  have h32 := hs 3 2
  have h40 := hs 4 0
  have h41 := hs 4 1
  have h42 := hs 4 2
  have h43 := hs 4 3
  clear hs
  simp only [detF, sumTo, sgn, nth, List.length, List.getD_cons_zero, List.getD_cons_succ, List.eraseIdx, h10, h20, h30, h40, h41, h42, h43, r0, r1, r2, r3, r4]
  generalize M 0 1 = x01 at *
  generalize M 0 2 = x02 at *
  generalize M 1 2 = x12 at *
  generalize M 0 3 = x03 at *
  generalize M 1 3 = x13 at *
  generalize M 2 3 = x23 at *
  generalize M 0 4 = x04 at *
  generalize M 1 4 = x14 at *
  generalize M 2 4 = x24 at *
  generalize M 3 4 = x34 at *
  clear h10 h20 h21 h30 h31 h32 h40 h41 h42 h43 r0 r1 r2 r3 r4
  grind

theorem pot_5234 (M : Int → Int → Int) (hs : ∀ a b, M a b = M b a) (r0 : M 0 0 = -(M 0 1 + M 0 2 + M 0 3 + M 0 4)) (r1 : M 1 1 = -(M 0 1 + M 1 2 + M 1 3 + M 1 4)) (r2 : M 2 2 = -(M 0 2 + M 1 2 + M 2 3 + M 2 4)) (r3 : M 3 3 = -(M 0 3 + M 1 3 + M 2 3 + M 3 4)) (r4 : M 4 4 = -(M 0 4 + M 1 4 + M 2 4 + M 3 4)) : detF M [0, 1, 4] [0, 1, 4] + detF M [0, 1, 2] [0, 1, 2] - detF M [0, 1, 3] [0, 1, 3] = 2 * (-detF M [0, 1, 4] [0, 1, 2]) := by
  have h10 := hs 1 0
  have h20 := hs 2 0
  have h21 := hs 2 1
  have h30 := hs 3 0
  have h31 := hs 3 1
  have h32 := hs 3 2
  have h40 := hs 4 0
  have h41 := hs 4 1
  have h42 := hs 4 2
  have h43 := hs 4 3
  clear hs
  simp only [detF, sumTo, sgn, nth, List.length, List.getD_cons_zero, List.getD_cons_succ, List.eraseIdx, h10, h20, h21, h30, h31, h40, h41, h42, r0, r1, r2, r3, r4]
  generalize M 0 1 = x01 at *
  generalize M 0 2 = x02 at *
  generalize M 1 2 = x12 at *
  generalize M 0 3 = x03 at *
  generalize M 1 3 = x13 at *
  generalize M 2 3 = x23 at *
  generalize M 0 4 = x04 at *
  generalize M 1 4 = x14 at *
  generalize M 2 4 = x24 at *
  generalize M 3 4 = x34 at *
  clear h10 h20 h21 h30 h31 h32 h40 h41 h42 h43 r0 r1 r2 r3 r4
  grind

theorem pot_5240 (M : Int → Int → Int) (hs : ∀ a b, M a b = M b a) (r0 : M 0 0 = -(M 0 1 + M 0 2 + M 0 3 + M 0 4)) (r1 : M 1 1 = -(M 0 1 + M 1 2 + M 1 3 + M 1 4)) (r2 : M 2 2 = -(M 0 2 + M 1 2 + M 2 3 + M 2 4)) (r3 : M 3 3 = -(M 0 3 + M 1 3 + M 2 3 + M 3 4)) (r4 : M 4 4 = -(M 0 4 + M 1 4 + M 2 4 + M 3 4)) : detF M [0, 1, 3] [0, 1, 3] + detF M [1, 2, 3] [1, 2, 3] - detF M [1, 3, 4] [1, 3, 4] = 2 * (detF M [0, 1, 3] [1, 2, 3]) := by
  have h10 := hs 1 0
  have h20 := hs 2 0
  have h21 := hs 2 1
  have h30 := hs 3 0
  have h31 := hs 3 1
  have h32 := hs 3 2
  have h40 := hs 4 0
  have h41 := hs 4 1
  have h42 := hs 4 2
  have h43 := hs 4 3
  clear hs
  simp only [detF, sumTo, sgn, nth, List.length, List.getD_cons_zero, List.getD_cons_succ, List.eraseIdx, h10, h21, h30, h31, h32, h41, h43, r0, r1, r2, r3, r4]
  generalize M 0 1 = x01 at *
  generalize M 0 2 = x02 at *
  generalize M 1 2 = x12 at *
  generalize M 0 3 = x03 at *
  generalize M 1 3 = x13 at *
  generalize M 2 3 = x23 at *
  generalize M 0 4 = x04 at *
  generalize M 1 4 = x14 at *
  generalize M 2 4 = x24 at *
  generalize M 3 4 = x34 at *
  clear h10 h20 h21 h30 h31 h32 h40 h41 h42 h43 r0 r1 r2 r3 r4
  grind

theorem pot_5241 (M : Int → Int → Int) (hs : ∀ a b, M a b = M b a) (r0 : M 0 0 = -(M 0 1 + M 0 2 + M 0 3 + M 0 4)) (r1 : M 1 1 = -(M 0 1 + M 1 2 + M 1 3 + M 1 4)) (r2 : M 2 2 = -(M 0 2 + M 1 2 + M 2 3 + M 2 4)) (r3 : M 3 3 = -(M 0 3 + M 1 3 + M 2 3 + M 3 4)) (r4 : M 4 4 = -(M 0 4 + M 1 4 + M 2 4 + M 3 4)) : detF M [0, 1, 3] [0, 1, 3] + detF M [0, 2, 3] [0, 2, 3] - detF M [0, 3, 4] [0, 3, 4] = 2 * (-detF M [0, 1, 3] [0, 2, 3]) := by
  have h10 := hs 1 0
  have h20 := hs 2 0
  have h21 := hs 2 1
  have h30 := hs 3 0
  have h31 := hs 3 1
  have h32 := hs 3 2
  have h40 := hs 4 0
  have h41 := hs 4 1
  have h42 := hs 4 2
  have h43 := hs 4 3
  clear hs
  simp only [detF, sumTo, sgn, nth, List.length, List.getD_cons_zero, List.getD_cons_succ, List.eraseIdx, h10, h20, h30, h31, h32, h40, h43, r0, r1, r2, r3, r4]
  generalize M 0 1 = x01 at *
  generalize M 0 2 = x02 at *
  generalize M 1 2 = x12 at *
  generalize M 0 3 = x03 at *
  generalize M 1 3 = x13 at *
  generalize M 2 3 = x23 at *
  generalize M 0 4 = x04 at *
  generalize M 1 4 = x14 at *
  generalize M 2 4 = x24 at *
  generalize M 3 4 = x34 at *
  clear h10 h20 h21 h30 h31 h32 h40 h41 h42 h43 r0 r1 r2 r3 r4
  grind

theorem pot_5243 (M : Int → Int → Int) (hs : ∀ a b, M a b = M b a) (r0 : M 0 0 = -(M 0 1 + M 0 2 + M 0 3 + M 0 4)) (r1 : M 1 1 = -(M 0 1 + M 1 2 + M 1 3 + M 1 4)) (r2 : M 2 2 = -(M 0 2 + M 1 2 + M 2 3 + M 2 4)) (r3 : M 3 3 = -(M 0 3 + M 1 3 + M 2 3 + M 3 4)) (r4 : M 4 4 = -(M 0 4 + M 1 4 + M 2 4 + M 3 4)) : detF M [0, 1, 3] [0, 1, 3] + detF M [0, 1, 2] [0, 1, 2] - detF M [0, 1, 4] [0, 1, 4] = 2 * (-detF M [0, 1, 3] [0, 1, 2]) := by
  have h10 := hs 1 0
  have h20 := hs 2 0
  have h21 := hs 2 1
  have h30 := hs 3 0
  have h31 := hs 3 1
  have h32 := hs 3 2
  have h40 := hs 4 0
  have h41 := hs 4 1
  have h42 := hs 4 2
  have h43 := hs 4 3
  clear hs
  simp only [detF, sumTo, sgn, nth, List.length, List.getD_cons_zero, List.getD_cons_succ, List.eraseIdx, h10, h20, h21, h30, h31, h32, h40, h41, r0, r1, r2, r3, r4]
  generalize M 0 1 = x01 at *
  generalize M 0 2 = x02 at *
  generalize M 1 2 = x12 at *
  generalize M 0 3 = x03 at *
  generalize M 1 3 = x13 at *
  generalize M 2 3 = x23 at *
  generalize M 0 4 = x04 at *
  generalize M 1 4 = x14 at *
  generalize M 2 4 = x24 at *
  generalize M 3 4 = x34 at *
  clear h10 h20 h21 h30 h31 h32 h40 h41 h42 h43 r0 r1 r2 r3 r4
  grind

theorem pot_5301 (M : Int → Int → Int) (hs : ∀ a b, M a b = M b a) (r0 : M 0 0 = -(M 0 1 + M 0 2 + M 0 3 + M 0 4)) (r1 : M 1 1 = -(M 0 1 + M 1 2 + M 1 3 + M 1 4)) (r2 : M 2 2 = -(M 0 2 + M 1 2 + M 2 3 + M 2 4)) (r3 : M 3 3 = -(M 0 3 + M 1 3 + M 2 3 + M 3 4)) (r4 : M 4 4 = -(M 0 4 + M 1 4 + M 2 4 + M 3 4)) : detF M [1, 2, 4] [1, 2, 4] + detF M [2, 3, 4] [2, 3, 4] - detF M [0, 2, 4] [0, 2, 4] = 2 * (detF M [1, 2, 4] [2, 3, 4]) := by
  have h10 := hs 1 0
  have h20 := hs 2 0
  have h21 := hs 2 1
  have h30 := hs 3 0
  have h31 := hs 3 1
  have h32 := hs 3 2
  have h40 := hs 4 0
  have h41 := hs 4 1
  have h42 := hs 4 2
  have h43 := hs 4 3
  clear hs
  simp only [detF, sumTo, sgn, nth, List.length, List.getD_cons_zero, List.getD_cons_succ, List.eraseIdx, h20, h21, h32, h40, h41, h42, h43, r0, r1, r2, r3, r4]
  generalize M 0 1 = x01 at *
  generalize M 0 2 = x02 at *
  generalize M 1 2 = x12 at *
  generalize M 0 3 = x03 at *
  generalize M 1 3 = x13 at *
  generalize M 2 3 = x23 at *
  generalize M 0 4 = x04 at *
  generalize M 1 4 = x14 at *
  generalize M 2 4 = x24 at *
  generalize M 3 4 = x34 at *
  clear h10 h20 h21 h30 h31 h32 h40 h41 h42 h43 r0 r1 r2 r3 r4
  grind

theorem pot_5302 (M : Int → Int → Int) (hs : ∀ a b, M a b = M b a) (r0 : M 0 0 = -(M 0 1 + M 0 2 + M 0 3 + M 0 4)) (r1 : M 1 1 = -(M 0 1 + M 1 2 + M 1 3 + M 1 4)) (r2 : M 2 2 = -(M 0 2 + M 1 2 + M 2 3 + M 2 4)) (r3 : M 3 3 = -(M 0 3 + M 1 3 + M 2 3 + M 3 4)) (r4 : M 4 4 = -(M 0 4 + M 1 4 + M 2 4 + M 3 4)) : detF M [1, 2, 4] [1, 2, 4] + detF M [1, 3, 4] [1, 3, 4] - detF M [0, 1, 4] [0, 1, 4] = 2 * (-detF M [1, 2, 4] [1, 3, 4]) := by
  have h10 := hs 1 0
  have h20 := hs 2 0
  have h21 := hs 2 1
  have h30 := hs 3 0
  have h31 := hs 3 1
  have h32 := hs 3 2
  have h40 := hs 4 0
  have h41 := hs 4 1
  have h42 := hs 4 2
  have h43 := hs 4 3
  clear hs
  simp only [detF, sumTo, sgn, nth, List.length, List.getD_cons_zero, List.getD_cons_succ, List.eraseIdx, h10, h21, h31, h40, h41, h42, h43, r0, r1, r2, r3, r4]
  generalize M 0 1 = x01 at *
  generalize M 0 2 = x02 at *
  generalize M 1 2 = x12 at *
  generalize M 0 3 = x03 at *
  generalize M 1 3 = x13 at *
  generalize M 2 3 = x23 at *
  generalize M 0 4 = x04 at *
  generalize M 1 4 = x14 at *
  generalize M 2 4 = x24 at *
  generalize M 3 4 = x34 at *
  clear h10 h20 h21 h30 h31 h32 h40 h41 h42 h43 r0 r1 r2 r3 r4
  grind

theorem pot_5304 (M : Int → Int → Int) (hs : ∀ a b, M a b = M b a) (r0 : M 0 0 = -(M 0 1 + M 0 2 + M 0 3 + M 0 4)) (r1 : M 1 1 = -(M 0 1 + M 1 2 + M 1 3 + M 1 4)) (r2 : M 2 2 = -(M 0 2 + M 1 2 + M 2 3 + M 2 4)) (r3 : M 3 3 = -(M 0 3 + M 1 3 + M 2 3 + M 3 4)) (r4 : M 4 4 = -(M 0 4 + M 1 4 + M 2 4 + M 3 4)) : detF M [1, 2, 4] [1, 2, 4] + detF M [1, 2, 3] [1, 2, 3] - detF M [0, 1, 2] [0, 1, 2] = 2 * (-detF M [1, 2, 4] [1, 2, 3]) := by
  have h10 := hs 1 0
  have h20 := hs 2 0
  have h21 := hs 2 1
  have h30 := hs 3 0
  have h31 := hs 3 1
  have h32 := hs 3 2
  have h40 := hs 4 0
  have h41 := hs 4 1
  have h42 := hs 4 2
  have h43 := hs 4 3
  clear hs
  simp only [detF, sumTo, sgn, nth, List.length, List.getD_cons_zero, List.getD_cons_succ, List.eraseIdx, h10, h20, h21, h31, h32, h41, h42, h43, r0, r1, r2, r3, r4]
  generalize M 0 1 = x01 at *
  generalize M 0 2 = x02 at *
  generalize M 1 2 = x12 at *
  generalize M 0 3 = x03 at *
  generalize M 1 3 = x13 at *
  generalize M 2 3 = x23 at *
  generalize M 0 4 = x04 at *
  generalize M 1 4 = x14 at *
  generalize M 2 4 = x24 at *
  generalize M 3 4 = x34 at *
  clear h10 h20 h21 h30 h31 h32 h40 h41 h42 h43 r0 r1 r2 r3 r4
  grind

theorem pot_5310 (M : Int → Int → Int) (hs : ∀ a b, M a b = M b a) (r0 : M 0 0 = -(M 0 1 + M 0 2 + M 0 3 + M 0 4)) (r1 : M 1 1 = -(M 0 1 + M 1 2 + M 1 3 + M 1 4)) (r2 : M 2 2 = -(M 0 2 + M 1 2 + M 2 3 + M 2 4)) (r3 : M 3 3 = -(M 0 3 + M 1 3 + M 2 3 + M 3 4)) (r4 : M 4 4 = -(M 0 4 + M 1 4 + M 2 4 + M 3 4)) : detF M [0, 2, 4] [0, 2, 4] + detF M [2, 3, 4] [2, 3, 4] - detF M [1, 2, 4] [1, 2, 4] = 2 * (detF M [0, 2, 4] [2, 3, 4]) := by
  have h10 := hs 1 0
  have h20 := hs 2 0
  have h21 := hs 2 1
  have h30 := hs 3 0
  have h31 := hs 3 1
  have h32 := hs 3 2
  have h40 := hs 4 0
  have h41 := hs 4 1
  have h42 := hs 4 2
  have h43 := hs 4 3
  clear hs
  simp only [detF, sumTo, sgn, nth, List.length, List.getD_cons_zero, List.getD_cons_succ, List.eraseIdx, h20, h21, h32, h40, h41, h42, h43, r0, r1, r2, r3, r4]
  generalize M 0 1 = x01 at *
  generalize M 0 2 = x02 at *
  generalize M 1 2 = x12 at *
  generalize M 0 3 = x03 at *
  generalize M 1 3 = x13 at *
  generalize M 2 3 = x23 at *
  generalize M 0 4 = x04 at *
  generalize M 1 4 = x14 at *
  generalize M 2 4 = x24 at *
  generalize M 3 4 = x34 at *
  clear h10 h20 h21 h30 h31 h32 h40 h41 h42 h43 r0 r1 r2 r3 r4
  grind

theorem pot_5312 (M : Int → Int → Int) (hs : ∀ a b, M a b = M b a) (r0 : M 0 0 = -(M 0 1 + M 0 2 + M 0 3 + M 0 4)) (r1 : M 1 1 = -(M 0 1 + M 1 2 + M 1 3 + M 1 4)) (r2 : M 2 2 = -(M 0 2 + M 1 2 + M 2 3 + M 2 4)) (r3 : M 3 3 = -(M 0 3 + M 1 3 + M 2 3 + M 3 4)) (r4 : M 4 4 = -(M 0 4 + M 1 4 + M 2 4 + M 3 4)) : detF M [0, 2, 4] [0, 2, 4] + detF M [0, 3, 4] [0, 3, 4] - detF M [0, 1, 4] [0, 1, 4] = 2 * (-detF M [0, 2, 4] [0, 3, 4]) := by
  have h10 := hs 1 0
  have h20 := hs 2 0
  have h21 := hs 2 1
  have h30 := hs 3 0
  have h31 := hs 3 1
  have h32 := hs 3 2
  have h40 := hs 4 0
  have h41 := hs 4 1
  have h42 := hs 4 2
  have h43 := hs 4 3
  clear hs
  simp only [detF, sumTo, sgn, nth, List.length, List.getD_cons_zero, List.getD_cons_succ, List.eraseIdx, h10, h20, h30, h40, h41, h42, h43, r0, r1, r2, r3, r4]
  generalize M 0 1 = x01 at *
  generalize M 0 2 = x02 at *
  generalize M 1 2 = x12 at *
  generalize M 0 3 = x03 at *
  generalize M 1 3 = x13 at *
  generalize M 2 3 = x23 at *
  generalize M 0 4 = x04 at *
  generalize M 1 4 = x14 at *
  generalize M 2 4 = x24 at *
  generalize M 3 4 = x34 at *
  clear h10 h20 h21 h30 h31 h32 h40 h41 h42 h43 r0 r1 r2 r3 r4
  grind

theorem pot_5314 (M : Int → Int → Int) (hs : ∀ a b, M a b = M b a) (r0 : M 0 0 = -(M 0 1 + M 0 2 + M 0 3 + M 0 4)) (r1 : M 1 1 = -(M 0 1 + M 1 2 + M 1 3 + M 1 4)) (r2 : M 2 2 = -(M 0 2 + M 1 2 + M 2 3 + M 2 4)) (r3 : M 3 3 = -(M 0 3 + M 1 3 + M 2 3 + M 3 4)) (r4 : M 4 4 = -(M 0 4 + M 1 4 + M 2 4 + M 3 4)) : detF M [0, 2, 4] [0, 2, 4] + detF M [0, 2, 3] [0, 2, 3] - detF M [0, 1, 2] [0, 1, 2] = 2 * (-detF M [0, 2, 4] [0, 2, 3]) := by
  have h10 := hs 1 0
  have h20 := hs 2 0
  have h21 := hs 2 1
  have h30 := hs 3 0
  have h31 := hs 3 1
  have h32 := hs 3 2
  have h40 := hs 4 0
  have h41 := hs 4 1
  have h42 := hs 4 2
  have h43 := hs 4 3
  clear hs
  simp only [detF, sumTo, sgn, nth, List.length, List.getD_cons_zero, List.getD_cons_succ, List.eraseIdx, h10, h20, h21, h30, h32, h40, h42, h43, r0, r1, r2, r3, r4]
  generalize M 0 1 = x01 at *
  generalize M 0 2 = x02 at *
  generalize M 1 2 = x12 at *
  generalize M 0 3 = x03 at *
  generalize M 1 3 = x13 at *
  generalize M 2 3 = x23 at *
  generalize M 0 4 = x04 at *
  generalize M 1 4 = x14 at *
  generalize M 2 4 = x24 at *
  generalize M 3 4 = x34 at *
  clear h10 h20 h21 h30 h31 h32 h40 h41 h42 h43 r0 r1 r2 r3 r4
  grind

theorem pot_5320 (M : Int → Int → Int) (hs : ∀ a b, M a b = M b a) (r0 : M 0 0 = -(M 0 1 + M 0 2 + M 0 3 + M 0 4)) (r1 : M 1 1 = -(M 0 1 + M 1 2 + M 1 3 + M 1 4)) (r2 : M 2 2 = -(M 0 2 + M 1 2 + M 2 3 + M 2 4)) (r3 : M 3 3 = -(M 0 3 + M 1 3 + M 2 3 + M 3 4)) (r4 : M 4 4 = -(M 0 4 + M 1 4 + M 2 4 + M 3 4)) : detF M [0, 1, 4] [0, 1, 4] + detF M [1, 3, 4] [1, 3, 4] - detF M [1, 2, 4] [1, 2, 4] = 2 * (detF M [0, 1, 4] [1, 3, 4]) := by
  have h10 := hs 1 0
  have h20 := hs 2 0
  have h21 := hs 2 1
  have h30 := hs 3 0
  have h31 := hs 3 1
  have h32 := hs 3 2
  have h40 := hs 4 0
  have h41 := hs 4 1
  have h42 := hs 4 2
  have h43 := hs 4 3
  clear hs
  simp only [detF, sumTo, sgn, nth, List.length, List.getD_cons_zero, List.getD_cons_succ, List.eraseIdx, h10, h21, h31, h40, h41, h42, h43, r0, r1, r2, r3, r4]
  generalize M 0 1 = x01 at *
  generalize M 0 2 = x02 at *
  generalize M 1 2 = x12 at *
  generalize M 0 3 = x03 at *
  generalize M 1 3 = x13 at *
  generalize M 2 3 = x23 at *
  generalize M 0 4 = x04 at *
  generalize M 1 4 = x14 at *
  generalize M 2 4 = x24 at *
  generalize M 3 4 = x34 at *
  clear h10 h20 h21 h30 h31 h32 h40 h41 h42 h43 r0 r1 r2 r3 r4
  grind

theorem pot_5321 (M : Int → Int → Int) (hs : ∀ a b, M a b = M b a) (r0 : M 0 0 = -(M 0 1 + M 0 2 + M 0 3 + M 0 4)) (r1 : M 1 1 = -(M 0 1 + M 1 2 + M 1 3 + M 1 4)) (r2 : M 2 2 = -(M 0 2 + M 1 2 + M 2 3 + M 2 4)) (r3 : M 3 3 = -(M 0 3 + M 1 3 + M 2 3 + M 3 4)) (r4 : M 4 4 = -(M 0 4 + M 1 4 + M 2 4 + M 3 4)) : detF M [0, 1, 4] [0, 1, 4] + detF M [0, 3, 4] [0, 3, 4] - detF M [0, 2, 4] [0, 2, 4] = 2 * (-detF M [0, 1, 4] [0, 3, 4]) := by
  have h10 := hs 1 0
  have h20 := hs 2 0
  have h21 := hs 2 1
  have h30 := hs 3 0
  have h31 := hs 3 1
  have h32 := hs 3 2
  have h40 := hs 4 0
  have h41 := hs 4 1
  have h42 := hs 4 2
  have h43 := hs 4 3
  clear hs
  simp only [detF, sumTo, sgn, nth, List.length, List.getD_cons_zero, List.getD_cons_succ, List.eraseIdx, h10, h20, h30, h40, h41, h42, h43, r0, r1, r2, r3, r4]
  generalize M 0 1 = x01 at *
  generalize M 0 2 = x02 at *
  generalize M 1 2 = x12 at *
  generalize M 0 3 = x03 at *
  generalize M 1 3 = x13 at *
  generalize M 2 3 = x23 at *
  generalize M 0 4 = x04 at *
  generalize M 1 4 = x14 at *
  generalize M 2 4 = x24 at *
  generalize M 3 4 = x34 at *
  clear h10 h20 h21 h30 h31 h32 h40 h41 h42 h43 r0 r1 r2 r3 r4
  grind

theorem pot_5324 (M : Int → Int → Int) (hs : ∀ a b, M a b = M b a) (r0 : M 0 0 = -(M 0 1 + M 0 2 + M 0 3 + M 0 4)) (r1 : M 1 1 = -(M 0 1 + M 1 2 + M 1 3 + M 1 4)) (r2 : M 2 2 = -(M 0 2 + M 1 2 + M 2 3 + M 2 4)) (r3 : M 3 3 = -(M 0 3 + M 1 3 + M 2 3 + M 3 4)) (r4 : M 4 4 = -(M 0 4 + M 1 4 + M 2 4 + M 3 4)) : detF M [0, 1, 4] [0, 1, 4] + detF M [0, 1, 3] [0, 1, 3] - detF M [0, 1, 2] [0, 1, 2] = 2 * (-detF M [0, 1, 4] [0, 1, 3]) := by
  have h10 := hs 1 0
  have h20 := hs 2 0
  have h21 := hs 2 1
  have h30 := hs 3 0
  have h31 := hs 3 1
  have h32 := hs 3 2
  have h40 := hs 4 0
  have h41 := hs 4 1
  have h42 := hs 4 2
  have h43 := hs 4 3
  clear hs
  simp only [detF, sumTo, sgn, nth, List.length, List.getD_cons_zero, List.getD_cons_succ, List.eraseIdx, h10, h20, h21, h30, h31, h40, h41, h43, r0, r1, r2, r3, r4]
  generalize M 0 1 = x01 at *
  generalize M 0 2 = x02 at *
  generalize M 1 2 = x12 at *
  generalize M 0 3 = x03 at *
  generalize M 1 3 = x13 at *
  generalize M 2 3 = x23 at *
  generalize M 0 4 = x04 at *
  generalize M 1 4 = x14 at *
  generalize M 2 4 = x24 at *
  generalize M 3 4 = x34 at *
  clear h10 h20 h21 h30 h31 h32 h40 h41 h42 h43 r0 r1 r2 r3 r4
  grind

theorem pot_5340 (M : Int → Int → Int) (hs : ∀ a b, M a b = M b a) (r0 : M 0 0 = -(M 0 1 + M 0 2 + M 0 3 + M 0 4)) (r1 : M 1 1 = -(M 0 1 + M 1 2 + M 1 3 + M 1 4)) (r2 : M 2 2 = -(M 0 2 + M 1 2 + M 2 3 + M 2 4)) (r3 : M 3 3 = -(M 0 3 + M 1 3 + M 2 3 + M 3 4)) (r4 : M 4 4 = -(M 0 4 + M 1 4 + M 2 4 + M 3 4)) : detF M [0, 1, 2] [0, 1, 2] + detF M [1, 2, 3] [1, 2, 3] - detF M [1, 2, 4] [1, 2, 4] = 2 * (-detF M [0, 1, 2] [1, 2, 3]) := by
  have h10 := hs 1 0
  have h20 := hs 2 0
  have h21 := hs 2 1
  have h30 := hs 3 0
  have h31 := hs 3 1
  have h32 := hs 3 2
  have h40 := hs 4 0
  have h41 := hs 4 1
  have h42 := hs 4 2
  have h43 := hs 4 3
  clear hs
  simp only [detF, sumTo, sgn, nth, List.length, List.getD_cons_zero, List.getD_cons_succ, List.eraseIdx, h10, h20, h21, h31, h32, h41, h42, r0, r1, r2, r3, r4]
  generalize M 0 1 = x01 at *
  generalize M 0 2 = x02 at *
  generalize M 1 2 = x12 at *
  generalize M 0 3 = x03 at *
  generalize M 1 3 = x13 at *
  generalize M 2 3 = x23 at *
  generalize M 0 4 = x04 at *
  generalize M 1 4 = x14 at *
  generalize M 2 4 = x24 at *
  generalize M 3 4 = x34 at *
  clear h10 h20 h21 h30 h31 h32 h40 h41 h42 h43 r0 r1 r2 r3 r4
  grind

theorem pot_5341 (M : Int → Int → Int) (hs : ∀ a b, M a b = M b a) (r0 : M 0 0 = -(M 0 1 + M 0 2 + M 0 3 + M 0 4)) (r1 : M 1 1 = -(M 0 1 + M 1 2 + M 1 3 + M 1 4)) (r2 : M 2 2 = -(M 0 2 + M 1 2 + M 2 3 + M 2 4)) (r3 : M 3 3 = -(M 0 3 + M 1 3 + M 2 3 + M 3 4)) (r4 : M 4 4 = -(M 0 4 + M 1 4 + M 2 4 + M 3 4)) : detF M [0, 1, 2] [0, 1, 2] + detF M [0, 2, 3] [0, 2, 3] - detF M [0, 2, 4] [0, 2, 4] = 2 * (detF M [0, 1, 2] [0, 2, 3]) := by
  have h10 := hs 1 0
  have h20 := hs 2 0
  have h21 := hs 2 1
  have h30 := hs 3 0
  have h31 := hs 3 1
  have h32 := hs 3 2
  have h40 := hs 4 0
  have h41 := hs 4 1
  have h42 := hs 4 2
  have h43 := hs 4 3
  clear hs
  simp only [detF, sumTo, sgn, nth, List.length, List.getD_cons_zero, List.getD_cons_succ, List.eraseIdx, h10, h20, h21, h30, h32, h40, h42, r0, r1, r2, r3, r4]
  generalize M 0 1 = x01 at *
  generalize M 0 2 = x02 at *
  generalize M 1 2 = x12 at *
  generalize M 0 3 = x03 at *
  generalize M 1 3 = x13 at *
  generalize M 2 3 = x23 at *
  generalize M 0 4 = x04 at *
  generalize M 1 4 = x14 at *
  generalize M 2 4 = x24 at *
  generalize M 3 4 = x34 at *
  clear h10 h20 h21 h30 h31 h32 h40 h41 h42 h43 r0 r1 r2 r3 r4
  grind

theorem pot_5342 (M : Int → Int → Int) (hs : ∀ a b, M a b = M b a) (r0 : M 0 0 = -(M 0 1 + M 0 2 + M 0 3 + M 0 4)) (r1 : M 1 1 = -(M 0 1 + M 1 2 + M 1 3 + M 1 4)) (r2 : M 2 2 = -(M 0 2 + M 1 2 + M 2 3 + M 2 4)) (r3 : M 3 3 = -(M 0 3 + M 1 3 + M 2 3 + M 3 4)) (r4 : M 4 4 = -(M 0 4 + M 1 4 + M 2 4 + M 3 4)) : detF M [0, 1, 2] [0, 1, 2] + detF M [0, 1, 3] [0, 1, 3] - detF M [0, 1, 4] [0, 1, 4] = 2 * (-detF M [0, 1, 2] [0, 1, 3]) := by
  have h10 := hs 1 0
  have h20 := hs 2 0
  have h21 := hs 2 1
  have h30 := hs 3 0
  have h31 := hs 3 1
  have h32 := hs 3 2
  have h40 := hs 4 0
  have h41 := hs 4 1
  have h42 := hs 4 2
  have h43 := hs 4 3
  clear hs
  simp only [detF, sumTo, sgn, nth, List.length, List.getD_cons_zero, List.getD_cons_succ, List.eraseIdx, h10, h20, h21, h30, h31, h40, h41, r0, r1, r2, r3, r4]
  generalize M 0 1 = x01 at *
  generalize M 0 2 = x02 at *
  generalize M 1 2 = x12 at *
  generalize M 0 3 = x03 at *
  generalize M 1 3 = x13 at *
  generalize M 2 3 = x23 at *
  generalize M 0 4 = x04 at *
  generalize M 1 4 = x14 at *
  generalize M 2 4 = x24 at *
  generalize M 3 4 = x34 at *
  clear h10 h20 h21 h30 h31 h32 h40 h41 h42 h43 r0 r1 r2 r3 r4
  grind

theorem pot_5401 (M : Int → Int → Int) (hs : ∀ a b, M a b = M b a) (r0 : M 0 0 = -(M 0 1 + M 0 2 + M 0 3 + M 0 4)) (r1 : M 1 1 = -(M 0 1 + M 1 2 + M 1 3 + M 1 4)) (r2 : M 2 2 = -(M 0 2 + M 1 2 + M 2 3 + M 2 4)) (r3 : M 3 3 = -(M 0 3 + M 1 3 + M 2 3 + M 3 4)) (r4 : M 4 4 = -(M 0 4 + M 1 4 + M 2 4 + M 3 4)) : detF M [1, 2, 3] [1, 2, 3] + detF M [2, 3, 4] [2, 3, 4] - detF M [0, 2, 3] [0, 2, 3] = 2 * (-detF M [1, 2, 3] [2, 3, 4]) := by
  have h10 := hs 1 0
  have h20 := hs 2 0
  have h21 := hs 2 1
  have h30 := hs 3 0
  have h31 := hs 3 1
  have h32 := hs 3 2
  have h40 := hs 4 0
  have h41 := hs 4 1
  have h42 := hs 4 2
  have h43 := hs 4 3
  clear hs
  simp only [detF, sumTo, sgn, nth, List.length, List.getD_cons_zero, List.getD_cons_succ, List.eraseIdx, h20, h21, h30, h31, h32, h42, h43, r0, r1, r2, r3, r4]
  generalize M 0 1 = x01 at *
  generalize M 0 2 = x02 at *
  generalize M 1 2 = x12 at *
  generalize M 0 3 = x03 at *
  generalize M 1 3 = x13 at *
  generalize M 2 3 = x23 at *
  generalize M 0 4 = x04 at *
  generalize M 1 4 = x14 at *
  generalize M 2 4 = x24 at *
  generalize M 3 4 = x34 at *
  clear h10 h20 h21 h30 h31 h32 h40 h41 h42 h43 r0 r1 r2 r3 r4
  grind

theorem pot_5402 (M : Int → Int → Int) (hs : ∀ a b, M a b = M b a) (r0 : M 0 0 = -(M 0 1 + M 0 2 + M 0 3 + M 0 4)) (r1 : M 1 1 = -(M 0 1 + M 1 2 + M 1 3 + M 1 4)) (r2 : M 2 2 = -(M 0 2 + M 1 2 + M 2 3 + M 2 4)) (r3 : M 3 3 = -(M 0 3 + M 1 3 + M 2 3 + M 3 4)) (r4 : M 4 4 = -(M 0 4 + M 1 4 + M 2 4 + M 3 4)) : detF M [1, 2, 3] [1, 2, 3] + detF M [1, 3, 4] [1, 3, 4] - detF M [0, 1, 3] [0, 1, 3] = 2 * (detF M [1, 2, 3] [1, 3, 4]) := by
  have h10 := hs 1 0
  have h20 := hs 2 0
  have h21 := hs 2 1
  have h30 := hs 3 0
  have h31 := hs 3 1
  have h32 := hs 3 2
  have h40 := hs 4 0
  have h41 := hs 4 1
  have h42 := hs 4 2
  have h43 := hs 4 3
  clear hs
  simp only [detF, sumTo, sgn, nth, List.length, List.getD_cons_zero, List.getD_cons_succ, List.eraseIdx, h10, h21, h30, h31, h32, h41, h43, r0, r1, r2, r3, r4]
  generalize M 0 1 = x01 at *
  generalize M 0 2 = x02 at *
  generalize M 1 2 = x12 at *
  generalize M 0 3 = x03 at *
  generalize M 1 3 = x13 at *
  generalize M 2 3 = x23 at *
  generalize M 0 4 = x04 at *
  generalize M 1 4 = x14 at *
  generalize M 2 4 = x24 at *
  generalize M 3 4 = x34 at *
  clear h10 h20 h21 h30 h31 h32 h40 h41 h42 h43 r0 r1 r2 r3 r4
  grind

theorem pot_5403 (M : Int → Int → Int) (hs : ∀ a b, M a b = M b a) (r0 : M 0 0 = -(M 0 1 + M 0 2 + M 0 3 + M 0 4)) (r1 : M 1 1 = -(M 0 1 + M 1 2 + M 1 3 + M 1 4)) (r2 : M 2 2 = -(M 0 2 + M 1 2 + M 2 3 + M 2 4)) (r3 : M 3 3 = -(M 0 3 + M 1 3 + M 2 3 + M 3 4)) (r4 : M 4 4 = -(M 0 4 + M 1 4 + M 2 4 + M 3 4)) : detF M [1, 2, 3] [1, 2, 3] + detF M [1, 2, 4] [1, 2, 4] - detF M [0, 1, 2] [0, 1, 2] = 2 * (-detF M [1, 2, 3] [1, 2, 4]) := by
  have h10 := hs 1 0
  have h20 := hs 2 0
  have h21 := hs 2 1
  have h30 := hs 3 0
  have h31 := hs 3 1
  have h32 := hs 3 2
  have h40 := hs 4 0
  have h41 := hs 4 1
  have h42 := hs 4 2
  have h43 := hs 4 3
  clear hs
  simp only [detF, sumTo, sgn, nth, List.length, List.getD_cons_zero, List.getD_cons_succ, List.eraseIdx, h10, h20, h21, h31, h32, h41, h42, r0, r1, r2, r3, r4]
  generalize M 0 1 = x01 at *
  generalize M 0 2 = x02 at *
  generalize M 1 2 = x12 at *
  generalize M 0 3 = x03 at *
  generalize M 1 3 = x13 at *
  generalize M 2 3 = x23 at *
  generalize M 0 4 = x04 at *
  generalize M 1 4 = x14 at *
  generalize M 2 4 = x24 at *
  generalize M 3 4 = x34 at *
  clear h10 h20 h21 h30 h31 h32 h40 h41 h42 h43 r0 r1 r2 r3 r4
  grind

theorem pot_5410 (M : Int → Int → Int) (hs : ∀ a b, M a b = M b a) (r0 : M 0 0 = -(M 0 1 + M 0 2 + M 0 3 + M 0 4)) (r1 : M 1 1 = -(M 0 1 + M 1 2 + M 1 3 + M 1 4)) (r2 : M 2 2 = -(M 0 2 + M 1 2 + M 2 3 + M 2 4)) (r3 : M 3 3 = -(M 0 3 + M 1 3 + M 2 3 + M 3 4)) (r4 : M 4 4 = -(M 0 4 + M 1 4 + M 2 4 + M 3 4)) : detF M [0, 2, 3] [0, 2, 3] + detF M [2, 3, 4] [2, 3, 4] - detF M [1, 2, 3] [1, 2, 3] = 2 * (-detF M [0, 2, 3] [2, 3, 4]) := by
  have h10 := hs 1 0
  have h20 := hs 2 0
  have h21 := hs 2 1
  have h30 := hs 3 0
  have h31 := hs 3 1
  have h32 := hs 3 2
  have h40 := hs 4 0
  have h41 := hs 4 1
  have h42 := hs 4 2
  have h43 := hs 4 3
  clear hs
  simp only [detF, sumTo, sgn, nth, List.length, List.getD_cons_zero, List.getD_cons_succ, List.eraseIdx, h20, h21, h30, h31, h32, h42, h43, r0, r1, r2, r3, r4]
  generalize M 0 1 = x01 at *
  generalize M 0 2 = x02 at *
  generalize M 1 2 = x12 at *
  generalize M 0 3 = x03 at *
  generalize M 1 3 = x13 at *
  generalize M 2 3 = x23 at *
  generalize M 0 4 = x04 at *
  generalize M 1 4 = x14 at *
  generalize M 2 4 = x24 at *
  generalize M 3 4 = x34 at *
  clear h10 h20 h21 h30 h31 h32 h40 h41 h42 h43 r0 r1 r2 r3 r4
  grind

theorem pot_5412 (M : Int → Int → Int) (hs : ∀ a b, M a b = M b a) (r0 : M 0 0 = -(M 0 1 + M 0 2 + M 0 3 + M 0 4)) (r1 : M 1 1 = -(M 0 1 + M 1 2 + M 1 3 + M 1 4)) (r2 : M 2 2 = -(M 0 2 + M 1 2 + M 2 3 + M 2 4)) (r3 : M 3 3 = -(M 0 3 + M 1 3 + M 2 3 + M 3 4)) (r4 : M 4 4 = -(M 0 4 + M 1 4 + M 2 4 + M 3 4)) : detF M [0, 2, 3] [0, 2, 3] + detF M [0, 3, 4] [0, 3, 4] - detF M [0, 1, 3] [0, 1, 3] = 2 * (detF M [0, 2, 3] [0, 3, 4]) := by
  have h10 := hs 1 0
  have h20 := hs 2 0
  have h21 := hs 2 1
  have h30 := hs 3 0
  have h31 := hs 3 1
  have h32 := hs 3 2
  have h40 := hs 4 0
  have h41 := hs 4 1
  have h42 := hs 4 2
  have h43 := hs 4 3
  clear hs
  simp only [detF, sumTo, sgn, nth, List.length, List.getD_cons_zero, List.getD_cons_succ, List.eraseIdx, h10, h20, h30, h31, h32, h40, h43, r0, r1, r2, r3, r4]
  generalize M 0 1 = x01 at *
  generalize M 0 2 = x02 at *
  generalize M 1 2 = x12 at *
  generalize M 0 3 = x03 at *
  generalize M 1 3 = x13 at *
  generalize M 2 3 = x23 at *
  generalize M 0 4 = x04 at *
  generalize M 1 4 = x14 at *
  generalize M 2 4 = x24 at *
  generalize M 3 4 = x34 at *
  clear h10 h20 h21 h30 h31 h32 h40 h41 h42 h43 r0 r1 r2 r3 r4
  grind

theorem pot_5413 (M : Int → Int → Int) (hs : ∀ a b, M a b = M b a) (r0 : M 0 0 = -(M 0 1 + M 0 2 + M 0 3 + M 0 4)) (r1 : M 1 1 = -(M 0 1 + M 1 2 + M 1 3 + M 1 4)) (r2 : M 2 2 = -(M 0 2 + M 1 2 + M 2 3 + M 2 4)) (r3 : M 3 3 = -(M 0 3 + M 1 3 + M 2 3 + M 3 4)) (r4 : M 4 4 = -(M 0 4 + M 1 4 + M 2 4 + M 3 4)) : detF M [0, 2, 3] [0, 2, 3] + detF M [0, 2, 4] [0, 2, 4] - detF M [0, 1, 2] [0, 1, 2] = 2 * (-detF M [0, 2, 3] [0, 2, 4]) := by
  have h10 := hs 1 0
  have h20 := hs 2 0
  have h21 := hs 2 1
  have h30 := hs 3 0
  have h31 := hs 3 1
  have h32 := hs 3 2
  have h40 := hs 4 0
  have h41 := hs 4 1
  have h42 := hs 4 2
  have h43 := hs 4 3
  clear hs
  simp only [detF, sumTo, sgn, nth, List.length, List.getD_cons_zero, List.getD_cons_succ, List.eraseIdx, h10, h20, h21, h30, h32, h40, h42, r0, r1, r2, r3, r4]
  generalize M 0 1 = x01 at *
  generalize M 0 2 = x02 at *
  generalize M 1 2 = x12 at *
  generalize M 0 3 = x03 at *
  generalize M 1 3 = x13 at *
  generalize M 2 3 = x23 at *
  generalize M 0 4 = x04 at *
  generalize M 1 4 = x14 at *
  generalize M 2 4 = x24 at *
  generalize M 3 4 = x34 at *
  clear h10 h20 h21 h30 h31 h32 h40 h41 h42 h43 r0 r1 r2 r3 r4
  grind

theorem pot_5420 (M : Int → Int → Int) (hs : ∀ a b, M a b = M b a) (r0 : M 0 0 = -(M 0 1 + M 0 2 + M 0 3 + M 0 4)) (r1 : M 1 1 = -(M 0 1 + M 1 2 + M 1 3 + M 1 4)) (r2 : M 2 2 = -(M 0 2 + M 1 2 + M 2 3 + M 2 4)) (r3 : M 3 3 = -(M 0 3 + M 1 3 + M 2 3 + M 3 4)) (r4 : M 4 4 = -(M 0 4 + M 1 4 + M 2 4 + M 3 4)) : detF M [0, 1, 3] [0, 1, 3] + detF M [1, 3, 4] [1, 3, 4] - detF M [1, 2, 3] [1, 2, 3] = 2 * (-detF M [0, 1, 3] [1, 3, 4]) := by
  have h10 := hs 1 0
  have h20 := hs 2 0
  have h21 := hs 2 1
  have h30 := hs 3 0
  have h31 := hs 3 1
  have h32 := hs 3 2
  have h40 := hs 4 0
  have h41 := hs 4 1
  have h42 := hs 4 2
  have h43 := hs 4 3
  clear hs
  simp only [detF, sumTo, sgn, nth, List.length, List.getD_cons_zero, List.getD_cons_succ, List.eraseIdx, h10, h21, h30, h31, h32, h41, h43, r0, r1, r2, r3, r4]
  generalize M 0 1 = x01 at *
  generalize M 0 2 = x02 at *
  generalize M 1 2 = x12 at *
  generalize M 0 3 = x03 at *
  generalize M 1 3 = x13 at *
  generalize M 2 3 = x23 at *
  generalize M 0 4 = x04 at *
  generalize M 1 4 = x14 at *
  generalize M 2 4 = x24 at *
  generalize M 3 4 = x34 at *
  clear h10 h20 h21 h30 h31 h32 h40 h41 h42 h43 r0 r1 r2 r3 r4
  grind

theorem pot_5421 (M : Int → Int → Int) (hs : ∀ a b, M a b = M b a) (r0 : M 0 0 = -(M 0 1 + M 0 2 + M 0 3 + M 0 4)) (r1 : M 1 1 = -(M 0 1 + M 1 2 + M 1 3 + M 1 4)) (r2 : M 2 2 = -(M 0 2 + M 1 2 + M 2 3 + M 2 4)) (r3 : M 3 3 = -(M 0 3 + M 1 3 + M 2 3 + M 3 4)) (r4 : M 4 4 = -(M 0 4 + M 1 4 + M 2 4 + M 3 4)) : detF M [0, 1, 3] [0, 1, 3] + detF M [0, 3, 4] [0, 3, 4] - detF M [0, 2, 3] [0, 2, 3] = 2 * (detF M [0, 1, 3] [0, 3, 4]) := by
  have h10 := hs 1 0
  have h20 := hs 2 0
  have h21 := hs 2 1
  have h30 := hs 3 0
  have h31 := hs 3 1
  have h32 := hs 3 2
  have h40 := hs 4 0
  have h41 := hs 4 1
  have h42 := hs 4 2
  have h43 := hs 4 3
  clear hs
  simp only [detF, sumTo, sgn, nth, List.length, List.getD_cons_zero, List.getD_cons_succ, List.eraseIdx, h10, h20, h30, h31, h32, h40, h43, r0, r1, r2, r3, r4]
  generalize M 0 1 = x01 at *
  generalize M 0 2 = x02 at *
  generalize M 1 2 = x12 at *
  generalize M 0 3 = x03 at *
  generalize M 1 3 = x13 at *
  generalize M 2 3 = x23 at *
  generalize M 0 4 = x04 at *
  generalize M 1 4 = x14 at *
  generalize M 2 4 = x24 at *
  generalize M 3 4 = x34 at *
  clear h10 h20 h21 h30 h31 h32 h40 h41 h42 h43 r0 r1 r2 r3 r4
  grind

theorem pot_5423 (M : Int → Int → Int) (hs : ∀ a b, M a b = M b a) (r0 : M 0 0 = -(M 0 1 + M 0 2 + M 0 3 + M 0 4)) (r1 : M 1 1 = -(M 0 1 + M 1 2 + M 1 3 + M 1 4)) (r2 : M 2 2 = -(M 0 2 + M 1 2 + M 2 3 + M 2 4)) (r3 : M 3 3 = -(M 0 3 + M 1 3 + M 2 3 + M 3 4)) (r4 : M 4 4 = -(M 0 4 + M 1 4 + M 2 4 + M 3 4)) : detF M [0, 1, 3] [0, 1, 3] + detF M [0, 1, 4] [0, 1, 4] - detF M [0, 1, 2] [0, 1, 2] = 2 * (-detF M [0, 1, 3] [0, 1, 4]) := by
  have h10 := hs 1 0
  have h20 := hs 2 0
  have h21 := hs 2 1
  have h30 := hs 3 0
  have h31 := hs 3 1
  have h32 := hs 3 2
  have h40 := hs 4 0
  have h41 := hs 4 1
  have h42 := hs 4 2
  have h43 := hs 4 3
  clear hs
  simp only [detF, sumTo, sgn, nth, List.length, List.getD_cons_zero, List.getD_cons_succ, List.eraseIdx, h10, h20, h21, h30, h31, h40, h41, r0, r1, r2, r3, r4]
  generalize M 0 1 = x01 at *
  generalize M 0 2 = x02 at *
  generalize M 1 2 = x12 at *
  generalize M 0 3 = x03 at *
  generalize M 1 3 = x13 at *
  generalize M 2 3 = x23 at *
  generalize M 0 4 = x04 at *
  generalize M 1 4 = x14 at *
  generalize M 2 4 = x24 at *
  generalize M 3 4 = x34 at *
  clear h10 h20 h21 h30 h31 h32 h40 h41 h42 h43 r0 r1 r2 r3 r4
  grind

theorem pot_5430 (M : Int → Int → Int) (hs : ∀ a b, M a b = M b a) (r0 : M 0 0 = -(M 0 1 + M 0 2 + M 0 3 + M 0 4)) (r1 : M 1 1 = -(M 0 1 + M 1 2 + M 1 3 + M 1 4)) (r2 : M 2 2 = -(M 0 2 + M 1 2 + M 2 3 + M 2 4)) (r3 : M 3 3 = -(M 0 3 + M 1 3 + M 2 3 + M 3 4)) (r4 : M 4 4 = -(M 0 4 + M 1 4 + M 2 4 + M 3 4)) : detF M [0, 1, 2] [0, 1, 2] + detF M [1, 2, 4] [1, 2, 4] - detF M [1, 2, 3] [1, 2, 3] = 2 * (-detF M [0, 1, 2] [1, 2, 4]) := by
  have h10 := hs 1 0
  have h20 := hs 2 0
  have h21 := hs 2 1
  have h30 := hs 3 0
  have h31 := hs 3 1
  have h32 := hs 3 2
  have h40 := hs 4 0
  have h41 := hs 4 1
  have h42 := hs 4 2
  have h43 := hs 4 3
  clear hs
  simp only [detF, sumTo, sgn, nth, List.length, List.getD_cons_zero, List.getD_cons_succ, List.eraseIdx, h10, h20, h21, h31, h32, h41, h42, r0, r1, r2, r3, r4]
  generalize M 0 1 = x01 at *
  generalize M 0 2 = x02 at *
  generalize M 1 2 = x12 at *
  generalize M 0 3 = x03 at *
  generalize M 1 3 = x13 at *
  generalize M 2 3 = x23 at *
  generalize M 0 4 = x04 at *
  generalize M 1 4 = x14 at *
  generalize M 2 4 = x24 at *
  generalize M 3 4 = x34 at *
  clear h10 h20 h21 h30 h31 h32 h40 h41 h42 h43 r0 r1 r2 r3 r4
  grind

theorem pot_5431 (M : Int → Int → Int) (hs : ∀ a b, M a b = M b a) (r0 : M 0 0 = -(M 0 1 + M 0 2 + M 0 3 + M 0 4)) (r1 : M 1 1 = -(M 0 1 + M 1 2 + M 1 3 + M 1 4)) (r2 : M 2 2 = -(M 0 2 + M 1 2 + M 2 3 + M 2 4)) (r3 : M 3 3 = -(M 0 3 + M 1 3 + M 2 3 + M 3 4)) (r4 : M 4 4 = -(M 0 4 + M 1 4 + M 2 4 + M 3 4)) : detF M [0, 1, 2] [0, 1, 2] + detF M [0, 2, 4] [0, 2, 4] - detF M [0, 2, 3] [0, 2, 3] = 2 * (detF M [0, 1, 2] [0, 2, 4]) := by
  have h10 := hs 1 0
  have h20 := hs 2 0
  have h21 := hs 2 1
  have h30 := hs 3 0
  have h31 := hs 3 1
  have h32 := hs 3 2
  have h40 := hs 4 0
  have h41 := hs 4 1
  have h42 := hs 4 2
  have h43 := hs 4 3
  clear hs
  simp only [detF, sumTo, sgn, nth, List.length, List.getD_cons_zero, List.getD_cons_succ, List.eraseIdx, h10, h20, h21, h30, h32, h40, h42, r0, r1, r2, r3, r4]
  generalize M 0 1 = x01 at *
  generalize M 0 2 = x02 at *
  generalize M 1 2 = x12 at *
  generalize M 0 3 = x03 at *
  generalize M 1 3 = x13 at *
  generalize M 2 3 = x23 at *
  generalize M 0 4 = x04 at *
  generalize M 1 4 = x14 at *
  generalize M 2 4 = x24 at *
  generalize M 3 4 = x34 at *
  clear h10 h20 h21 h30 h31 h32 h40 h41 h42 h43 r0 r1 r2 r3 r4
  grind

theorem pot_5432 (M : Int → Int → Int) (hs : ∀ a b, M a b = M b a) (r0 : M 0 0 = -(M 0 1 + M 0 2 + M 0 3 + M 0 4)) (r1 : M 1 1 = -(M 0 1 + M 1 2 + M 1 3 + M 1 4)) (r2 : M 2 2 = -(M 0 2 + M 1 2 + M 2 3 + M 2 4)) (r3 : M 3 3 = -(M 0 3 + M 1 3 + M 2 3 + M 3 4)) (r4 : M 4 4 = -(M 0 4 + M 1 4 + M 2 4 + M 3 4)) : detF M [0, 1, 2] [0, 1, 2] + detF M [0, 1, 4] [0, 1, 4] - detF M [0, 1, 3] [0, 1, 3] = 2 * (-detF M [0, 1, 2] [0, 1, 4]) := by
  have h10 := hs 1 0
  have h20 := hs 2 0
  have h21 := hs 2 1
  have h30 := hs 3 0
  have h31 := hs 3 1
  have h32 := hs 3 2
  have h40 := hs 4 0
  have h41 := hs 4 1
  have h42 := hs 4 2
  have h43 := hs 4 3
  clear hs
  simp only [detF, sumTo, sgn, nth, List.length, List.getD_cons_zero, List.getD_cons_succ, List.eraseIdx, h10, h20, h21, h30, h31, h40, h41, r0, r1, r2, r3, r4]
  generalize M 0 1 = x01 at *
  generalize M 0 2 = x02 at *
  generalize M 1 2 = x12 at *
  generalize M 0 3 = x03 at *
  generalize M 1 3 = x13 at *
  generalize M 2 3 = x23 at *
  generalize M 0 4 = x04 at *
  generalize M 1 4 = x14 at *
  generalize M 2 4 = x24 at *
  generalize M 3 4 = x34 at *
  clear h10 h20 h21 h30 h31 h32 h40 h41 h42 h43 r0 r1 r2 r3 r4
  grind

theorem pot_n3 {m : Nat} {xs : List Int} (hK : ∀ k, k < m → goodW ((3 : Nat) : Int) xs k) {a b v : Int} (ha : 0 ≤ a ∧ a < 3) (hb : 0 ≤ b ∧ b < 3) (hv : 0 ≤ v ∧ v < 3) (hab : ¬ a = b) (hva : ¬ v = a) (hvb : ¬ v = b) : forT 3 m xs a b + forT 3 m xs v b - forT 3 m xs a v = 2 * potV 3 m xs a b v := by
  have hs := lapZ_symm xs m
  have q0 : 0 + lapZ xs m 0 0 + lapZ xs m 0 1 + lapZ xs m 0 2 = 0 := lap_row (n := 3) (m := m) (xs := xs) (v := 0) hK (by omega) (by decide)
  have q1 : 0 + lapZ xs m 1 0 + lapZ xs m 1 1 + lapZ xs m 1 2 = 0 := lap_row (n := 3) (m := m) (xs := xs) (v := 1) hK (by omega) (by decide)
  have q2 : 0 + lapZ xs m 2 0 + lapZ xs m 2 1 + lapZ xs m 2 2 = 0 := lap_row (n := 3) (m := m) (xs := xs) (v := 2) hK (by omega) (by decide)
  have h10 := hs 1 0
  have h20 := hs 2 0
  have h21 := hs 2 1
  have r0 : lapZ xs m 0 0 = -(lapZ xs m 0 1 + lapZ xs m 0 2) := by omega
  have r1 : lapZ xs m 1 1 = -(lapZ xs m 0 1 + lapZ xs m 1 2) := by omega
  have r2 : lapZ xs m 2 2 = -(lapZ xs m 0 2 + lapZ xs m 1 2) := by omega
  obtain rfl | rfl | rfl : a = 0 ∨ a = 1 ∨ a = 2 := by omega
  · obtain rfl | rfl | rfl : b = 0 ∨ b = 1 ∨ b = 2 := by omega
    · exact absurd rfl hab
    · obtain rfl | rfl | rfl : v = 0 ∨ v = 1 ∨ v = 2 := by omega
      · exact absurd rfl hva
      · exact absurd rfl hvb
      · rw [potV_o (by decide) (by decide)]
        exact pot_3012 (lapZ xs m) hs r0 r1 r2
    · obtain rfl | rfl | rfl : v = 0 ∨ v = 1 ∨ v = 2 := by omega
      · exact absurd rfl hva
      · rw [potV_o (by decide) (by decide)]
        exact pot_3021 (lapZ xs m) hs r0 r1 r2
      · exact absurd rfl hvb
  · obtain rfl | rfl | rfl : b = 0 ∨ b = 1 ∨ b = 2 := by omega
    · obtain rfl | rfl | rfl : v = 0 ∨ v = 1 ∨ v = 2 := by omega
      · exact absurd rfl hvb
      · exact absurd rfl hva
      · rw [potV_o (by decide) (by decide)]
        exact pot_3102 (lapZ xs m) hs r0 r1 r2
    · exact absurd rfl hab
    · obtain rfl | rfl | rfl : v = 0 ∨ v = 1 ∨ v = 2 := by omega
      · rw [potV_o (by decide) (by decide)]
        exact pot_3120 (lapZ xs m) hs r0 r1 r2
      · exact absurd rfl hva
      · exact absurd rfl hvb
  · obtain rfl | rfl | rfl : b = 0 ∨ b = 1 ∨ b = 2 := by omega
    · obtain rfl | rfl | rfl : v = 0 ∨ v = 1 ∨ v = 2 := by omega
      · exact absurd rfl hvb
      · rw [potV_o (by decide) (by decide)]
        exact pot_3201 (lapZ xs m) hs r0 r1 r2
      · exact absurd rfl hva
    · obtain rfl | rfl | rfl : v = 0 ∨ v = 1 ∨ v = 2 := by omega
      · rw [potV_o (by decide) (by decide)]
        exact pot_3210 (lapZ xs m) hs r0 r1 r2
      · exact absurd rfl hvb
      · exact absurd rfl hva
    · exact absurd rfl hab
theorem pot_n4 {m : Nat} {xs : List Int} (hK : ∀ k, k < m → goodW ((4 : Nat) : Int) xs k) {a b v : Int} (ha : 0 ≤ a ∧ a < 4) (hb : 0 ≤ b ∧ b < 4) (hv : 0 ≤ v ∧ v < 4) (hab : ¬ a = b) (hva : ¬ v = a) (hvb : ¬ v = b) : forT 4 m xs a b + forT 4 m xs v b - forT 4 m xs a v = 2 * potV 4 m xs a b v := by
  have hs := lapZ_symm xs m
  have q0 : 0 + lapZ xs m 0 0 + lapZ xs m 0 1 + lapZ xs m 0 2 + lapZ xs m 0 3 = 0 := lap_row (n := 4) (m := m) (xs := xs) (v := 0) hK (by omega) (by decide)
  have q1 : 0 + lapZ xs m 1 0 + lapZ xs m 1 1 + lapZ xs m 1 2 + lapZ xs m 1 3 = 0 := lap_row (n := 4) (m := m) (xs := xs) (v := 1) hK (by omega) (by decide)
  have q2 : 0 + lapZ xs m 2 0 + lapZ xs m 2 1 + lapZ xs m 2 2 + lapZ xs m 2 3 = 0 := lap_row (n := 4) (m := m) (xs := xs) (v := 2) hK (by omega) (by decide)
  have q3 : 0 + lapZ xs m 3 0 + lapZ xs m 3 1 + lapZ xs m 3 2 + lapZ xs m 3 3 = 0 := lap_row (n := 4) (m := m) (xs := xs) (v := 3) hK (by omega) (by decide)
  have h10 := hs 1 0
  have h20 := hs 2 0
  have h21 := hs 2 1
  have h30 := hs 3 0
  have h31 := hs 3 1
  have h32 := hs 3 2
  have r0 : lapZ xs m 0 0 = -(lapZ xs m 0 1 + lapZ xs m 0 2 + lapZ xs m 0 3) := by omega
  have r1 : lapZ xs m 1 1 = -(lapZ xs m 0 1 + lapZ xs m 1 2 + lapZ xs m 1 3) := by omega
  have r2 : lapZ xs m 2 2 = -(lapZ xs m 0 2 + lapZ xs m 1 2 + lapZ xs m 2 3) := by omega
  have r3 : lapZ xs m 3 3 = -(lapZ xs m 0 3 + lapZ xs m 1 3 + lapZ xs m 2 3) := by omega
  obtain rfl | rfl | rfl | rfl : a = 0 ∨ a = 1 ∨ a = 2 ∨ a = 3 := by omega
  · obtain rfl | rfl | rfl | rfl : b = 0 ∨ b = 1 ∨ b = 2 ∨ b = 3 := by omega
    · exact absurd rfl hab
    · obtain rfl | rfl | rfl | rfl : v = 0 ∨ v = 1 ∨ v = 2 ∨ v = 3 := by omega
      · exact absurd rfl hva
      · exact absurd rfl hvb
      · rw [potV_o (by decide) (by decide)]
        exact pot_4012 (lapZ xs m) hs r0 r1 r2 r3
      · rw [potV_e (by decide) (by decide)]
        exact pot_4013 (lapZ xs m) hs r0 r1 r2 r3
    · obtain rfl | rfl | rfl | rfl : v = 0 ∨ v = 1 ∨ v = 2 ∨ v = 3 := by omega
      · exact absurd rfl hva
      · rw [potV_o (by decide) (by decide)]
        exact pot_4021 (lapZ xs m) hs r0 r1 r2 r3
      · exact absurd rfl hvb
      · rw [potV_e (by decide) (by decide)]
        exact pot_4023 (lapZ xs m) hs r0 r1 r2 r3
    · obtain rfl | rfl | rfl | rfl : v = 0 ∨ v = 1 ∨ v = 2 ∨ v = 3 := by omega
      · exact absurd rfl hva
      · rw [potV_o (by decide) (by decide)]
        exact pot_4031 (lapZ xs m) hs r0 r1 r2 r3
      · rw [potV_e (by decide) (by decide)]
        exact pot_4032 (lapZ xs m) hs r0 r1 r2 r3
      · exact absurd rfl hvb
  · obtain rfl | rfl | rfl | rfl : b = 0 ∨ b = 1 ∨ b = 2 ∨ b = 3 := by omega
    · obtain rfl | rfl | rfl | rfl : v = 0 ∨ v = 1 ∨ v = 2 ∨ v = 3 := by omega
      · exact absurd rfl hvb
      · exact absurd rfl hva
      · rw [potV_o (by decide) (by decide)]
        exact pot_4102 (lapZ xs m) hs r0 r1 r2 r3
      · rw [potV_e (by decide) (by decide)]
        exact pot_4103 (lapZ xs m) hs r0 r1 r2 r3
    · exact absurd rfl hab
    · obtain rfl | rfl | rfl | rfl : v = 0 ∨ v = 1 ∨ v = 2 ∨ v = 3 := by omega
      · rw [potV_o (by decide) (by decide)]
        exact pot_4120 (lapZ xs m) hs r0 r1 r2 r3
      · exact absurd rfl hva
      · exact absurd rfl hvb
      · rw [potV_o (by decide) (by decide)]
        exact pot_4123 (lapZ xs m) hs r0 r1 r2 r3
    · obtain rfl | rfl | rfl | rfl : v = 0 ∨ v = 1 ∨ v = 2 ∨ v = 3 := by omega
      · rw [potV_o (by decide) (by decide)]
        exact pot_4130 (lapZ xs m) hs r0 r1 r2 r3
      · exact absurd rfl hva
      · rw [potV_o (by decide) (by decide)]
        exact pot_4132 (lapZ xs m) hs r0 r1 r2 r3
      · exact absurd rfl hvb
  · obtain rfl | rfl | rfl | rfl : b = 0 ∨ b = 1 ∨ b = 2 ∨ b = 3 := by omega
    · obtain rfl | rfl | rfl | rfl : v = 0 ∨ v = 1 ∨ v = 2 ∨ v = 3 := by omega
      · exact absurd rfl hvb
      · rw [potV_o (by decide) (by decide)]
        exact pot_4201 (lapZ xs m) hs r0 r1 r2 r3
      · exact absurd rfl hva
      · rw [potV_o (by decide) (by decide)]
        exact pot_4203 (lapZ xs m) hs r0 r1 r2 r3
    · obtain rfl | rfl | rfl | rfl : v = 0 ∨ v = 1 ∨ v = 2 ∨ v = 3 := by omega
      · rw [potV_o (by decide) (by decide)]
        exact pot_4210 (lapZ xs m) hs r0 r1 r2 r3
      · exact absurd rfl hvb
      · exact absurd rfl hva
      · rw [potV_o (by decide) (by decide)]
        exact pot_4213 (lapZ xs m) hs r0 r1 r2 r3
    · exact absurd rfl hab
    · obtain rfl | rfl | rfl | rfl : v = 0 ∨ v = 1 ∨ v = 2 ∨ v = 3 := by omega
      · rw [potV_e (by decide) (by decide)]
        exact pot_4230 (lapZ xs m) hs r0 r1 r2 r3
      · rw [potV_o (by decide) (by decide)]
        exact pot_4231 (lapZ xs m) hs r0 r1 r2 r3
      · exact absurd rfl hva
      · exact absurd rfl hvb
  · obtain rfl | rfl | rfl | rfl : b = 0 ∨ b = 1 ∨ b = 2 ∨ b = 3 := by omega
    · obtain rfl | rfl | rfl | rfl : v = 0 ∨ v = 1 ∨ v = 2 ∨ v = 3 := by omega
      · exact absurd rfl hvb
      · rw [potV_e (by decide) (by decide)]
        exact pot_4301 (lapZ xs m) hs r0 r1 r2 r3
      · rw [potV_o (by decide) (by decide)]
        exact pot_4302 (lapZ xs m) hs r0 r1 r2 r3
      · exact absurd rfl hva
    · obtain rfl | rfl | rfl | rfl : v = 0 ∨ v = 1 ∨ v = 2 ∨ v = 3 := by omega
      · rw [potV_e (by decide) (by decide)]
        exact pot_4310 (lapZ xs m) hs r0 r1 r2 r3
      · exact absurd rfl hvb
      · rw [potV_o (by decide) (by decide)]
        exact pot_4312 (lapZ xs m) hs r0 r1 r2 r3
      · exact absurd rfl hva
    · obtain rfl | rfl | rfl | rfl : v = 0 ∨ v = 1 ∨ v = 2 ∨ v = 3 := by omega
      · rw [potV_e (by decide) (by decide)]
        exact pot_4320 (lapZ xs m) hs r0 r1 r2 r3
      · rw [potV_o (by decide) (by decide)]
        exact pot_4321 (lapZ xs m) hs r0 r1 r2 r3
      · exact absurd rfl hvb
      · exact absurd rfl hva
    · exact absurd rfl hab
theorem pot_n5 {m : Nat} {xs : List Int} (hK : ∀ k, k < m → goodW ((5 : Nat) : Int) xs k) {a b v : Int} (ha : 0 ≤ a ∧ a < 5) (hb : 0 ≤ b ∧ b < 5) (hv : 0 ≤ v ∧ v < 5) (hab : ¬ a = b) (hva : ¬ v = a) (hvb : ¬ v = b) : forT 5 m xs a b + forT 5 m xs v b - forT 5 m xs a v = 2 * potV 5 m xs a b v := by
  have hs := lapZ_symm xs m
  have q0 : 0 + lapZ xs m 0 0 + lapZ xs m 0 1 + lapZ xs m 0 2 + lapZ xs m 0 3 + lapZ xs m 0 4 = 0 := lap_row (n := 5) (m := m) (xs := xs) (v := 0) hK (by omega) (by decide)
  have q1 : 0 + lapZ xs m 1 0 + lapZ xs m 1 1 + lapZ xs m 1 2 + lapZ xs m 1 3 + lapZ xs m 1 4 = 0 := lap_row (n := 5) (m := m) (xs := xs) (v := 1) hK (by omega) (by decide)
  have q2 : 0 + lapZ xs m 2 0 + lapZ xs m 2 1 + lapZ xs m 2 2 + lapZ xs m 2 3 + lapZ xs m 2 4 = 0 := lap_row (n := 5) (m := m) (xs := xs) (v := 2) hK (by omega) (by decide)
  have q3 : 0 + lapZ xs m 3 0 + lapZ xs m 3 1 + lapZ xs m 3 2 + lapZ xs m 3 3 + lapZ xs m 3 4 = 0 := lap_row (n := 5) (m := m) (xs := xs) (v := 3) hK (by omega) (by decide)
  have q4 : 0 + lapZ xs m 4 0 + lapZ xs m 4 1 + lapZ xs m 4 2 + lapZ xs m 4 3 + lapZ xs m 4 4 = 0 := lap_row (n := 5) (m := m) (xs := xs) (v := 4) hK (by omega) (by decide)
  have h10 := hs 1 0
  have h20 := hs 2 0
  have h21 := hs 2 1
  have h30 := hs 3 0
  have h31 := hs 3 1
  have h32 := hs 3 2
  have h40 := hs 4 0
  have h41 := hs 4 1
  have h42 := hs 4 2
  have h43 := hs 4 3
  have r0 : lapZ xs m 0 0 = -(lapZ xs m 0 1 + lapZ xs m 0 2 + lapZ xs m 0 3 + lapZ xs m 0 4) := by omega
  have r1 : lapZ xs m 1 1 = -(lapZ xs m 0 1 + lapZ xs m 1 2 + lapZ xs m 1 3 + lapZ xs m 1 4) := by omega
  have r2 : lapZ xs m 2 2 = -(lapZ xs m 0 2 + lapZ xs m 1 2 + lapZ xs m 2 3 + lapZ xs m 2 4) := by omega
  have r3 : lapZ xs m 3 3 = -(lapZ xs m 0 3 + lapZ xs m 1 3 + lapZ xs m 2 3 + lapZ xs m 3 4) := by omega
  have r4 : lapZ xs m 4 4 = -(lapZ xs m 0 4 + lapZ xs m 1 4 + lapZ xs m 2 4 + lapZ xs m 3 4) := by omega
  obtain rfl | rfl | rfl | rfl | rfl : a = 0 ∨ a = 1 ∨ a = 2 ∨ a = 3 ∨ a = 4 := by omega
  · obtain rfl | rfl | rfl | rfl | rfl : b = 0 ∨ b = 1 ∨ b = 2 ∨ b = 3 ∨ b = 4 := by omega
    · exact absurd rfl hab
    · obtain rfl | rfl | rfl | rfl | rfl : v = 0 ∨ v = 1 ∨ v = 2 ∨ v = 3 ∨ v = 4 := by omega
      · exact absurd rfl hva
      · exact absurd rfl hvb
      · rw [potV_o (by decide) (by decide)]
        exact pot_5012 (lapZ xs m) hs r0 r1 r2 r3 r4
      · rw [potV_e (by decide) (by decide)]
        exact pot_5013 (lapZ xs m) hs r0 r1 r2 r3 r4
      · rw [potV_o (by decide) (by decide)]
        exact pot_5014 (lapZ xs m) hs r0 r1 r2 r3 r4
    · obtain rfl | rfl | rfl | rfl | rfl : v = 0 ∨ v = 1 ∨ v = 2 ∨ v = 3 ∨ v = 4 := by omega
      · exact absurd rfl hva
      · rw [potV_o (by decide) (by decide)]
        exact pot_5021 (lapZ xs m) hs r0 r1 r2 r3 r4
      · exact absurd rfl hvb
      · rw [potV_e (by decide) (by decide)]
        exact pot_5023 (lapZ xs m) hs r0 r1 r2 r3 r4
      · rw [potV_o (by decide) (by decide)]
        exact pot_5024 (lapZ xs m) hs r0 r1 r2 r3 r4
    · obtain rfl | rfl | rfl | rfl | rfl : v = 0 ∨ v = 1 ∨ v = 2 ∨ v = 3 ∨ v = 4 := by omega
      · exact absurd rfl hva
      · rw [potV_o (by decide) (by decide)]
        exact pot_5031 (lapZ xs m) hs r0 r1 r2 r3 r4
      · rw [potV_e (by decide) (by decide)]
        exact pot_5032 (lapZ xs m) hs r0 r1 r2 r3 r4
      · exact absurd rfl hvb
      · rw [potV_o (by decide) (by decide)]
        exact pot_5034 (lapZ xs m) hs r0 r1 r2 r3 r4
    · obtain rfl | rfl | rfl | rfl | rfl : v = 0 ∨ v = 1 ∨ v = 2 ∨ v = 3 ∨ v = 4 := by omega
      · exact absurd rfl hva
      · rw [potV_o (by decide) (by decide)]
        exact pot_5041 (lapZ xs m) hs r0 r1 r2 r3 r4
      · rw [potV_e (by decide) (by decide)]
        exact pot_5042 (lapZ xs m) hs r0 r1 r2 r3 r4
      · rw [potV_o (by decide) (by decide)]
        exact pot_5043 (lapZ xs m) hs r0 r1 r2 r3 r4
      · exact absurd rfl hvb
  · obtain rfl | rfl | rfl | rfl | rfl : b = 0 ∨ b = 1 ∨ b = 2 ∨ b = 3 ∨ b = 4 := by omega
    · obtain rfl | rfl | rfl | rfl | rfl : v = 0 ∨ v = 1 ∨ v = 2 ∨ v = 3 ∨ v = 4 := by omega
      · exact absurd rfl hvb
      · exact absurd rfl hva
      · rw [potV_o (by decide) (by decide)]
        exact pot_5102 (lapZ xs m) hs r0 r1 r2 r3 r4
      · rw [potV_e (by decide) (by decide)]
        exact pot_5103 (lapZ xs m) hs r0 r1 r2 r3 r4
      · rw [potV_o (by decide) (by decide)]
        exact pot_5104 (lapZ xs m) hs r0 r1 r2 r3 r4
    · exact absurd rfl hab
    · obtain rfl | rfl | rfl | rfl | rfl : v = 0 ∨ v = 1 ∨ v = 2 ∨ v = 3 ∨ v = 4 := by omega
      · rw [potV_o (by decide) (by decide)]
        exact pot_5120 (lapZ xs m) hs r0 r1 r2 r3 r4
      · exact absurd rfl hva
      · exact absurd rfl hvb
      · rw [potV_o (by decide) (by decide)]
        exact pot_5123 (lapZ xs m) hs r0 r1 r2 r3 r4
      · rw [potV_e (by decide) (by decide)]
        exact pot_5124 (lapZ xs m) hs r0 r1 r2 r3 r4
    · obtain rfl | rfl | rfl | rfl | rfl : v = 0 ∨ v = 1 ∨ v = 2 ∨ v = 3 ∨ v = 4 := by omega
      · rw [potV_o (by decide) (by decide)]
        exact pot_5130 (lapZ xs m) hs r0 r1 r2 r3 r4
      · exact absurd rfl hva
      · rw [potV_o (by decide) (by decide)]
        exact pot_5132 (lapZ xs m) hs r0 r1 r2 r3 r4
      · exact absurd rfl hvb
      · rw [potV_e (by decide) (by decide)]
        exact pot_5134 (lapZ xs m) hs r0 r1 r2 r3 r4
    · obtain rfl | rfl | rfl | rfl | rfl : v = 0 ∨ v = 1 ∨ v = 2 ∨ v = 3 ∨ v = 4 := by omega
      · rw [potV_o (by decide) (by decide)]
        exact pot_5140 (lapZ xs m) hs r0 r1 r2 r3 r4
      · exact absurd rfl hva
      · rw [potV_o (by decide) (by decide)]
        exact pot_5142 (lapZ xs m) hs r0 r1 r2 r3 r4
      · rw [potV_e (by decide) (by decide)]
        exact pot_5143 (lapZ xs m) hs r0 r1 r2 r3 r4
      · exact absurd rfl hvb
  · obtain rfl | rfl | rfl | rfl | rfl : b = 0 ∨ b = 1 ∨ b = 2 ∨ b = 3 ∨ b = 4 := by omega
    · obtain rfl | rfl | rfl | rfl | rfl : v = 0 ∨ v = 1 ∨ v = 2 ∨ v = 3 ∨ v = 4 := by omega
      · exact absurd rfl hvb
      · rw [potV_o (by decide) (by decide)]
        exact pot_5201 (lapZ xs m) hs r0 r1 r2 r3 r4
      · exact absurd rfl hva
      · rw [potV_o (by decide) (by decide)]
        exact pot_5203 (lapZ xs m) hs r0 r1 r2 r3 r4
      · rw [potV_e (by decide) (by decide)]
        exact pot_5204 (lapZ xs m) hs r0 r1 r2 r3 r4
    · obtain rfl | rfl | rfl | rfl | rfl : v = 0 ∨ v = 1 ∨ v = 2 ∨ v = 3 ∨ v = 4 := by omega
      · rw [potV_o (by decide) (by decide)]
        exact pot_5210 (lapZ xs m) hs r0 r1 r2 r3 r4
      · exact absurd rfl hvb
      · exact absurd rfl hva
      · rw [potV_o (by decide) (by decide)]
        exact pot_5213 (lapZ xs m) hs r0 r1 r2 r3 r4
      · rw [potV_e (by decide) (by decide)]
        exact pot_5214 (lapZ xs m) hs r0 r1 r2 r3 r4
    · exact absurd rfl hab
    · obtain rfl | rfl | rfl | rfl | rfl : v = 0 ∨ v = 1 ∨ v = 2 ∨ v = 3 ∨ v = 4 := by omega
      · rw [potV_e (by decide) (by decide)]
        exact pot_5230 (lapZ xs m) hs r0 r1 r2 r3 r4
      · rw [potV_o (by decide) (by decide)]
        exact pot_5231 (lapZ xs m) hs r0 r1 r2 r3 r4
      · exact absurd rfl hva
      · exact absurd rfl hvb
      · rw [potV_o (by decide) (by decide)]
        exact pot_5234 (lapZ xs m) hs r0 r1 r2 r3 r4
    · obtain rfl | rfl | rfl | rfl | rfl : v = 0 ∨ v = 1 ∨ v = 2 ∨ v = 3 ∨ v = 4 := by omega
      · rw [potV_e (by decide) (by decide)]
        exact pot_5240 (lapZ xs m) hs r0 r1 r2 r3 r4
      · rw [potV_o (by decide) (by decide)]
        exact pot_5241 (lapZ xs m) hs r0 r1 r2 r3 r4
      · exact absurd rfl hva
      · rw [potV_o (by decide) (by decide)]
        exact pot_5243 (lapZ xs m) hs r0 r1 r2 r3 r4
      · exact absurd rfl hvb
  · obtain rfl | rfl | rfl | rfl | rfl : b = 0 ∨ b = 1 ∨ b = 2 ∨ b = 3 ∨ b = 4 := by omega
    · obtain rfl | rfl | rfl | rfl | rfl : v = 0 ∨ v = 1 ∨ v = 2 ∨ v = 3 ∨ v = 4 := by omega
      · exact absurd rfl hvb
      · rw [potV_e (by decide) (by decide)]
        exact pot_5301 (lapZ xs m) hs r0 r1 r2 r3 r4
      · rw [potV_o (by decide) (by decide)]
        exact pot_5302 (lapZ xs m) hs r0 r1 r2 r3 r4
      · exact absurd rfl hva
      · rw [potV_o (by decide) (by decide)]
        exact pot_5304 (lapZ xs m) hs r0 r1 r2 r3 r4
    · obtain rfl | rfl | rfl | rfl | rfl : v = 0 ∨ v = 1 ∨ v = 2 ∨ v = 3 ∨ v = 4 := by omega
      · rw [potV_e (by decide) (by decide)]
        exact pot_5310 (lapZ xs m) hs r0 r1 r2 r3 r4
      · exact absurd rfl hvb
      · rw [potV_o (by decide) (by decide)]
        exact pot_5312 (lapZ xs m) hs r0 r1 r2 r3 r4
      · exact absurd rfl hva
      · rw [potV_o (by decide) (by decide)]
        exact pot_5314 (lapZ xs m) hs r0 r1 r2 r3 r4
    · obtain rfl | rfl | rfl | rfl | rfl : v = 0 ∨ v = 1 ∨ v = 2 ∨ v = 3 ∨ v = 4 := by omega
      · rw [potV_e (by decide) (by decide)]
        exact pot_5320 (lapZ xs m) hs r0 r1 r2 r3 r4
      · rw [potV_o (by decide) (by decide)]
        exact pot_5321 (lapZ xs m) hs r0 r1 r2 r3 r4
      · exact absurd rfl hvb
      · exact absurd rfl hva
      · rw [potV_o (by decide) (by decide)]
        exact pot_5324 (lapZ xs m) hs r0 r1 r2 r3 r4
    · exact absurd rfl hab
    · obtain rfl | rfl | rfl | rfl | rfl : v = 0 ∨ v = 1 ∨ v = 2 ∨ v = 3 ∨ v = 4 := by omega
      · rw [potV_o (by decide) (by decide)]
        exact pot_5340 (lapZ xs m) hs r0 r1 r2 r3 r4
      · rw [potV_e (by decide) (by decide)]
        exact pot_5341 (lapZ xs m) hs r0 r1 r2 r3 r4
      · rw [potV_o (by decide) (by decide)]
        exact pot_5342 (lapZ xs m) hs r0 r1 r2 r3 r4
      · exact absurd rfl hva
      · exact absurd rfl hvb
  · obtain rfl | rfl | rfl | rfl | rfl : b = 0 ∨ b = 1 ∨ b = 2 ∨ b = 3 ∨ b = 4 := by omega
    · obtain rfl | rfl | rfl | rfl | rfl : v = 0 ∨ v = 1 ∨ v = 2 ∨ v = 3 ∨ v = 4 := by omega
      · exact absurd rfl hvb
      · rw [potV_o (by decide) (by decide)]
        exact pot_5401 (lapZ xs m) hs r0 r1 r2 r3 r4
      · rw [potV_e (by decide) (by decide)]
        exact pot_5402 (lapZ xs m) hs r0 r1 r2 r3 r4
      · rw [potV_o (by decide) (by decide)]
        exact pot_5403 (lapZ xs m) hs r0 r1 r2 r3 r4
      · exact absurd rfl hva
    · obtain rfl | rfl | rfl | rfl | rfl : v = 0 ∨ v = 1 ∨ v = 2 ∨ v = 3 ∨ v = 4 := by omega
      · rw [potV_o (by decide) (by decide)]
        exact pot_5410 (lapZ xs m) hs r0 r1 r2 r3 r4
      · exact absurd rfl hvb
      · rw [potV_e (by decide) (by decide)]
        exact pot_5412 (lapZ xs m) hs r0 r1 r2 r3 r4
      · rw [potV_o (by decide) (by decide)]
        exact pot_5413 (lapZ xs m) hs r0 r1 r2 r3 r4
      · exact absurd rfl hva
    · obtain rfl | rfl | rfl | rfl | rfl : v = 0 ∨ v = 1 ∨ v = 2 ∨ v = 3 ∨ v = 4 := by omega
      · rw [potV_o (by decide) (by decide)]
        exact pot_5420 (lapZ xs m) hs r0 r1 r2 r3 r4
      · rw [potV_e (by decide) (by decide)]
        exact pot_5421 (lapZ xs m) hs r0 r1 r2 r3 r4
      · exact absurd rfl hvb
      · rw [potV_o (by decide) (by decide)]
        exact pot_5423 (lapZ xs m) hs r0 r1 r2 r3 r4
      · exact absurd rfl hva
    · obtain rfl | rfl | rfl | rfl | rfl : v = 0 ∨ v = 1 ∨ v = 2 ∨ v = 3 ∨ v = 4 := by omega
      · rw [potV_o (by decide) (by decide)]
        exact pot_5430 (lapZ xs m) hs r0 r1 r2 r3 r4
      · rw [potV_e (by decide) (by decide)]
        exact pot_5431 (lapZ xs m) hs r0 r1 r2 r3 r4
      · rw [potV_o (by decide) (by decide)]
        exact pot_5432 (lapZ xs m) hs r0 r1 r2 r3 r4
      · exact absurd rfl hvb
      · exact absurd rfl hva
    · exact absurd rfl hab
theorem pot_id {n m : Nat} {xs : List Int} (hn : n ≤ 5) (hK : ∀ k, k < m → goodW n xs k) {a b v : Int} (ha : 0 ≤ a ∧ a < n) (hb : 0 ≤ b ∧ b < n) (hv : 0 ≤ v ∧ v < n) (hab : ¬ a = b) : forZ n m xs a b + forZ n m xs v b - forZ n m xs a v = 2 * potV n m xs a b v := by
  by_cases hvb : v = b
  · rw [potV_0 hvb, hvb]
    have : forZ n m xs b b = 0 := if_pos rfl
    omega
  by_cases hva : v = a
  · subst hva
    have e0 : forZ n m xs v v = 0 := if_pos rfl
    have e1 : forZ n m xs v b = forT n m xs v b := if_neg hab
    rw [potV_e hvb (by omega), e0, e1]
    unfold minorV
    rw [without_mm]
    unfold forT minorV
    omega
  have f1 : forZ n m xs a b = forT n m xs a b := if_neg hab
  have f2 : forZ n m xs v b = forT n m xs v b := if_neg hvb
  have f3 : forZ n m xs a v = forT n m xs a v := if_neg (fun h => hva h.symm)
  rw [f1, f2, f3]
  obtain rfl | rfl | rfl : n = 3 ∨ n = 4 ∨ n = 5 := by omega
  · exact pot_n3 hK ha hb hv hab hva hvb
  · exact pot_n4 hK ha hb hv hab hva hvb
  · exact pot_n5 hK ha hb hv hab hva hvb
theorem forZ_V {N E S : Int} {n m : Nat} {xs : List Int} {a b : Int} (hN : N = n) (h : netB N E S m xs = true) (ha : 0 ≤ a ∧ a < N) (hb : 0 ≤ b ∧ b < N) : forV N E S m xs a b = forZ n m xs a b := by
  subst hN
  unfold forZ
  by_cases e : a = b
  · rw [if_pos e, forV_f (fun h => h.2.2.2 e)]
  · rw [if_neg e, forV_t h ha hb e]; rfl
end Go.Proofs.YtckjkfcphcnpdaaGreat

namespace Go.Proofs.YtckjkfcphcnpdaaGreat
set_option maxRecDepth 100000
open Go.ChangeShapes Go.WideShapes Go.ChangeAt Go.RowKit Go.Joins

theorem isNodeI (n : Nat) (E S : Int) (s : Value) (v : Int) (w : World) (hs : s.oneCell' = true) :
    Calls Tryz.prog 36 #[.agg #[.int .i64 (n : Int), .int .i64 E, .int .i64 S, s], .int .i64 v] w fun e w' => e = .returned (.bool (nodeB n v)) ∧ Ge w w' := by
  by_cases h1 : 0 ≤ v
  · by_cases h2 : v < n
    · have HF : Hid (nodeB n v = true) := nodeB_t ⟨h1, h2⟩
      go_enter Tryz.func36, Tryz.ntmps36
      go_wp2_with fail
      go_ret
      exact ⟨ret_bool HF.out.symm, by (repeat (first | with_reducible exact Ge.refl _ | assumption | with_reducible refine Ge.drew ?_ | with_reducible refine Ge.drewN ?_ _ | with_reducible refine Ge.alloc ?_ _ | (with_reducible refine Ge.setCell ?_ (by first | (simp; done) | omega | (simp; omega)) _) | with_reducible refine Ge.trans ?_ (by assumption)))⟩
    · have HF : Hid (nodeB n v = false) := nodeB_f (fun h => h2 h.2)
      go_enter Tryz.func36, Tryz.ntmps36
      go_wp2_with fail
      go_ret
      exact ⟨ret_bool HF.out.symm, by (repeat (first | with_reducible exact Ge.refl _ | assumption | with_reducible refine Ge.drew ?_ | with_reducible refine Ge.drewN ?_ _ | with_reducible refine Ge.alloc ?_ _ | (with_reducible refine Ge.setCell ?_ (by first | (simp; done) | omega | (simp; omega)) _) | with_reducible refine Ge.trans ?_ (by assumption)))⟩
  · have HF : Hid (nodeB n v = false) := nodeB_f (fun h => h1 h.1)
    go_enter Tryz.func36, Tryz.ntmps36
    go_wp2_with fail
    go_ret
    exact ⟨ret_bool HF.out.symm, by (repeat (first | with_reducible exact Ge.refl _ | assumption | with_reducible refine Ge.drew ?_ | with_reducible refine Ge.drewN ?_ _ | with_reducible refine Ge.alloc ?_ _ | (with_reducible refine Ge.setCell ?_ (by first | (simp; done) | omega | (simp; omega)) _) | with_reducible refine Ge.trans ?_ (by assumption)))⟩

theorem no_wire {xs : List Int} {a b : Int} {k : Nat} (h : Hid (∀ j, j < k → ¬ isW xs a b j)) (hk : ¬ isW xs a b k) : Hid (∀ j, j < k + 1 → ¬ isW xs a b j) := fun j hj => by
  by_cases e : j = k
  · subst e; exact hk
  · exact h.out j (by omega)

set_option maxHeartbeats 1600000 in
theorem iWeightBetween (n : Nat) (E S : Int) (s : Value) (m : Nat) (xs : List Int) (a b : Int) (w : World) (hs : SlF w s m 3 xs) (hm : m ≤ 10) (hok : ∀ k, k < m → goodW n xs k) :
    Calls Tryz.prog 110 #[.agg #[.int .i64 (n : Int), .int .i64 E, .int .i64 S, s], .int .i64 a, .int .i64 b] w fun e w' => e = .returned (.int .i64 (wbet xs m a b)) ∧ Ge w w' := by
  obtain ⟨p, cap, rfl, hc⟩ := hs.open
  have HC := Lib.hid hc
  have HK := Lib.hid hok
  clear hs hc hok
  go_enter Tryz.func110, Tryz.ntmps110
  go_wp2_with fail
  go_loopw [12] (fun i wr => ∃ k : Nat, k ≤ m ∧ i = .int .i64 k ∧ Hid (∀ j, j < k → ¬ isW xs a b j) ∧ Ge w wr) (fun i _ => m - (intOf i).toNat)
  case atStart => exact ⟨0, Nat.zero_le _, rfl, fun j hj => by omega, by (repeat (first | with_reducible exact Ge.refl _ | assumption | with_reducible refine Ge.drew ?_ | with_reducible refine Ge.drewN ?_ _ | with_reducible refine Ge.alloc ?_ _ | (with_reducible refine Ge.setCell ?_ (by first | (simp; done) | omega | (simp; omega)) _) | with_reducible refine Ge.trans ?_ (by assumption)))⟩
  case round =>
    obtain ⟨k, hk, rfl, HN, hg⟩ := hrel
    by_cases hlt : k < m
    · obtain ⟨bb, o, rfl, x0, x1, x2⟩ := three_cells HC.out hlt
      have y0 := hg.keep x0
      have y1 := hg.keep x1
      have y2 := hg.keep x2
      clear x0 x1 x2
      change wr.cell? _ = some (.int .i64 (wa xs k)) at y0
      change wr.cell? _ = some (.int .i64 (wb xs k)) at y1
      change wr.cell? _ = some (.int .i64 (ww xs k)) at y2
      obtain ⟨q0, q1, q2, q3, q4⟩ := (HK.out k hlt).1
      by_cases hab : a = b
      · have f0 : (a != b) = false := by simp [hab]
        have HN2 := no_wire HN (show ¬ isW xs a b k by unfold isW; omega)
        clear hab
        go_wp2_with fail
        go_roundw
        case rel => exact ⟨k + 1, by omega, by go_num, HN2.out, by (repeat (first | with_reducible exact Ge.refl _ | assumption | with_reducible refine Ge.drew ?_ | with_reducible refine Ge.drewN ?_ _ | with_reducible refine Ge.alloc ?_ _ | (with_reducible refine Ge.setCell ?_ (by first | (simp; done) | omega | (simp; omega)) _) | with_reducible refine Ge.trans ?_ (by assumption)))⟩
        case measure => simp [intOf]; omega
      · have f0 : (a != b) = true := by simp [hab]
        by_cases e1 : wa xs k = a
        · have f1 : (wa xs k == a) = true := by simp [e1]
          by_cases e2 : wb xs k = b
          · have f2 : (wb xs k == b) = true := by simp [e2]
            have HF : Hid (wbet xs m a b = ww xs k) := wbet_some (wfind_some HN.out (by unfold isW; omega) hlt)
            clear e1 e2 hab
            go_wp2_with fail
            go_ret
            exact ⟨ret_int HF.out.symm, by (repeat (first | with_reducible exact Ge.refl _ | assumption | with_reducible refine Ge.drew ?_ | with_reducible refine Ge.drewN ?_ _ | with_reducible refine Ge.alloc ?_ _ | (with_reducible refine Ge.setCell ?_ (by first | (simp; done) | omega | (simp; omega)) _) | with_reducible refine Ge.trans ?_ (by assumption)))⟩
          · have f2 : (wb xs k == b) = false := by simp [e2]
            have f3 : (wa xs k == b) = false := by simp; omega
            have HN2 := no_wire HN (show ¬ isW xs a b k by unfold isW; omega)
            clear e1 e2 hab
            go_wp2_with fail
            go_roundw
            case rel => exact ⟨k + 1, by omega, by go_num, HN2.out, by (repeat (first | with_reducible exact Ge.refl _ | assumption | with_reducible refine Ge.drew ?_ | with_reducible refine Ge.drewN ?_ _ | with_reducible refine Ge.alloc ?_ _ | (with_reducible refine Ge.setCell ?_ (by first | (simp; done) | omega | (simp; omega)) _) | with_reducible refine Ge.trans ?_ (by assumption)))⟩
            case measure => simp [intOf]; omega
        · have f1 : (wa xs k == a) = false := by simp [e1]
          by_cases e3 : wa xs k = b
          · have f3 : (wa xs k == b) = true := by simp [e3]
            by_cases e4 : wb xs k = a
            · have f4 : (wb xs k == a) = true := by simp [e4]
              have HF : Hid (wbet xs m a b = ww xs k) := wbet_some (wfind_some HN.out (by unfold isW; omega) hlt)
              clear e1 e3 e4 hab
              go_wp2_with fail
              go_ret
              exact ⟨ret_int HF.out.symm, by (repeat (first | with_reducible exact Ge.refl _ | assumption | with_reducible refine Ge.drew ?_ | with_reducible refine Ge.drewN ?_ _ | with_reducible refine Ge.alloc ?_ _ | (with_reducible refine Ge.setCell ?_ (by first | (simp; done) | omega | (simp; omega)) _) | with_reducible refine Ge.trans ?_ (by assumption)))⟩
            · have f4 : (wb xs k == a) = false := by simp [e4]
              have HN2 := no_wire HN (show ¬ isW xs a b k by unfold isW; omega)
              clear e1 e3 e4 hab
              go_wp2_with fail
              go_roundw
              case rel => exact ⟨k + 1, by omega, by go_num, HN2.out, by (repeat (first | with_reducible exact Ge.refl _ | assumption | with_reducible refine Ge.drew ?_ | with_reducible refine Ge.drewN ?_ _ | with_reducible refine Ge.alloc ?_ _ | (with_reducible refine Ge.setCell ?_ (by first | (simp; done) | omega | (simp; omega)) _) | with_reducible refine Ge.trans ?_ (by assumption)))⟩
              case measure => simp [intOf]; omega
          · have f3 : (wa xs k == b) = false := by simp [e3]
            have HN2 := no_wire HN (show ¬ isW xs a b k by unfold isW; omega)
            clear e1 e3 hab
            go_wp2_with fail
            go_roundw
            case rel => exact ⟨k + 1, by omega, by go_num, HN2.out, by (repeat (first | with_reducible exact Ge.refl _ | assumption | with_reducible refine Ge.drew ?_ | with_reducible refine Ge.drewN ?_ _ | with_reducible refine Ge.alloc ?_ _ | (with_reducible refine Ge.setCell ?_ (by first | (simp; done) | omega | (simp; omega)) _) | with_reducible refine Ge.trans ?_ (by assumption)))⟩
            case measure => simp [intOf]; omega
    · have hkm : k = m := by omega
      subst hkm
      have HF : Hid (wbet xs k a b = 0) := wbet_none (wfind_none HN.out)
      go_wp2_with fail
      go_ret
      exact ⟨ret_int HF.out.symm, by (repeat (first | with_reducible exact Ge.refl _ | assumption | with_reducible refine Ge.drew ?_ | with_reducible refine Ge.drewN ?_ _ | with_reducible refine Ge.alloc ?_ _ | (with_reducible refine Ge.setCell ?_ (by first | (simp; done) | omega | (simp; omega)) _) | with_reducible refine Ge.trans ?_ (by assumption)))⟩

set_option maxHeartbeats 1600000 in
theorem iWeightAt (n : Nat) (E S : Int) (s : Value) (m : Nat) (xs : List Int) (v : Int) (w : World) (hs : SlF w s m 3 xs) (hm : m ≤ 10) (hok : ∀ k, k < m → goodW n xs k) :
    Calls Tryz.prog 104 #[.agg #[.int .i64 (n : Int), .int .i64 E, .int .i64 S, s], .int .i64 v] w fun e w' => e = .returned (.int .i64 (wat xs v m)) ∧ Ge w w' := by
  obtain ⟨p, cap, rfl, hc⟩ := hs.open
  have HC := Lib.hid hc
  have HK := Lib.hid hok
  clear hs hc hok
  go_enter Tryz.func104, Tryz.ntmps104
  go_wp2_with fail
  go_loopw [5, 11] (fun t i wr => ∃ k : Nat, k ≤ m ∧ i = .int .i64 k ∧ t = .int .i64 (wat xs v k) ∧ Ge w wr) (fun _ i _ => m - (intOf i).toNat)
  case atStart => exact ⟨0, Nat.zero_le _, rfl, rfl, by (repeat (first | with_reducible exact Ge.refl _ | assumption | with_reducible refine Ge.drew ?_ | with_reducible refine Ge.drewN ?_ _ | with_reducible refine Ge.alloc ?_ _ | (with_reducible refine Ge.setCell ?_ (by first | (simp; done) | omega | (simp; omega)) _) | with_reducible refine Ge.trans ?_ (by assumption)))⟩
  case round =>
    obtain ⟨k, hk, rfl, rfl, hg⟩ := hrel
    by_cases hlt : k < m
    · obtain ⟨bb, o, rfl, x0, x1, x2⟩ := three_cells HC.out hlt
      have y0 := hg.keep x0
      have y1 := hg.keep x1
      have y2 := hg.keep x2
      clear x0 x1 x2
      change wr.cell? _ = some (.int .i64 (wa xs k)) at y0
      change wr.cell? _ = some (.int .i64 (wb xs k)) at y1
      change wr.cell? _ = some (.int .i64 (ww xs k)) at y2
      obtain ⟨q0, q1, q2, q3, q4⟩ := (HK.out k hlt).1
      obtain ⟨b0, b1⟩ := wat_bd v (m := k) (fun j hj => HK.out j (by omega))
      by_cases e1 : wa xs k = v
      · have f1 : (wa xs k == v) = true := by simp [e1]
        have HF : Hid (wat xs v k + ww xs k = wat xs v (k + 1)) := by
          show _ = _
          rw [wat, if_pos (Or.inl e1)]
        clear e1
        go_wp2_with fail
        go_roundw
        case rel => exact ⟨k + 1, by omega, by go_num, congrArg _ HF.out, by (repeat (first | with_reducible exact Ge.refl _ | assumption | with_reducible refine Ge.drew ?_ | with_reducible refine Ge.drewN ?_ _ | with_reducible refine Ge.alloc ?_ _ | (with_reducible refine Ge.setCell ?_ (by first | (simp; done) | omega | (simp; omega)) _) | with_reducible refine Ge.trans ?_ (by assumption)))⟩
        case measure => simp [intOf]; omega
      · have f1 : (wa xs k == v) = false := by simp [e1]
        by_cases e2 : wb xs k = v
        · have f2 : (wb xs k == v) = true := by simp [e2]
          have HF : Hid (wat xs v k + ww xs k = wat xs v (k + 1)) := by
            show _ = _
            rw [wat, if_pos (Or.inr e2)]
          clear e1 e2
          go_wp2_with fail
          go_roundw
          case rel => exact ⟨k + 1, by omega, by go_num, congrArg _ HF.out, by (repeat (first | with_reducible exact Ge.refl _ | assumption | with_reducible refine Ge.drew ?_ | with_reducible refine Ge.drewN ?_ _ | with_reducible refine Ge.alloc ?_ _ | (with_reducible refine Ge.setCell ?_ (by first | (simp; done) | omega | (simp; omega)) _) | with_reducible refine Ge.trans ?_ (by assumption)))⟩
          case measure => simp [intOf]; omega
        · have f2 : (wb xs k == v) = false := by simp [e2]
          have HF : Hid (wat xs v k = wat xs v (k + 1)) := by
            show _ = _
            rw [wat, if_neg (fun h => h.elim e1 e2)]; omega
          clear e1 e2
          go_wp2_with fail
          go_roundw
          case rel => exact ⟨k + 1, by omega, by go_num, congrArg _ HF.out, by (repeat (first | with_reducible exact Ge.refl _ | assumption | with_reducible refine Ge.drew ?_ | with_reducible refine Ge.drewN ?_ _ | with_reducible refine Ge.alloc ?_ _ | (with_reducible refine Ge.setCell ?_ (by first | (simp; done) | omega | (simp; omega)) _) | with_reducible refine Ge.trans ?_ (by assumption)))⟩
          case measure => simp [intOf]; omega
    · have hkm : k = m := by omega
      subst hkm
      go_wp2_with fail
      go_ret
      exact ⟨rfl, by (repeat (first | with_reducible exact Ge.refl _ | assumption | with_reducible refine Ge.drew ?_ | with_reducible refine Ge.drewN ?_ _ | with_reducible refine Ge.alloc ?_ _ | (with_reducible refine Ge.setCell ?_ (by first | (simp; done) | omega | (simp; omega)) _) | with_reducible refine Ge.trans ?_ (by assumption)))⟩

end Go.Proofs.YtckjkfcphcnpdaaGreat

namespace Go.Proofs.YtckjkfcphcnpdaaGreat
set_option maxRecDepth 100000
open Go.ChangeShapes Go.WideShapes Go.ChangeAt Go.RowKit Go.Joins

/-- The table's rows while row i is filled up to j. -/
def tabR (T : Nat → Nat → Int) (i j : Nat) (a b : Nat) : Int := if a = i then (if b < j then T a b else 0) else T a b
theorem tabR_zero (T : Nat → Nat → Int) (i n : Nat) : ∀ a b, a < i + 1 → b < n → (if a = i then (fun _ => (0 : Int)) else T a) b = tabR T i 0 a b := fun a b _ _ => by
  unfold tabR; by_cases e : a = i <;> simp [e]
theorem tabR_step (T : Nat → Nat → Int) (i j n : Nat) : ∀ a b, a < i + 1 → b < n → (if a = i ∧ b = j then T i j else tabR T i j a b) = tabR T i (j + 1) a b := fun a b _ _ => by
  unfold tabR
  by_cases e : a = i
  · subst e
    by_cases e2 : b = j
    · subst e2; simp
    · by_cases e3 : b < j
      · simp [e2, e3, show b < j + 1 by omega]
      · simp [e2, e3, show ¬ b < j + 1 by omega]
  · simp [e]
theorem tabR_all (T : Nat → Nat → Int) (i n : Nat) : ∀ a b, a < i + 1 → b < n → tabR T i n a b = T a b := fun a b _ hb => by
  unfold tabR; by_cases e : a = i <;> simp [e, hb]

set_option maxHeartbeats 1600000 in
theorem iTable (n : Nat) (E S : Int) (s : Value) (m : Nat) (xs : List Int) (w : World) (hs : SlF w s m 3 xs) (hm : m ≤ 10) (h1 : 1 ≤ n) (h5 : n ≤ 5) (hok : ∀ k, k < m → goodW n xs k) :
    Calls Tryz.prog 103 #[.agg #[.int .i64 (n : Int), .int .i64 E, .int .i64 S, s]] w fun e w' => ∃ G f cs, e = .returned (.slice (some ⟨G, 0, none⟩) n n) ∧ OMat w' w.heap.size G n f cs n (fun a b => wbet xs m (a : Int) (b : Int)) ∧ Ge w w' := by
  have HV := Lib.hid hs
  have HK := Lib.hid hok
  obtain ⟨p, cap, rfl, _⟩ := hs.open
  clear hs hok
  generalize hT : (fun (a b : Nat) => wbet xs m (a : Int) (b : Int)) = T
  have HT := Lib.hid hT
  clear hT
  go_enter Tryz.func103, Tryz.ntmps103
  go_wp2_with (at_make; refine mk1 rfl _ _ _ rfl 35 _ 1 24 Tryz.underlying33 inf_rowI (by decide) n rfl rfl (by omega) ?_; intro w1 own1 g1)
  have HO1 : Hid (∃ f cs, OMat w1 (w.heap.size + 1) (w.heap.size + 1) n f cs 0 T) := ⟨fun _ => 0, _, by simpa using own1, fun i hi => by omega⟩
  clear own1
  go_loopw [11] (fun i wr => ∃ k : Nat, k ≤ n ∧ i = .int .i64 k ∧ (∃ f cs, OMat wr (w.heap.size + 1) (w.heap.size + 1) n f cs k T) ∧ Ge (w.alloc (.cells #[.int .i64 (n : Int), .int .i64 E, .int .i64 S, .slice p m cap] 30)) wr) (fun i _ => n - (intOf i).toNat)
  case atStart => exact ⟨0, Nat.zero_le _, rfl, HO1.out, g1⟩
  case round =>
    obtain ⟨i, hi, rfl, ⟨f, cs, HO⟩, hg⟩ := hrel
    have c0 := hg.keep (cell_new (i := 0) rfl rfl)
    have c1 := hg.keep (cell_new (i := 1) rfl rfl)
    have c2 := hg.keep (cell_new (i := 2) rfl rfl)
    have c3 := hg.keep (cell_new (i := 3) rfl rfl)
    simp at c0 c1 c2 c3
    have hl := HO.lt
    by_cases hlt : i < n
    · have HOh := Lib.hid HO
      obtain ⟨lg1, lg2, lg3⟩ := hl
      clear lg3 HO
      obtain ⟨u, hu⟩ : ∃ u, wr.cell? ⟨w.heap.size + 1, i, none⟩ = some u := by
        rw [HOh.out.1.cellAt i (by omega)]
        exact ⟨_, List.getElem?_eq_getElem (by have := HOh.out.1.1; omega)⟩
      have hf := HOh.out.1.frozenAt i
      go_wp2_with (at_make; refine mk1 rfl _ _ _ rfl 3 _ 1 8 Tryz.underlying35 inf_int (by decide) n rfl rfl (by omega) ?_; intro w5 own5 g5; rw [made_ints, mapR_zero] at own5; have hu5 := g5.keep hu; have hf5 := g5.keepF hu hf; have zr := g5.size)
      have HN5 := Lib.hid (OMat.newRow HOh.out hlt g5 own5 rfl)
      have d0 := g5.keep c0
      have d1 := g5.keep c1
      have d2 := g5.keep c2
      have d3 := g5.keep c3
      clear own5 hu hf c0 c1 c2 c3
      generalize hr : wr.heap.size = r at *
      have hrb : w.heap.size + 1 < r := lg2
      have HN6 := Lib.hid (HN5.out.1.congr (tabR_zero T i n))
      have hg6 : Ge (w.alloc (.cells #[.int .i64 (n : Int), .int .i64 E, .int .i64 S, .slice p m cap] 30)) (w5.setCell ⟨w.heap.size + 1, i, none⟩ (.slice (some ⟨r, 0, none⟩) n n)) := (Ge.trans hg g5).grown HN5.out.2 (fun q hq => by simp at hq; subst hq; simp)
      clear HN5 hu5 hf5 d0 d1 d2 d3
      go_loopw [25] (fun i' wi => ∃ j : Nat, j ≤ n ∧ i' = .int .i64 j ∧ (∃ cs', OMat wi (w.heap.size + 1) (w.heap.size + 1) n (fun a => if a = i then r else f a) cs' (i + 1) (tabR T i j)) ∧ Ge (w.alloc (.cells #[.int .i64 (n : Int), .int .i64 E, .int .i64 S, .slice p m cap] 30)) wi) (fun i _ => n - (intOf i).toNat)
      case atStart => exact ⟨0, Nat.zero_le _, rfl, ⟨_, HN6.out⟩, hg6⟩
      case round =>
        obtain ⟨j, hj, rfl, ⟨cs', HO⟩, hgj⟩ := hrel
        have HOj := Lib.hid HO
        clear HO
        by_cases hjn : j < n
        · have c0 := hgj.keep (cell_new (i := 0) rfl rfl)
          have c1 := hgj.keep (cell_new (i := 1) rfl rfl)
          have c2 := hgj.keep (cell_new (i := 2) rfl rfl)
          have c3 := hgj.keep (cell_new (i := 3) rfl rfl)
          simp at c0 c1 c2 c3
          have x0 := HOj.out.row (i := i) (by omega) hlt
          have x1 := cv_some (HOj.out.entry (i := i) (j := j) (by omega) hjn)
          have x2 := HOj.out.froz (i := i) (by omega) j
          simp only [if_pos] at x0 x1 x2
          have HW := Lib.hid (fun w' (g : Ge w w') => iWeightBetween n E S (.slice p m cap) m xs (i : Int) (j : Int) w' (HV.out.ge g) hm HK.out)
          have hwj : Ge w wr := by (repeat (first | with_reducible exact Ge.refl _ | assumption | with_reducible refine Ge.drew ?_ | with_reducible refine Ge.drewN ?_ _ | with_reducible refine Ge.alloc ?_ _ | (with_reducible refine Ge.setCell ?_ (by first | (simp; done) | omega | (simp; omega)) _) | with_reducible refine Ge.trans ?_ (by assumption)))
          go_wp2_with fail
          go_region_held3 (fun w' => w'.cell? ⟨w.heap.size, 0, none⟩ = some (.int .i64 (n : Int)) ∧ w'.cell? ⟨w.heap.size, 1, none⟩ = some (.int .i64 E) ∧ w'.cell? ⟨w.heap.size, 2, none⟩ = some (.int .i64 S) ∧ w'.cell? ⟨w.heap.size, 3, none⟩ = some (.slice p m cap) ∧ w'.cell? ⟨w.heap.size + 1, i, none⟩ = some (.slice (some ⟨r, 0, none⟩) n n) ∧ w'.cell? ⟨r, j, none⟩ = some (cv w' ⟨r, j, none⟩) ∧ w'.frozen? ⟨r, j, none⟩ = false) (first | exact ⟨hb.keep (‹_ ∧ _ ∧ _ ∧ _ ∧ _ ∧ _ ∧ _›).1, hb.keep (‹_ ∧ _ ∧ _ ∧ _ ∧ _ ∧ _ ∧ _›).2.1, hb.keep (‹_ ∧ _ ∧ _ ∧ _ ∧ _ ∧ _ ∧ _›).2.2.1, hb.keep (‹_ ∧ _ ∧ _ ∧ _ ∧ _ ∧ _ ∧ _›).2.2.2.1, hb.keep (‹_ ∧ _ ∧ _ ∧ _ ∧ _ ∧ _ ∧ _›).2.2.2.2.1, cv_some (hb.keep (‹_ ∧ _ ∧ _ ∧ _ ∧ _ ∧ _ ∧ _›).2.2.2.2.2.1), hb.keepF (‹_ ∧ _ ∧ _ ∧ _ ∧ _ ∧ _ ∧ _›).2.2.2.2.2.1 (‹_ ∧ _ ∧ _ ∧ _ ∧ _ ∧ _ ∧ _›).2.2.2.2.2.2⟩ | ((refine ⟨?_, ?_, ?_, ?_, ?_, ?_, ?_⟩ <;> (repeat (first | assumption | with_reducible refine cv_drew ?_ | with_reducible refine cv_set ?_ | with_reducible refine cell_drew ?_ | with_reducible refine cell_drewN ?_ | ((with_reducible refine cell_set2 ?_ ?_); focus (first | (simp; done) | (intro hE; simp at hE; done) | (intro hE; simp at hE; omega))) | with_reducible refine froz_drew ?_ | with_reducible refine froz_set ?_))); done) | ((obtain ⟨s0, s1, s2, s3, s4, s5, s6⟩ := ‹_ ∧ _ ∧ _ ∧ _ ∧ _ ∧ _ ∧ _›); refine ⟨?_, ?_, ?_, ?_, ?_, ?_, ?_⟩ <;> (repeat (first | assumption | with_reducible refine cv_drew ?_ | with_reducible refine cv_set ?_ | with_reducible refine cell_drew ?_ | with_reducible refine cell_drewN ?_ | ((with_reducible refine cell_set2 ?_ ?_); focus (first | (simp; done) | (intro hE; simp at hE; done) | (intro hE; simp at hE; omega))) | with_reducible refine froz_drew ?_ | with_reducible refine froz_set ?_)))) (first | (go_at_call 110; ((with_reducible refine (HW.out _ (Ge.drew hwj)).mono ?_); rintro e w8 ⟨rfl, hb⟩); have g8 : Ge wr w8 := Ge.trans (Ge.drew (Ge.refl _)) hb) | fail)
          clear c0 c1 c2 c3 x0 x1 x2
          have HE := Lib.hid (OMat.setE (HOj.out.ge g8) (i := i) (j := j) (by omega) hjn (wbet xs m (i : Int) (j : Int)))
          simp only [if_pos] at HE
          have eT : T i j = wbet xs m (i : Int) (j : Int) := by rw [← HT.out]
          have HE2 := Lib.hid (HE.out.1.congr (M' := tabR T i (j + 1)) (fun a b ha hb => by rw [← eT]; exact tabR_step T i j n a b ha hb))
          have hgE := (Ge.trans hgj g8).grown HE.out.2 (fun q hq => by simp at hq; subst hq; simp; try omega)
          clear HE
          go_wp2_with fail
          go_roundw
          case rel => exact ⟨j + 1, by omega, by go_num, ⟨_, HE2.out⟩, hgE⟩
          case measure => simp [intOf]; omega
        · have hjn' : j = n := by omega
          subst hjn'
          have HOk := Lib.hid (HOj.out.congr (tabR_all T i j))
          clear HOj
          go_wp2_with fail
          go_roundw
          case rel => exact ⟨i + 1, by omega, by go_num, ⟨_, _, HOk.out⟩, hgj⟩
          case measure => simp [intOf]; omega
    · have hin : i = n := by omega
      subst hin
      have HOh := Lib.hid HO
      clear HO hl
      go_wp2_with fail
      go_ret
      exact ⟨_, f, cs, rfl, HOh.out.mono (by omega), by (repeat (first | with_reducible exact Ge.refl _ | assumption | with_reducible refine Ge.drew ?_ | with_reducible refine Ge.drewN ?_ _ | with_reducible refine Ge.alloc ?_ _ | (with_reducible refine Ge.setCell ?_ (by first | (simp; done) | omega | (simp; omega)) _) | with_reducible refine Ge.trans ?_ (by assumption)))⟩

/-- The Laplacian's rows while row i is turned up to j. -/
def lapR (W : Nat → Int) (T : Nat → Nat → Int) (i j : Nat) (a b : Nat) : Int := if a < i then (if a = b then W a else -(T a b)) else if a = i ∧ b < j then -(T a b) else T a b
theorem lapR_zero (W : Nat → Int) (T : Nat → Nat → Int) (n : Nat) : ∀ a b, a < n → b < n → T a b = lapR W T 0 0 a b := fun a b _ _ => by simp [lapR]
theorem lapR_step (W : Nat → Int) (T : Nat → Nat → Int) (i j n : Nat) : ∀ a b, a < n → b < n → (if a = i ∧ b = j then -(T i j) else lapR W T i j a b) = lapR W T i (j + 1) a b := fun a b _ _ => by
  unfold lapR
  by_cases e : a = i
  · subst e
    by_cases e2 : b = j
    · subst e2; simp
    · by_cases e3 : b < j
      · simp [e2, e3, show b < j + 1 by omega]
      · simp [e2, e3, show ¬ b < j + 1 by omega]
  · simp [e]
theorem lapR_diag (W : Nat → Int) (T : Nat → Nat → Int) (i n : Nat) : ∀ a b, a < n → b < n → (if a = i ∧ b = i then W i else lapR W T i n a b) = lapR W T (i + 1) 0 a b := fun a b _ hb => by
  unfold lapR
  by_cases e : a = i
  · subst e
    by_cases e2 : b = a
    · subst e2; simp
    · have e3 : ¬ a = b := fun h => e2 h.symm
      simp [e2, e3, hb]
  · by_cases e4 : a < i
    · simp [e, e4, show a < i + 1 by omega]
    · simp [e, e4, show ¬ a < i + 1 by omega]
theorem lapR_at (W : Nat → Int) (T : Nat → Nat → Int) (i j : Nat) : lapR W T i j i j = T i j := by simp [lapR]

set_option maxHeartbeats 1600000 in
theorem iLaplacianOf (n : Nat) (E S : Int) (s : Value) (m : Nat) (xs : List Int) (w : World) (hs : SlF w s m 3 xs) (hB : netB n E S m xs = true) :
    Calls Tryz.prog 88 #[.agg #[.int .i64 (n : Int), .int .i64 E, .int .i64 S, s]] w fun e w' => ∃ v, e = .returned v ∧ SlMM w' v n (lapZ xs m) ∧ Ge w w' := by
  obtain ⟨⟨h1, h5⟩, _, _, hok, _⟩ := netP_of hB
  have hm : m ≤ 10 := prs_len (by omega) hok
  have HV := Lib.hid hs
  have HK := Lib.hid hok
  have HB := Lib.hid hB
  obtain ⟨p, cap, rfl, _⟩ := hs.open
  clear hs hok hB
  have HT5 : Hid (∀ a b : Nat, -200 ≤ wbet xs m (a : Int) (b : Int) ∧ wbet xs m (a : Int) (b : Int) ≤ 200) := fun a b => by have := wbet_bd HK.out (a : Int) (b : Int); omega
  have HNo := Lib.hid (fun w' (g : Ge w w') => iNetOk n E S (.slice p m cap) m xs w' (HV.out.ge g) (by omega))
  rw [HB.out] at HNo
  have HTa := Lib.hid (fun w' (g : Ge w w') => iTable n E S (.slice p m cap) m xs w' (HV.out.ge g) hm (by omega) (by omega) HK.out)
  go_enter Tryz.func88, Tryz.ntmps88
  go_wp2_with (first
    | (go_at_call 35; ((with_reducible refine (HNo.out _ (by (repeat (first | with_reducible exact Ge.refl _ | assumption | with_reducible refine Ge.drew ?_ | with_reducible refine Ge.drewN ?_ _ | with_reducible refine Ge.alloc ?_ _ | (with_reducible refine Ge.setCell ?_ (by first | (simp; done) | omega | (simp; omega)) _) | with_reducible refine Ge.trans ?_ (by assumption))))).mono ?_); rintro e w1 ⟨rfl, g1⟩; have c0 := Ge.keep g1 (cell_new (i := 0) rfl rfl); have c1 := Ge.keep g1 (cell_new (i := 1) rfl rfl); have c2 := Ge.keep g1 (cell_new (i := 2) rfl rfl); have c3 := Ge.keep g1 (cell_new (i := 3) rfl rfl); have z1 := g1.size; (simp at c0 c1 c2 c3 z1)))
    | (go_at_call 103; ((with_reducible refine (HTa.out _ (by (repeat (first | with_reducible exact Ge.refl _ | assumption | with_reducible refine Ge.drew ?_ | with_reducible refine Ge.drewN ?_ _ | with_reducible refine Ge.alloc ?_ _ | (with_reducible refine Ge.setCell ?_ (by first | (simp; done) | omega | (simp; omega)) _) | with_reducible refine Ge.trans ?_ (by assumption))))).mono ?_); rintro e w2 ⟨G, f, cs, rfl, HO, g2⟩)))
  generalize hT : (fun (a b : Nat) => wbet xs m (a : Int) (b : Int)) = T at HO
  have HTe : Hid (∀ a b : Nat, T a b = wbet xs m (a : Int) (b : Int)) := fun a b => by rw [← hT]
  clear hT
  generalize hW : (fun (a : Nat) => wat xs (a : Int) m) = W
  have HWe : Hid (∀ a : Nat, W a = wat xs (a : Int) m) := fun a => by rw [← hW]
  clear hW
  have HO0 := Lib.hid (HO.congr (lapR_zero W T n))
  have lG := Lib.hid HO.lt
  have lG1 := lG.out.1
  clear HO
  have HWA := Lib.hid (fun (a : Int) w' (g : Ge w w') => iWeightAt n E S (.slice p m cap) m xs a w' (HV.out.ge g) hm HK.out)
  have G1 : Ge w w1 := by (repeat (first | with_reducible exact Ge.refl _ | assumption | with_reducible refine Ge.drew ?_ | with_reducible refine Ge.drewN ?_ _ | with_reducible refine Ge.alloc ?_ _ | (with_reducible refine Ge.setCell ?_ (by first | (simp; done) | omega | (simp; omega)) _) | with_reducible refine Ge.trans ?_ (by assumption)))
  go_loopw [13] (fun i' wr => ∃ i : Nat, i ≤ n ∧ i' = .int .i64 i ∧ OMat wr w1.heap.size G n f cs n (lapR W T i 0) ∧ Ge w1 wr) (fun i _ => n - (intOf i).toNat)
  case atStart => exact ⟨0, Nat.zero_le _, rfl, HO0.out, g2⟩
  case round =>
    obtain ⟨i, hi, rfl, HO, hg⟩ := hrel
    have HOi := Lib.hid HO
    clear HO
    by_cases hlt : i < n
    · go_wp2_with fail
      go_loopw [18] (fun j' wr => ∃ j : Nat, j ≤ n ∧ j' = .int .i64 j ∧ OMat wr w1.heap.size G n f cs n (lapR W T i j) ∧ Ge w1 wr) (fun i _ => n - (intOf i).toNat)
      case atStart => exact ⟨0, Nat.zero_le _, rfl, HOi.out, hg⟩
      case round =>
        obtain ⟨j, hj, rfl, HO, hgj⟩ := hrel
        have HOj := Lib.hid HO
        clear HO
        have lfi := lG.out.2.2 i hlt
        by_cases hjn : j < n
        · have x0 := HOj.out.row hlt hlt
          have x1 := HOj.out.entry hlt hjn
          rw [lapR_at] at x1
          have x2 := HOj.out.froz hlt j
          have tb := HT5.out i j
          rw [← HTe.out] at tb
          have w4 : wrap64 (-(T i j)) = -(T i j) := wr64 _ (by omega) (by omega)
          have w5 : IntKind.i64.wrap (-(T i j)) = -(T i j) := IntWalk.i64_in _ (by omega)
          have HE := Lib.hid (OMat.setE (HOj.out.ge (Ge.drew (Ge.refl wr))) hlt hjn (-(T i j)))
          have HE2 := Lib.hid (HE.out.1.congr (M' := lapR W T i (j + 1)) (lapR_step W T i j n))
          have hgE := (Ge.drew hgj).grown HE.out.2 (fun q hq => by simp at hq; subst hq; omega)
          clear HE
          generalize f i = r at *
          go_wp2_with fail
          go_still_tail 14, (by kernel_rfl)
          have y1 : wr.drew.cell? ⟨r, j, none⟩ = some (.int .i64 (T i j)) := x1
          have y2 : wr.drew.frozen? ⟨r, j, none⟩ = false := x2
          show wpList _ _ _ _ _ wr.drew
          go_wp2_with fail
          go_roundw
          case rel => exact ⟨j + 1, by omega, by go_num, HE2.out, hgE⟩
          case measure => simp [intOf]; omega
        · have hjn' : j = n := by omega
          subst hjn'
          have c0r := hgj.keep c0
          have c1r := hgj.keep c1
          have c2r := hgj.keep c2
          have c3r := hgj.keep c3
          have x0 := HOj.out.row hlt hlt
          have x1 := cv_some (HOj.out.entry hlt hlt)
          have x2 := HOj.out.froz hlt i
          have gwr : Ge w wr := Ge.trans G1 hgj
          generalize hr : f i = r at *
          have lbr : w.heap.size < r := by omega
          have lbG : w.heap.size < G := by omega
          go_wp2_with fail
          go_region_held3 (fun w' => w'.cell? ⟨w.heap.size, 0, none⟩ = some (.int .i64 (j : Int)) ∧ w'.cell? ⟨w.heap.size, 1, none⟩ = some (.int .i64 E) ∧ w'.cell? ⟨w.heap.size, 2, none⟩ = some (.int .i64 S) ∧ w'.cell? ⟨w.heap.size, 3, none⟩ = some (.slice p m cap) ∧ w'.cell? ⟨G, i, none⟩ = some (.slice (some ⟨r, 0, none⟩) j j) ∧ w'.cell? ⟨r, i, none⟩ = some (cv w' ⟨r, i, none⟩) ∧ w'.frozen? ⟨r, i, none⟩ = false) (first | exact ⟨hb.keep (‹_ ∧ _ ∧ _ ∧ _ ∧ _ ∧ _ ∧ _›).1, hb.keep (‹_ ∧ _ ∧ _ ∧ _ ∧ _ ∧ _ ∧ _›).2.1, hb.keep (‹_ ∧ _ ∧ _ ∧ _ ∧ _ ∧ _ ∧ _›).2.2.1, hb.keep (‹_ ∧ _ ∧ _ ∧ _ ∧ _ ∧ _ ∧ _›).2.2.2.1, hb.keep (‹_ ∧ _ ∧ _ ∧ _ ∧ _ ∧ _ ∧ _›).2.2.2.2.1, cv_some (hb.keep (‹_ ∧ _ ∧ _ ∧ _ ∧ _ ∧ _ ∧ _›).2.2.2.2.2.1), hb.keepF (‹_ ∧ _ ∧ _ ∧ _ ∧ _ ∧ _ ∧ _›).2.2.2.2.2.1 (‹_ ∧ _ ∧ _ ∧ _ ∧ _ ∧ _ ∧ _›).2.2.2.2.2.2⟩ | ((refine ⟨?_, ?_, ?_, ?_, ?_, ?_, ?_⟩ <;> (repeat (first | assumption | with_reducible refine cv_drew ?_ | with_reducible refine cv_set ?_ | with_reducible refine cell_drew ?_ | with_reducible refine cell_drewN ?_ | ((with_reducible refine cell_set2 ?_ ?_); focus (first | (simp; done) | (intro hE; simp at hE; done) | (intro hE; simp at hE; omega))) | with_reducible refine froz_drew ?_ | with_reducible refine froz_set ?_))); done) | ((obtain ⟨s0, s1, s2, s3, s4, s5, s6⟩ := ‹_ ∧ _ ∧ _ ∧ _ ∧ _ ∧ _ ∧ _›); refine ⟨?_, ?_, ?_, ?_, ?_, ?_, ?_⟩ <;> (repeat (first | assumption | with_reducible refine cv_drew ?_ | with_reducible refine cv_set ?_ | with_reducible refine cell_drew ?_ | with_reducible refine cell_drewN ?_ | ((with_reducible refine cell_set2 ?_ ?_); focus (first | (simp; done) | (intro hE; simp at hE; done) | (intro hE; simp at hE; omega))) | with_reducible refine froz_drew ?_ | with_reducible refine froz_set ?_)))) (first | (go_at_call 104; ((with_reducible refine (HWA.out _ _ (Ge.drew gwr)).mono ?_); rintro e w8 ⟨rfl, hb⟩); have g8 : Ge wr w8 := Ge.trans (Ge.drew (Ge.refl _)) hb) | fail)
          clear c0r c1r c2r c3r x0 x1 x2
          have HE := Lib.hid (OMat.setE (HOj.out.ge g8) hlt hlt (W i))
          rw [hr] at HE
          rw [HWe.out] at HE
          have HE2 := Lib.hid (HE.out.1.congr (M' := lapR W T (i + 1) 0) (by rw [← HWe.out]; exact lapR_diag W T i j))
          have hgE := (Ge.trans hgj g8).grown HE.out.2 (fun q hq => by simp at hq; subst hq; omega)
          clear HE
          go_wp2_with fail
          go_roundw
          case rel => exact ⟨i + 1, by omega, by go_num, HE2.out, hgE⟩
          case measure => simp [intOf]; omega
    · have hin : i = n := by omega
      subst hin
      go_wp2_with fail
      go_ret
      refine ⟨_, rfl, HOi.out.slMM (fun a b ha hb => ?_), by (repeat (first | with_reducible exact Ge.refl _ | assumption | with_reducible refine Ge.drew ?_ | with_reducible refine Ge.drewN ?_ _ | with_reducible refine Ge.alloc ?_ _ | (with_reducible refine Ge.setCell ?_ (by first | (simp; done) | omega | (simp; omega)) _) | with_reducible refine Ge.trans ?_ (by assumption)))⟩
      unfold lapR lapZ
      rw [if_pos ha, HTe.out, HWe.out]
      by_cases e : a = b
      · subst e; simp
      · rw [if_neg e, if_neg (by omega)]
end Go.Proofs.YtckjkfcphcnpdaaGreat
