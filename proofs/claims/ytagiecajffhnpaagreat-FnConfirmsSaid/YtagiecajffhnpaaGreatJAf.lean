/- The neighbors of a node: WiresAt of impl, l07Near of the reference; the first node with a number of neighbors. No condition. The first node that is no terminal and has a number of neighbors. No condition. Plain law: a node taken out of a valid network; steps of it. No program in sight. StarMesh of impl. No condition. netOf of impl, without taking the common divisor out. No condition. -/
import Derived.Test.YtagiecajffhnpaaGreatJAe
import Derived.Test.YtagiecajffhnpaaGreatWWeight
import Derived.Test.YtagiecajffhnpaaGreatJAa
import Derived.Test.YtagiecajffhnpaaGreatJAc
import Derived.Test.YtagiecajffhnpaaGreatJAd
import Derived.Test.YtagiecajffhnpaaGreatJAb
namespace Go.Proofs.YtagiecajffhnpaaGreat
set_option maxRecDepth 100000
open Go.ChangeShapes Go.WideShapes Go.ChangeAt Go.RowKit Go.Joins

/-- The neighbors of v below k. -/
def nearX (m : Nat) (xs : List Int) (v : Int) (k : Nat) : List Int := ((List.range k).map (fun (i : Nat) => (i : Int))).filter (fun x => decide (0 < wbet xs m v x))
theorem nearX_in {m : Nat} {xs : List Int} {v : Int} {k : Nat} (h : 0 < wbet xs m v k) : nearX m xs v (k + 1) = nearX m xs v k ++ [(k : Int)] := by simp [nearX, List.range_succ, h]
theorem nearX_out {m : Nat} {xs : List Int} {v : Int} {k : Nat} (h : ¬ 0 < wbet xs m v k) : nearX m xs v (k + 1) = nearX m xs v k := by simp [nearX, List.range_succ, h]
theorem nearX_len (m : Nat) (xs : List Int) (v : Int) (k : Nat) : (nearX m xs v k).length ≤ k := by
  refine Nat.le_trans (List.length_filter_le _ _) ?_
  simp

set_option maxHeartbeats 1600000 in
theorem iWiresAt (n : Nat) (E S : Int) (s : Value) (m : Nat) (xs : List Int) (v : Int) (w : World) (hs : SlF w s m 3 xs) (hB : netB n E S m xs = true) (hv0 : 0 ≤ v) (hv1 : v < n) :
    Calls Tryz.prog 73 #[.agg #[.int .i64 (n : Int), .int .i64 E, .int .i64 S, s], .int .i64 v] w fun e w' => ∃ v', e = .returned v' ∧ w'.ownsRow w.heap.size 3 1 v' (nearX m xs v n).length (icells (nearX m xs v n)) ∧ Ge w w' := by
  obtain ⟨⟨h1, h5⟩, _, _, hok, _⟩ := netP_of hB
  have hm : m ≤ 10 := prs_len (by omega) hok
  have HV := Lib.hid hs
  obtain ⟨p, cap, rfl, _⟩ := hs.open
  have HW := Lib.hid (fun (a b : Int) w' (g : Ge w w') => iWeightBetween n E S (.slice p m cap) m xs a b w' (HV.out.ge g) hm hok)
  have hbd := Lib.hid (fun (a b : Int) => wbet_bd hok a b)
  have HNo := Lib.hid (fun w' (g : Ge w w') => iNetOk n E S (.slice p m cap) m xs w' (HV.out.ge g) (by omega))
  rw [hB] at HNo
  have HNd := Lib.hid (fun w' => isNodeI n E S (.slice p m cap) v w' rfl)
  rw [nodeB_t ⟨hv0, hv1⟩] at HNd
  clear hs hok hB
  go_enter Tryz.func73, Tryz.ntmps73
  go_wp2_with (first
    | ((go_at_call 43; ((with_reducible refine (HNo.out _ (kge)).mono ?_); rintro e w1 ⟨rfl, g1⟩)); have b0 := Ge.keep g1 (cell_new (i := 0) rfl rfl); have b1 := Ge.keep g1 (cell_new (i := 1) rfl rfl); have b2 := Ge.keep g1 (cell_new (i := 2) rfl rfl); have b3 := Ge.keep g1 (cell_new (i := 3) rfl rfl); have z1 := g1.size; (simp at b0 b1 b2 b3 z1))
    | ((go_at_call 69; ((with_reducible refine (HNd.out _).mono ?_); rintro e w2 ⟨rfl, g2⟩)); have G2 := Ge.trans g1 g2; have b0 := Ge.keep g2 b0; have z2 := G2.size; (simp at z2); have zlt : w.heap.size < w2.heap.size := (by omega)))
  clear b0 b1 b2 b3
  go_loopw [5, 19] (fun o i wr => ∃ (k : Nat) (u : Value), k ≤ n ∧ i = .int .i64 k ∧ o = u ∧ wr.ownsRow (w.heap.size + 1) 3 1 u (nearX m xs v k).length (icells (nearX m xs v k)) ∧ Ge (w.alloc (.cells #[.int .i64 (n : Int), .int .i64 E, .int .i64 S, .slice p m cap] 33)) wr) (fun _ i _ => n - (intOf i).toNat)
  case atStart => exact ⟨0, _, Nat.zero_le _, rfl, rfl, owns_mono (owns_lit0 _ _ _) (by omega), Ge.alloc G2 _⟩
  case round =>
    obtain ⟨k, u, hk, rfl, rfl, hown, hg⟩ := hrel
    have b0 := Ge.keep hg (cell_new (i := 0) rfl rfl)
    have b1 := Ge.keep hg (cell_new (i := 1) rfl rfl)
    have b2 := Ge.keep hg (cell_new (i := 2) rfl rfl)
    have b3 := Ge.keep hg (cell_new (i := 3) rfl rfl)
    have zg := hg.size
    have gw : Ge w wr := Ge.trans (Ge.alloc (Ge.refl _) _) hg
    simp at b0 b1 b2 b3 zg
    by_cases hlt : k < n
    · have HO := Lib.hid hown
      have hL : (nearX m xs v k).length ≤ k := nearX_len m xs v k
      have hbk := hbd.out v k
      have HWk := Lib.hid (fun w' g => HW.out v k w' g)
      clear hown
      by_cases c : 0 < wbet xs m v k
      · have HN := Lib.hid (nearX_in c)
        generalize wbet xs m v k = X at *
        generalize nearX m xs v k = L at *
        replace hL := Lib.hid hL
        go_wp2_with (first
          | (go_at_call 75; ((with_reducible refine (HWk.out _ gw).mono ?_); rintro e w5 ⟨rfl, g5⟩; have own5 := g5.owns HO.out; have z5 := g5.size))
          | (at_builtin; refine ap_int rfl _ _ rfl (w.heap.size + 1) _ L rfl own5 _ rfl (by have := hL.out; omega) (by omega) ?_; intro v' w6 own6 hm6))
        go_roundw
        case rel => exact ⟨k + 1, _, by omega, by go_num, rfl, by rw [HN.out]; exact own6, (Ge.trans hg g5).mine own5 (by simp) hm6⟩
        case measure => simp [intOf]; omega
      · have HN := Lib.hid (nearX_out c)
        generalize wbet xs m v k = X at *
        go_wp2_with ((go_at_call 75; ((with_reducible refine (HWk.out _ gw).mono ?_); rintro e w5 ⟨rfl, g5⟩; have own5 := g5.owns HO.out)))
        go_roundw
        case rel => exact ⟨k + 1, _, by omega, by go_num, rfl, by rw [HN.out]; exact own5, Ge.trans hg g5⟩
        case measure => simp [intOf]; omega
    · have hkn : k = n := by omega
      subst hkn
      have HO := Lib.hid hown
      clear hown
      go_wp2_with fail
      go_ret
      exact ⟨_, rfl, owns_mono HO.out (by omega), gw⟩
end Go.Proofs.YtagiecajffhnpaaGreat

namespace Go.Proofs.YtagiecajffhnpaaGreat
set_option maxRecDepth 100000
open Go.ChangeShapes Go.WideShapes Go.ChangeAt Go.RowKit Go.Joins

/-- The first number from a on, of c, with q; -1 if there is none. -/
def firstQ (q : Nat → Bool) (a : Nat) : Nat → Int
  | 0 => -1
  | c + 1 => if q a = true then (a : Int) else firstQ q (a + 1) c
theorem firstQ_none {q : Nat → Bool} : ∀ {c a : Nat}, (∀ t, t < c → q (a + t) = false) → firstQ q a c = -1
  | 0, a, _ => rfl
  | c + 1, a, h => by
    have h0 := h 0 (by omega)
    rw [Nat.add_zero] at h0
    simp only [firstQ, h0]
    exact firstQ_none (fun t ht => by have := h (t + 1) (by omega); rwa [show a + 1 + t = a + (t + 1) by omega])
theorem firstQ_some {q : Nat → Bool} : ∀ {c a k : Nat}, (∀ t, t < k → q (a + t) = false) → k < c → q (a + k) = true → firstQ q a c = ((a + k : Nat) : Int)
  | 0, a, k, _, h, _ => by omega
  | c + 1, a, 0, _, _, h => by rw [Nat.add_zero] at h; simp [firstQ, h]
  | c + 1, a, k + 1, hn, hk, h => by
    have h0 := hn 0 (by omega)
    rw [Nat.add_zero] at h0
    simp only [firstQ, h0]
    have := firstQ_some (q := q) (c := c) (a := a + 1) (k := k) (fun t ht => by have := hn (t + 1) (by omega); rwa [show a + 1 + t = a + (t + 1) by omega]) (by omega) (by rwa [show a + 1 + k = a + (k + 1) by omega])
    rw [show a + (k + 1) = a + 1 + k by omega]
    exact this
def nodeQ (n m : Nat) (xs : List Int) (c : Nat) (v : Nat) : Bool := decide ((nearX m xs v n).length = c)
def firstN (n e m : Nat) (xs : List Int) (c : Nat) : Int := firstQ (nodeQ n m xs c) e (n - e)
theorem firstN_bd (n e m : Nat) (xs : List Int) (c : Nat) : firstN n e m xs c = -1 ∨ ((e : Int) ≤ firstN n e m xs c ∧ firstN n e m xs c < n ∧ ∃ v : Nat, firstN n e m xs c = v ∧ (nearX m xs v n).length = c) := by
  unfold firstN
  have key : ∀ (c' a : Nat), firstQ (nodeQ n m xs c) a c' = -1 ∨ ((a : Int) ≤ firstQ (nodeQ n m xs c) a c' ∧ firstQ (nodeQ n m xs c) a c' < ((a + c' : Nat) : Int) ∧ ∃ v : Nat, firstQ (nodeQ n m xs c) a c' = v ∧ (nearX m xs v n).length = c) := by
    intro c'
    induction c' with
    | zero => intro a; exact .inl rfl
    | succ c' ih =>
      intro a
      simp only [firstQ]
      by_cases h : nodeQ n m xs c a = true
      · rw [if_pos h]
        exact .inr ⟨by omega, by omega, a, rfl, by simpa [nodeQ] using h⟩
      · rw [if_neg h]
        rcases ih (a + 1) with h | ⟨h1, h2, h3⟩
        · exact .inl h
        · exact .inr ⟨by omega, by omega, h3⟩
  rcases key (n - e) e with h | ⟨h1, h2, h3⟩
  · exact .inl h
  · by_cases he : e ≤ n
    · exact .inr ⟨h1, by omega, h3⟩
    · omega

set_option maxHeartbeats 1600000 in
theorem iFirst (n e : Nat) (S : Int) (s : Value) (m : Nat) (xs : List Int) (c : Nat) (w : World) (hs : SlF w s m 3 xs) (hB : netB n e S m xs = true) :
    Calls Tryz.prog 108 #[.agg #[.int .i64 (n : Int), .int .i64 (e : Int), .int .i64 S, s], .int .i64 (c : Int)] w fun r w' => r = .returned (.int .i64 (firstN n e m xs c)) ∧ Ge w w' := by
  obtain ⟨⟨h1, h5⟩, ⟨e1, e2⟩, _, hok, _⟩ := netP_of hB
  have hm : m ≤ 10 := prs_len (by omega) hok
  have HV := Lib.hid hs
  obtain ⟨p, cap, rfl, _⟩ := hs.open
  have HNo := Lib.hid (fun w' (g : Ge w w') => iNetOk n e S (.slice p m cap) m xs w' (HV.out.ge g) (by omega))
  rw [hB] at HNo
  have HI := Lib.hid (fun w' => iInner n e S (.slice p m cap) w' rfl (by omega) (by omega))
  have HNr := Lib.hid (fun (k : Nat) (hk : k < n - e) w' (g : Ge w w') => iWiresAt n e S (.slice p m cap) m xs ((e : Int) + k) w' (HV.out.ge g) hB (by omega) (by omega))
  have HF : Hid (∀ k, k < n - e → (∀ t, t < k → nodeQ n m xs c (e + t) = false) → nodeQ n m xs c (e + k) = true → ((e : Int) + k) = firstN n e m xs c) := fun k h1 h2 h3 => by
    rw [firstN, firstQ_some h2 h1 h3]; omega
  have HF0 : Hid ((∀ t, t < n - e → nodeQ n m xs c (e + t) = false) → (-1 : Int) = firstN n e m xs c) := fun h => (firstQ_none h).symm
  have HQ : Hid (∀ v, nodeQ n m xs c v = decide ((nearX m xs v n).length = c)) := fun _ => rfl
  have HLe := Lib.hid (fun v => nearX_len m xs v n)
  clear hs hok hB
  go_enter Tryz.func108, Tryz.ntmps108
  go_wp2_with (first
    | ((go_at_call 43; ((with_reducible refine (HNo.out _ (kge)).mono ?_); rintro r w1 ⟨rfl, g1⟩)); have b0 := Ge.keep g1 (cell_new (i := 0) rfl rfl); have b1 := Ge.keep g1 (cell_new (i := 1) rfl rfl); have b2 := Ge.keep g1 (cell_new (i := 2) rfl rfl); have b3 := Ge.keep g1 (cell_new (i := 3) rfl rfl); have z1 := g1.size; (simp at b0 b1 b2 b3 z1))
    | ((go_at_call 113; ((with_reducible refine (HI.out _).mono ?_); rintro r wI ⟨ad, ca, rfl, hkc, hI, gI⟩)); have GI : Ge w wI := (kge); replace b0 := gI.keep b0; replace b1 := gI.keep b1; replace b2 := gI.keep b2; replace b3 := gI.keep b3; have HIo := Lib.hid (SlI.openN hI (innZ_length e (n - e))); clear hI))
  obtain ⟨pI, cI, hpI, hcI⟩ := HIo.out
  simp only [Value.slice.injEq] at hpI
  obtain ⟨rfl, _, rfl⟩ := hpI
  replace hcI := Lib.hid hcI
  go_loopw [13] (fun i wr => ∃ k : Nat, k ≤ n - e ∧ i = .int .i64 k ∧ Hid (∀ t, t < k → nodeQ n m xs c (e + t) = false) ∧ Ge wI wr) (fun i _ => n - (intOf i).toNat)
  case atStart => exact ⟨0, Nat.zero_le _, rfl, fun t ht => by omega, Ge.refl _⟩
  case round =>
    obtain ⟨k, hk, rfl, HA, hg⟩ := hrel
    have c0 := hg.keep b0
    have c1 := hg.keep b1
    have c2 := hg.keep b2
    have c3 := hg.keep b3
    have gw : Ge w wr := Ge.trans GI hg
    by_cases hlt : k < n - e
    · obtain ⟨bI, oI, hbo, y0⟩ := hcI.out k hlt
      simp only [Option.some.injEq] at hbo
      subst hbo
      have y0r := hg.keep y0
      have hny : nth (innZ e (n - e)) k = (e : Int) + k := by unfold innZ; rw [mapR_nth hlt]; omega
      rw [hny] at y0r
      clear y0 hny
      have HNk := Lib.hid (fun w' g => HNr.out k hlt w' g)
      have HLk := HLe.out ((e : Int) + k)
      have HQk : Hid (nodeQ n m xs c (e + k) = decide ((nearX m xs ((e : Int) + k) n).length = c)) := by show _ = _; rw [HQ.out]; simp
      generalize nearX m xs ((e : Int) + k) n = L at *
      obtain ⟨l, hl⟩ : ∃ l, L.length = l := ⟨_, rfl⟩
      rw [hl] at HLk
      have HL := Lib.hid hl
      clear hl
      by_cases h : l = c
      · have HR := Lib.hid (HF.out k hlt HA.out (by rw [HQk.out, HL.out]; simp [h]))
        have t : ((l : Int) == (c : Int)) = true := by simp [h]
        go_wp2_with ((go_at_call 73; ((with_reducible refine (HNk.out _ gw).mono ?_); rintro r w5 ⟨v5, rfl, o5, g5⟩; rw [HL.out] at o5; obtain ⟨p5, c5, rfl⟩ := owns_form o5)))
        go_ret
        exact ⟨ret_int HR.out, kge⟩
      · have HA2 : Hid (∀ t, t < k + 1 → nodeQ n m xs c (e + t) = false) := fun t ht => by
          by_cases e' : t = k
          · rw [e', HQk.out, HL.out]; simp [h]
          · exact HA.out t (by omega)
        have t : ((l : Int) == (c : Int)) = false := by simp; omega
        go_wp2_with ((go_at_call 73; ((with_reducible refine (HNk.out _ gw).mono ?_); rintro r w5 ⟨v5, rfl, o5, g5⟩; rw [HL.out] at o5; obtain ⟨p5, c5, rfl⟩ := owns_form o5)))
        go_roundw
        case rel => exact ⟨k + 1, by omega, by go_num, HA2.out, kge⟩
        case measure => simp [intOf]; omega
    · have hkn : k = n - e := by omega
      subst hkn
      have HR := Lib.hid (HF0.out HA.out)
      go_wp2_with fail
      go_ret
      exact ⟨ret_int HR.out, gw⟩
end Go.Proofs.YtagiecajffhnpaaGreat

namespace Go.Proofs.YtagiecajffhnpaaGreat

theorem ord_of_good {n : Nat} {L : List Wr} (h : ∀ k, k < L.length → goodW n (flatW L) k) : Ord n L ∧ ∀ e ∈ L, e.w ≤ 200 := by
  have key : ∀ k, (hk : k < L.length) → 0 ≤ L[k].a ∧ L[k].a < L[k].b ∧ L[k].b < n ∧ 1 ≤ L[k].w ∧ L[k].w ≤ 200 := fun k hk => by
    obtain ⟨q1, q2, q3, q4, q5⟩ := (h k hk).1
    obtain ⟨f1, f2, f3⟩ := flat_wire hk
    rw [nthW_eq L k hk] at f1 f2 f3
    rw [f1] at q1 q2
    rw [f2] at q2 q3
    rw [f3] at q4 q5
    exact ⟨q1, q2, q3, q4, q5⟩
  have nxt : ∀ k, (hk : k + 1 < L.length) → ltW (L[k]'(by omega)) L[k + 1] := fun k hk => by
    have h1 := (h (k + 1) hk).2 (by omega)
    obtain ⟨f1, f2, _⟩ := flat_wire (L := L) (k := k) (by omega)
    obtain ⟨g1, g2, _⟩ := flat_wire hk
    rw [nthW_eq L k (by omega)] at f1 f2
    rw [nthW_eq L (k + 1) hk] at g1 g2
    rw [Nat.add_sub_cancel] at h1
    unfold ordW at h1
    rw [f1, f2, g1, g2] at h1
    exact h1
  have far : ∀ d i, (hd : i + d + 1 < L.length) → ltW (L[i]'(by omega)) L[i + d + 1] := by
    intro d
    induction d with
    | zero => intro i hd; exact nxt i hd
    | succ d ih => intro i hd; exact ltW_trans (ih i (by omega)) (nxt (i + d + 1) hd)
  refine ⟨⟨List.pairwise_iff_getElem.2 (fun i j hi hj hij => ?_), fun e he => ?_⟩, fun e he => ?_⟩
  · have := far (j - i - 1) i (by omega)
    have e : i + (j - i - 1) + 1 = j := by omega
    simp only [e] at this
    exact this
  · obtain ⟨k, hk, rfl⟩ := List.getElem_of_mem he
    have := key k hk
    omega
  · obtain ⟨k, hk, rfl⟩ := List.getElem_of_mem he
    exact (key k hk).2.2.2.2
theorem wat_le {N : Int} {xs : List Int} (v : Int) {k : Nat} : ∀ {m : Nat}, (∀ k, k < m → goodW N xs k) → k < m → (wa xs k = v ∨ wb xs k = v) → ww xs k ≤ wat xs v m
  | 0, _, h, _ => by omega
  | m + 1, h, hk, hv => by
    have h0 := wat_bd v (m := m) (fun k hk => h k (by omega))
    obtain ⟨_, _, _, q1, q2⟩ := (h m (by omega)).1
    simp only [wat]
    by_cases e : k = m
    · subst e; rw [if_pos hv]; omega
    · have := wat_le v (m := m) (fun k hk => h k (by omega)) (by omega) hv
      split <;> omega
theorem wat_pos {n : Nat} {L : List Wr} (h : ∀ k, k < L.length → goodW n (flatW L) k) {v c : Nat} (hc : (nearX L.length (flatW L) v n).length = c) (h1 : 1 ≤ c) : 0 < wat (flatW L) v L.length := by
  obtain ⟨x, hx⟩ : ∃ x, x ∈ nearX L.length (flatW L) v n := List.exists_mem_of_length_pos (by omega)
  have hw : 0 < wbet (flatW L) L.length v x := by
    unfold nearX at hx
    have := (List.mem_filter.1 hx).2
    simpa using this
  cases e : wfind (flatW L) v x L.length with
  | none => rw [wbet_none e] at hw; omega
  | some k =>
    obtain ⟨hk, hi⟩ := wfind_lt e
    obtain ⟨_, _, _, q1, _⟩ := (h k hk).1
    unfold isW at hi
    have := wat_le (v : Int) h hk (by omega)
    omega
/-- What replaces a node. -/
def redM (n : Nat) (L : List Wr) (v : Nat) : List Wr := tabC (meshF L v (wat (flatW L) v L.length)) (n - 1) (n - 1)
def redG (n : Nat) (S : Int) (L : List Wr) (v : Nat) : Int := gcdF (S * wat (flatW L) v L.length) (redM n L v)
def redS (n : Nat) (S : Int) (L : List Wr) (v : Nat) : Int := (S * wat (flatW L) v L.length).tdiv (redG n S L v)
def redL (n : Nat) (S : Int) (L : List Wr) (v : Nat) : List Wr := cutW (redG n S L v) (redM n L v)
noncomputable def redB (n : Nat) (E S : Int) (L : List Wr) (v : Nat) : Bool := netB ((n - 1 : Nat) : Int) E (redS n S L v) (redL n S L v).length (flatW (redL n S L v))
/-- A network: nodes, scale, wires. -/
structure NwR where
  n : Nat
  s : Int
  l : List Wr
/-- The node that is taken out. -/
def redV (e : Nat) (x : NwR) : Int := if firstN x.n e x.l.length (flatW x.l) 1 < 0 then firstN x.n e x.l.length (flatW x.l) 2 else firstN x.n e x.l.length (flatW x.l) 1
noncomputable def redN (e : Nat) (x : NwR) : Option NwR :=
  if redV e x < 0 then none else if redB x.n e x.s x.l (redV e x).toNat = true then some ⟨x.n - 1, redS x.n x.s x.l (redV e x).toNat, redL x.n x.s x.l (redV e x).toNat⟩ else none
noncomputable def redK (e : Nat) (x : NwR) : Nat → Option NwR
  | 0 => some x
  | k + 1 => (redK e x k).bind (redN e)
theorem redK_succ {e : Nat} {x y z : NwR} {k : Nat} (h : redK e x k = some y) (h2 : redN e y = some z) : redK e x (k + 1) = some z := by
  simp [redK, h, h2]
theorem redK_none {e : Nat} {x y : NwR} {k : Nat} (h : redK e x k = some y) (h2 : redN e y = none) : ∀ d, redK e x (k + 1 + d) = none
  | 0 => by simp [redK, h, h2]
  | d + 1 => by
    have := redK_none h h2 d
    rw [show k + 1 + (d + 1) = (k + 1 + d) + 1 by omega]
    simp [redK, this]
theorem redV_bd {e : Nat} {x : NwR} (h : ¬ redV e x < 0) : ∃ v c : Nat, redV e x = v ∧ (redV e x).toNat = v ∧ e ≤ v ∧ v < x.n ∧ (nearX x.l.length (flatW x.l) v x.n).length = c ∧ 1 ≤ c ∧ c ≤ 2 := by
  have h1 := firstN_bd x.n e x.l.length (flatW x.l) 1
  have h2 := firstN_bd x.n e x.l.length (flatW x.l) 2
  unfold redV at *
  split at h
  · rename_i hlt
    rw [if_pos hlt]
    rcases h2 with h2 | ⟨a, b, v, hv, hc⟩
    · omega
    · exact ⟨v, 2, hv, by omega, by omega, by omega, hc, by omega, by omega⟩
  · rename_i hlt
    rw [if_neg hlt]
    rcases h1 with h1 | ⟨a, b, v, hv, hc⟩
    · omega
    · exact ⟨v, 1, hv, by omega, by omega, by omega, hc, by omega, by omega⟩
end Go.Proofs.YtagiecajffhnpaaGreat

namespace Go.Proofs.YtagiecajffhnpaaGreat
set_option maxRecDepth 100000
open Go.ChangeShapes Go.WideShapes Go.ChangeAt Go.RowKit Go.Joins

/-- The table while row i is turned up to j. -/
def starR (T : Nat → Nat → Int) (s : Int) (v i j a b : Nat) : Int := if (a < i ∨ a = i ∧ b < j) ∧ ¬ a = v ∧ ¬ b = v ∧ ¬ a = b then T a b * s + T a v * T v b else T a b
theorem starR_zero (T : Nat → Nat → Int) (s : Int) (v n : Nat) : ∀ a b, a < n → b < n → T a b = starR T s v 0 0 a b := fun a b _ _ => by simp [starR]
theorem starR_step (T : Nat → Nat → Int) (s : Int) {v i j : Nat} (n : Nat) (h1 : ¬ i = v) (h2 : ¬ j = v) (h3 : ¬ i = j) : ∀ a b, a < n → b < n → (if a = i ∧ b = j then T i j * s + T i v * T v j else starR T s v i j a b) = starR T s v i (j + 1) a b := fun a b _ _ => by
  unfold starR
  by_cases e : a = i ∧ b = j
  · obtain ⟨rfl, rfl⟩ := e
    simp [h1, h2, h3]
  · rw [if_neg e]
    by_cases c : (a < i ∨ a = i ∧ b < j) ∧ ¬ a = v ∧ ¬ b = v ∧ ¬ a = b
    · rw [if_pos c, if_pos ⟨by omega, c.2⟩]
    · rw [if_neg c, if_neg (fun c' => c ⟨by omega, c'.2⟩)]
theorem starR_skip (T : Nat → Nat → Int) (s : Int) {v i j : Nat} (n : Nat) (h : i = v ∨ j = v ∨ i = j) : ∀ a b, a < n → b < n → starR T s v i j a b = starR T s v i (j + 1) a b := fun a b _ _ => by
  unfold starR
  by_cases c : (a < i ∨ a = i ∧ b < j) ∧ ¬ a = v ∧ ¬ b = v ∧ ¬ a = b
  · rw [if_pos c, if_pos ⟨by omega, c.2⟩]
  · rw [if_neg c, if_neg (fun c' => c ⟨by omega, c'.2⟩)]
theorem starR_next (T : Nat → Nat → Int) (s : Int) (v i n : Nat) : ∀ a b, a < n → b < n → starR T s v i n a b = starR T s v (i + 1) 0 a b := fun a b _ hb => by
  unfold starR
  by_cases c : (a < i ∨ a = i ∧ b < n) ∧ ¬ a = v ∧ ¬ b = v ∧ ¬ a = b
  · rw [if_pos c, if_pos ⟨by omega, c.2⟩]
  · rw [if_neg c, if_neg (fun c' => c ⟨by omega, c'.2⟩)]
theorem starR_at (T : Nat → Nat → Int) (s : Int) (v i j : Nat) : starR T s v i j i j = T i j ∧ starR T s v i j i v = T i v ∧ starR T s v i j v j = T v j := by simp [starR]
theorem starR_bd {T : Nat → Nat → Int} {s : Int} (hT : ∀ a b, 0 ≤ T a b ∧ T a b ≤ 200) (hs : 0 ≤ s ∧ s ≤ 2000) (v i j a b : Nat) : 0 ≤ starR T s v i j a b ∧ starR T s v i j a b ≤ 440000 := by
  have h1 := hT a b
  have h2 := hT a v
  have h3 := hT v b
  have m1 : 0 ≤ T a b * s := Int.mul_nonneg h1.1 hs.1
  have m2 : T a b * s ≤ 200 * 2000 := Int.mul_le_mul h1.2 hs.2 hs.1 (by omega)
  have m3 : 0 ≤ T a v * T v b := Int.mul_nonneg h2.1 h3.1
  have m4 : T a v * T v b ≤ 200 * 200 := Int.mul_le_mul h2.2 h3.2 h3.1 (by omega)
  unfold starR
  split <;> omega
theorem star_tab {n v : Nat} {L : List Wr} {s : Int} (hL : Ord n L) (hv : v < n) :
    tabC (fun (i j : Nat) => starR (fun a b => wbet (flatW L) L.length (a : Int) (b : Int)) s v n 0 (upI v i) (upI v j)) (n - 1) (n - 1) = tabC (meshF L v s) (n - 1) (n - 1) := by
  refine tabC_congr (fun i j hij hj => ?_)
  have u1 := up_ne v i
  have u2 := up_ne v j
  have u3 : upI v i < n := by unfold upI; split <;> omega
  have u4 : ¬ upI v i = upI v j := by unfold upI; split <;> split <;> omega
  unfold starR meshF
  rw [if_pos ⟨.inl u3, u1, u2, u4⟩]
  simp only [wbet_wbL hL]

/-- A network's block of four cells. -/
def NetIn (w : World) (B : Nat) (n e S : Int) (v : Value) : Prop := w.cell? ⟨B, 0, none⟩ = some (.int .i64 n) ∧ w.cell? ⟨B, 1, none⟩ = some (.int .i64 e) ∧ w.cell? ⟨B, 2, none⟩ = some (.int .i64 S) ∧ w.cell? ⟨B, 3, none⟩ = some v
theorem NetIn.ge {w w' : World} {B : Nat} {n e S : Int} {v : Value} (h : NetIn w B n e S v) (hg : Ge w w') : NetIn w' B n e S v := ⟨hg.keep h.1, hg.keep h.2.1, hg.keep h.2.2.1, hg.keep h.2.2.2⟩
theorem NetIn.new (w : World) (n e S : Int) (v : Value) : NetIn (w.alloc (.cells #[.int .i64 n, .int .i64 e, .int .i64 S, v] 33)) w.heap.size n e S v :=
  ⟨cell_new rfl rfl, cell_new rfl rfl, cell_new rfl rfl, cell_new rfl rfl⟩
theorem in_res (w : World) (n e S : Int) (v : Value) : NetIn ((w.alloc (.cells #[.int .i64 n, .int .i64 e, .int .i64 S, v] 33)).alloc (.cells #[.int .i64 0, .int .i64 0, .int .i64 0, .slice none 0 0] 33)) w.heap.size n e S v ∧
    ResD ((w.alloc (.cells #[.int .i64 n, .int .i64 e, .int .i64 S, v] 33)).alloc (.cells #[.int .i64 0, .int .i64 0, .int .i64 0, .slice none 0 0] 33)) (w.heap.size + 1) := by
  refine ⟨(NetIn.new w n e S v).ge (Ge.alloc (Ge.refl _) _), ?_⟩
  have := ResD.new (w.alloc (.cells #[.int .i64 n, .int .i64 e, .int .i64 S, v] 33)) (.int .i64 0) (.int .i64 0) (.int .i64 0) (.slice none 0 0) 33
  simp at this
  exact this
/-- The table's wires behind the turn. -/
def starM (n m : Nat) (xs : List Int) (v : Nat) : List Wr := tabC (fun (i j : Nat) => starR (fun a b => wbet xs m (a : Int) (b : Int)) (wat xs v m) v n 0 (upI v i) (upI v j)) (n - 1) (n - 1)

set_option maxHeartbeats 6400000 in
theorem iStarMesh0 (n v e : Nat) (S : Int) (s : Value) (m : Nat) (xs : List Int) (w : World) (hs : SlF w s m 3 xs) (hB : netB n e S m xs = true) (hv0 : e ≤ v) (hv : v < n) (hpos : 0 < wat xs v m) :
    Calls Tryz.prog 38 #[.agg #[.int .i64 (n : Int), .int .i64 (e : Int), .int .i64 S, s], .int .i64 (v : Int)] w
      (GivesO w (netB ((n - 1 : Nat) : Int) e ((S * wat xs v m).tdiv (gcdF (S * wat xs v m) (starM n m xs v))) (starM n m xs v).length (flatW (cutW (gcdF (S * wat xs v m) (starM n m xs v)) (starM n m xs v))))
        ((n - 1 : Nat) : Int) e ((S * wat xs v m).tdiv (gcdF (S * wat xs v m) (starM n m xs v))) (cutW (gcdF (S * wat xs v m) (starM n m xs v)) (starM n m xs v))) := by
  obtain ⟨⟨h1, h5⟩, ⟨e1, e2⟩, ⟨s1, s2⟩, hok, _⟩ := netP_of hB
  have hm : m ≤ 10 := prs_len (by omega) hok
  have hwb := wat_bd (v : Int) hok
  have HV := Lib.hid hs
  have HK := Lib.hid hok
  have hTb : ∀ a b : Nat, 0 ≤ wbet xs m (a : Int) (b : Int) ∧ wbet xs m (a : Int) (b : Int) ≤ 200 := fun a b => wbet_bd hok _ _
  obtain ⟨p, cap, rfl, _⟩ := hs.open
  have HNo := Lib.hid (fun w' (g : Ge w w') => iNetOk n e S (.slice p m cap) m xs w' (HV.out.ge g) (by omega))
  rw [hB] at HNo
  have HTa := Lib.hid (fun w' (g : Ge w w') => iTable n e S (.slice p m cap) m xs w' (HV.out.ge g) hm (by omega) (by omega) HK.out)
  have HWa := Lib.hid (fun w' (g : Ge w w') => iWeightAt n e S (.slice p m cap) m xs (v : Int) w' (HV.out.ge g) hm HK.out)
  have HMe : Hid (∀ (Z : Int → Int → Int), (∀ i j : Nat, Z i j = starR (fun a b => wbet xs m (a : Int) (b : Int)) (wat xs v m) v n 0 (upI v i) (upI v j)) → tabC (fun i j => Z i j) (n - 1) (n - 1) = starM n m xs v) := fun Z hZ => tabC_congr (fun i j _ _ => hZ i j)
  obtain ⟨T, hT⟩ : ∃ T : Nat → Nat → Int, (fun (a b : Nat) => wbet xs m (a : Int) (b : Int)) = T := ⟨_, rfl⟩
  have hTb' : ∀ a b : Nat, 0 ≤ T a b ∧ T a b ≤ 200 := fun a b => by rw [← hT]; exact hTb a b
  rw [hT] at HTa HMe
  generalize starM n m xs v = MM at *
  generalize wat xs (v : Int) m = W at *
  have hW : 0 ≤ W ∧ W ≤ 2000 := by omega
  have HBd := Lib.hid (starR_bd hTb' hW v)
  have HTb := Lib.hid hTb'
  clear hTb hTb' hT hs hok hB hwb
  obtain ⟨NB0, R0⟩ := in_res w n e S (.slice p m cap)
  go_enter Tryz.func38, Tryz.ntmps38
  go_wp2_with (first
    | ((go_at_call 43; ((with_reducible refine (HNo.out _ (kge)).mono ?_); rintro r w1 ⟨rfl, g1⟩)); have NB1 := NB0.ge g1; have R1 := R0.ge g1; have gw1 : Ge w w1 := (kge); have z1 := g1.size; (simp at z1); obtain ⟨b0, b1, b2, b3⟩ := NB1)
    | ((go_at_call 70; ((with_reducible refine (HTa.out _ gw1).mono ?_); rintro r w2 ⟨G, f, cs, rfl, hO, g2⟩)); have b0 := Ge.keep g2 b0; have b1 := Ge.keep g2 b1; have b2 := Ge.keep g2 b2; have b3 := Ge.keep g2 b3; have z2 := g2.size; have R2 := R1.ge g2; have gw2 := Ge.trans gw1 g2)
    | ((go_at_call 74; ((with_reducible refine (HWa.out _ gw2).mono ?_); rintro r w3 ⟨rfl, g3⟩)); have z3 := g3.size; have hO3 := hO.ge g3; have b0 := Ge.keep g3 b0; have b1 := Ge.keep g3 b1; have b2 := Ge.keep g3 b2; have b3 := Ge.keep g3 b3; have R3 := R2.ge g3; have gw3 := Ge.trans gw2 g3))
  have HO0 : Hid (∃ f cs, OMat w3 w1.heap.size G n f cs n (starR T W v 0 0)) := ⟨f, cs, hO3.congr (starR_zero T W v n)⟩
  have NB3 := Lib.hid (⟨b0, b1, b2, b3⟩ : NetIn w3 w.heap.size n e S (.slice p m cap))
  have RR3 := Lib.hid R3
  clear b0 b1 b2 b3 hO hO3 R1 R2 R3 R0 NB0
  go_loopw [33] (fun i' wr => ∃ i : Nat, i ≤ n ∧ i' = .int .i64 i ∧ (∃ f cs, OMat wr w1.heap.size G n f cs n (starR T W v i 0)) ∧ NetIn wr w.heap.size n e S (.slice p m cap) ∧ ResD wr (w.heap.size + 1) ∧ Ge w wr) (fun i _ => n - (intOf i).toNat)
  case atStart => exact ⟨0, Nat.zero_le _, rfl, HO0.out, NB3.out, RR3.out, gw3⟩
  case round =>
    clear HO0 NB3 RR3
    obtain ⟨i, hi, rfl, ⟨f, cs, HO⟩, HN, HR, hg⟩ := hrel
    have HOi := Lib.hid HO
    have HNi := Lib.hid HN
    have HRi := Lib.hid HR
    clear HO HN HR
    by_cases hlt : i < n
    · go_wp2_with fail
      go_loopw [38] (fun j' wr => ∃ j : Nat, j ≤ n ∧ j' = .int .i64 j ∧ (∃ f cs, OMat wr w1.heap.size G n f cs n (starR T W v i j)) ∧ NetIn wr w.heap.size n e S (.slice p m cap) ∧ ResD wr (w.heap.size + 1) ∧ Ge w wr) (fun i _ => n - (intOf i).toNat)
      case atStart => exact ⟨0, Nat.zero_le _, rfl, ⟨f, cs, HOi.out⟩, HNi.out, HRi.out, hg⟩
      case round =>
        clear HOi HNi HRi
        obtain ⟨j, hj, rfl, ⟨f, cs, HO⟩, HN, HR, hg⟩ := hrel
        have HOi := Lib.hid HO
        have HNi := Lib.hid HN
        have HRi := Lib.hid HR
        clear HO HN HR
        by_cases hjn : j < n
        · by_cases d1 : i = v
          · have HSk := Lib.hid (HOi.out.congr (starR_skip T W n (v := v) (i := i) (j := j) (.inl d1)))
            clear HOi
            have t1 : ((i : Int) != (v : Int)) = false := by simp [d1]
            go_wp2_with fail
            go_roundw
            case rel => exact ⟨j + 1, by omega, by go_num, ⟨f, cs, HSk.out⟩, HNi.out, HRi.out, hg⟩
            case measure => simp [intOf]; omega
          · have t1 : ((i : Int) != (v : Int)) = true := by simp; omega
            by_cases d2 : j = v
            · have HSk := Lib.hid (HOi.out.congr (starR_skip T W n (v := v) (i := i) (j := j) (.inr (.inl d2))))
              clear HOi
              have t2 : ((j : Int) != (v : Int)) = false := by simp [d2]
              go_wp2_with fail
              go_roundw
              case rel => exact ⟨j + 1, by omega, by go_num, ⟨f, cs, HSk.out⟩, HNi.out, HRi.out, hg⟩
              case measure => simp [intOf]; omega
            · have t2 : ((j : Int) != (v : Int)) = true := by simp; omega
              by_cases d3 : i = j
              · have HSk := Lib.hid (HOi.out.congr (starR_skip T W n (v := v) (i := i) (j := j) (.inr (.inr d3))))
                clear HOi
                have t3 : ((i : Int) != (j : Int)) = false := by simp [d3]
                go_wp2_with fail
                go_roundw
                case rel => exact ⟨j + 1, by omega, by go_num, ⟨f, cs, HSk.out⟩, HNi.out, HRi.out, hg⟩
                case measure => simp [intOf]; omega
              · have t3 : ((i : Int) != (j : Int)) = true := by simp; omega
                obtain ⟨q1, q2, q3⟩ := starR_at T W v i j
                have x0 := HOi.out.row hlt hlt
                have x1 := HOi.out.row hv hv
                have y0 := HOi.out.entry hlt hjn
                have y1 := HOi.out.entry hlt hv
                have y2 := HOi.out.entry hv hjn
                have yf := HOi.out.froz hlt j
                rw [q1] at y0
                rw [q2] at y1
                rw [q3] at y2
                have hl := HOi.out.lt
                have hE := (HOi.out.ge (Ge.drew (Ge.refl wr))).setE hlt hjn (T i j * W + T i v * T v j)
                have HE := Lib.hid (hE.1.congr (starR_step T W n d1 d2 d3))
                have zfi := (hl.2.2 i hlt).1
                have HNe : Hid (NetIn (wr.drew.setCell ⟨f i, j, none⟩ (.int .i64 (T i j * W + T i v * T v j))) w.heap.size n e S (.slice p m cap)) := by
                  obtain ⟨b0, b1, b2, b3⟩ := HNi.out.ge (Ge.drew (Ge.refl wr))
                  have k : ∀ x : Nat, (⟨f i, j, none⟩ : Addr) ≠ ⟨w.heap.size, x, none⟩ := fun x ee => by have := congrArg Addr.block ee; simp at this; omega
                  exact ⟨cell_set2 (k 0) b0, cell_set2 (k 1) b1, cell_set2 (k 2) b2, cell_set2 (k 3) b3⟩
                have HRe : Hid (ResD (wr.drew.setCell ⟨f i, j, none⟩ (.int .i64 (T i j * W + T i v * T v j))) (w.heap.size + 1)) := fun x hx => by
                  obtain ⟨u, r1, r2⟩ := HRi.out.ge (Ge.drew (Ge.refl wr)) x hx
                  exact ⟨u, cell_set2 (fun ee => by have := congrArg Addr.block ee; simp at this; omega) r1, froz_set r2⟩
                have hgE := Ge.setCell (Ge.drew hg) (p := ⟨f i, j, none⟩) (by show w.heap.size ≤ f i; omega) (.int .i64 (T i j * W + T i v * T v j))
                have hb0 := HTb.out i j
                have hb1 := HTb.out i v
                have hb2 := HTb.out v j
                have m1 : 0 ≤ T i j * W := Int.mul_nonneg hb0.1 hW.1
                have m2 : T i j * W ≤ 200 * 2000 := Int.mul_le_mul hb0.2 hW.2 hW.1 (by omega)
                have m3 : 0 ≤ T i v * T v j := Int.mul_nonneg hb1.1 hb2.1
                have m4 : T i v * T v j ≤ 200 * 200 := Int.mul_le_mul hb1.2 hb2.2 hb2.1 (by omega)
                have k1 : IntKind.i64.wrap (T i j * W) = T i j * W := IntWalk.i64_in _ (by omega)
                have k2 : IntKind.i64.wrap (T i v * T v j) = T i v * T v j := IntWalk.i64_in _ (by omega)
                have k3 : IntKind.i64.wrap (T i j * W + T i v * T v j) = T i j * W + T i v * T v j := IntWalk.i64_in _ (by omega)
                clear hE hl HOi HNi HRi q1 q2 q3
                generalize T i j = X at *
                generalize T i v = Y at *
                generalize T v j = Z at *
                go_wp2_with fail
                refine wp_region_head (S := fun w' => w'.cell? ⟨G, i, none⟩ = some (.slice (some ⟨f i, 0, none⟩) n n) ∧ w'.cell? ⟨G, v, none⟩ = some (.slice (some ⟨f v, 0, none⟩) n n) ∧ w'.cell? ⟨f i, j, none⟩ = some (.int .i64 X) ∧ w'.cell? ⟨f i, v, none⟩ = some (.int .i64 Y) ∧ w'.cell? ⟨f v, j, none⟩ = some (.int .i64 Z)) 31 (by kernel_rfl) (by kernel_rfl) (⟨cell_drew x0, cell_drew x1, cell_drew y0, cell_drew y1, cell_drew y2⟩) (fun hHeld => ?_)
                refine head_takeR 0 (v := ?_) rfl ?_ ?_; rotate_left; (focus (intro w' hSw; (try dsimp only at hSw); go_simp; (try with_reducible rfl))); (try simp only [Act.put, hnA, hnB, hnC])
                refine head_takeR 1 (v := ?_) rfl ?_ ?_; rotate_left; (focus (intro w' hSw; (try dsimp only at hSw); go_simp; (try with_reducible rfl))); (try simp only [Act.put, hnA, hnB, hnC])
                refine head_takeR 2 (v := ?_) rfl ?_ ?_; rotate_left; (focus (intro w' hSw; (try dsimp only at hSw); go_simp; (try with_reducible rfl))); (try simp only [Act.put, hnA, hnB, hnC])
                refine head_takeR 3 (v := ?_) rfl ?_ ?_; rotate_left; (focus (intro w' hSw; (try dsimp only at hSw); go_simp; (try with_reducible rfl))); (try simp only [Act.put, hnA, hnB, hnC])
                refine head_takeR 4 (v := ?_) rfl ?_ ?_; rotate_left; (focus (intro w' hSw; (try dsimp only at hSw); go_simp; (try with_reducible rfl))); (try simp only [Act.put, hnA, hnB, hnC])
                refine head_takeR 5 (v := ?_) rfl ?_ ?_; rotate_left; (focus (intro w' hSw; (try dsimp only at hSw); go_simp; (try with_reducible rfl))); (try simp only [Act.put, hnA, hnB, hnC])
                refine head_takeR 6 (v := ?_) rfl ?_ ?_; rotate_left; (focus (intro w' hSw; (try dsimp only at hSw); go_simp; (try with_reducible rfl))); (try simp only [Act.put, hnA, hnB, hnC])
                refine head_takeR 7 (v := ?_) rfl ?_ ?_; rotate_left; (focus (intro w' hSw; (try dsimp only at hSw); go_simp; (try with_reducible rfl))); (try simp only [Act.put, hnA, hnB, hnC])
                refine head_takeR 8 (v := ?_) rfl ?_ ?_; rotate_left; (focus (intro w' hSw; (try dsimp only at hSw); go_simp; (try with_reducible rfl))); (try simp only [Act.put, hnA, hnB, hnC])
                refine head_takeR 9 (v := ?_) rfl ?_ ?_; rotate_left; (focus (intro w' hSw; (try dsimp only at hSw); go_simp; (try with_reducible rfl))); (try simp only [Act.put, hnA, hnB, hnC])
                refine head_takeR 10 (v := ?_) rfl ?_ ?_; rotate_left; (focus (intro w' hSw; (try dsimp only at hSw); go_simp; (try with_reducible rfl))); (try simp only [Act.put, hnA, hnB, hnC])
                refine head_takeR 11 (v := ?_) rfl ?_ ?_; rotate_left; (focus (intro w' hSw; (try dsimp only at hSw); go_simp; (try with_reducible rfl))); (try simp only [Act.put, hnA, hnB, hnC])
                refine head_takeR 12 (v := ?_) rfl ?_ ?_; rotate_left; (focus (intro w' hSw; (try dsimp only at hSw); go_simp; (try with_reducible rfl))); (try simp only [Act.put, hnA, hnB, hnC])
                refine head_takeR 13 (v := ?_) rfl ?_ ?_; rotate_left; (focus (intro w' hSw; (try dsimp only at hSw); go_simp; (try with_reducible rfl))); (try simp only [Act.put, hnA, hnB, hnC])
                refine head_takeR 14 (v := ?_) rfl ?_ ?_; rotate_left; (focus (intro w' hSw; (try dsimp only at hSw); go_simp; (try with_reducible rfl))); (try simp only [Act.put, hnA, hnB, hnC])
                refine head_takeR 15 (v := ?_) rfl ?_ ?_; rotate_left; (focus (intro w' hSw; (try dsimp only at hSw); go_simp; (try with_reducible rfl))); (try simp only [Act.put, hnA, hnB, hnC])
                refine head_takeR 16 (v := ?_) rfl ?_ ?_; rotate_left; (focus (intro w' hSw; (try dsimp only at hSw); go_simp; (try with_reducible rfl))); (try simp only [Act.put, hnA, hnB, hnC])
                refine head_takeR 17 (v := ?_) rfl ?_ ?_; rotate_left; (focus (intro w' hSw; (try dsimp only at hSw); go_simp; (try with_reducible rfl))); (try simp only [Act.put, hnA, hnB, hnC])
                refine head_takeR 18 (v := ?_) rfl ?_ ?_; rotate_left; (focus (intro w' hSw; (try dsimp only at hSw); go_simp; (try with_reducible rfl))); (try simp only [Act.put, hnA, hnB, hnC])
                refine head_takeR 19 (v := ?_) rfl ?_ ?_; rotate_left; (focus (intro w' hSw; (try dsimp only at hSw); go_simp; (try with_reducible rfl))); (try simp only [Act.put, hnA, hnB, hnC])
                refine head_takeR 20 (v := ?_) rfl ?_ ?_; rotate_left; (focus (intro w' hSw; (try dsimp only at hSw); go_simp; (try with_reducible rfl))); (try simp only [Act.put, hnA, hnB, hnC])
                refine head_takeR 21 (v := ?_) rfl ?_ ?_; rotate_left; (focus (intro w' hSw; (try dsimp only at hSw); go_simp; (try with_reducible rfl))); (try simp only [Act.put, hnA, hnB, hnC])
                refine head_takeR 22 (v := ?_) rfl ?_ ?_; rotate_left; (focus (intro w' hSw; (try dsimp only at hSw); go_simp; (try with_reducible rfl))); (try simp only [Act.put, hnA, hnB, hnC])
                refine head_takeR 23 (v := ?_) rfl ?_ ?_; rotate_left; (focus (intro w' hSw; (try dsimp only at hSw); go_simp; (try with_reducible rfl))); (try simp only [Act.put, hnA, hnB, hnC])
                refine head_takeR 24 (v := ?_) rfl ?_ ?_; rotate_left; (focus (intro w' hSw; (try dsimp only at hSw); go_simp; (try with_reducible rfl))); (try simp only [Act.put, hnA, hnB, hnC])
                refine head_takeR 25 (v := ?_) rfl ?_ ?_; rotate_left; (focus (intro w' hSw; (try dsimp only at hSw); go_simp; (try with_reducible rfl))); (try simp only [Act.put, hnA, hnB, hnC])
                refine head_takeR 26 (v := ?_) rfl ?_ ?_; rotate_left; (focus (intro w' hSw; (try dsimp only at hSw); go_simp; (try with_reducible rfl))); (try simp only [Act.put, hnA, hnB, hnC])
                refine head_takeR 27 (v := ?_) rfl ?_ ?_; rotate_left; (focus (intro w' hSw; (try dsimp only at hSw); go_simp; (try with_reducible rfl))); (try simp only [Act.put, hnA, hnB, hnC])
                refine head_takeR 28 (v := ?_) rfl ?_ ?_; rotate_left; (focus (intro w' hSw; (try dsimp only at hSw); go_simp; (try with_reducible rfl))); (try simp only [Act.put, hnA, hnB, hnC])
                refine head_takeR 29 (v := ?_) rfl ?_ ?_; rotate_left; (focus (intro w' hSw; (try dsimp only at hSw); go_simp; (try with_reducible rfl))); (try simp only [Act.put, hnA, hnB, hnC])
                refine head_takeR 30 (v := ?_) rfl ?_ ?_; rotate_left; (focus (intro w' hSw; (try dsimp only at hSw); go_simp; (try with_reducible rfl))); (try simp only [Act.put, hnA, hnB, hnC])
                refine head_done (by kernel_rfl) ?_
                go_wp2_with fail
                go_roundw
                case rel => exact ⟨j + 1, by omega, by go_num, ⟨f, cs, HE.out⟩, HNe.out, HRe.out, hgE⟩
                case measure => simp [intOf]; omega
        · have hjn' : j = n := by omega
          subst hjn'
          have HOn := Lib.hid (HOi.out.congr (starR_next T W v i j))
          clear HOi
          go_wp2_with fail
          go_roundw
          case rel => exact ⟨i + 1, by omega, by go_num, ⟨f, cs, HOn.out⟩, HNi.out, HRi.out, hg⟩
          case measure => simp [intOf]; omega
    · have hin : i = n := by omega
      subst hin
      obtain ⟨f, cs, HOx⟩ := (⟨f, cs, HOi.out⟩ : ∃ f cs, OMat wr w1.heap.size G i f cs i (starR T W v i 0))
      have HMM := Lib.hid (HOx.slMM (Z := fun (a b : Int) => starR T W v i 0 a.toNat b.toNat) (fun a b _ _ => by simp))
      have HWo := Lib.hid (fun w' (g : Ge wr w') => iWithout i v (fun (a b : Int) => starR T W v i 0 a.toNat b.toNat) _ w' (HMM.out.ge g) (by omega) (by omega) hv)
      have HZ := HMe.out (fun (a b : Int) => starR T W v i 0 (upI v a.toNat) (upI v b.toNat)) (fun a b => by simp)
      have hSW1 : 0 < S * W := Int.mul_pos (by omega) hpos
      have hSW2 : S * W ≤ 1000 * 2000 := Int.mul_le_mul s2 hW.2 hW.1 (by omega)
      have HNO := Lib.hid (fun vM w' (h : SlMM w' vM (i - 1) (fun (a b : Int) => starR T W v i 0 (upI v a.toNat) (upI v b.toNat))) => iNetOf (i - 1) e (S * W) (fun (a b : Int) => starR T W v i 0 (upI v a.toNat) (upI v b.toNat)) vM w' h (by omega) hSW1 (by omega) (fun a b _ _ => by have := HBd.out i 0 (upI v (a : Int).toNat) (upI v (b : Int).toNat); omega))
      rw [HZ] at HNO
      have ew : (fun (a b : Int) => starR T W v i 0 ((upI v a.toNat : Nat) : Int).toNat ((upI v b.toNat : Nat) : Int).toNat) = (fun (a b : Int) => starR T W v i 0 (upI v a.toNat) (upI v b.toNat)) := by simp
      rw [ew] at HWo
      have k1 : IntKind.i64.wrap (S * W) = S * W := IntWalk.i64_in _ (by omega)
      obtain ⟨b0, b1, b2, b3⟩ := HNi.out
      have zl := World.block_lt_of_cell? _ _ b3
      generalize (fun (a b : Int) => starR T W v i 0 (upI v a.toNat) (upI v b.toNat)) = ZZ at *
      clear HOx HOi HMM HZ ew HMe HBd
      generalize netB ((i - 1 : Nat) : Int) e ((S * W).tdiv (gcdF (S * W) MM)) MM.length (flatW (cutW (gcdF (S * W) MM) MM)) = BB at *
      generalize (S * W).tdiv (gcdF (S * W) MM) = SS at *
      generalize cutW (gcdF (S * W) MM) MM = LL at *
      go_wp2_with fail
      refine wp_region_head (S := fun w' => w'.cell? ⟨w.heap.size, 1, none⟩ = some (.int .i64 (e : Int)) ∧ w'.cell? ⟨w.heap.size, 2, none⟩ = some (.int .i64 S)) 12 (by kernel_rfl) (by kernel_rfl) (⟨cell_drew b1, cell_drew b2⟩) (fun hHeld => ?_)
      refine head_takeR 0 (v := ?_) rfl ?_ ?_; rotate_left; (focus (intro w' hSw; (try dsimp only at hSw); go_simp; (try with_reducible rfl))); (try simp only [Act.put, hnA, hnB, hnC])
      refine head_takeR 1 (v := ?_) rfl ?_ ?_; rotate_left; (focus (intro w' hSw; (try dsimp only at hSw); go_simp; (try with_reducible rfl))); (try simp only [Act.put, hnA, hnB, hnC])
      refine head_takeR 2 (v := ?_) rfl ?_ ?_; rotate_left; (focus (intro w' hSw; (try dsimp only at hSw); go_simp; (try with_reducible rfl))); (try simp only [Act.put, hnA, hnB, hnC])
      refine head_takeR 3 (v := ?_) rfl ?_ ?_; rotate_left; (focus (intro w' hSw; (try dsimp only at hSw); go_simp; (try with_reducible rfl))); (try simp only [Act.put, hnA, hnB, hnC])
      refine head_takeR 4 (v := ?_) rfl ?_ ?_; rotate_left; (focus (intro w' hSw; (try dsimp only at hSw); go_simp; (try with_reducible rfl))); (try simp only [Act.put, hnA, hnB, hnC])
      refine head_takeR 5 (v := ?_) rfl ?_ ?_; rotate_left; (focus (intro w' hSw; (try dsimp only at hSw); go_simp; (try with_reducible rfl))); (try simp only [Act.put, hnA, hnB, hnC])
      refine head_takeR 6 (v := ?_) rfl ?_ ?_; rotate_left; (focus (intro w' hSw; (try dsimp only at hSw); go_simp; (try with_reducible rfl))); (try simp only [Act.put, hnA, hnB, hnC])
      refine head_takeR 7 (v := ?_) rfl ?_ ?_; rotate_left; (focus (intro w' hSw; (try dsimp only at hSw); go_simp; (try with_reducible rfl))); (try simp only [Act.put, hnA, hnB, hnC])
      refine head_one 8 rfl (by kernel_rfl) (fun K hK => ?_)
      go_simp
      (go_at_call 72; ((with_reducible refine (HWo.out _ (Ge.drew (Ge.refl _))).mono ?_); rintro r w5 ⟨u5, rfl, hM5, g5⟩))
      have g5' : Ge wr w5 := Ge.trans (Ge.drew (Ge.refl _)) g5
      refine hK.out _ _ ⟨g5'.keep b1, g5'.keep b2⟩ (fun hHeld => ?_)
      clear hK K
      (try simp only [Act.put, hnA, hnB, hnC])
      refine head_one 9 rfl (by kernel_rfl) (fun K hK => ?_)
      go_simp
      (go_at_call 71; ((with_reducible refine (HNO.out _ _ hM5).mono ?_); rintro r w6 ⟨g6, hcase⟩))
      have g6' : Ge wr w6 := Ge.trans g5' g6
      have gw6 : Ge w w6 := Ge.trans hg g6'
      have R6 := HRi.out.ge g6'
      obtain ⟨r0, p0, f0⟩ := R6 0 (by omega)
      obtain ⟨r1, p1, f1⟩ := R6 1 (by omega)
      obtain ⟨r2, p2, f2⟩ := R6 2 (by omega)
      obtain ⟨r3, p3, f3⟩ := R6 3 (by omega)
      rcases hcase with ⟨hb, u6, rfl, o6⟩ | ⟨hb, rfl⟩
      · refine hK.out _ _ ⟨g6'.keep b1, g6'.keep b2⟩ (fun hHeld => ?_)
        clear hK K
        (try simp only [Act.put, hnA, hnB, hnC])
        refine head_takeR 10 (v := ?_) rfl ?_ ?_; rotate_left; (focus (intro w' hSw; (try dsimp only at hSw); go_simp; (try with_reducible rfl))); (try simp only [Act.put, hnA, hnB, hnC])
        refine head_takeR 11 (v := ?_) rfl ?_ ?_; rotate_left; (focus (intro w' hSw; (try dsimp only at hSw); go_simp; (try with_reducible rfl))); (try simp only [Act.put, hnA, hnB, hnC])
        refine head_done (by kernel_rfl) ?_
        have HO6 := Lib.hid o6
        obtain ⟨p6, c6, rfl⟩ := owns_form o6
        clear o6
        have hz5 := g5'.size
        have zr1 : w.heap.size + 1 < wr.heap.size := by obtain ⟨u, r1, _⟩ := HRi.out 0 (by omega); exact World.block_lt_of_cell? _ _ r1
        go_wp2_with fail
        exact bodyPost_ret (v := .tuple #[.agg #[.int .i64 ((i - 1 : Nat) : Int), .int .i64 (e : Int), .int .i64 SS, .slice p6 LL.length c6], .bool true]) (by simp [results, Tryz.results38, go_sem, *]) rfl (GivesO.t hb (by refine owns_mono (base := w5.heap.size) ?_ (by omega); repeat (first | exact HO6.out | refine own_setD ?_ (by omega))) (kge))
      · refine hK.out _ _ ⟨g6'.keep b1, g6'.keep b2⟩ (fun hHeld => ?_)
        clear hK K
        (try simp only [Act.put, hnA, hnB, hnC])
        refine head_takeR 10 (v := ?_) rfl ?_ ?_; rotate_left; (focus (intro w' hSw; (try dsimp only at hSw); go_simp; (try with_reducible rfl))); (try simp only [Act.put, hnA, hnB, hnC])
        refine head_takeR 11 (v := ?_) rfl ?_ ?_; rotate_left; (focus (intro w' hSw; (try dsimp only at hSw); go_simp; (try with_reducible rfl))); (try simp only [Act.put, hnA, hnB, hnC])
        refine head_done (by kernel_rfl) ?_
        go_wp2_with fail
        exact bodyPost_ret (v := .tuple #[.agg #[.int .i64 0, .int .i64 0, .int .i64 0, .slice none 0 0], .bool false]) (by simp [results, Tryz.results38, go_sem, *]) rfl (GivesO.f hb (kge))
theorem starM_red {n v e : Nat} {S : Int} {L : List Wr} (hB : netB n e S L.length (flatW L) = true) (hv : v < n) : starM n L.length (flatW L) v = redM n L v := by
  obtain ⟨_, _, _, hok, _⟩ := netP_of hB
  exact star_tab (ord_of_good hok).1 hv
theorem iStarMesh (n v e : Nat) (S : Int) (s : Value) (L : List Wr) (w : World) (hs : SlF w s L.length 3 (flatW L)) (hB : netB n e S L.length (flatW L) = true) (hv0 : e ≤ v) (hv : v < n) (hpos : 0 < wat (flatW L) v L.length) :
    Calls Tryz.prog 38 #[.agg #[.int .i64 (n : Int), .int .i64 (e : Int), .int .i64 S, s], .int .i64 (v : Int)] w (GivesO w (redB n e S L v) ((n - 1 : Nat) : Int) e (redS n S L v) (redL n S L v)) := by
  have h := iStarMesh0 n v e S s L.length (flatW L) w hs hB hv0 hv hpos
  rw [starM_red hB hv] at h
  unfold redB
  unfold redS redL redG
  rw [cutW_length]
  exact h
end Go.Proofs.YtagiecajffhnpaaGreat

namespace Go.Proofs.YtagiecajffhnpaaGreat
set_option maxRecDepth 100000
open Go.ChangeShapes Go.WideShapes Go.ChangeAt Go.RowKit Go.Joins

set_option maxHeartbeats 6400000 in
theorem iNetOfU (k : Nat) (E S : Int) (T : Int → Int → Int) (vm : Value) (w : World) (hm : SlMM w vm k T) (hk : k ≤ 5) (hS : 0 < S) (hS2 : S ≤ 1000000000000) (hb : ∀ i j : Nat, i < k → j < k → 0 ≤ T i j ∧ T i j ≤ 1000000000000) :
    Calls Tryz.prog 71 #[.int .i64 E, .int .i64 S, vm, .bool false] w (GivesO w
(netB k E S (tabC (fun i j => T i j) k k).length (flatW (tabC (fun i j => T i j) k k))) k E S (tabC (fun i j => T i j) k k)) := by
  obtain ⟨f, hf⟩ : ∃ f : Nat → Nat → Int, (fun (i j : Nat) => T i j) = f := ⟨_, rfl⟩
  have HT : Hid (∀ i j : Nat, T i j = f i j) := fun i j => by rw [← hf]
  rw [hf]
  obtain ⟨pm, cm, rfl, hmc⟩ := hm
  have HMC := Lib.hid hmc
  have HB := Lib.hid hb
  have HG : Hid (∀ L, 0 < gcdF S L ∧ gcdF S L ≤ S) := fun L => gcdF_bd _ hS
  have HGs : Hid (∀ L e, gcdF S (L ++ [e]) = (gcdN (gcdF S L) e.w : Int)) := fun L e => gcdF_snoc S L e
  have HG0 : Hid (gcdF S (tabC f k 0) = S) := rfl
  have HF0 : Hid (flatW (tabC f k 0) = [] ∧ (tabC f k 0).length = 0) := ⟨rfl, rfl⟩
  clear hmc hb hf
  go_enter Tryz.func71, Tryz.ntmps71
  go_upto_region 1 with (fail)
  have R0 := ResD.new w (.int .i64 0) (.int .i64 0) (.int .i64 0) (.slice none 0 0) 33
  go_cut [10] (fun sx wx => sx = .pointer (some ⟨w.heap.size + 1, 0, none⟩) ∧ NetAt wx w.heap.size (w.heap.size + 1) k E S (.slice none 0 0) [] ∧ wx.frozen? ⟨w.heap.size + 1, 2, none⟩ = false ∧ Ge w wx)
  case first =>
    go_wp2_with fail
    go_meet
    have z1 : (w.alloc (.cells #[.int .i64 0, .int .i64 0, .int .i64 0, .slice none 0 0] 33)).heap.size = w.heap.size + 1 := by simp
    have h1 := NetAt.start (n := k) (E := E) (S := S) R0
    rw [z1] at h1
    exact ⟨rfl, h1, froz_new (by simp) (v := .int .i64 S) rfl, kge⟩
  obtain ⟨rfl, HN0, F0, g0⟩ := hcut
  go_wp2_with fail
  go_loopw [11, 24] (fun g i wr => ∃ (a : Nat) (u : Value), a ≤ k ∧ i = .int .i64 a ∧ g = .int .i64 (gcdF S (tabC f k a)) ∧ NetAt wr w.heap.size (w.heap.size + 1) k E S u (tabC f k a) ∧ wr.frozen? ⟨w.heap.size + 1, 2, none⟩ = false ∧ Ge w wr) (fun _ i _ => k - (intOf i).toNat)
  case atStart => exact ⟨0, _, Nat.zero_le _, rfl, by rw [HG0.out], HN0, F0, g0⟩
  case round =>
    obtain ⟨a, u, ha, rfl, rfl, HN', hF, hg⟩ := hrel
    have HNr := Lib.hid HN'
    clear HN' HN0
    by_cases hlt : a < k
    · obtain ⟨bm, om, prow, crow, rfl, xm, hrow⟩ := HMC.out a hlt
      have HR := Lib.hid hrow
      clear hrow
      have ym := hg.keep xm
      go_wp2_with fail
      clear ym
      go_loopw [11, 13] (fun g j wr => ∃ (d : Nat) (u : Value), a + 1 ≤ d ∧ d ≤ k ∧ j = .int .i64 (d : Int) ∧ g = .int .i64 (gcdF S (netD f k a d)) ∧ NetAt wr w.heap.size (w.heap.size + 1) k E S u (netD f k a d) ∧ wr.frozen? ⟨w.heap.size + 1, 2, none⟩ = false ∧ Ge w wr) (fun _ j _ => k - (intOf j).toNat)
      case atStart => exact ⟨a + 1, u, Nat.le_refl _, hlt, by simp, by rw [netD_zero], by rw [netD_zero]; exact HNr.out, hF, hg⟩
      case round =>
        clear hF HNr
        obtain ⟨d, u, hd, hdk, rfl, rfl, HN', hF, hg⟩ := hrel
        have HNi := Lib.hid HN'
        have a3 := HN'.c3
        have zG : w.heap.size + 1 < wr.heap.size := World.block_lt_of_cell? _ _ a3
        clear HN'
        by_cases hjk : d < k
        · obtain ⟨br, or', rfl, y0⟩ := HR.out d hjk
          have hb1 := HB.out a d hlt hjk
          rw [HT.out] at y0 hb1
          have y1 := hg.keep y0
          have xm1 := hg.keep xm
          by_cases hx : f a d = 0
          · have tx : (f a d != 0) = false := by simp [hx]
            have HO := Lib.hid (netD_out (k := k) hx hd)
            clear hx
            generalize f a d = X at *
            go_wp2_with fail
            go_roundw
            case rel => exact ⟨d + 1, u, by omega, by omega, by go_num, by rw [HO.out], by rw [HO.out]; exact HNi.out, hF, hg⟩
            case measure => simp [intOf]; omega
          · have tx : (f a d != 0) = true := by simp [hx]
            have HI := Lib.hid (netD_in (k := k) hx hd)
            clear hx
            have hgb := HG.out (netD f k a d)
            have hlen := netD_len f (by omega) hlt hd hdk
            have HGi := Lib.hid (HGs.out (netD f k a d) ⟨(a : Int), (d : Int), f a d⟩)
            generalize f a d = X at *
            generalize netD f k a d = F at *
            obtain ⟨l, hl⟩ : ∃ l, F.length = l := ⟨_, rfl⟩
            have hO := HNi.out.own
            rw [hl] at hO hlen
            have HO := Lib.hid hO
            have HL := Lib.hid hl
            clear hO hl
            generalize gcdF S F = G at *
            have HGc := Lib.hid (fun w' => iGcdOf G X w' (mid (by omega) (by omega)) (mid (by omega) (by omega)))
            go_wp2_with (first
              | (at_builtin; refine ap_wire rfl _ _ rfl (w.heap.size + 1 + 1) _ l (flatW F) rfl HO.out (a : Int) (d : Int) X (b0 := wr.heap.size) rfl rfl (by omega) (by omega) ?_; intro v8 w8 own8 m8 q8; obtain ⟨p8, c8, rfl⟩ := owns_form own8; have HA := NetAt.app (x := ⟨(a : Int), (d : Int), X⟩) HNi.out (by omega) (Ge.refl _) m8 (by rw [HL.out]; exact own8); have t3 := HA.2.1; have tf := HA.2.2; replace HA := Lib.hid HA.1; have F8 := mine_frozN m8 HNi.out.c2 hF (before_row HO.out (by show w.heap.size + 1 < w.heap.size + 1 + 1; omega)); have G8 := Ge.setCell (hg.mine HO.out (by omega) m8) (p := ⟨w.heap.size + 1, 3, none⟩) (by show w.heap.size ≤ w.heap.size + 1; omega) (.slice p8 (l + 1) c8); have F9 := froz_set (b := ⟨w.heap.size + 1, 3, none⟩) (u := .slice p8 (l + 1) c8) F8)
              | (go_at_call 105; ((with_reducible refine (HGc.out _).mono ?_); rintro r w5 ⟨rfl, g5⟩)))
            go_roundw
            case rel => exact ⟨d + 1, _, by omega, by omega, by go_num, by rw [HI.out, HGi.out], by rw [HI.out]; exact HA.out.ge g5, g5.keepF HA.out.c2 F9, Ge.trans G8 g5⟩
            case measure => simp [intOf]; omega
        · have hdn : d = k := by omega
          subst hdn
          have HAl := Lib.hid (netD_all f d a)
          go_wp2_with fail
          go_roundw
          case rel => exact ⟨a + 1, u, by omega, by go_num, by rw [← HAl.out], by rw [← HAl.out]; exact HNi.out, hF, hg⟩
          case measure => simp [intOf]; omega
    · have hak : a = k := by omega
      subst hak
      have hln : (tabC f a a).length ≤ 100 := Nat.le_trans (tabC_len f a a) (Nat.le_trans (Nat.mul_le_mul hk hk) (by omega))
      have hGb := HG.out (tabC f a a)
      clear HGs HG0 HF0 HMC
      generalize gcdF S (tabC f a a) = G at *
      generalize tabC f a a = L at *
      obtain ⟨m, hm⟩ : ∃ m, L.length = m := ⟨_, rfl⟩
      rw [hm] at hln
      have HL := Lib.hid hm
      have HO := HNr.out.own
      rw [hm] at HO
      obtain ⟨p, c, rfl⟩ := owns_form HO
      replace HO := Lib.hid HO
      have hcl := hm
      clear hm
      have HNv := Lib.hid (fun v w' (h : SlF w' v m 3 (flatW L)) => iNetOk a E S v m (flatW L) w' h (by omega))
      have zG : w.heap.size + 1 < wr.heap.size := World.block_lt_of_cell? _ _ HNr.out.c3
      obtain ⟨a0, a1, a2, a3, af, ao, ar⟩ := HNr.out
      obtain ⟨r0, p0, f0⟩ := ar 0 (by omega)
      obtain ⟨r1, p1, f1⟩ := ar 1 (by omega)
      obtain ⟨r2, p2, f2⟩ := ar 2 (by omega)
      obtain ⟨r3, p3, f3⟩ := ar 3 (by omega)
      have ao2 := ao
      rw [hcl] at ao2
      have HSl := Lib.hid (SlF.of_owns ao2)
      have HO := Lib.hid ao2
      have HCg := Lib.hid hcl
      clear ao ar ao2 hcl
      have zl2 : w.heap.size < wr.heap.size := by omega
      by_cases hB : netB a E S m (flatW (L)) = true
      · have HT1 := Lib.hid (fun u w' ho g => GivesO.t (w := w) (w' := w') (N := a) (E := E) (S := S) (L := L) (u := u) hB ho g)
        rw [hB] at HNv
        clear hB
        go_wp2_with ((go_at_call 43; ((with_reducible refine (HNv.out _ _ HSl.out).mono ?_); rintro r w9 ⟨rfl, g9⟩)); have e0 := g9.keep a0; have e1 := g9.keep a1; have e2 := g9.keep a2; have e3 := g9.keep a3; have q0 := g9.keep p0; have q1 := g9.keep p1; have q2 := g9.keep p2; have q3 := g9.keep p3; have h0 := g9.keepF p0 f0; have h1 := g9.keepF p1 f1; have h2 := g9.keepF p2 f2; have h3 := g9.keepF p3 f3; have o9 := g9.owns HO.out)
        exact bodyPost_ret (v := .tuple #[.agg #[.int .i64 (a : Int), .int .i64 E, .int .i64 S, .slice p m c], .bool true]) (by simp [results, Tryz.results71, go_sem, *]) rfl (by refine (?_ : GivesO w _ _ _ _ _ _ _); rw [HL.out]; exact HT1.out _ _ (by rw [HCg.out]; refine owns_mono (base := w.heap.size + 1 + 1) ?_ (by omega); repeat (first | exact o9 | refine own_setD ?_ (by omega))) (kge))
      · have hB' : netB a E S m (flatW (L)) = false := by simpa using hB
        have HT1 := Lib.hid (fun w' g => GivesO.f (w := w) (w' := w') (N := a) (E := E) (S := S) (L := L) hB' g)
        rw [hB'] at HNv
        clear hB hB'
        go_wp2_with ((go_at_call 43; ((with_reducible refine (HNv.out _ _ HSl.out).mono ?_); rintro r w9 ⟨rfl, g9⟩)); have e0 := g9.keep a0; have e1 := g9.keep a1; have e2 := g9.keep a2; have e3 := g9.keep a3; have q0 := g9.keep p0; have q1 := g9.keep p1; have q2 := g9.keep p2; have q3 := g9.keep p3; have h0 := g9.keepF p0 f0; have h1 := g9.keepF p1 f1; have h2 := g9.keepF p2 f2; have h3 := g9.keepF p3 f3)
        exact bodyPost_ret (v := .tuple #[.agg #[.int .i64 0, .int .i64 0, .int .i64 0, .slice none 0 0], .bool false]) (by simp [results, Tryz.results71, go_sem, *]) rfl (by refine (?_ : GivesO w _ _ _ _ _ _ _); rw [HL.out]; exact HT1.out _ (kge))
end Go.Proofs.YtagiecajffhnpaaGreat
