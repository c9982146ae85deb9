/- DropNode of impl. No condition. PutWire of impl, for all arguments, at a valid network. No condition. isWire, ApplyFault of impl, for a wire that there is and a weight from 0 to 12, at a valid network. No condition. Lists of faults in order: plain law. No condition. Lists of pairs laid flat; keeping some of them in place. No condition. det of impl, up to five rows. No condition. -/
import Derived.Test.YtagiecajffhnpaaGreatJAf
import Derived.Test.YtagiecajffhnpaaGreatJAb
import Derived.Test.YtagiecajffhnpaaGreatWDet
import Derived.Test.YtagiecajffhnpaaGreatJAd
namespace Go.Proofs.YtagiecajffhnpaaGreat
set_option maxRecDepth 100000
open Go.ChangeShapes Go.WideShapes Go.ChangeAt Go.RowKit Go.Joins

theorem GivesO.tt {w w' : World} {N E S : Int} {L : List Wr} {r : Ending} (h : GivesO w true N E S L r w') : ∃ u, r = .returned (.tuple #[.agg #[.int .i64 N, .int .i64 E, .int .i64 S, u], .bool true]) ∧ w'.ownsRow w.heap.size 45 3 u L.length (icells (flatW L)) ∧ Ge w w' := by
  rcases h.2 with ⟨_, u, h1, h2⟩ | ⟨h1, _⟩
  · exact ⟨u, h1, h2, h.1⟩
  · cases h1
theorem GivesO.ff {w w' : World} {N E S : Int} {L : List Wr} {r : Ending} (h : GivesO w false N E S L r w') : r = .returned (.tuple #[.agg #[.int .i64 0, .int .i64 0, .int .i64 0, .slice none 0 0], .bool false]) ∧ Ge w w' := by
  rcases h.2 with ⟨h1, _⟩ | ⟨_, h1⟩
  · cases h1
  · exact ⟨h1, h.1⟩

set_option maxHeartbeats 3200000 in
theorem iDropNodeF (n e : Nat) (S v : Int) (s : Value) (m : Nat) (xs : List Int) (L : List Wr) (w : World) (hs : SlF w s m 3 xs) (hB : netB n e S m xs = true) (hv : v = -1) :
    Calls Tryz.prog 37 #[.agg #[.int .i64 (n : Int), .int .i64 (e : Int), .int .i64 S, s], .int .i64 v] w (GivesO w false ((n - 1 : Nat) : Int) e S L) := by
  obtain ⟨⟨h1, h5⟩, ⟨e1, e2⟩, ⟨s1, s2⟩, hok, _⟩ := netP_of hB
  have hm : m ≤ 10 := prs_len (by omega) hok
  have HV := Lib.hid hs
  obtain ⟨p, cap, rfl, _⟩ := hs.open
  have HNo := Lib.hid (fun w' (g : Ge w w') => iNetOk n e S (.slice p m cap) m xs w' (HV.out.ge g) (by omega))
  rw [hB] at HNo
  obtain ⟨NB0, R0⟩ := in_res w n e S (.slice p m cap)
  subst hv
  clear hs hok hB
  go_enter Tryz.func37, Tryz.ntmps37
  go_wp2_with ((go_at_call 43; ((with_reducible refine (HNo.out _ (kge)).mono ?_); rintro r w1 ⟨rfl, g1⟩)); have NB1 := NB0.ge g1; have R1 := R0.ge g1; have gw1 : Ge w w1 := (kge); obtain ⟨b0, b1, b2, b3⟩ := NB1; obtain ⟨r0, p0, f0⟩ := R1 0 (by omega); obtain ⟨r1, p1, f1⟩ := R1 1 (by omega); obtain ⟨r2, p2, f2⟩ := R1 2 (by omega); obtain ⟨r3, p3, f3⟩ := R1 3 (by omega); have te : ((-1 : Int) < (e : Int)) = True := eq_true (by omega))
  exact bodyPost_ret (v := .tuple #[.agg #[.int .i64 0, .int .i64 0, .int .i64 0, .slice none 0 0], .bool false]) (by simp [results, Tryz.results37, go_sem, *]) rfl (GivesO.f rfl (kge))

set_option maxHeartbeats 3200000 in
theorem iDropNode (n v e c : Nat) (S : Int) (s : Value) (L : List Wr) (w : World) (hs : SlF w s L.length 3 (flatW L)) (hB : netB n e S L.length (flatW L) = true) (hv0 : e ≤ v) (hv : v < n) (hc : (nearX L.length (flatW L) v n).length = c) (c1 : 1 ≤ c) (c2 : c ≤ 2) :
    Calls Tryz.prog 37 #[.agg #[.int .i64 (n : Int), .int .i64 (e : Int), .int .i64 S, s], .int .i64 (v : Int)] w (GivesO w (redB n e S L v) ((n - 1 : Nat) : Int) e (redS n S L v) (redL n S L v)) := by
  obtain ⟨⟨h1, h5⟩, ⟨e1, e2⟩, ⟨s1, s2⟩, hok, _⟩ := netP_of hB
  have hpos := wat_pos hok hc c1
  have hm : L.length ≤ 10 := prs_len (by omega) hok
  have HV := Lib.hid hs
  have HSt := Lib.hid (fun w' (g : Ge w w') => iStarMesh n v e S s L w' (HV.out.ge g) hB hv0 hv hpos)
  have HNo := Lib.hid (fun w' (g : Ge w w') => iNetOk n e S s L.length (flatW L) w' (HV.out.ge g) (by omega))
  have HWi := Lib.hid (fun w' (g : Ge w w') => iWiresAt n e S s L.length (flatW L) v w' (HV.out.ge g) hB (by omega) (by omega))
  rw [hB] at HNo
  rw [hc] at HWi
  obtain ⟨NB0, R0⟩ := in_res w n e S s
  obtain ⟨p, cap, rfl, _⟩ := hs.open
  generalize nearX L.length (flatW L) v n = NX at *
  generalize redB n e S L v = BB at *
  generalize redS n S L v = SS at *
  generalize redL n S L v = LL at *
  generalize L.length = m at *
  clear hs hok hB hc hpos
  cases BB with
  | true =>
    have HS2 := Lib.hid (fun w' (g : Ge w w') => (HSt.out w' g).mono (fun r w2 h => GivesO.tt h))
    clear HSt
    go_enter Tryz.func37, Tryz.ntmps37
    go_wp2_with (first
      | ((go_at_call 43; ((with_reducible refine (HNo.out _ (kge)).mono ?_); rintro r w1 ⟨rfl, g1⟩)); have NB1 := NB0.ge g1; have R1 := R0.ge g1; have gw1 : Ge w w1 := (kge); obtain ⟨b0, b1, b2, b3⟩ := NB1; have z1 := g1.size; (simp at z1))
      | ((go_at_call 73; ((with_reducible refine (HWi.out _ gw1).mono ?_); rintro r w2 ⟨v2, rfl, o2, g2⟩)); obtain ⟨p2, cc2, rfl⟩ := owns_form o2; have b0 := g2.keep b0; have b1 := g2.keep b1; have b2 := g2.keep b2; have b3 := g2.keep b3; have R2 := R1.ge g2; have gw2 := Ge.trans gw1 g2; have z2 := g2.size)
      | ((go_at_call 38; ((with_reducible refine (HS2.out _ gw2).mono ?_); rintro r w3 ⟨u3, rfl, o3, g3⟩)); have HO3 := Lib.hid o3; obtain ⟨px, cx, rfl⟩ := owns_form o3; clear o3; have R3 := R2.ge g3; have gw3 := Ge.trans gw2 g3; obtain ⟨r0, p0, f0⟩ := R3 0 (by omega); obtain ⟨r1, p1, f1⟩ := R3 1 (by omega); obtain ⟨r2, p2, f2⟩ := R3 2 (by omega); obtain ⟨r3, p3, f3⟩ := R3 3 (by omega)))
    exact bodyPost_ret (v := .tuple #[.agg #[.int .i64 ((n - 1 : Nat) : Int), .int .i64 (e : Int), .int .i64 SS, .slice px LL.length cx], .bool true]) (by simp [results, Tryz.results37, go_sem, *]) rfl (GivesO.t rfl (by refine owns_mono (base := w2.heap.size) ?_ (by omega); repeat (first | exact HO3.out | refine own_setD ?_ (by omega))) (kge))
  | false =>
    have HS2 := Lib.hid (fun w' (g : Ge w w') => (HSt.out w' g).mono (fun r w2 h => GivesO.ff h))
    clear HSt
    go_enter Tryz.func37, Tryz.ntmps37
    go_wp2_with (first
      | ((go_at_call 43; ((with_reducible refine (HNo.out _ (kge)).mono ?_); rintro r w1 ⟨rfl, g1⟩)); have NB1 := NB0.ge g1; have R1 := R0.ge g1; have gw1 : Ge w w1 := (kge); obtain ⟨b0, b1, b2, b3⟩ := NB1)
      | ((go_at_call 73; ((with_reducible refine (HWi.out _ gw1).mono ?_); rintro r w2 ⟨v2, rfl, o2, g2⟩)); obtain ⟨p2, cc2, rfl⟩ := owns_form o2; have b0 := g2.keep b0; have b1 := g2.keep b1; have b2 := g2.keep b2; have b3 := g2.keep b3; have R2 := R1.ge g2; have gw2 := Ge.trans gw1 g2)
      | ((go_at_call 38; ((with_reducible refine (HS2.out _ gw2).mono ?_); rintro r w3 ⟨rfl, g3⟩)); have R3 := R2.ge g3; have gw3 := Ge.trans gw2 g3; obtain ⟨r0, p0, f0⟩ := R3 0 (by omega); obtain ⟨r1, p1, f1⟩ := R3 1 (by omega); obtain ⟨r2, p2, f2⟩ := R3 2 (by omega); obtain ⟨r3, p3, f3⟩ := R3 3 (by omega)))
    exact bodyPost_ret (v := .tuple #[.agg #[.int .i64 0, .int .i64 0, .int .i64 0, .slice none 0 0], .bool false]) (by simp [results, Tryz.results37, go_sem, *]) rfl (GivesO.f rfl (kge))
end Go.Proofs.YtagiecajffhnpaaGreat

namespace Go.Proofs.YtagiecajffhnpaaGreat
set_option maxRecDepth 100000
open Go.ChangeShapes Go.WideShapes Go.ChangeAt Go.RowKit Go.Joins

def putT (xs : List Int) (m : Nat) (a b x : Int) (i j : Int) : Int := if (i = a ∧ j = b) ∨ (i = b ∧ j = a) then x else wbet xs m i j
def putM (n m : Nat) (xs : List Int) (a b x : Int) : List Wr := tabC (fun (i j : Nat) => putT xs m a b x i j) n n
def putG (n : Nat) (a b x : Int) : Prop := ((0 ≤ a ∧ a < n) ∧ (0 ≤ b ∧ b < n)) ∧ ¬ a = b ∧ 0 ≤ x ∧ x ≤ 200
instance (n : Nat) (a b x : Int) : Decidable (putG n a b x) := by unfold putG; infer_instance
noncomputable def putB (n : Nat) (e S : Int) (m : Nat) (xs : List Int) (a b x : Int) : Bool := decide (putG n a b x) && netB n e S (putM n m xs a b x).length (flatW (putM n m xs a b x))
theorem putB_f {n : Nat} {e S : Int} {m : Nat} {xs : List Int} {a b x : Int} (h : ¬ putG n a b x) : putB n e S m xs a b x = false := by simp [putB, h]
theorem putB_t {n : Nat} {e S : Int} {m : Nat} {xs : List Int} {a b x : Int} (h : putG n a b x) : putB n e S m xs a b x = netB n e S (putM n m xs a b x).length (flatW (putM n m xs a b x)) := by simp [putB, h]

set_option maxHeartbeats 3200000 in
theorem iPutWire (n e : Nat) (S a b x : Int) (s : Value) (m : Nat) (xs : List Int) (w : World) (hs : SlF w s m 3 xs) (hB : netB n e S m xs = true) :
    Calls Tryz.prog 34 #[.agg #[.int .i64 (n : Int), .int .i64 (e : Int), .int .i64 S, s], .int .i64 a, .int .i64 b, .int .i64 x] w (GivesO w (putB n e S m xs a b x) n e S (putM n m xs a b x)) := by
  obtain ⟨⟨h1, h5⟩, ⟨e1, e2⟩, ⟨s1, s2⟩, hok, _⟩ := netP_of hB
  have hm : m ≤ 10 := prs_len (by omega) hok
  have HV := Lib.hid hs
  have HK := Lib.hid hok
  have hTb : ∀ a b : Nat, 0 ≤ wbet xs m (a : Int) (b : Int) ∧ wbet xs m (a : Int) (b : Int) ≤ 200 := fun a b => wbet_bd hok _ _
  obtain ⟨p, cap, rfl, _⟩ := hs.open
  have HNo := Lib.hid (fun w' (g : Ge w w') => iNetOk n e S (.slice p m cap) m xs w' (HV.out.ge g) (by omega))
  rw [hB] at HNo
  have HTa := Lib.hid (fun w' (g : Ge w w') => iTable n e S (.slice p m cap) m xs w' (HV.out.ge g) hm (by omega) (by omega) HK.out)
  have HIa := Lib.hid (fun w' => isNodeI n e S (.slice p m cap) a w' rfl)
  have HIb := Lib.hid (fun w' => isNodeI n e S (.slice p m cap) b w' rfl)
  clear hs hok hB
  obtain ⟨NB0, R0⟩ := in_res w n e S (.slice p m cap)
  have zR : w.heap.size + 1 < ((w.alloc (.cells #[.int .i64 n, .int .i64 e, .int .i64 S, .slice p m cap] 33)).alloc (.cells #[.int .i64 0, .int .i64 0, .int .i64 0, .slice none 0 0] 33)).heap.size := by simp
  by_cases hG : putG n a b x
  · obtain ⟨⟨ha, hb⟩, hab, hx0, hx1⟩ := id hG
    rw [putB_t hG]
    rw [nodeB_t ha] at HIa
    rw [nodeB_t hb] at HIb
    have t1 : (a == b) = false := by simpa using hab
    have t2 : decide (x < 0) = false := by simp; omega
    have t3 : decide ((200 : Int) < x) = false := by simp; omega
    obtain ⟨i, rfl⟩ := Int.eq_ofNat_of_zero_le ha.1
    obtain ⟨j, rfl⟩ := Int.eq_ofNat_of_zero_le hb.1
    have hi : i < n := by omega
    have hj : j < n := by omega
    have HNu := Lib.hid (fun vm w' (h : SlMM w' vm n (putT xs m i j x)) => iNetOfU n e S (putT xs m i j x) vm w' h (by omega) (by omega) (by omega) (fun a b _ _ => by unfold putT; have := hTb a b; split <;> omega))
    change Hid (∀ vm w', _ → Calls _ _ _ _ (GivesO w' (netB n e S (putM n m xs i j x).length (flatW (putM n m xs i j x))) n e S (putM n m xs i j x))) at HNu
    generalize hMM : putM n m xs i j x = MM at *
    go_enter Tryz.func34, Tryz.ntmps34
    go_wp2_with (first | ((go_at_call 43; ((with_reducible refine (HNo.out _ (kge)).mono ?_); rintro r w1 ⟨rfl, g1⟩)); have NB1 := NB0.ge g1; have R1 := R0.ge g1; have gw1 : Ge w w1 := (kge); obtain ⟨b0, b1, b2, b3⟩ := NB1; obtain ⟨r0, p0, f0⟩ := R1 0 (by omega); obtain ⟨r1, p1, f1⟩ := R1 1 (by omega); obtain ⟨r2, p2, f2⟩ := R1 2 (by omega); obtain ⟨r3, p3, f3⟩ := R1 3 (by omega); have z1 := Nat.lt_of_lt_of_le zR g1.size) | ((go_at_call 69; ((with_reducible refine (HIa.out _).mono ?_); rintro r w2 ⟨rfl, g2⟩)); have gw1 := Ge.trans gw1 g2; have b0 := Ge.keep g2 b0; have b1 := Ge.keep g2 b1; have b2 := Ge.keep g2 b2; have b3 := Ge.keep g2 b3; have R1 := R1.ge g2; obtain ⟨r0, p0, f0⟩ := R1 0 (by omega); obtain ⟨r1, p1, f1⟩ := R1 1 (by omega); obtain ⟨r2, p2, f2⟩ := R1 2 (by omega); obtain ⟨r3, p3, f3⟩ := R1 3 (by omega); have z1 := Nat.lt_of_lt_of_le z1 g2.size) | ((go_at_call 69; ((with_reducible refine (HIb.out _).mono ?_); rintro r w2 ⟨rfl, g2⟩)); have gw1 := Ge.trans gw1 g2; have b0 := Ge.keep g2 b0; have b1 := Ge.keep g2 b1; have b2 := Ge.keep g2 b2; have b3 := Ge.keep g2 b3; have R1 := R1.ge g2; obtain ⟨r0, p0, f0⟩ := R1 0 (by omega); obtain ⟨r1, p1, f1⟩ := R1 1 (by omega); obtain ⟨r2, p2, f2⟩ := R1 2 (by omega); obtain ⟨r3, p3, f3⟩ := R1 3 (by omega); have z1 := Nat.lt_of_lt_of_le z1 g2.size))
    (go_at_call 70; ((with_reducible refine (HTa.out _ gw1).mono ?_); rintro r w3 ⟨G, f, cs, rfl, hO, g3⟩))
    have HO := Lib.hid hO
    have NB3 := Lib.hid (NetIn.ge (w := w2) (B := w.heap.size) (n := n) (e := e) (S := S) (v := .slice p m cap) ⟨b0, b1, b2, b3⟩ g3)
    have R3 := Lib.hid (R1.ge g3)
    have gw3 := Ge.trans gw1 g3
    have z3 := z1
    have q0 := hO.row hi hi
    have q1 := hO.entry hi hj
    have qf := hO.froz hi j
    have q2 := hO.row hj hj
    have q3 := hO.entry hj hi
    have qg := hO.froz hj i
    have hlt := hO.lt
    have fi := (hlt.2.2 i hi)
    have fj := (hlt.2.2 j hj)
    have fne := (hO.2 i hi).2.2.2 j hj (by omega)
    clear hO hlt
    go_upto_region 6 with fail
    have hE1 := HO.out.setE hi hj x
    have hE2 := hE1.1.setE hj hi x
    have HM := Lib.hid ((hE2.1.congr (M' := fun (a b : Nat) => putT xs m i j x (a : Int) (b : Int)) (fun a b _ _ => by
      unfold putT
      by_cases c1 : a = j ∧ b = i
      · rw [if_pos c1, if_pos (by omega)]
      · rw [if_neg c1]
        by_cases c2 : a = i ∧ b = j
        · rw [if_pos c2, if_pos (by omega)]
        · rw [if_neg c2, if_neg (by omega)])).slMM (Z := fun (a b : Int) => putT xs m i j x a b) (fun a b _ _ => rfl))
    have k0 : ∀ (c : Nat) (y : Nat), (⟨f i, c, none⟩ : Addr) ≠ ⟨w.heap.size, y, none⟩ := fun c y ee => by have := congrArg Addr.block ee; simp at this; omega
    have k1 : ∀ (c : Nat) (y : Nat), (⟨f j, c, none⟩ : Addr) ≠ ⟨w.heap.size, y, none⟩ := fun c y ee => by have := congrArg Addr.block ee; simp at this; omega
    have k2 : ∀ (c : Nat) (y : Nat), (⟨f i, c, none⟩ : Addr) ≠ ⟨w.heap.size + 1, y, none⟩ := fun c y ee => by have := congrArg Addr.block ee; simp at this; omega
    have k3 : ∀ (c : Nat) (y : Nat), (⟨f j, c, none⟩ : Addr) ≠ ⟨w.heap.size + 1, y, none⟩ := fun c y ee => by have := congrArg Addr.block ee; simp at this; omega
    have b1 := cell_set2 (u := .int .i64 x) (k1 i 1) (cell_set2 (u := .int .i64 x) (k0 j 1) NB3.out.2.1)
    have b2 := cell_set2 (u := .int .i64 x) (k1 i 2) (cell_set2 (u := .int .i64 x) (k0 j 2) NB3.out.2.2.1)
    have R6 : ResD ((w3.setCell ⟨f i, j, none⟩ (.int .i64 x)).setCell ⟨f j, i, none⟩ (.int .i64 x)) (w.heap.size + 1) := fun y hy => by
      obtain ⟨u, r1, r2⟩ := R3.out y hy
      exact ⟨u, cell_set2 (k3 i y) (cell_set2 (k2 j y) r1), froz_set (froz_set r2)⟩
    have G6 : Ge w ((w3.setCell ⟨f i, j, none⟩ (.int .i64 x)).setCell ⟨f j, i, none⟩ (.int .i64 x)) := Ge.setCell (Ge.setCell gw3 (p := ⟨f i, j, none⟩) (by show w.heap.size ≤ f i; omega) _) (p := ⟨f j, i, none⟩) (by show w.heap.size ≤ f j; omega) _
    have z6 : w.heap.size + 1 < ((w3.setCell ⟨f i, j, none⟩ (.int .i64 x)).setCell ⟨f j, i, none⟩ (.int .i64 x)).heap.size := by have := g3.size; simp; omega
    have HG6 := Lib.hid G6
    clear hE1 hE2 q0 q1 qf q2 q3 qg fi fj fne gw3 HO NB3 R3 z3 G6 k0 k1 k2 k3 b3
    generalize ((w3.setCell ⟨f i, j, none⟩ (.int .i64 x)).setCell ⟨f j, i, none⟩ (.int .i64 x)) = w6 at *
    obtain ⟨r0, p0, f0⟩ := R6 0 (by omega)
    obtain ⟨r1, p1, f1⟩ := R6 1 (by omega)
    obtain ⟨r2, p2, f2⟩ := R6 2 (by omega)
    obtain ⟨r3, p3, f3⟩ := R6 3 (by omega)
    have HN6 := Lib.hid (HNu.out _ w6 HM.out)
    clear HNu HM R6
    cases hBB : netB n e S MM.length (flatW MM) with
    | true =>
      rw [hBB] at HN6
      have HT1 := Lib.hid (fun u w' ho g => GivesO.t (w := w) (w' := w') (N := n) (E := e) (S := S) (L := MM) (u := u) hBB ho g)
      have HNt := Lib.hid (HN6.out.mono (fun e w' h => h.tt))
      go_wp2_with ((go_at_call 71; ((with_reducible refine (HNt.out).mono ?_); rintro r w9 ⟨u9, rfl, o9, g9⟩)); obtain ⟨pu, cu, rfl⟩ := owns_form o9; have q0 := g9.keep p0; have q1 := g9.keep p1; have q2 := g9.keep p2; have q3 := g9.keep p3; have h0 := g9.keepF p0 f0; have h1 := g9.keepF p1 f1; have h2 := g9.keepF p2 f2; have h3 := g9.keepF p3 f3; have gw9 := HG6.out.trans g9; have O9 := Lib.hid o9; clear o9)
      exact bodyPost_ret (v := .tuple #[.agg #[.int .i64 (n : Int), .int .i64 (e : Int), .int .i64 S, .slice pu MM.length cu], .bool true]) (by simp [results, Tryz.results34, go_sem, *]) rfl (HT1.out _ _ (by refine owns_mono (base := w6.heap.size) ?_ (by omega); repeat (first | exact O9.out | refine own_setD ?_ (by omega))) (kge))
    | false =>
      rw [hBB] at HN6
      have HT1 := Lib.hid (fun w' g => GivesO.f (w := w) (w' := w') (N := n) (E := e) (S := S) (L := MM) hBB g)
      have HNt := Lib.hid (HN6.out.mono (fun e w' h => h.ff))
      go_wp2_with ((go_at_call 71; ((with_reducible refine (HNt.out).mono ?_); rintro r w9 ⟨rfl, g9⟩)); have q0 := g9.keep p0; have q1 := g9.keep p1; have q2 := g9.keep p2; have q3 := g9.keep p3; have h0 := g9.keepF p0 f0; have h1 := g9.keepF p1 f1; have h2 := g9.keepF p2 f2; have h3 := g9.keepF p3 f3; have gw9 := HG6.out.trans g9)
      exact bodyPost_ret (v := .tuple #[.agg #[.int .i64 0, .int .i64 0, .int .i64 0, .slice none 0 0], .bool false]) (by simp [results, Tryz.results34, go_sem, *]) rfl (HT1.out _ (kge))
  · rw [putB_f hG]
    have HT := Lib.hid (fun w' g => GivesO.f (w := w) (w' := w') (b := false) (N := n) (E := e) (S := S) (L := putM n m xs a b x) rfl g)
    generalize putM n m xs a b x = MM at *
    clear HTa HK hTb
    by_cases ha : 0 ≤ a ∧ a < (n : Int)
    · rw [nodeB_t ha] at HIa
      by_cases hb : 0 ≤ b ∧ b < (n : Int)
      · rw [nodeB_t hb] at HIb
        by_cases hab : a = b
        · have t1 : (a == b) = true := by simpa using hab
          go_enter Tryz.func34, Tryz.ntmps34
          go_wp2_with (first | ((go_at_call 43; ((with_reducible refine (HNo.out _ (kge)).mono ?_); rintro r w1 ⟨rfl, g1⟩)); have NB1 := NB0.ge g1; have R1 := R0.ge g1; have gw1 : Ge w w1 := (kge); obtain ⟨b0, b1, b2, b3⟩ := NB1; obtain ⟨r0, p0, f0⟩ := R1 0 (by omega); obtain ⟨r1, p1, f1⟩ := R1 1 (by omega); obtain ⟨r2, p2, f2⟩ := R1 2 (by omega); obtain ⟨r3, p3, f3⟩ := R1 3 (by omega); have z1 := Nat.lt_of_lt_of_le zR g1.size) | ((go_at_call 69; ((with_reducible refine (HIa.out _).mono ?_); rintro r w2 ⟨rfl, g2⟩)); have gw1 := Ge.trans gw1 g2; have b0 := Ge.keep g2 b0; have b1 := Ge.keep g2 b1; have b2 := Ge.keep g2 b2; have b3 := Ge.keep g2 b3; have R1 := R1.ge g2; obtain ⟨r0, p0, f0⟩ := R1 0 (by omega); obtain ⟨r1, p1, f1⟩ := R1 1 (by omega); obtain ⟨r2, p2, f2⟩ := R1 2 (by omega); obtain ⟨r3, p3, f3⟩ := R1 3 (by omega); have z1 := Nat.lt_of_lt_of_le z1 g2.size) | ((go_at_call 69; ((with_reducible refine (HIb.out _).mono ?_); rintro r w2 ⟨rfl, g2⟩)); have gw1 := Ge.trans gw1 g2; have b0 := Ge.keep g2 b0; have b1 := Ge.keep g2 b1; have b2 := Ge.keep g2 b2; have b3 := Ge.keep g2 b3; have R1 := R1.ge g2; obtain ⟨r0, p0, f0⟩ := R1 0 (by omega); obtain ⟨r1, p1, f1⟩ := R1 1 (by omega); obtain ⟨r2, p2, f2⟩ := R1 2 (by omega); obtain ⟨r3, p3, f3⟩ := R1 3 (by omega); have z1 := Nat.lt_of_lt_of_le z1 g2.size))
          exact bodyPost_ret (v := .tuple #[.agg #[.int .i64 0, .int .i64 0, .int .i64 0, .slice none 0 0], .bool false]) (by simp [results, Tryz.results34, go_sem, *]) rfl (HT.out _ (kge))
        · have t1 : (a == b) = false := by simpa using hab
          by_cases hx : x < 0
          · have t2 : decide (x < 0) = true := by simpa using hx
            go_enter Tryz.func34, Tryz.ntmps34
            go_wp2_with (first | ((go_at_call 43; ((with_reducible refine (HNo.out _ (kge)).mono ?_); rintro r w1 ⟨rfl, g1⟩)); have NB1 := NB0.ge g1; have R1 := R0.ge g1; have gw1 : Ge w w1 := (kge); obtain ⟨b0, b1, b2, b3⟩ := NB1; obtain ⟨r0, p0, f0⟩ := R1 0 (by omega); obtain ⟨r1, p1, f1⟩ := R1 1 (by omega); obtain ⟨r2, p2, f2⟩ := R1 2 (by omega); obtain ⟨r3, p3, f3⟩ := R1 3 (by omega); have z1 := Nat.lt_of_lt_of_le zR g1.size) | ((go_at_call 69; ((with_reducible refine (HIa.out _).mono ?_); rintro r w2 ⟨rfl, g2⟩)); have gw1 := Ge.trans gw1 g2; have b0 := Ge.keep g2 b0; have b1 := Ge.keep g2 b1; have b2 := Ge.keep g2 b2; have b3 := Ge.keep g2 b3; have R1 := R1.ge g2; obtain ⟨r0, p0, f0⟩ := R1 0 (by omega); obtain ⟨r1, p1, f1⟩ := R1 1 (by omega); obtain ⟨r2, p2, f2⟩ := R1 2 (by omega); obtain ⟨r3, p3, f3⟩ := R1 3 (by omega); have z1 := Nat.lt_of_lt_of_le z1 g2.size) | ((go_at_call 69; ((with_reducible refine (HIb.out _).mono ?_); rintro r w2 ⟨rfl, g2⟩)); have gw1 := Ge.trans gw1 g2; have b0 := Ge.keep g2 b0; have b1 := Ge.keep g2 b1; have b2 := Ge.keep g2 b2; have b3 := Ge.keep g2 b3; have R1 := R1.ge g2; obtain ⟨r0, p0, f0⟩ := R1 0 (by omega); obtain ⟨r1, p1, f1⟩ := R1 1 (by omega); obtain ⟨r2, p2, f2⟩ := R1 2 (by omega); obtain ⟨r3, p3, f3⟩ := R1 3 (by omega); have z1 := Nat.lt_of_lt_of_le z1 g2.size))
            exact bodyPost_ret (v := .tuple #[.agg #[.int .i64 0, .int .i64 0, .int .i64 0, .slice none 0 0], .bool false]) (by simp [results, Tryz.results34, go_sem, *]) rfl (HT.out _ (kge))
          · have t2 : decide (x < 0) = false := by simpa using hx
            have t3 : decide ((200 : Int) < x) = true := by simp; unfold putG at hG; omega
            go_enter Tryz.func34, Tryz.ntmps34
            go_wp2_with (first | ((go_at_call 43; ((with_reducible refine (HNo.out _ (kge)).mono ?_); rintro r w1 ⟨rfl, g1⟩)); have NB1 := NB0.ge g1; have R1 := R0.ge g1; have gw1 : Ge w w1 := (kge); obtain ⟨b0, b1, b2, b3⟩ := NB1; obtain ⟨r0, p0, f0⟩ := R1 0 (by omega); obtain ⟨r1, p1, f1⟩ := R1 1 (by omega); obtain ⟨r2, p2, f2⟩ := R1 2 (by omega); obtain ⟨r3, p3, f3⟩ := R1 3 (by omega); have z1 := Nat.lt_of_lt_of_le zR g1.size) | ((go_at_call 69; ((with_reducible refine (HIa.out _).mono ?_); rintro r w2 ⟨rfl, g2⟩)); have gw1 := Ge.trans gw1 g2; have b0 := Ge.keep g2 b0; have b1 := Ge.keep g2 b1; have b2 := Ge.keep g2 b2; have b3 := Ge.keep g2 b3; have R1 := R1.ge g2; obtain ⟨r0, p0, f0⟩ := R1 0 (by omega); obtain ⟨r1, p1, f1⟩ := R1 1 (by omega); obtain ⟨r2, p2, f2⟩ := R1 2 (by omega); obtain ⟨r3, p3, f3⟩ := R1 3 (by omega); have z1 := Nat.lt_of_lt_of_le z1 g2.size) | ((go_at_call 69; ((with_reducible refine (HIb.out _).mono ?_); rintro r w2 ⟨rfl, g2⟩)); have gw1 := Ge.trans gw1 g2; have b0 := Ge.keep g2 b0; have b1 := Ge.keep g2 b1; have b2 := Ge.keep g2 b2; have b3 := Ge.keep g2 b3; have R1 := R1.ge g2; obtain ⟨r0, p0, f0⟩ := R1 0 (by omega); obtain ⟨r1, p1, f1⟩ := R1 1 (by omega); obtain ⟨r2, p2, f2⟩ := R1 2 (by omega); obtain ⟨r3, p3, f3⟩ := R1 3 (by omega); have z1 := Nat.lt_of_lt_of_le z1 g2.size))
            exact bodyPost_ret (v := .tuple #[.agg #[.int .i64 0, .int .i64 0, .int .i64 0, .slice none 0 0], .bool false]) (by simp [results, Tryz.results34, go_sem, *]) rfl (HT.out _ (kge))
      · rw [nodeB_f hb] at HIb
        go_enter Tryz.func34, Tryz.ntmps34
        go_wp2_with (first | ((go_at_call 43; ((with_reducible refine (HNo.out _ (kge)).mono ?_); rintro r w1 ⟨rfl, g1⟩)); have NB1 := NB0.ge g1; have R1 := R0.ge g1; have gw1 : Ge w w1 := (kge); obtain ⟨b0, b1, b2, b3⟩ := NB1; obtain ⟨r0, p0, f0⟩ := R1 0 (by omega); obtain ⟨r1, p1, f1⟩ := R1 1 (by omega); obtain ⟨r2, p2, f2⟩ := R1 2 (by omega); obtain ⟨r3, p3, f3⟩ := R1 3 (by omega); have z1 := Nat.lt_of_lt_of_le zR g1.size) | ((go_at_call 69; ((with_reducible refine (HIa.out _).mono ?_); rintro r w2 ⟨rfl, g2⟩)); have gw1 := Ge.trans gw1 g2; have b0 := Ge.keep g2 b0; have b1 := Ge.keep g2 b1; have b2 := Ge.keep g2 b2; have b3 := Ge.keep g2 b3; have R1 := R1.ge g2; obtain ⟨r0, p0, f0⟩ := R1 0 (by omega); obtain ⟨r1, p1, f1⟩ := R1 1 (by omega); obtain ⟨r2, p2, f2⟩ := R1 2 (by omega); obtain ⟨r3, p3, f3⟩ := R1 3 (by omega); have z1 := Nat.lt_of_lt_of_le z1 g2.size) | ((go_at_call 69; ((with_reducible refine (HIb.out _).mono ?_); rintro r w2 ⟨rfl, g2⟩)); have gw1 := Ge.trans gw1 g2; have b0 := Ge.keep g2 b0; have b1 := Ge.keep g2 b1; have b2 := Ge.keep g2 b2; have b3 := Ge.keep g2 b3; have R1 := R1.ge g2; obtain ⟨r0, p0, f0⟩ := R1 0 (by omega); obtain ⟨r1, p1, f1⟩ := R1 1 (by omega); obtain ⟨r2, p2, f2⟩ := R1 2 (by omega); obtain ⟨r3, p3, f3⟩ := R1 3 (by omega); have z1 := Nat.lt_of_lt_of_le z1 g2.size))
        exact bodyPost_ret (v := .tuple #[.agg #[.int .i64 0, .int .i64 0, .int .i64 0, .slice none 0 0], .bool false]) (by simp [results, Tryz.results34, go_sem, *]) rfl (HT.out _ (kge))
    · rw [nodeB_f ha] at HIa
      go_enter Tryz.func34, Tryz.ntmps34
      go_wp2_with (first | ((go_at_call 43; ((with_reducible refine (HNo.out _ (kge)).mono ?_); rintro r w1 ⟨rfl, g1⟩)); have NB1 := NB0.ge g1; have R1 := R0.ge g1; have gw1 : Ge w w1 := (kge); obtain ⟨b0, b1, b2, b3⟩ := NB1; obtain ⟨r0, p0, f0⟩ := R1 0 (by omega); obtain ⟨r1, p1, f1⟩ := R1 1 (by omega); obtain ⟨r2, p2, f2⟩ := R1 2 (by omega); obtain ⟨r3, p3, f3⟩ := R1 3 (by omega); have z1 := Nat.lt_of_lt_of_le zR g1.size) | ((go_at_call 69; ((with_reducible refine (HIa.out _).mono ?_); rintro r w2 ⟨rfl, g2⟩)); have gw1 := Ge.trans gw1 g2; have b0 := Ge.keep g2 b0; have b1 := Ge.keep g2 b1; have b2 := Ge.keep g2 b2; have b3 := Ge.keep g2 b3; have R1 := R1.ge g2; obtain ⟨r0, p0, f0⟩ := R1 0 (by omega); obtain ⟨r1, p1, f1⟩ := R1 1 (by omega); obtain ⟨r2, p2, f2⟩ := R1 2 (by omega); obtain ⟨r3, p3, f3⟩ := R1 3 (by omega); have z1 := Nat.lt_of_lt_of_le z1 g2.size) | ((go_at_call 69; ((with_reducible refine (HIb.out _).mono ?_); rintro r w2 ⟨rfl, g2⟩)); have gw1 := Ge.trans gw1 g2; have b0 := Ge.keep g2 b0; have b1 := Ge.keep g2 b1; have b2 := Ge.keep g2 b2; have b3 := Ge.keep g2 b3; have R1 := R1.ge g2; obtain ⟨r0, p0, f0⟩ := R1 0 (by omega); obtain ⟨r1, p1, f1⟩ := R1 1 (by omega); obtain ⟨r2, p2, f2⟩ := R1 2 (by omega); obtain ⟨r3, p3, f3⟩ := R1 3 (by omega); have z1 := Nat.lt_of_lt_of_le z1 g2.size))
      exact bodyPost_ret (v := .tuple #[.agg #[.int .i64 0, .int .i64 0, .int .i64 0, .slice none 0 0], .bool false]) (by simp [results, Tryz.results34, go_sem, *]) rfl (HT.out _ (kge))
end Go.Proofs.YtagiecajffhnpaaGreat

namespace Go.Proofs.YtagiecajffhnpaaGreat
set_option maxRecDepth 100000
open Go.ChangeShapes Go.WideShapes Go.ChangeAt Go.RowKit Go.Joins

theorem iIsWireF (n e : Nat) (S : Int) (p : Option Addr) (m cap i : Nat) (w : World) (hi : i < m) :
    Calls Tryz.prog 146 #[.agg #[.int .i64 (n : Int), .int .i64 (e : Int), .int .i64 S, .slice p m cap], .int .i64 (i : Int)] w fun r w' => r = .returned (.bool true) ∧ Ge w w' := by
  have t0 : decide ((i : Int) < (m : Int)) = true := by simp; omega
  have t1 : decide (i < m) = true := by simp; omega
  go_enter Tryz.func146, Tryz.ntmps146
  go_wp2_with fail
  go_ret
  exact ⟨rfl, kge⟩

noncomputable def fltB (n e : Nat) (S : Int) (m : Nat) (xs : List Int) (i : Nat) (x : Int) : Bool := !(x == nth xs (i * 3 + 2)) && putB n e S m xs (nth xs (i * 3)) (nth xs (i * 3 + 1)) x
noncomputable def fltM (n m : Nat) (xs : List Int) (i : Nat) (x : Int) : List Wr := putM n m xs (nth xs (i * 3)) (nth xs (i * 3 + 1)) x
theorem fltB_f {n e : Nat} {S : Int} {m : Nat} {xs : List Int} {i : Nat} {x : Int} (h : x = nth xs (i * 3 + 2)) : fltB n e S m xs i x = false := by simp [fltB, h]
theorem fltB_t {n e : Nat} {S : Int} {m : Nat} {xs : List Int} {i : Nat} {x : Int} (h : ¬ x = nth xs (i * 3 + 2)) : fltB n e S m xs i x = putB n e S m xs (nth xs (i * 3)) (nth xs (i * 3 + 1)) x := by simp [fltB, h]

set_option maxHeartbeats 3200000 in
theorem iApplyFault (n e : Nat) (S : Int) (i : Nat) (x : Int) (s : Value) (m : Nat) (xs : List Int) (w : World) (hs : SlF w s m 3 xs) (hB : netB n e S m xs = true) (hi : i < m) (hx : 0 ≤ x ∧ x ≤ 12) :
    Calls Tryz.prog 131 #[.agg #[.int .i64 (n : Int), .int .i64 (e : Int), .int .i64 S, s], .agg #[.int .i64 (i : Int), .int .i64 x]] w (GivesO w (fltB n e S m xs i x) n e S (fltM n m xs i x)) := by
  obtain ⟨⟨h1, h5⟩, ⟨e1, e2⟩, ⟨s1, s2⟩, hok, _⟩ := netP_of hB
  have hm : m ≤ 10 := prs_len (by omega) hok
  have HV := Lib.hid hs
  obtain ⟨p, cap, rfl, hc⟩ := hs.open
  obtain ⟨pb, po, rfl, x0, x1, x2⟩ := three_cells hc hi
  have HNo := Lib.hid (fun w' (g : Ge w w') => iNetOk n e S (.slice (some ⟨pb, po, none⟩) m cap) m xs w' (HV.out.ge g) (by omega))
  rw [hB] at HNo
  have HIs := Lib.hid (fun w' => iIsWireF n e S (some ⟨pb, po, none⟩) m cap i w' hi)
  have HPu := Lib.hid (fun w' (g : Ge w w') => iPutWire n e S (nth xs (i * 3)) (nth xs (i * 3 + 1)) x (.slice (some ⟨pb, po, none⟩) m cap) m xs w' (HV.out.ge g) hB)
  have zp := World.block_lt_of_cell? _ _ x2
  obtain ⟨WZ, HWZ⟩ : ∃ WZ, Hid (WZ = (((w.alloc (.cells #[.int .i64 (n : Int), .int .i64 (e : Int), .int .i64 S, .slice (some ⟨pb, po, none⟩) m cap] 33)).alloc (.cells #[.int .i64 (i : Int), .int .i64 x] 138)).alloc (.cells #[.int .i64 0, .int .i64 0, .int .i64 0, .slice none 0 0] 33))) := ⟨_, rfl⟩
  have HC : Hid ((WZ.cell? ⟨w.heap.size, 0, none⟩ = some (.int .i64 (n : Int)) ∧ WZ.cell? ⟨w.heap.size, 1, none⟩ = some (.int .i64 (e : Int)) ∧ WZ.cell? ⟨w.heap.size, 2, none⟩ = some (.int .i64 S) ∧ WZ.cell? ⟨w.heap.size, 3, none⟩ = some (.slice (some ⟨pb, po, none⟩) m cap)) ∧ WZ.cell? ⟨w.heap.size + 1, 0, none⟩ = some (.int .i64 (i : Int)) ∧ WZ.cell? ⟨w.heap.size + 1, 1, none⟩ = some (.int .i64 x)) := by
    have := HWZ.out
    subst this
    exact ⟨⟨cell_alloc (cell_alloc (cell_new rfl rfl)), cell_alloc (cell_alloc (cell_new rfl rfl)), cell_alloc (cell_alloc (cell_new rfl rfl)), cell_alloc (cell_alloc (cell_new rfl rfl))⟩, cell_alloc (cell_new (by simp) rfl), cell_alloc (cell_new (by simp) rfl)⟩
  have HRZ : Hid (ResD WZ (w.heap.size + 2)) := by
    have := HWZ.out
    subst this
    intro i hi
    match i, hi with
    | 0, _ => exact ⟨_, cell_new (by simp) rfl, froz_new (by simp) (i := 0) rfl⟩
    | 1, _ => exact ⟨_, cell_new (by simp) rfl, froz_new (by simp) (i := 1) rfl⟩
    | 2, _ => exact ⟨_, cell_new (by simp) rfl, froz_new (by simp) (i := 2) rfl⟩
    | 3, _ => exact ⟨_, cell_new (by simp) rfl, froz_new (by simp) (i := 3) rfl⟩
  have zR : w.heap.size + 2 < WZ.heap.size := by have := HWZ.out; subst this; simp
  have HG0 : Hid (Ge w WZ) := by have := HWZ.out; subst this; exact Ge.alloc (Ge.alloc (Ge.alloc (Ge.refl w) _) _) _
  have t0 : decide (x < 0) = false := by simp; omega
  have t1 : decide ((12 : Int) < x) = false := by simp; omega
  have ti : decide ((i : Int) < (m : Int)) = true := by simp; omega
  have ti2 : decide (i < m) = true := by simp; omega
  clear hs hc hok hB
  unfold fltM
  by_cases hw : x = nth xs (i * 3 + 2)
  · rw [fltB_f hw]
    have HT := Lib.hid (fun w' g => GivesO.f (w := w) (w' := w') (b := false) (N := n) (E := e) (S := S) (L := putM n m xs (nth xs (i * 3)) (nth xs (i * 3 + 1)) x) rfl g)
    rw [← hw] at x2
    generalize putM n m xs (nth xs (i * 3)) (nth xs (i * 3 + 1)) x = MM at *
    generalize nth xs (i * 3) = A at *
    generalize nth xs (i * 3 + 1) = B at *
    clear hw HPu
    go_enter Tryz.func131, Tryz.ntmps131
    go_upto_region 1 with fail
    have y2 : WZ.cell? ⟨pb, po + i * 3 + 2, none⟩ = some (.int .i64 x) := HG0.out.keep x2
    have hW := HWZ.out
    rw [← hW]
    obtain ⟨⟨c0, c1, c2, c3⟩, c4, c5⟩ := HC.out
    clear hW
    have hS : ∀ w', Ge WZ w' → (w'.cell? ⟨w.heap.size, 0, none⟩ = some (.int .i64 (n : Int)) ∧ w'.cell? ⟨w.heap.size, 1, none⟩ = some (.int .i64 (e : Int)) ∧ w'.cell? ⟨w.heap.size, 2, none⟩ = some (.int .i64 S) ∧ w'.cell? ⟨w.heap.size, 3, none⟩ = some (.slice (some ⟨pb, po, none⟩) m cap) ∧ w'.cell? ⟨w.heap.size + 1, 0, none⟩ = some (.int .i64 (i : Int)) ∧ w'.cell? ⟨w.heap.size + 1, 1, none⟩ = some (.int .i64 x) ∧ w'.cell? ⟨pb, po + i * 3 + 2, none⟩ = some (.int .i64 x) ∧ Ge WZ w') := fun w' g => ⟨g.keep (kch), g.keep (kch), g.keep (kch), g.keep (kch), g.keep (kch), g.keep (kch), g.keep (kch), Ge.trans (kch) g⟩
    go_region_held3 (fun w' => w'.cell? ⟨w.heap.size, 0, none⟩ = some (.int .i64 (n : Int)) ∧ w'.cell? ⟨w.heap.size, 1, none⟩ = some (.int .i64 (e : Int)) ∧ w'.cell? ⟨w.heap.size, 2, none⟩ = some (.int .i64 S) ∧ w'.cell? ⟨w.heap.size, 3, none⟩ = some (.slice (some ⟨pb, po, none⟩) m cap) ∧ w'.cell? ⟨w.heap.size + 1, 0, none⟩ = some (.int .i64 (i : Int)) ∧ w'.cell? ⟨w.heap.size + 1, 1, none⟩ = some (.int .i64 x) ∧ w'.cell? ⟨pb, po + i * 3 + 2, none⟩ = some (.int .i64 x) ∧ Ge WZ w') (first | ((with_reducible refine hS _ ?_); exact kch) | fail) (first | (go_at_call 43; ((with_reducible refine (HNo.out _ (HG0.out.trans (‹_ ∧ _ ∧ _ ∧ _ ∧ _ ∧ _ ∧ _ ∧ Ge WZ _›.2.2.2.2.2.2.2))).mono ?_); rintro e w' ⟨rfl, hb⟩)) | (go_at_call 146; ((with_reducible refine (HIs.out _).mono ?_); rintro e w' ⟨rfl, hb⟩)) | fail)
    rename_i hHeldX
    obtain ⟨q0, q1, q2, q3, q4, q5, q6, G2⟩ := hHeldX
    clear hS
    have gw := HG0.out.trans G2
    have R1 := HRZ.out.ge G2
    obtain ⟨r0, p0, f0⟩ := R1 0 (by omega)
    obtain ⟨r1, p1, f1⟩ := R1 1 (by omega)
    obtain ⟨r2, p2, f2⟩ := R1 2 (by omega)
    obtain ⟨r3, p3, f3⟩ := R1 3 (by omega)
    have z1 := Nat.lt_of_lt_of_le zR G2.size
    have z10 := Nat.lt_of_lt_of_le (show w.heap.size < WZ.heap.size by omega) G2.size
    have z11 := Nat.lt_of_lt_of_le (show w.heap.size + 1 < WZ.heap.size by omega) G2.size
    clear R1
    go_wp2_with fail
    exact bodyPost_ret (v := .tuple #[.agg #[.int .i64 0, .int .i64 0, .int .i64 0, .slice none 0 0], .bool false]) (by simp [results, Tryz.results131, go_sem, *]) rfl (HT.out _ (kge))
  · rw [fltB_t hw]
    generalize hBB : putB n e S m xs (nth xs (i * 3)) (nth xs (i * 3 + 1)) x = BB at *
    generalize putM n m xs (nth xs (i * 3)) (nth xs (i * 3 + 1)) x = MM at *
    generalize nth xs (i * 3) = A at *
    generalize nth xs (i * 3 + 1) = B at *
    generalize nth xs (i * 3 + 2) = WW at *
    have t3 : (x == WW) = false := by simpa using hw
    go_enter Tryz.func131, Tryz.ntmps131
    go_upto_region 1 with fail
    have y2 : WZ.cell? ⟨pb, po + i * 3 + 2, none⟩ = some (.int .i64 WW) := HG0.out.keep x2
    have hW := HWZ.out
    rw [← hW]
    obtain ⟨⟨c0, c1, c2, c3⟩, c4, c5⟩ := HC.out
    clear hW
    have hS : ∀ w', Ge WZ w' → (w'.cell? ⟨w.heap.size, 0, none⟩ = some (.int .i64 (n : Int)) ∧ w'.cell? ⟨w.heap.size, 1, none⟩ = some (.int .i64 (e : Int)) ∧ w'.cell? ⟨w.heap.size, 2, none⟩ = some (.int .i64 S) ∧ w'.cell? ⟨w.heap.size, 3, none⟩ = some (.slice (some ⟨pb, po, none⟩) m cap) ∧ w'.cell? ⟨w.heap.size + 1, 0, none⟩ = some (.int .i64 (i : Int)) ∧ w'.cell? ⟨w.heap.size + 1, 1, none⟩ = some (.int .i64 x) ∧ w'.cell? ⟨pb, po + i * 3 + 2, none⟩ = some (.int .i64 WW) ∧ Ge WZ w') := fun w' g => ⟨g.keep (kch), g.keep (kch), g.keep (kch), g.keep (kch), g.keep (kch), g.keep (kch), g.keep (kch), Ge.trans (kch) g⟩
    go_region_held3 (fun w' => w'.cell? ⟨w.heap.size, 0, none⟩ = some (.int .i64 (n : Int)) ∧ w'.cell? ⟨w.heap.size, 1, none⟩ = some (.int .i64 (e : Int)) ∧ w'.cell? ⟨w.heap.size, 2, none⟩ = some (.int .i64 S) ∧ w'.cell? ⟨w.heap.size, 3, none⟩ = some (.slice (some ⟨pb, po, none⟩) m cap) ∧ w'.cell? ⟨w.heap.size + 1, 0, none⟩ = some (.int .i64 (i : Int)) ∧ w'.cell? ⟨w.heap.size + 1, 1, none⟩ = some (.int .i64 x) ∧ w'.cell? ⟨pb, po + i * 3 + 2, none⟩ = some (.int .i64 WW) ∧ Ge WZ w') (first | ((with_reducible refine hS _ ?_); exact kch) | fail) (first | (go_at_call 43; ((with_reducible refine (HNo.out _ (HG0.out.trans (‹_ ∧ _ ∧ _ ∧ _ ∧ _ ∧ _ ∧ _ ∧ Ge WZ _›.2.2.2.2.2.2.2))).mono ?_); rintro e w' ⟨rfl, hb⟩)) | (go_at_call 146; ((with_reducible refine (HIs.out _).mono ?_); rintro e w' ⟨rfl, hb⟩)) | fail)
    rename_i hHeldX
    obtain ⟨q0, q1, q2, q3, q4, q5, q6, G2⟩ := hHeldX
    clear hS
    have gw := HG0.out.trans G2
    have R1 := HRZ.out.ge G2
    obtain ⟨r0, p0, f0⟩ := R1 0 (by omega)
    obtain ⟨r1, p1, f1⟩ := R1 1 (by omega)
    obtain ⟨r2, p2, f2⟩ := R1 2 (by omega)
    obtain ⟨r3, p3, f3⟩ := R1 3 (by omega)
    have z1 := Nat.lt_of_lt_of_le zR G2.size
    have z10 := Nat.lt_of_lt_of_le (show w.heap.size < WZ.heap.size by omega) G2.size
    have z11 := Nat.lt_of_lt_of_le (show w.heap.size + 1 < WZ.heap.size by omega) G2.size
    clear R1
    have x0 := gw.keep x0
    have x1 := gw.keep x1
    have x2 := gw.keep x2
    have c0 := G2.keep c0
    have c1 := G2.keep c1
    have c2 := G2.keep c2
    have c3 := G2.keep c3
    have c4 := G2.keep c4
    have c5 := G2.keep c5
    cases BB with
    | true =>
      have HT1 := Lib.hid (fun u w' ho g => GivesO.t (w := w) (w' := w') (N := n) (E := e) (S := S) (L := MM) (u := u) (b := true) rfl ho g)
      have HNt := Lib.hid (fun w' (g : Ge w w') => (HPu.out w' g).mono (fun e w' h => h.tt))
      go_wp2_with ((go_at_call 34; ((with_reducible refine (HNt.out _ (kge)).mono ?_); rintro r w9 ⟨u9, rfl, o9, g9⟩)); obtain ⟨pu, cu, rfl⟩ := owns_form o9; have hb9 := Ge.trans (Ge.alloc (Ge.refl _) _) g9; have q0 := hb9.keep p0; have q1 := hb9.keep p1; have q2 := hb9.keep p2; have q3 := hb9.keep p3; have h0 := hb9.keepF p0 f0; have h1 := hb9.keepF p1 f1; have h2 := hb9.keepF p2 f2; have h3 := hb9.keepF p3 f3; have gw9 := gw.trans hb9; have O9 := Lib.hid o9; clear o9)
      exact bodyPost_ret (v := .tuple #[.agg #[.int .i64 (n : Int), .int .i64 (e : Int), .int .i64 S, .slice pu MM.length cu], .bool true]) (by simp [results, Tryz.results131, go_sem, *]) rfl (HT1.out _ _ (by refine owns_mono (base := (w'.alloc (.cells #[.int .i64 A, .int .i64 B, .int .i64 WW] 45)).heap.size) ?_ (by simp; omega); refine own_setD (own_setD (own_setD (own_setD O9.out ?_) ?_) ?_) ?_ <;> (simp; omega)) (kge))
    | false =>
      have HT1 := Lib.hid (fun w' g => GivesO.f (w := w) (w' := w') (N := n) (E := e) (S := S) (L := MM) (b := false) rfl g)
      have HNt := Lib.hid (fun w' (g : Ge w w') => (HPu.out w' g).mono (fun e w' h => h.ff))
      go_wp2_with ((go_at_call 34; ((with_reducible refine (HNt.out _ (kge)).mono ?_); rintro r w9 ⟨rfl, g9⟩)); have hb9 := Ge.trans (Ge.alloc (Ge.refl _) _) g9; have q0 := hb9.keep p0; have q1 := hb9.keep p1; have q2 := hb9.keep p2; have q3 := hb9.keep p3; have h0 := hb9.keepF p0 f0; have h1 := hb9.keepF p1 f1; have h2 := hb9.keepF p2 f2; have h3 := hb9.keepF p3 f3; have gw9 := gw.trans hb9)
      exact bodyPost_ret (v := .tuple #[.agg #[.int .i64 0, .int .i64 0, .int .i64 0, .slice none 0 0], .bool false]) (by simp [results, Tryz.results131, go_sem, *]) rfl (HT1.out _ (kge))
end Go.Proofs.YtagiecajffhnpaaGreat

namespace Go.Proofs.YtagiecajffhnpaaGreat

def flatP (l : List (Nat × Int)) : List Int := l.flatMap fun q => [(q.1 : Int), q.2]
theorem flatP_app (l : List (Nat × Int)) (q : Nat × Int) : flatP (l ++ [q]) = flatP l ++ [(q.1 : Int), q.2] := by simp [flatP]
theorem flatP_len (l : List (Nat × Int)) : (flatP l).length = l.length * 2 := by
  induction l with
  | nil => rfl
  | cons q l ih =>
    show ([(q.1 : Int), q.2] ++ flatP l).length = _
    rw [List.length_append, ih]; simp; omega
def rowP (p : Nat → Int → Bool) (i : Nat) : Nat → List (Nat × Int)
  | 0 => []
  | x + 1 => if p i (x : Int) = true then rowP p i x ++ [(i, (x : Int))] else rowP p i x
def allP (p : Nat → Int → Bool) : Nat → List (Nat × Int)
  | 0 => []
  | i + 1 => allP p i ++ rowP p i 13
def fltL (p : Nat → Int → Bool) (i x : Nat) : List (Nat × Int) := allP p i ++ rowP p i x
theorem fltL_zero (p : Nat → Int → Bool) (i : Nat) : fltL p i 0 = allP p i := by simp [fltL, rowP]
theorem fltL_t {p : Nat → Int → Bool} {i x : Nat} (h : p i (x : Int) = true) : fltL p i (x + 1) = fltL p i x ++ [(i, (x : Int))] := by simp [fltL, rowP, h]
theorem fltL_f {p : Nat → Int → Bool} {i x : Nat} (h : p i (x : Int) = false) : fltL p i (x + 1) = fltL p i x := by simp [fltL, rowP, h]
theorem fltL_full (p : Nat → Int → Bool) (i : Nat) : fltL p i 13 = allP p (i + 1) := rfl
theorem rowP_len (p : Nat → Int → Bool) (i : Nat) : ∀ x, (rowP p i x).length ≤ x
  | 0 => Nat.le_refl _
  | x + 1 => by
    have := rowP_len p i x
    unfold rowP
    split <;> simp <;> omega
theorem allP_len (p : Nat → Int → Bool) : ∀ i, (allP p i).length ≤ i * 13
  | 0 => Nat.le_refl _
  | i + 1 => by
    have h1 := allP_len p i
    have h2 := rowP_len p i 13
    show (allP p i ++ rowP p i 13).length ≤ _
    rw [List.length_append]; omega
theorem fltL_len (p : Nat → Int → Bool) (i x : Nat) : (fltL p i x).length ≤ i * 13 + x := by
  have h1 := allP_len p i
  have h2 := rowP_len p i x
  unfold fltL
  rw [List.length_append]; omega
theorem rowP_mem {p : Nat → Int → Bool} {i : Nat} {q : Nat × Int} : ∀ {x : Nat}, q ∈ rowP p i x → q.1 = i ∧ (0 ≤ q.2 ∧ q.2 < x) ∧ p q.1 q.2 = true
  | 0, h => by simp [rowP] at h
  | x + 1, h => by
    unfold rowP at h
    split at h
    · rcases List.mem_append.1 h with h | h
      · obtain ⟨h1, h2, h3⟩ := rowP_mem h
        exact ⟨h1, by omega, h3⟩
      · simp only [List.mem_singleton] at h
        subst h
        exact ⟨rfl, ⟨by show (0 : Int) ≤ (x : Int); omega, by show (x : Int) < ((x + 1 : Nat) : Int); omega⟩, by assumption⟩
    · obtain ⟨h1, h2, h3⟩ := rowP_mem h
      exact ⟨h1, by omega, h3⟩
theorem allP_mem {p : Nat → Int → Bool} {q : Nat × Int} : ∀ {m : Nat}, q ∈ allP p m → q.1 < m ∧ (0 ≤ q.2 ∧ q.2 ≤ 12) ∧ p q.1 q.2 = true
  | 0, h => by simp [allP] at h
  | i + 1, h => by
    rcases List.mem_append.1 h with h | h
    · obtain ⟨h1, h2, h3⟩ := allP_mem h
      exact ⟨by omega, h2, h3⟩
    · obtain ⟨h1, h2, h3⟩ := rowP_mem h
      exact ⟨by omega, by omega, h3⟩
end Go.Proofs.YtagiecajffhnpaaGreat

namespace Go.Proofs.YtagiecajffhnpaaGreat

theorem flatP_cons (q : Nat × Int) (l : List (Nat × Int)) : flatP (q :: l) = (q.1 : Int) :: q.2 :: flatP l := rfl
def qAt (l : List (Nat × Int)) (i : Nat) : Nat × Int := l.getD i (0, 0)
theorem qAt_eq {l : List (Nat × Int)} {i : Nat} (h : i < l.length) : qAt l i = l[i] := by simp [qAt, h]
theorem flatP_get : ∀ (l : List (Nat × Int)) (i : Nat), i < l.length → (flatP l)[i * 2]? = some ((qAt l i).1 : Int) ∧ (flatP l)[i * 2 + 1]? = some (qAt l i).2
  | [], i, h => absurd h (Nat.not_lt_zero _)
  | q :: l, 0, _ => ⟨rfl, rfl⟩
  | q :: l, i + 1, h => by
    have := flatP_get l i (by simpa using h)
    rw [flatP_cons, show (i + 1) * 2 = i * 2 + 1 + 1 by omega]
    simpa [qAt] using this
theorem flatP_set : ∀ (l : List (Nat × Int)) (i : Nat) (q : Nat × Int), i < l.length → flatP (l.set i q) = ((flatP l).set (i * 2) (q.1 : Int)).set (i * 2 + 1) q.2
  | [], i, _, h => absurd h (Nat.not_lt_zero _)
  | q :: l, 0, _, _ => rfl
  | q :: l, i + 1, r, h => by
    have := flatP_set l i r (by simpa using h)
    rw [List.set_cons_succ, flatP_cons, flatP_cons, this, show (i + 1) * 2 = i * 2 + 1 + 1 by omega]
    simp [List.set_cons_succ]
theorem flatP_take : ∀ (l : List (Nat × Int)) (i : Nat), (flatP l).take (i * 2) = flatP (l.take i)
  | _, 0 => by simp [flatP]
  | [], i + 1 => by simp [flatP]
  | q :: l, i + 1 => by
    rw [flatP_cons, show (i + 1) * 2 = i * 2 + 1 + 1 by omega, List.take_succ_cons, List.take_succ_cons, flatP_take l i, List.take_succ_cons, flatP_cons]
/-- Of the first j elements those that are kept stand first; from j on nothing has turned. -/
def KeptTo (K : Nat × Int → Bool) (L R : List (Nat × Int)) (i j : Nat) : Prop :=
  R.length = L.length ∧ i < j ∧ j ≤ L.length ∧ R.take i = (L.take j).filter K ∧ ∀ k, j ≤ k → qAt R k = qAt L k
theorem KeptTo.len {K : Nat × Int → Bool} {L R : List (Nat × Int)} {i j : Nat} (h : KeptTo K L R i j) : i = ((L.take j).filter K).length := by
  obtain ⟨h1, h2, h3, h4, _⟩ := h
  rw [← h4, List.length_take]; omega
theorem kept_start {K : Nat × Int → Bool} {L : List (Nat × Int)} {k : Nat} (hk : k < L.length) (ha : ∀ j, j < k → K (qAt L j) = true) (hn : K (qAt L k) = false) : KeptTo K L L k (k + 1) := by
  refine ⟨rfl, by omega, by omega, ?_, fun _ _ => rfl⟩
  rw [List.take_succ_eq_append_getElem hk, List.filter_append]
  have h1 : (L.take k).filter K = L.take k := by
    rw [List.filter_eq_self]
    intro q hq
    obtain ⟨j, hj, rfl⟩ := List.getElem_of_mem hq
    have hj' : j < k := by simp at hj; omega
    have := ha j hj'
    rw [qAt_eq (by omega)] at this
    simpa using this
  rw [qAt_eq hk] at hn
  rw [h1]
  simp [hn]
theorem kept_keep {K : Nat × Int → Bool} {L R : List (Nat × Int)} {i j : Nat} (h : KeptTo K L R i j) (hj : j < L.length) (hk : K (qAt L j) = true) : KeptTo K L (R.set i (qAt L j)) (i + 1) (j + 1) := by
  obtain ⟨h1, h2, h3, h4, h5⟩ := h
  refine ⟨by simpa using h1, by omega, by omega, ?_, fun k hk2 => ?_⟩
  · rw [List.take_succ_eq_append_getElem (by simp; omega), List.take_succ_eq_append_getElem hj, List.filter_append, ← h4]
    rw [qAt_eq hj] at hk
    simp [hk, qAt_eq hj, List.take_set_of_le]
  · rw [← h5 k (by omega)]
    unfold qAt
    rw [List.getD_eq_getElem?_getD, List.getD_eq_getElem?_getD, List.getElem?_set_ne (by omega), ← List.getD_eq_getElem?_getD]
theorem kept_drop {K : Nat × Int → Bool} {L R : List (Nat × Int)} {i j : Nat} (h : KeptTo K L R i j) (hj : j < L.length) (hk : K (qAt L j) = false) : KeptTo K L R i (j + 1) := by
  obtain ⟨h1, h2, h3, h4, h5⟩ := h
  refine ⟨h1, by omega, by omega, ?_, fun k hk2 => h5 k (by omega)⟩
  rw [h4, List.take_succ_eq_append_getElem hj, List.filter_append]
  rw [qAt_eq hj] at hk
  simp [hk]
theorem kept_all {K : Nat × Int → Bool} {L : List (Nat × Int)} (ha : ∀ j, j < L.length → K (qAt L j) = true) : L.filter K = L := by
  rw [List.filter_eq_self]
  intro q hq
  obtain ⟨j, hj, rfl⟩ := List.getElem_of_mem hq
  have := ha j hj
  rwa [qAt_eq hj] at this
theorem kept_end {K : Nat × Int → Bool} {L R : List (Nat × Int)} {i : Nat} (h : KeptTo K L R i L.length) : i = (L.filter K).length ∧ i < L.length ∧ (flatP R).take (i * 2) = flatP (L.filter K) := by
  have hl := h.len
  obtain ⟨h1, h2, h3, h4, _⟩ := h
  rw [List.take_length] at hl h4
  exact ⟨hl, h2, by rw [flatP_take, h4]⟩
/-- The first place from j on where p holds, or -1. -/
def firstF (p : Nat → Bool) (j : Nat) : Nat → Int
  | 0 => -1
  | f + 1 => if p j = true then (j : Int) else firstF p (j + 1) f
theorem firstF_spec (p : Nat → Bool) : ∀ (f j : Nat), (firstF p j f = -1 ∧ ∀ i, j ≤ i → i < j + f → p i = false) ∨ ∃ k, j ≤ k ∧ k < j + f ∧ firstF p j f = (k : Int) ∧ p k = true ∧ ∀ i, j ≤ i → i < k → p i = false
  | 0, j => .inl ⟨rfl, fun i h1 h2 => by omega⟩
  | f + 1, j => by
    unfold firstF
    by_cases h : p j = true
    · rw [if_pos h]
      exact .inr ⟨j, Nat.le_refl _, by omega, rfl, h, fun i h1 h2 => by omega⟩
    · rw [if_neg h]
      rcases firstF_spec p f (j + 1) with ⟨h1, h2⟩ | ⟨k, h1, h2, h3, h4, h5⟩
      · refine .inl ⟨h1, fun i a b => ?_⟩
        by_cases e : i = j
        · subst e; simpa using h
        · exact h2 i (by omega) (by omega)
      · refine .inr ⟨k, by omega, by omega, h3, h4, fun i a b => ?_⟩
        by_cases e : i = j
        · subst e; simpa using h
        · exact h5 i (by omega) b
theorem firstF_none {p : Nat → Bool} {n : Nat} (h : ∀ i, i < n → p i = false) : firstF p 0 n = -1 := by
  rcases firstF_spec p n 0 with ⟨h1, _⟩ | ⟨k, _, h2, _, h4, _⟩
  · exact h1
  · rw [h k (by omega)] at h4; cases h4
theorem firstF_at {p : Nat → Bool} {n k : Nat} (hk : k < n) (h : ∀ i, i < k → p i = false) (hp : p k = true) : firstF p 0 n = (k : Int) := by
  rcases firstF_spec p n 0 with ⟨_, h2⟩ | ⟨j, _, h2, h3, h4, h5⟩
  · rw [h2 k (by omega) (by omega)] at hp; cases hp
  · rw [h3]
    by_cases e : j < k
    · rw [h j e] at h4; cases h4
    · by_cases e2 : k < j
      · rw [h5 k (by omega) e2] at hp; cases hp
      · have : j = k := by omega
        rw [this]
end Go.Proofs.YtagiecajffhnpaaGreat

namespace Go.Proofs.YtagiecajffhnpaaGreat
set_option maxRecDepth 100000
open Go.ChangeShapes Go.WideShapes Go.ChangeAt Go.RowKit Go.Joins

set_option maxHeartbeats 380000 in
theorem iDetE (N : Nat) (M : Int → Int → Int) (hM : ∀ a b, absB (M a b) 800) : ∀ (rows cols : List Int) (vm vr vc : Value) (w : World), SlMM w vm N M → SlI w vr rows → SlI w vc cols → (∀ p n c, vr = .slice p n c → n ≤ c) →
    rows.length ≤ 5 → cols.length ≤ 5 → (∀ x ∈ rows, below N x) → (∀ x ∈ cols, below N x) →
    Calls Tryz.prog 114 #[vm, vr, vc] w fun e w' => e = .returned (.int .i64 (detF M rows cols)) ∧ Ge w w' := by
  intro rows
  induction rows with
  | nil =>
    intro cols vm vr vc w hm hr hc hcap h4 h5 hrb hcb
    obtain ⟨pm, cm, rfl, _⟩ := hm
    obtain ⟨pr, cr, rfl, _⟩ := hr.openN (n := 0) rfl
    obtain ⟨pc, cc, rfl, _⟩ := hc.openN rfl
    clear hr hc
    go_enter Tryz.func114, Tryz.ntmps114
    go_wp2_with fail
    go_ret
    exact ⟨rfl, Ge.refl _⟩
  | cons r rs ih =>
    intro cols vm vr vc w hm hr hc hcap h4 h5 hrb hcb
    have HM := Lib.hid hm
    have HR := Lib.hid hr
    have HCo := Lib.hid hc
    obtain ⟨pm, cm, rfl, hmc⟩ := hm
    obtain ⟨m, hmn⟩ : ∃ m, rs.length = m := ⟨_, rfl⟩
    obtain ⟨pr, cr, rfl, hrc⟩ := hr.openN (n := m + 1) (by simp [hmn])
    obtain ⟨n, hn⟩ : ∃ n, cols.length = n := ⟨_, rfl⟩
    obtain ⟨pc, cc, rfl, hcc⟩ := hc.openN hn
    have hcr := hcap _ _ _ rfl
    obtain ⟨b, o, rfl, x0⟩ := hrc 0 (by omega)
    obtain ⟨r0, r1⟩ := hrb r (by simp)
    obtain ⟨ra, rfl⟩ : ∃ ra : Nat, r = (ra : Int) := ⟨r.toNat, by omega⟩
    have hra : ra < N := by omega
    obtain ⟨bm, om, prow, crow, rfl, xm, hrow⟩ := hmc ra hra
    have HMC := Lib.hid hrow
    have HCC := Lib.hid hcc
    have HN := Lib.hid hn
    have HMn := Lib.hid hmn
    have HIH := Lib.hid ih
    have HRB := Lib.hid (fun x (hx : x ∈ rs) => hrb x (List.mem_cons_of_mem _ hx))
    have HCB := Lib.hid hcb
    obtain ⟨at', cq, hcs, hcq, HT⟩ := tail_slice1 hmn (hcap _ _ _ rfl) hr
    replace HT := Lib.hid (fun w' (g : Ge w w') => SlI.ge HT g)
    replace hcs := Lib.hid hcs
    have hbd := detE_le (k := m + 1) (by simp at h4; omega)
    have hbd2 := detE_le (k := m) (by simp at h4; omega)
    have hbm : detE m ≤ 256000000000000 := by
      have := detE_succ m
      omega
    change w.cell? _ = some (.int .i64 (ra : Int)) at x0
    simp only [Nat.add_zero] at x0
    rw [hn] at h5
    simp only [List.length_cons, hmn] at h4
    clear hr hc hmc hrc hcc hrow ih hrb hcb hn hcap hmn
    have tm : ((m : Int) + 1 == 0) = false := by simp; omega
    go_enter Tryz.func114, Tryz.ntmps114
    go_wp2_with fail
    go_loopw [7, 8, 17] (fun s g i wr => ∃ j : Nat, j ≤ n ∧ i = .int .i64 j ∧ s = .int .i64 (detPart M ra rs cols j) ∧ g = .int .i64 (sgn j) ∧ Ge w wr) (fun _ _ i _ => n - (intOf i).toNat)
    case atStart => exact ⟨0, Nat.zero_le _, rfl, rfl, rfl, Ge.refl _⟩
    case round =>
      obtain ⟨j, hj, rfl, rfl, rfl, hg⟩ := hrel
      have hs1 : -1 ≤ sgn j ∧ sgn j ≤ 1 := by unfold sgn; split <;> omega
      have hsn := sgn_succ j
      by_cases hlt : j < n
      · obtain ⟨bc, oc, rfl, y0⟩ := HCC.out j hlt
        obtain ⟨q0, q1⟩ := HCB.out (nth cols j) (by rw [nth_eq cols j (by rw [HN.out]; exact hlt)]; exact List.getElem_mem _)
        obtain ⟨ca, hca⟩ : ∃ ca : Nat, nth cols j = (ca : Int) := ⟨(nth cols j).toNat, by omega⟩
        have hcaN : ca < N := by omega
        obtain ⟨br, or', rfl, z0⟩ := HMC.out ca hcaN
        rw [hca] at y0
        replace x0 := hg.keep x0
        replace xm := hg.keep xm
        replace y0 := hg.keep y0
        replace z0 := hg.keep z0
        have hMb := hM (ra : Int) (ca : Int)
        unfold absB at hMb
        have hpart := detPart_bdE hM (ra : Int) rs cols (by rw [HN.out]; exact h5) (j := j) (by rw [HN.out]; exact hj)
        rw [HMn.out] at hpart
        unfold absB at hpart
        have HSk := Lib.hid (fun h => detPart_skip M (ra : Int) rs cols j h)
        have HSu := Lib.hid (detPart_succ M (ra : Int) rs cols j)
        rw [hca] at HSk HSu
        by_cases hx : M (ra : Int) (ca : Int) = 0
        · have tx : (M (ra : Int) (ca : Int) != 0) = false := by simp [hx]
          have HS := Lib.hid (HSk.out hx)
          clear hx
          generalize M (ra : Int) (ca : Int) = X at *
          generalize detPart M (ra : Int) rs cols j = P at *
          generalize sgn j = G at *
          go_wp2_with fail
          go_roundw
          case rel => exact ⟨j + 1, by omega, by go_num, congrArg _ HS.out.symm, (by first | rfl | exact congrArg _ hsn), kge⟩
          case measure => simp [intOf]; omega
        · have tx : (M (ra : Int) (ca : Int) != 0) = true := by simp [hx]
          clear hx
          have hd := detF_bdE hM rs (cols.eraseIdx j) (Nat.le_trans (List.length_eraseIdx_le _ _) (by rw [HN.out]; exact h5))
          rw [HMn.out] at hd
          generalize hD : detF M rs (cols.eraseIdx j) = D at *
          have HD := Lib.hid hD
          clear hD
          have hY := term_bdE hM j (ra : Int) (ca : Int) D (detE m) (detE_pos m) hd
          have hX1 : absB (sgn j * M (ra : Int) (ca : Int)) 800 := by
            have := hM (ra : Int) (ca : Int)
            unfold sgn absB at *
            split <;> omega
          unfold absB at hY hX1
          have w1 : IntKind.i64.wrap (sgn j * M (ra : Int) (ca : Int)) = sgn j * M (ra : Int) (ca : Int) := IntWalk.i64_in _ (by omega)
          have w2 : IntKind.i64.wrap (sgn j * M (ra : Int) (ca : Int) * D) = sgn j * M (ra : Int) (ca : Int) * D := IntWalk.i64_in _ (by omega)
          have w3 : IntKind.i64.wrap (detPart M (ra : Int) rs cols j + sgn j * M (ra : Int) (ca : Int) * D) = detPart M (ra : Int) rs cols j + sgn j * M (ra : Int) (ca : Int) * D := IntWalk.i64_in _ (by omega)
          have w4 : IntKind.i64.wrap ((j : Int) + 1) = (j : Int) + 1 := IntWalk.i64_in _ (by omega)
          have HCl := Lib.hid (fun w' (g : Ge wr w') => cloneC (.slice (some ⟨bc, oc, none⟩) n cc) cols w' (SlI.ge HCo.out (Ge.trans hg g)) (by rw [HN.out]; omega) (by rw [HN.out]; omega))
          rw [HN.out] at HCl
          have hcr1 : m + 1 ≤ cr := hcr
          have hcr2 : (1 : Int) ≤ (m : Int) + 1 := by omega
          have HDl := Lib.hid (fun base g c w' h => deleteC base g n c j cols w' h hlt (by omega))
          have HDe := Lib.hid (fun v w' (g : Ge wr w') (h : SlI w' v (cols.eraseIdx j)) => HIH.out (cols.eraseIdx j) (.slice (some ⟨bm, om, none⟩) N cm) (.slice (some at') m cq) v w' (HM.out.ge (Ge.trans hg g)) (HT.out w' (Ge.trans hg g)) h (fun p n c e => by simp at e; omega) (by rw [HMn.out]; omega) (by have := List.length_eraseIdx_le cols j; rw [HN.out] at this; omega) HRB.out (fun x hx => HCB.out x (nth_erase_mem x hx)))
          rw [HD.out] at HDe
          clear hcq
          rcases hcs.out with ⟨hc1, rfl, rfl⟩ | ⟨hc1, rfl, rfl⟩
          · replace hc1 : (cr = 1) = True := eq_true hc1
            go_wp2_with fail
            have hS : ∀ w', Ge wr w' → Ge wr w' := fun _ g => g
            go_region_held3 (fun w' => Ge wr w') (first | ((with_reducible refine hS _ ?_); exact kch) | fail) (first | (go_at_call 107; ((with_reducible refine (HCl.out _ ‹Ge wr _›).mono ?_); rintro e wC ⟨gC, cC, rfl, oC, hb⟩); have hC0 : wr.heap.size ≤ gC := Nat.le_trans (Ge.size ‹Ge wr _›) (oC.lt gC rfl).1; have hCw : Ge wr wC := Ge.trans ‹Ge wr _› hb) | (go_at_call 106; ((with_reducible refine (HDl.out _ _ _ _ (by first | exact oC | exact Ge.owns (Ge.drew (Ge.refl _)) oC)).mono ?_); rintro e wE ⟨rfl, sE, gE⟩); have hEw : Ge wr wE := gE wr ‹Ge wr _› hC0) | (go_at_call 114; ((with_reducible refine (HDe.out _ _ ‹Ge wr _› (by first | exact sE | exact SlI.ge sE (Ge.drew (Ge.refl _)))).mono ?_); rintro e wF ⟨rfl, hb⟩)) | fail)
            rename_i G7
            clear hS
            go_wp2_with fail
            go_roundw
            case rel => exact ⟨j + 1, by omega, by go_num, congrArg _ HSu.out.symm, (by first | rfl | exact congrArg _ hsn), kge⟩
            case measure => simp [intOf]; omega
          · replace hc1 : (cr = 1) = False := eq_false hc1
            go_wp2_with fail
            have hS : ∀ w', Ge wr w' → Ge wr w' := fun _ g => g
            go_region_held3 (fun w' => Ge wr w') (first | ((with_reducible refine hS _ ?_); exact kch) | fail) (first | (go_at_call 107; ((with_reducible refine (HCl.out _ ‹Ge wr _›).mono ?_); rintro e wC ⟨gC, cC, rfl, oC, hb⟩); have hC0 : wr.heap.size ≤ gC := Nat.le_trans (Ge.size ‹Ge wr _›) (oC.lt gC rfl).1; have hCw : Ge wr wC := Ge.trans ‹Ge wr _› hb) | (go_at_call 106; ((with_reducible refine (HDl.out _ _ _ _ (by first | exact oC | exact Ge.owns (Ge.drew (Ge.refl _)) oC)).mono ?_); rintro e wE ⟨rfl, sE, gE⟩); have hEw : Ge wr wE := gE wr ‹Ge wr _› hC0) | (go_at_call 114; ((with_reducible refine (HDe.out _ _ ‹Ge wr _› (by first | exact sE | exact SlI.ge sE (Ge.drew (Ge.refl _)))).mono ?_); rintro e wF ⟨rfl, hb⟩)) | fail)
            rename_i G7
            clear hS
            go_wp2_with fail
            go_roundw
            case rel => exact ⟨j + 1, by omega, by go_num, congrArg _ HSu.out.symm, (by first | rfl | exact congrArg _ hsn), kge⟩
            case measure => simp [intOf]; omega
      · have hjn : j = n := by omega
        subst hjn
        have HF : Hid (detF M ((ra : Int) :: rs) cols = detPart M ra rs cols j) := by
          show _ = _
          rw [detF_part, HN.out]
        go_wp2_with fail
        go_ret
        exact ⟨ret_int HF.out.symm, hg⟩
end Go.Proofs.YtagiecajffhnpaaGreat
