/- netOf of impl, without taking the common divisor out. No condition. Plain law: a node replaced by wires between its neighbors: the list of wires that is made by putting is the table's. No program in sight. without of impl: a table without a row and a column. No condition. Plain law: wires between the neighbors of a node. No program in sight. Plain law: both sides of the mesh give the same wires. No program in sight. Plain law: weights of a list of wires, in both ways. No program in sight. Plain law: bounds of determinants of up to five rows. No program in sight. -/
import Derived.Test.YtckjkfcphcnpdaaGreatJAb
import Derived.Test.YtckjkfcphcnpdaaGreatJAa
import Derived.Test.YtckjkfcphcnpdaaGreatPlDet
import Derived.Test.YtckjkfcphcnpdaaGreatJAe
import Derived.Test.YtckjkfcphcnpdaaGreatWMatO
import Derived.Test.YtckjkfcphcnpdaaGreatWDet0
import Derived.Test.YtckjkfcphcnpdaaGreatPlWeight
import Derived.Test.YtckjkfcphcnpdaaGreatPlLap
namespace Go.Proofs.YtckjkfcphcnpdaaGreat
set_option maxRecDepth 100000
open Go.ChangeShapes Go.WideShapes Go.ChangeAt Go.RowKit Go.Joins

set_option maxHeartbeats 6400000 in
theorem iNetOfU (k : Nat) (E S : Int) (T : Int → Int → Int) (vm : Value) (w : World) (hm : SlMM w vm k T) (hk : k ≤ 5) (hS : 0 < S) (hS2 : S ≤ 1000000000) (hb : ∀ i j : Nat, i < k → j < k → 0 ≤ T i j ∧ T i j ≤ 1000000000) :
    Calls Tryz.prog 26 #[.int .i64 E, .int .i64 S, vm, .bool false] w (GivesO w
(netB k E S (tabC (fun i j => T i j) k k).length (flatW (tabC (fun i j => T i j) k k))) k E S (tabC (fun i j => T i j) k k)) := by
  obtain ⟨f, hf⟩ : ∃ f : Nat → Nat → Int, (fun (i j : Nat) => T i j) = f := ⟨_, rfl⟩
  have HT : Hid (∀ i j : Nat, T i j = f i j) := fun i j => by rw [← hf]
  rw [hf]
  obtain ⟨pm, cm, rfl, hmc⟩ := hm
  have HMC := Lib.hid hmc
  have HB := Lib.hid hb
  have HG : Hid (∀ L, 0 < gcdF S L ∧ gcdF S L ≤ S) := fun L => gcdF_bd _ hS
  have HGs : Hid (∀ L e, gcdF S (L ++ [e]) = (gcdN (gcdF S L) e.w : Int)) := fun L e => gcdF_snoc S L e
  have HG0 : Hid (gcdF S (tabC f k 0) = S) := rfl
  have HF0 : Hid (flatW (tabC f k 0) = [] ∧ (tabC f k 0).length = 0) := ⟨rfl, rfl⟩
  clear hmc hb hf
  go_enter Tryz.func26, Tryz.ntmps26
  go_upto_region 1 with (fail)
  have R0 := ResD.new w (.int .i64 0) (.int .i64 0) (.int .i64 0) (.slice none 0 0) 30
  go_cut [10] (fun sx wx => sx = .pointer (some ⟨w.heap.size + 1, 0, none⟩) ∧ NetAt wx w.heap.size (w.heap.size + 1) k E S (.slice none 0 0) [] ∧ wx.frozen? ⟨w.heap.size + 1, 2, none⟩ = false ∧ Ge w wx)
  case first =>
    go_wp2_with fail
    go_meet
    have z1 : (w.alloc (.cells #[.int .i64 0, .int .i64 0, .int .i64 0, .slice none 0 0] 30)).heap.size = w.heap.size + 1 := by simp
    have h1 := NetAt.start (n := k) (E := E) (S := S) R0
    rw [z1] at h1
    exact ⟨rfl, h1, froz_new (by simp) (v := .int .i64 S) rfl, by (repeat (first | with_reducible exact Ge.refl _ | assumption | with_reducible refine Ge.drew ?_ | with_reducible refine Ge.drewN ?_ _ | with_reducible refine Ge.alloc ?_ _ | (with_reducible refine Ge.setCell ?_ (by first | (simp; done) | omega | (simp; omega)) _) | with_reducible refine Ge.trans ?_ (by assumption)))⟩
  obtain ⟨rfl, HN0, F0, g0⟩ := hcut
  go_wp2_with fail
  go_loopw [11, 24] (fun g i wr => ∃ (a : Nat) (u : Value), a ≤ k ∧ i = .int .i64 a ∧ g = .int .i64 (gcdF S (tabC f k a)) ∧ NetAt wr w.heap.size (w.heap.size + 1) k E S u (tabC f k a) ∧ wr.frozen? ⟨w.heap.size + 1, 2, none⟩ = false ∧ Ge w wr) (fun _ i _ => k - (intOf i).toNat)
  case atStart => exact ⟨0, _, Nat.zero_le _, rfl, by rw [HG0.out], HN0, F0, g0⟩
  case round =>
    obtain ⟨a, u, ha, rfl, rfl, HN', hF, hg⟩ := hrel
    have HNr := Lib.hid HN'
    clear HN' HN0
    by_cases hlt : a < k
    · obtain ⟨bm, om, prow, crow, rfl, xm, hrow⟩ := HMC.out a hlt
      have HR := Lib.hid hrow
      clear hrow
      have ym := hg.keep xm
      go_wp2_with fail
      clear ym
      go_loopw [11, 13] (fun g j wr => ∃ (d : Nat) (u : Value), a + 1 ≤ d ∧ d ≤ k ∧ j = .int .i64 (d : Int) ∧ g = .int .i64 (gcdF S (netD f k a d)) ∧ NetAt wr w.heap.size (w.heap.size + 1) k E S u (netD f k a d) ∧ wr.frozen? ⟨w.heap.size + 1, 2, none⟩ = false ∧ Ge w wr) (fun _ j _ => k - (intOf j).toNat)
      case atStart => exact ⟨a + 1, u, Nat.le_refl _, hlt, by simp, by rw [netD_zero], by rw [netD_zero]; exact HNr.out, hF, hg⟩
      case round =>
        clear hF HNr
        obtain ⟨d, u, hd, hdk, rfl, rfl, HN', hF, hg⟩ := hrel
        have HNi := Lib.hid HN'
        have a3 := HN'.c3
        have zG : w.heap.size + 1 < wr.heap.size := World.block_lt_of_cell? _ _ a3
        clear HN'
        by_cases hjk : d < k
        · obtain ⟨br, or', rfl, y0⟩ := HR.out d hjk
          have hb1 := HB.out a d hlt hjk
          rw [HT.out] at y0 hb1
          have y1 := hg.keep y0
          have xm1 := hg.keep xm
          by_cases hx : f a d = 0
          · have tx : (f a d != 0) = false := by simp [hx]
            have HO := Lib.hid (netD_out (k := k) hx hd)
            clear hx
            generalize f a d = X at *
            go_wp2_with fail
            go_roundw
            case rel => exact ⟨d + 1, u, by omega, by omega, by go_num, by rw [HO.out], by rw [HO.out]; exact HNi.out, hF, hg⟩
            case measure => simp [intOf]; omega
          · have tx : (f a d != 0) = true := by simp [hx]
            have HI := Lib.hid (netD_in (k := k) hx hd)
            clear hx
            have hgb := HG.out (netD f k a d)
            have hlen := netD_len f (by omega) hlt hd hdk
            have HGi := Lib.hid (HGs.out (netD f k a d) ⟨(a : Int), (d : Int), f a d⟩)
            generalize f a d = X at *
            generalize netD f k a d = F at *
            obtain ⟨l, hl⟩ : ∃ l, F.length = l := ⟨_, rfl⟩
            have hO := HNi.out.own
            rw [hl] at hO hlen
            have HO := Lib.hid hO
            have HL := Lib.hid hl
            clear hO hl
            generalize gcdF S F = G at *
            have HGc := Lib.hid (fun w' => iGcdOf G X w' (mid (by omega) (by omega)) (mid (by omega) (by omega)))
            go_wp2_with (first
              | (at_builtin; refine ap_wire rfl _ _ rfl (w.heap.size + 1 + 1) _ l (flatW F) rfl HO.out (a : Int) (d : Int) X (b0 := wr.heap.size) rfl rfl (by omega) (by omega) ?_; intro v8 w8 own8 m8 q8; obtain ⟨p8, c8, rfl⟩ := owns_form own8; have HA := NetAt.app (x := ⟨(a : Int), (d : Int), X⟩) HNi.out (by omega) (Ge.refl _) m8 (by rw [HL.out]; exact own8); have t3 := HA.2.1; have tf := HA.2.2; replace HA := Lib.hid HA.1; have F8 := mine_frozN m8 HNi.out.c2 hF (before_row HO.out (by show w.heap.size + 1 < w.heap.size + 1 + 1; omega)); have G8 := Ge.setCell (hg.mine HO.out (by omega) m8) (p := ⟨w.heap.size + 1, 3, none⟩) (by show w.heap.size ≤ w.heap.size + 1; omega) (.slice p8 (l + 1) c8); have F9 := froz_set (b := ⟨w.heap.size + 1, 3, none⟩) (u := .slice p8 (l + 1) c8) F8)
              | (go_at_call 49; ((with_reducible refine (HGc.out _).mono ?_); rintro r w5 ⟨rfl, g5⟩)))
            go_roundw
            case rel => exact ⟨d + 1, _, by omega, by omega, by go_num, by rw [HI.out, HGi.out], by rw [HI.out]; exact HA.out.ge g5, g5.keepF HA.out.c2 F9, Ge.trans G8 g5⟩
            case measure => simp [intOf]; omega
        · have hdn : d = k := by omega
          subst hdn
          have HAl := Lib.hid (netD_all f d a)
          go_wp2_with fail
          go_roundw
          case rel => exact ⟨a + 1, u, by omega, by go_num, by rw [← HAl.out], by rw [← HAl.out]; exact HNi.out, hF, hg⟩
          case measure => simp [intOf]; omega
    · have hak : a = k := by omega
      subst hak
      have hln : (tabC f a a).length ≤ 100 := Nat.le_trans (tabC_len f a a) (Nat.le_trans (Nat.mul_le_mul hk hk) (by omega))
      have hGb := HG.out (tabC f a a)
      clear HGs HG0 HF0 HMC
      generalize gcdF S (tabC f a a) = G at *
      generalize tabC f a a = L at *
      obtain ⟨m, hm⟩ : ∃ m, L.length = m := ⟨_, rfl⟩
      rw [hm] at hln
      have HL := Lib.hid hm
      have HO := HNr.out.own
      rw [hm] at HO
      obtain ⟨p, c, rfl⟩ := owns_form HO
      replace HO := Lib.hid HO
      have hcl := hm
      clear hm
      have HNv := Lib.hid (fun v w' (h : SlF w' v m 3 (flatW L)) => iNetOk a E S v m (flatW L) w' h (by omega))
      have zG : w.heap.size + 1 < wr.heap.size := World.block_lt_of_cell? _ _ HNr.out.c3
      obtain ⟨a0, a1, a2, a3, af, ao, ar⟩ := HNr.out
      obtain ⟨r0, p0, f0⟩ := ar 0 (by omega)
      obtain ⟨r1, p1, f1⟩ := ar 1 (by omega)
      obtain ⟨r2, p2, f2⟩ := ar 2 (by omega)
      obtain ⟨r3, p3, f3⟩ := ar 3 (by omega)
      have ao2 := ao
      rw [hcl] at ao2
      have HSl := Lib.hid (SlF.of_owns ao2)
      have HO := Lib.hid ao2
      have HCg := Lib.hid hcl
      clear ao ar ao2 hcl
      have zl2 : w.heap.size < wr.heap.size := by omega
      by_cases hB : netB a E S m (flatW (L)) = true
      · have HT1 := Lib.hid (fun u w' ho g => GivesO.t (w := w) (w' := w') (N := a) (E := E) (S := S) (L := L) (u := u) hB ho g)
        rw [hB] at HNv
        clear hB
        go_wp2_with ((go_at_call 35; ((with_reducible refine (HNv.out _ _ HSl.out).mono ?_); rintro r w9 ⟨rfl, g9⟩)); have e0 := g9.keep a0; have e1 := g9.keep a1; have e2 := g9.keep a2; have e3 := g9.keep a3; have q0 := g9.keep p0; have q1 := g9.keep p1; have q2 := g9.keep p2; have q3 := g9.keep p3; have h0 := g9.keepF p0 f0; have h1 := g9.keepF p1 f1; have h2 := g9.keepF p2 f2; have h3 := g9.keepF p3 f3; have o9 := g9.owns HO.out)
        exact bodyPost_ret (v := .tuple #[.agg #[.int .i64 (a : Int), .int .i64 E, .int .i64 S, .slice p m c], .bool true]) (by simp [results, Tryz.results26, go_sem, *]) rfl (by refine (?_ : GivesO w _ _ _ _ _ _ _); rw [HL.out]; exact HT1.out _ _ (by rw [HCg.out]; refine owns_mono (base := w.heap.size + 1 + 1) ?_ (by omega); repeat (first | exact o9 | refine own_setD ?_ (by omega))) (by (repeat (first | with_reducible exact Ge.refl _ | assumption | with_reducible refine Ge.drew ?_ | with_reducible refine Ge.drewN ?_ _ | with_reducible refine Ge.alloc ?_ _ | (with_reducible refine Ge.setCell ?_ (by first | (simp; done) | omega | (simp; omega)) _) | with_reducible refine Ge.trans ?_ (by assumption)))))
      · have hB' : netB a E S m (flatW (L)) = false := by simpa using hB
        have HT1 := Lib.hid (fun w' g => GivesO.f (w := w) (w' := w') (N := a) (E := E) (S := S) (L := L) hB' g)
        rw [hB'] at HNv
        clear hB hB'
        go_wp2_with ((go_at_call 35; ((with_reducible refine (HNv.out _ _ HSl.out).mono ?_); rintro r w9 ⟨rfl, g9⟩)); have e0 := g9.keep a0; have e1 := g9.keep a1; have e2 := g9.keep a2; have e3 := g9.keep a3; have q0 := g9.keep p0; have q1 := g9.keep p1; have q2 := g9.keep p2; have q3 := g9.keep p3; have h0 := g9.keepF p0 f0; have h1 := g9.keepF p1 f1; have h2 := g9.keepF p2 f2; have h3 := g9.keepF p3 f3)
        exact bodyPost_ret (v := .tuple #[.agg #[.int .i64 0, .int .i64 0, .int .i64 0, .slice none 0 0], .bool false]) (by simp [results, Tryz.results26, go_sem, *]) rfl (by refine (?_ : GivesO w _ _ _ _ _ _ _); rw [HL.out]; exact HT1.out _ (by (repeat (first | with_reducible exact Ge.refl _ | assumption | with_reducible refine Ge.drew ?_ | with_reducible refine Ge.drewN ?_ _ | with_reducible refine Ge.alloc ?_ _ | (with_reducible refine Ge.setCell ?_ (by first | (simp; done) | omega | (simp; omega)) _) | with_reducible refine Ge.trans ?_ (by assumption)))))
end Go.Proofs.YtckjkfcphcnpdaaGreat

namespace Go.Proofs.YtckjkfcphcnpdaaGreat

/-- A node's number when v has been left out; the other way round. -/
def outI (v x : Int) : Int := if x > v then x - 1 else x
def upI (v : Nat) (i : Nat) : Nat := if i < v then i else i + 1
theorem outI_up (v i : Nat) : outI v (upI v i : Nat) = i := by unfold outI upI; split <;> split <;> omega
theorem up_ne (v i : Nat) : upI v i ≠ v := by unfold upI; split <;> omega
theorem outI_eq {v i : Nat} {x : Int} (_hx : 0 ≤ x) (hv : ¬ x = v) : outI v x = i ↔ x = (upI v i : Nat) := by
  unfold outI upI
  constructor
  · intro h; split at h <;> split <;> omega
  · intro h; split at h <;> split <;> omega
theorem outI_lt {v x y : Int} (hx : ¬ x = v) (hy : ¬ y = v) (h : x < y) : outI v x < outI v y := by unfold outI; split <;> split <;> omega
/-- A list of wires in order, on k nodes. -/
def Ord (k : Nat) (l : List Wr) : Prop := l.Pairwise ltW ∧ ∀ e ∈ l, 0 ≤ e.a ∧ e.a < e.b ∧ e.b < k ∧ 0 < e.w
theorem Ord.nil (k : Nat) : Ord k [] := ⟨List.Pairwise.nil, fun e he => by cases he⟩
theorem sameS_nn {k : Nat} {l : List Wr} (h : ∀ e ∈ l, 0 ≤ e.a ∧ e.a < e.b ∧ e.b < k ∧ 0 < e.w) (a b : Int) : 0 ≤ sameS a b l := by
  induction l with
  | nil => simp [sameS]
  | cons e l ih =>
    have h1 := ih (fun x hx => h x (List.mem_cons_of_mem _ hx))
    have h2 := (h e (by simp)).2.2.2
    simp only [sameS]
    split <;> omega
theorem mem_dropE {a b : Int} {l : List Wr} {e : Wr} : e ∈ dropE a b l ↔ e ∈ l ∧ ¬ (e.a = a ∧ e.b = b) := by
  unfold dropE
  rw [List.mem_filter]
  constructor
  · rintro ⟨h1, h2⟩
    refine ⟨h1, fun h => ?_⟩
    rw [isE_t h] at h2; cases h2
  · rintro ⟨h1, h2⟩
    exact ⟨h1, by rw [isE_f h2]; rfl⟩
theorem Ord.put {k : Nat} {l : List Wr} (h : Ord k l) {a b w : Int} (ha : 0 ≤ a ∧ a < k) (hb : 0 ≤ b ∧ b < k) (hab : ¬ a = b) (hw : 0 < w) : Ord k (putW l a b w true) := by
  unfold putW
  refine ⟨insW_sorted (List.Pairwise.filter _ h.1) (fun e he => (mem_dropE.1 he).2), fun e he => ?_⟩
  rcases mem_insW.1 he with rfl | he
  · have := sameS_nn h.2 (min a b) (max a b)
    refine ⟨by show 0 ≤ min a b; omega, by show min a b < max a b; omega, by show max a b < (k : Int); omega, ?_⟩
    show 0 < w + _
    simp; omega
  · exact h.2 e (mem_dropE.1 he).1
/-- The wires that do not end at v, put one after another, times s. -/
def firstP (v : Nat) (s : Int) (L : List Wr) : Nat → List Wr
  | 0 => []
  | k + 1 => if (nthW L k).a = v ∨ (nthW L k).b = v then firstP v s L k else putW (firstP v s L k) (outI v (nthW L k).a) (outI v (nthW L k).b) ((nthW L k).w * s) true
theorem sameS_take {a b : Int} {L : List Wr} {k : Nat} (h : k < L.length) : sameS a b (L.take (k + 1)) = sameS a b (L.take k) + (if isE a b (nthW L k) = true then (nthW L k).w else 0) := by
  rw [List.take_succ_eq_append_getElem h, sameS_snoc, nthW_eq L k h]
theorem first_ok {n v : Nat} {s : Int} {L : List Wr} (hL : ∀ e ∈ L, 0 ≤ e.a ∧ e.a < e.b ∧ e.b < n ∧ 0 < e.w) (hv : v < n) (hs : 0 < s) : ∀ k, k ≤ L.length → Ord (n - 1) (firstP v s L k) ∧ ∀ i j : Nat, i < j → sameS i j (firstP v s L k) = sameS (upI v i : Nat) (upI v j : Nat) (L.take k) * s
  | 0, _ => ⟨Ord.nil _, fun i j _ => by simp [firstP, sameS]⟩
  | k + 1, hk => by
    obtain ⟨h1, h2⟩ := first_ok hL hv hs k (by omega)
    have hm : nthW L k ∈ L := by rw [nthW_eq L k (by omega)]; exact List.getElem_mem _
    obtain ⟨q1, q2, q3, q4⟩ := hL _ hm
    simp only [firstP]
    by_cases c : (nthW L k).a = v ∨ (nthW L k).b = v
    · rw [if_pos c]
      refine ⟨h1, fun i j hij => ?_⟩
      rw [h2 i j hij, sameS_take (by omega), isE_f (fun h => ?_)]
      · simp
      · have u1 := up_ne v i
        have u2 := up_ne v j
        rcases c with c | c <;> omega
    · rw [if_neg c]
      have a1 := outI_lt (v := v) (x := (nthW L k).a) (y := (nthW L k).b) (fun h => c (.inl h)) (fun h => c (.inr h)) q2
      have a2 : 0 ≤ outI v (nthW L k).a := by unfold outI; split <;> omega
      have a3 : outI v (nthW L k).b < ((n - 1 : Nat) : Int) := by unfold outI; split <;> omega
      refine ⟨h1.put ⟨a2, by omega⟩ ⟨by omega, a3⟩ (by omega) (Int.mul_pos q4 hs), fun i j hij => ?_⟩
      rw [sameS_putW, h2 i j hij, sameS_take (by omega), Int.add_mul]
      congr 1
      have e1 := outI_eq (v := v) (i := i) q1 (fun h => c (.inl h))
      have e2 := outI_eq (v := v) (i := j) (x := (nthW L k).b) (by omega) (fun h => c (.inr h))
      have m1 : min (outI v (nthW L k).a) (outI v (nthW L k).b) = outI v (nthW L k).a := by omega
      have m2 : max (outI v (nthW L k).a) (outI v (nthW L k).b) = outI v (nthW L k).b := by omega
      rw [m1, m2]
      by_cases d : (i : Int) = outI v (nthW L k).a ∧ (j : Int) = outI v (nthW L k).b
      · rw [if_pos d, isE_t ⟨e1.1 d.1.symm, e2.1 d.2.symm⟩, if_pos rfl]
      · rw [if_neg d, isE_f (fun h => d ⟨(e1.2 h.1).symm, (e2.2 h.2).symm⟩)]; simp
end Go.Proofs.YtckjkfcphcnpdaaGreat

namespace Go.Proofs.YtckjkfcphcnpdaaGreat
set_option maxRecDepth 100000
open Go.ChangeShapes Go.WideShapes Go.ChangeAt Go.RowKit Go.Joins

theorem owns_less {w : World} {b e g n c k : Nat} {xs : List Value} (h : w.ownsRow b e 1 (.slice (some ⟨g, 0, none⟩) n c) n xs) (hk : k ≤ n) : w.ownsRow b e 1 (.slice (some ⟨g, 0, none⟩) k c) k (xs.take k) := by
  rcases h.2 with ⟨h', _⟩ | ⟨g', cap', cur, h', hb, hg, hnc, hcm, hcs, htake⟩
  · simp at h'
  · simp only [Value.slice.injEq, Option.some.injEq, Addr.mk.injEq, and_true, true_and] at h'
    obtain ⟨rfl, rfl⟩ := h'
    refine ⟨?_, .inr ⟨g, c, cur, rfl, hb, hg, by omega, hcm, hcs, ?_⟩⟩
    · have := h.1
      rw [List.length_take]; omega
    · rw [← htake, List.take_take, Nat.mul_one, Nat.mul_one, Nat.min_eq_left hk]
theorem deleteO (base g n c j : Nat) (l : List Int) (w : World) (h : w.ownsRow base 3 1 (.slice (some ⟨g, 0, none⟩) n c) n (icells l)) (hj : j < n) (hm : n ≤ 1000) :
    Calls Tryz.prog 101 #[.slice (some ⟨g, 0, none⟩) n c, .int .i64 (j : Int), .int .i64 ((j : Int) + 1)] w fun e w' =>
      e = .returned (.slice (some ⟨g, 0, none⟩) (n - 1) c) ∧ w'.ownsRow base 3 1 (.slice (some ⟨g, 0, none⟩) (n - 1) c) (n - 1) (icells (l.eraseIdx j)) ∧ ∀ w0, Ge w0 w → w0.heap.size ≤ g → Ge w0 w' := by
  have hl : l.length = n := by have := h.1; rw [icells_length] at this; omega
  have hcap : n ≤ c ∧ c ≤ 9223372036854775807 := by
    rcases h.2 with ⟨h', _⟩ | ⟨g', cap', cur, h', _, _, hnc, hmx, _⟩
    · simp at h'
    · simp at h'
      unfold maxLen at hmx
      omega
  have hcell : ∀ k, k < l.length → w.cell? ⟨g, 0 + k, none⟩ = some (.int .i64 (l.getD k 0)) := fun k hk => by
    rw [Nat.zero_add, h.cellAt k (by omega)]
    simp [icells, List.getD, hk]
  have hfr : ∀ k, k < n → w.frozen? ⟨g, 0 + k, none⟩ = false := fun k _ => by rw [Nat.zero_add]; exact h.frozenAt k
  have key := Tryz.slices_Delete_int_cells g 0 n c j (j + 1) l w (by omega) hcap.1 hcap.2 (by omega) (by omega) hcell hfr
  have e1 : ((j + 1 : Nat) : Int) = (j : Int) + 1 := by omega
  rw [e1] at key
  refine key.mono ?_
  rintro e w' ⟨he, q, hw⟩
  have e2 : j + 1 - j = 1 := by omega
  have e3 : l.take n = l := by rw [← hl]; exact List.take_length
  rw [e2] at he hw
  rw [e3] at hw
  have hown : (w.drewN q).ownsRow base 3 1 (.slice (some ⟨g, 0, none⟩) n c) n (icells l) := Ge.owns ((Ge.refl w).drewN q) h
  have e4 : l.take j ++ l.drop (j + 1) = l.eraseIdx j := by rw [List.eraseIdx_eq_take_drop_succ]
  rw [e4] at hw
  have hlen : (l.eraseIdx j).length = n - 1 := by rw [List.length_eraseIdx]; simp [hl, hj]
  have h2 := own_setCells (l.eraseIdx j ++ List.replicate 1 0) 0 (w.drewN q) l hown hl (by simp [hlen]; omega)
  rw [← hw] at h2
  have h3 := owns_less (k := n - 1) h2.1 (by omega)
  have e5 : (icells (l.take 0 ++ (l.eraseIdx j ++ List.replicate 1 0))).take (n - 1) = icells (l.eraseIdx j) := by
    simp only [List.take_zero, List.nil_append, icells, List.map_append]
    rw [List.take_append_of_le_length (by simp [hlen]), List.take_of_length_le (by simp [hlen])]
  refine ⟨he, ?_, fun w0 hg0 hgs => (hg0.drewN q).grown h2.2 (fun k hk => by simp at hk; omega)⟩
  rw [← e5]
  exact h3
theorem mapR_erase (n v : Nat) (F : Nat → Int) (hv : v < n) : (mapR n F).eraseIdx v = mapR (n - 1) (fun b => F (upI v b)) := by
  have hl : ((mapR n F).eraseIdx v).length = n - 1 := by rw [List.length_eraseIdx, mapR_length, if_pos hv]
  refine nth_ext (by rw [hl, mapR_length]) (fun j hj => ?_)
  rw [hl] at hj
  rw [mapR_nth hj, nth_eq _ j (by omega), List.getElem_eraseIdx]
  unfold upI
  split
  · rw [← nth_eq _ j (by rw [mapR_length]; omega), mapR_nth (by omega)]
  · rw [← nth_eq _ (j + 1) (by rw [mapR_length]; omega), mapR_nth (by omega)]
/-- The rows that are there behind i. -/
def rowN (v i : Nat) : Nat := if i ≤ v then i else i - 1
theorem rowN_v (v : Nat) : rowN v (v + 1) = rowN v v := by simp [rowN]
theorem rowN_n {v i : Nat} (h : ¬ i = v) : rowN v (i + 1) = rowN v i + 1 ∧ upI v (rowN v i) = i := by
  unfold rowN upI
  split <;> split <;> split <;> omega
theorem rowN_all {v n : Nat} (h : v < n) : rowN v n = n - 1 := by unfold rowN; split <;> omega
theorem rowN_le (v i : Nat) : rowN v i ≤ i := by unfold rowN; split <;> omega

end Go.Proofs.YtckjkfcphcnpdaaGreat

namespace Go.Proofs.YtckjkfcphcnpdaaGreat

def nAt (l : List Nat) (k : Nat) : Nat := l.getD k 0
theorem nAt_eq (l : List Nat) (k : Nat) (h : k < l.length) : nAt l k = l[k] := by simp [nAt, List.getD, h]
/-- Wires from a to the first k of r. -/
def innP (v : Nat) (f : Nat → Int) (acc : List Wr) (a : Nat) (r : List Nat) : Nat → List Wr
  | 0 => acc
  | k + 1 => putW (innP v f acc a r k) (outI v (a : Int)) (outI v (nAt r k : Int)) (f a * f (nAt r k)) true
/-- Wires from the first t of near to those behind each. -/
def outP (v : Nat) (f : Nat → Int) (base : List Wr) (near : List Nat) : Nat → List Wr
  | 0 => base
  | t + 1 => innP v f (outP v f base near t) (nAt near t) (near.drop (t + 1)) (near.drop (t + 1)).length
theorem take_mem {l : List Nat} {k : Nat} (h : k < l.length) (x : Nat) : x ∈ l.take (k + 1) ↔ x ∈ l.take k ∨ x = nAt l k := by
  rw [List.take_succ_eq_append_getElem h, List.mem_append, nAt_eq l k h]; simp
theorem inn_ok {n v : Nat} {f : Nat → Int} {acc : List Wr} {a : Nat} {r : List Nat} (hacc : Ord (n - 1) acc) (ha : a < n ∧ a ≠ v) (hfa : 0 < f a) (hv : v < n) (hr : ∀ x ∈ r, a < x ∧ x < n ∧ x ≠ v ∧ 0 < f x) (hs : r.Pairwise (· < ·)) :
    ∀ k, k ≤ r.length → Ord (n - 1) (innP v f acc a r k) ∧ ∀ i j : Nat, i < j → sameS i j (innP v f acc a r k) = sameS i j acc + (if upI v i = a ∧ upI v j ∈ r.take k then f a * f (upI v j) else 0)
  | 0, _ => ⟨hacc, fun i j _ => by simp [innP]⟩
  | k + 1, hk => by
    obtain ⟨h1, h2⟩ := inn_ok hacc ha hfa hv hr hs k (by omega)
    have hm : nAt r k ∈ r := by rw [nAt_eq r k (by omega)]; exact List.getElem_mem _
    obtain ⟨q1, q2, q3, q4⟩ := hr _ hm
    have a1 := outI_lt (v := v) (x := (a : Int)) (y := (nAt r k : Int)) (by omega) (by omega) (by omega)
    have a2 : 0 ≤ outI v (a : Int) := by unfold outI; split <;> omega
    have a3 : outI v (nAt r k : Int) < ((n - 1 : Nat) : Int) := by unfold outI; split <;> omega
    have m1 : min (outI v (a : Int)) (outI v (nAt r k : Int)) = outI v (a : Int) := by omega
    have m2 : max (outI v (a : Int)) (outI v (nAt r k : Int)) = outI v (nAt r k : Int) := by omega
    simp only [innP]
    refine ⟨h1.put ⟨a2, by omega⟩ ⟨by omega, a3⟩ (by omega) (Int.mul_pos hfa q4), fun i j hij => ?_⟩
    rw [sameS_putW, h2 i j hij, m1, m2]
    have e1 := outI_eq (v := v) (i := i) (x := (a : Int)) (by omega) (by omega)
    have e2 := outI_eq (v := v) (i := j) (x := (nAt r k : Int)) (by omega) (by omega)
    have hnot : nAt r k ∉ r.take k := fun hh => by
      obtain ⟨t, ht, he⟩ := List.getElem_of_mem hh
      rw [List.length_take] at ht
      rw [List.getElem_take, nAt_eq r k (by omega)] at he
      have := (List.pairwise_iff_getElem.1 hs) t k (by omega) (by omega) (by omega)
      omega
    by_cases d1 : upI v i = a
    · by_cases d2 : upI v j = nAt r k
      · rw [if_neg (fun h => hnot (d2 ▸ h.2)), if_pos ⟨by have := e1.2 (by omega); omega, by have := e2.2 (by omega); omega⟩, if_pos ⟨d1, (take_mem (by omega) _).2 (.inr d2)⟩, d2]; omega
      · rw [if_neg (fun h : (i : Int) = _ ∧ (j : Int) = _ => d2 (by have := e2.1 h.2.symm; omega))]
        by_cases d3 : upI v j ∈ r.take k
        · rw [if_pos ⟨d1, d3⟩, if_pos ⟨d1, (take_mem (by omega) _).2 (.inl d3)⟩]; omega
        · rw [if_neg (fun h => d3 h.2), if_neg (fun h => by rcases (take_mem (by omega) _).1 h.2 with h | h; exact d3 h; exact d2 h)]; omega
    · rw [if_neg (fun h : upI v i = a ∧ _ => d1 h.1), if_neg (fun h : (i : Int) = _ ∧ (j : Int) = _ => d1 (by have := e1.1 h.1.symm; omega)), if_neg (fun h : upI v i = a ∧ _ => d1 h.1)]; omega
theorem out_ok {n v : Nat} {f : Nat → Int} {base : List Wr} {near : List Nat} (hb : Ord (n - 1) base) (hv : v < n) (hr : ∀ x ∈ near, x < n ∧ x ≠ v ∧ 0 < f x) (hs : near.Pairwise (· < ·)) :
    ∀ t, t ≤ near.length → Ord (n - 1) (outP v f base near t) ∧ ∀ i j : Nat, i < j → sameS i j (outP v f base near t) = sameS i j base + (if upI v i ∈ near.take t ∧ upI v j ∈ near then f (upI v i) * f (upI v j) else 0)
  | 0, _ => ⟨hb, fun i j _ => by simp [outP]⟩
  | t + 1, ht => by
    obtain ⟨h1, h2⟩ := out_ok hb hv hr hs t (by omega)
    have hm : nAt near t ∈ near := by rw [nAt_eq near t (by omega)]; exact List.getElem_mem _
    obtain ⟨q1, q2, q3⟩ := hr _ hm
    have hdrop : ∀ x ∈ near.drop (t + 1), nAt near t < x := fun x hx => by
      obtain ⟨u, hu, he⟩ := List.getElem_of_mem hx
      rw [List.length_drop] at hu
      rw [List.getElem_drop] at he
      have := (List.pairwise_iff_getElem.1 hs) t (t + 1 + u) (by omega) (by omega) (by omega)
      rw [nAt_eq near t (by omega)]
      omega
    have hmem : ∀ x, nAt near t < x → (x ∈ near ↔ x ∈ near.drop (t + 1)) := fun x hx => by
      constructor
      · intro h
        obtain ⟨u, hu, he⟩ := List.getElem_of_mem h
        have hut : t < u := by
          rcases Nat.lt_trichotomy t u with h | h | h
          · exact h
          · subst h; rw [nAt_eq near t (by omega)] at hx; omega
          · have := (List.pairwise_iff_getElem.1 hs) u t (by omega) (by omega) h
            rw [nAt_eq near t (by omega)] at hx; omega
        rw [← he]
        rw [List.mem_iff_getElem]
        exact ⟨u - (t + 1), by rw [List.length_drop]; omega, by rw [List.getElem_drop]; congr 1; omega⟩
      · exact fun h => List.mem_of_mem_drop h
    obtain ⟨k1, k2⟩ := inn_ok (acc := outP v f base near t) (a := nAt near t) (r := near.drop (t + 1)) h1 ⟨q1, q2⟩ q3 hv (fun x hx => ⟨hdrop x hx, (hr x (List.mem_of_mem_drop hx)).1, (hr x (List.mem_of_mem_drop hx)).2⟩) (hs.sublist (List.drop_sublist _ _)) (near.drop (t + 1)).length (Nat.le_refl _)
    simp only [outP]
    refine ⟨k1, fun i j hij => ?_⟩
    have hup : upI v i < upI v j := by unfold upI; split <;> split <;> omega
    rw [k2 i j hij, h2 i j hij, List.take_length]
    have hnot : nAt near t ∉ near.take t := fun hh => by
      obtain ⟨u, hu, he⟩ := List.getElem_of_mem hh
      rw [List.length_take] at hu
      rw [List.getElem_take, nAt_eq near t (by omega)] at he
      have := (List.pairwise_iff_getElem.1 hs) u t (by omega) (by omega) (by omega)
      omega
    by_cases d1 : upI v i = nAt near t
    · rw [if_neg (fun h : upI v i ∈ _ ∧ _ => hnot (d1 ▸ h.1))]
      by_cases d2 : upI v j ∈ near
      · rw [if_pos ⟨d1, (hmem _ (by omega)).1 d2⟩, if_pos ⟨(take_mem (by omega) _).2 (.inr d1), d2⟩, d1]; omega
      · rw [if_neg (fun h => d2 (List.mem_of_mem_drop h.2)), if_neg (fun h => d2 h.2)]; omega
    · rw [if_neg (fun h : upI v i = _ ∧ _ => d1 h.1)]
      by_cases d3 : upI v i ∈ near.take t ∧ upI v j ∈ near
      · rw [if_pos d3, if_pos ⟨(take_mem (by omega) _).2 (.inl d3.1), d3.2⟩]; omega
      · rw [if_neg d3, if_neg (fun h => by rcases (take_mem (by omega) _).1 h.1 with h' | h'; exact d3 ⟨h', h.2⟩; exact d1 h')]; omega
end Go.Proofs.YtckjkfcphcnpdaaGreat

namespace Go.Proofs.YtckjkfcphcnpdaaGreat

theorem tabC_congr {f g : Nat → Nat → Int} {k t : Nat} (h : ∀ i j, i < j → j < k → f i j = g i j) : tabC f k t = tabC g k t := by
  refine sorted_ext (tabC_sorted _ _ _) (tabC_sorted _ _ _) (fun e => ?_)
  rw [mem_tabC, mem_tabC]
  constructor
  · rintro ⟨i, j, h1, h2, h3, h4, h5⟩
    rw [h i j h2 h3] at h4 h5
    exact ⟨i, j, h1, h2, h3, h4, h5⟩
  · rintro ⟨i, j, h1, h2, h3, h4, h5⟩
    rw [← h i j h2 h3] at h4 h5
    exact ⟨i, j, h1, h2, h3, h4, h5⟩
/-- The weight between v and x. -/
def wbL (L : List Wr) (v x : Nat) : Int := if v = x then 0 else sameS (min v x : Nat) (max v x : Nat) L
/-- The neighbors of v. -/
def nearL (n : Nat) (L : List Wr) (v : Nat) : List Nat := (List.range n).filter fun x => decide (0 < wbL L v x)
def meshF (L : List Wr) (v : Nat) (s : Int) (i j : Nat) : Int := wbL L (upI v i) (upI v j) * s + wbL L (upI v i) v * wbL L v (upI v j)
theorem wbL_symm (L : List Wr) (a b : Nat) : wbL L a b = wbL L b a := by
  unfold wbL
  by_cases h : a = b
  · rw [h]
  · rw [if_neg h, if_neg (fun k => h k.symm), Nat.min_comm, Nat.max_comm]
theorem wbL_nn {n : Nat} {L : List Wr} (h : Ord n L) (a b : Nat) : 0 ≤ wbL L a b := by
  unfold wbL
  split
  · omega
  · exact sameS_nn h.2 _ _
theorem mem_nearL {n : Nat} {L : List Wr} {v x : Nat} : x ∈ nearL n L v ↔ x < n ∧ 0 < wbL L v x := by simp [nearL]
theorem nearL_sorted (n : Nat) (L : List Wr) (v : Nat) : (nearL n L v).Pairwise (· < ·) := List.Pairwise.filter _ List.pairwise_lt_range
/-- What putting makes is the table. -/
theorem mesh_tab {n v : Nat} {L : List Wr} {s : Int} (hL : Ord n L) (hv : v < n) (hs : 0 < s) :
    outP v (wbL L v) (firstP v s L L.length) (nearL n L v) (nearL n L v).length = tabC (meshF L v s) (n - 1) (n - 1) := by
  obtain ⟨h1, h2⟩ := first_ok hL.2 hv hs L.length (Nat.le_refl _)
  have hr : ∀ x ∈ nearL n L v, x < n ∧ x ≠ v ∧ 0 < wbL L v x := fun x hx => by
    obtain ⟨k1, k2⟩ := mem_nearL.1 hx
    refine ⟨k1, fun e => ?_, k2⟩
    subst e
    simp [wbL] at k2
  obtain ⟨h3, h4⟩ := out_ok h1 hv hr (nearL_sorted n L v) _ (Nat.le_refl _)
  rw [list_tab h3.1 (fun e he => by obtain ⟨q1, q2, q3, q4⟩ := h3.2 e he; exact ⟨q1, q2, q3, by omega⟩)]
  refine tabC_congr (fun i j hij hj => ?_)
  have hup : upI v i < upI v j := by unfold upI; split <;> split <;> omega
  have hjn : upI v j < n := by unfold upI; split <;> omega
  rw [h4 i j hij, h2 i j hij, List.take_length, List.take_length]
  unfold meshF
  have e1 : wbL L (upI v i) (upI v j) = sameS (upI v i : Nat) (upI v j : Nat) L := by
    unfold wbL
    rw [if_neg (by omega), Nat.min_eq_left (by omega), Nat.max_eq_right (by omega)]
  rw [e1, wbL_symm L (upI v i) v]
  congr 1
  by_cases c : upI v i ∈ nearL n L v ∧ upI v j ∈ nearL n L v
  · rw [if_pos c]
  · rw [if_neg c]
    have n1 := wbL_nn hL v (upI v i)
    have n2 := wbL_nn hL v (upI v j)
    by_cases d : 0 < wbL L v (upI v i)
    · have : wbL L v (upI v j) = 0 := by
        have : ¬ 0 < wbL L v (upI v j) := fun h => c ⟨mem_nearL.2 ⟨by omega, d⟩, mem_nearL.2 ⟨hjn, h⟩⟩
        omega
      rw [this]; simp
    · have : wbL L v (upI v i) = 0 := by omega
      rw [this]; simp
end Go.Proofs.YtckjkfcphcnpdaaGreat

namespace Go.Proofs.YtckjkfcphcnpdaaGreat

theorem flat_wire {L : List Wr} {k : Nat} (h : k < L.length) : wa (flatW L) k = (nthW L k).a ∧ wb (flatW L) k = (nthW L k).b ∧ ww (flatW L) k = (nthW L k).w := flatW_get L k h
theorem wfind_not {xs : List Int} {a b : Int} : ∀ {m : Nat}, wfind xs a b m = none → ∀ k, k < m → ¬ isW xs a b k
  | 0, _, k, hk => by omega
  | m + 1, h, k, hk => by
    simp only [wfind] at h
    split at h
    · cases h
    · rename_i h0
      split at h
      · cases h
      · rename_i h1
        by_cases e : k = m
        · subst e; exact h1
        · exact wfind_not h0 k (by omega)
theorem wbet_wbL {n : Nat} {L : List Wr} (h : Ord n L) (a b : Nat) : wbet (flatW L) L.length (a : Int) (b : Int) = wbL L a b := by
  have hmin : min (a : Int) (b : Int) = ((min a b : Nat) : Int) := by omega
  have hmax : max (a : Int) (b : Int) = ((max a b : Nat) : Int) := by omega
  cases e : wfind (flatW L) (a : Int) (b : Int) L.length with
  | some k =>
    obtain ⟨hk, hw⟩ := wfind_lt e
    obtain ⟨f1, f2, f3⟩ := flat_wire hk
    have hm : nthW L k ∈ L := by rw [nthW_eq L k hk]; exact List.getElem_mem _
    obtain ⟨w1, w2⟩ := hw
    rw [f1, hmin] at w1
    rw [f2, hmax] at w2
    have hs := sameS_mem h.1 hm
    have hlt := (h.2 _ hm).2.1
    rw [wbet_some e, f3, ← hs, w1, w2]
    unfold wbL
    rw [if_neg (by omega)]
  | none =>
    rw [wbet_none e]
    unfold wbL
    split
    · rfl
    · refine (sameS_none (fun x hx hh => ?_)).symm
      obtain ⟨k, hk, he⟩ := List.getElem_of_mem hx
      refine wfind_not e k hk ?_
      obtain ⟨f1, f2, f3⟩ := flat_wire hk
      have hn := nthW_eq L k hk
      unfold isW
      rw [f1, f2, hn, he, hmin, hmax]
      exact hh
end Go.Proofs.YtckjkfcphcnpdaaGreat

namespace Go.Proofs.YtckjkfcphcnpdaaGreat

open Go.RowKit

def detE (k : Nat) : Int := (4000 : Int) ^ k
theorem detE_pos (k : Nat) : 0 ≤ detE k := Int.pow_nonneg (by decide)
theorem detE_succ (k : Nat) : detE (k + 1) = 4000 * detE k := by unfold detE; rw [Int.pow_succ, Int.mul_comm]
theorem term_bdE {M : Int → Int → Int} (hM : ∀ a b, absB (M a b) 800) (j : Nat) (r c d B : Int) (hB : 0 ≤ B) (hd : absB d B) : absB (sgn j * M r c * d) (800 * B) := by
  have h1 : absB (sgn j * M r c) 800 := by
    have := hM r c
    unfold sgn absB at *
    split <;> omega
  exact absB_mul (by decide) h1 hd hB
theorem detF_bdE {M : Int → Int → Int} (hM : ∀ a b, absB (M a b) 800) : ∀ (rows cols : List Int), cols.length ≤ 5 → absB (detF M rows cols) (detE rows.length)
  | [], cols, _ => by simp [detF, detE, absB]
  | r :: rs, cols, h => by
    have h1 := sumTo_bd (f := fun j => sgn j * M r (nth cols j) * detF M rs (cols.eraseIdx j)) (B := 800 * detE rs.length) (k := cols.length) (Int.mul_nonneg (by decide) (detE_pos _))
      (fun j _ => term_bdE hM j r _ _ _ (detE_pos _) (detF_bdE hM rs (cols.eraseIdx j) (Nat.le_trans (List.length_eraseIdx_le _ _) h)))
    have h2 : (cols.length : Int) * (800 * detE rs.length) ≤ 5 * (800 * detE rs.length) := Int.mul_le_mul_of_nonneg_right (by omega) (Int.mul_nonneg (by decide) (detE_pos _))
    have h3 := detE_succ rs.length
    simp only [detF, List.length_cons, absB] at *
    omega
theorem detPart_bdE {M : Int → Int → Int} (hM : ∀ a b, absB (M a b) 800) (r : Int) (rs cols : List Int) (h : cols.length ≤ 5) {j : Nat} (hj : j ≤ cols.length) : absB (detPart M r rs cols j) (detE (rs.length + 1)) := by
  have h1 := sumTo_bd (f := fun j => sgn j * M r (nth cols j) * detF M rs (cols.eraseIdx j)) (B := 800 * detE rs.length) (k := j) (Int.mul_nonneg (by decide) (detE_pos _))
    (fun j _ => term_bdE hM j r _ _ _ (detE_pos _) (detF_bdE hM rs (cols.eraseIdx j) (Nat.le_trans (List.length_eraseIdx_le _ _) h)))
  have h2 : (j : Int) * (800 * detE rs.length) ≤ 5 * (800 * detE rs.length) := Int.mul_le_mul_of_nonneg_right (by omega) (Int.mul_nonneg (by decide) (detE_pos _))
  have h3 := detE_succ rs.length
  simp only [detPart, absB] at *
  omega
theorem detE_le {k : Nat} (h : k ≤ 5) : detE k ≤ 1024000000000000000 := by
  have : k = 0 ∨ k = 1 ∨ k = 2 ∨ k = 3 ∨ k = 4 ∨ k = 5 := by omega
  rcases this with rfl | rfl | rfl | rfl | rfl | rfl <;> decide
end Go.Proofs.YtckjkfcphcnpdaaGreat
