/- response of impl. No condition. ResponseOf of impl. No condition. after, slices.Equal and slices.EqualFunc at rows of fractions, SameResponse of impl. No condition. slices.EqualFunc, SameResponse, the closure of FaultsLike of impl. No condition. Slices of Fault as a law's argument: toFault, toFaultS, eqFault, eqFaultS, szFaultS. -/
import Derived.Test.YtagiecajffhnpaaGreatJAb
import Derived.Test.YtagiecajffhnpaaGreatJAe
import Derived.Test.YtagiecajffhnpaaGreatJAg
import Derived.Test.YtagiecajffhnpaaGreatJAd
import Derived.Test.YtagiecajffhnpaaGreatJAc
import Derived.Test.YtagiecajffhnpaaGreatWToInt
import Derived.Test.YtagiecajffhnpaaGreatWFlat
import Derived.Deep.QuietTactic
namespace Go.Proofs.YtagiecajffhnpaaGreat
set_option maxRecDepth 100000
open Go.ChangeShapes Go.WideShapes Go.ChangeAt Go.RowKit Go.Joins

theorem made_rowsY (n : Nat) : (madeCells (Value.slice none 0 0).cells (n * 1)).toList = List.replicate n (Value.slice none 0 0) := by
  simp [madeCells, Value.cells, Nat.mod_one]
  rw [List.eq_replicate_iff]; simp
theorem mapR_snoc2 (n : Nat) (f : Nat → Int) : mapR (n + 1) f = mapR n f ++ [f n] := by simp [mapR, List.range_succ]
theorem cons_below {n e a : Nat} (he : e ≤ n) (ha : a < e) : ∀ x ∈ ((a : Int) :: innZ e (n - e)), below n x := fun x hx => by
  rcases List.mem_cons.1 hx with h | h
  · rw [h]; exact ⟨by omega, by omega⟩
  · exact innZ_below he x h
theorem capOf {a : Addr} {n c : Nat} (h : n ≤ c) : ∀ p k c', Value.slice (some a) n c = .slice p k c' → k ≤ c' := fun p k c' e => by
  simp only [Value.slice.injEq] at e
  omega
theorem SlI.owned {w : World} {base g k c : Nat} {e : TypeId} {l : List Int} (h : w.ownsRow base e 1 (.slice (some ⟨g, 0, none⟩) k c) k (icells l)) : SlI w (.slice (some ⟨g, 0, none⟩) k c) l ∧ k ≤ c := by
  have hl : l.length = k := by have := h.1; rw [icells_length] at this; omega
  exact ⟨SlI.of_owns (by rw [hl]; exact h), owns_cap h _ _ _ rfl⟩

set_option maxHeartbeats 3200000 in
theorem iResponse (n e : Nat) (S : Int) (s : Value) (m : Nat) (xs : List Int) (w : World) (hs : SlF w s m 3 xs) (hB : netB n e S m xs = true) :
    Calls Tryz.prog 80 #[.agg #[.int .i64 (n : Int), .int .i64 (e : Int), .int .i64 S, s]] w fun r w' => ∃ v, r = .returned (.tuple #[v, .int .i64 (S * dwnZ n e m xs)]) ∧ SlRows w' v e 1 (fun a => mapR e (fun b => topZ n e m xs a b)) ∧ Ge w w' := by
  obtain ⟨⟨h1, h5⟩, ⟨e1, e2⟩, ⟨s1, s2⟩, hok, _⟩ := netP_of hB
  have hm : m ≤ 10 := prs_len (by omega) hok
  have HV := Lib.hid hs
  obtain ⟨p, cap, rfl, _⟩ := hs.open
  have HL := Lib.hid (fun w' (g : Ge w w') => iLaplacianOf n e S (.slice p m cap) m xs w' (HV.out.ge g) hB)
  have HI := Lib.hid (fun w' => iInner n e S (.slice p m cap) w' rfl (by omega) (by omega))
  have HDt := Lib.hid (fun (a b : Nat) (ha : a < e) (hb : b < e) vL vR vC w' (hL : SlMM w' vL n (lapZ xs m)) (hR : SlI w' vR ((a : Int) :: innZ e (n - e))) (hC : SlI w' vC ((b : Int) :: innZ e (n - e))) (hvr : ∀ p k c, vR = .slice p k c → k ≤ c) => iDetE n (lapZ xs m) (lapZ_800 (by omega) hok) _ _ vL vR vC w' hL hR hC hvr (by simp [innZ_length]; omega) (by simp [innZ_length]; omega) (cons_below (by omega) ha) (cons_below (by omega) hb))
  have HDd := Lib.hid (fun vL vR w' (hL : SlMM w' vL n (lapZ xs m)) (hR : SlI w' vR (innZ e (n - e))) (hvr : ∀ p k c, vR = .slice p k c → k ≤ c) => iDetE n (lapZ xs m) (lapZ_800 (by omega) hok) _ _ vL vR vR w' hL hR hR hvr (by simp [innZ_length]; omega) (by simp [innZ_length]; omega) (innZ_below (by omega)) (innZ_below (by omega)))
  have HDm : Hid (detF (lapZ xs m) (innZ e (n - e)) (innZ e (n - e)) = dwnZ n e m xs) := rfl
  have HTm : Hid (∀ a b : Nat, detF (lapZ xs m) ((a : Int) :: innZ e (n - e)) ((b : Int) :: innZ e (n - e)) = topZ n e m xs a b) := fun _ _ => rfl
  have hbd := sdwn_bd (S := S) (by omega) hok (by omega : 1 ≤ e) s1 s2
  have hw1 : wrap64 (S * dwnZ n e m xs) = S * dwnZ n e m xs := wr64 _ (by omega) (by omega)
  have hw2 : IntKind.i64.wrap (S * dwnZ n e m xs) = S * dwnZ n e m xs := IntWalk.i64_in _ (by omega)
  have hlI : (innZ e (n - e)).length = n - e := innZ_length e (n - e)
  rw [HDm.out] at HDd
  simp only [HTm.out] at HDt
  clear hs hok hB hbd HTm HDm
  obtain ⟨T, hT⟩ : ∃ T : Nat → Nat → Int, T = fun a b => topZ n e m xs a b := ⟨_, rfl⟩
  have HT : Hid (∀ a b, topZ n e m xs a b = T a b) := by show ∀ a b, _; rw [hT]; exact fun _ _ => rfl
  have HTf : Hid ((fun a => mapR e (fun b => topZ n e m xs a b)) = fun a => mapR e (T a)) := by show _ = _; rw [hT]
  rw [HTf.out]
  simp only [HT.out] at HDt
  clear hT HT HTf
  generalize lapZ xs m = LZ at *
  generalize innZ e (n - e) = IZ at *
  generalize hk : n - e = k at *
  generalize dwnZ n e m xs = DZ at *
  go_enter Tryz.func80, Tryz.ntmps80
  go_wp2_with (first
    | ((go_at_call 112; ((with_reducible refine (HL.out _ (kge)).mono ?_); rintro e wL ⟨vL, rfl, hL, gL⟩)); have b0 := Ge.keep gL (cell_new (i := 0) rfl rfl); have b1 := Ge.keep gL (cell_new (i := 1) rfl rfl); have b2 := Ge.keep gL (cell_new (i := 2) rfl rfl); have b3 := Ge.keep gL (cell_new (i := 3) rfl rfl); have z1 := gL.size; (simp at b0 b1 b2 b3 z1); replace hL := Lib.hid hL)
    | ((go_at_call 113; ((with_reducible refine (HI.out _).mono ?_); rintro e wI ⟨ad, c, rfl, hkc, hI, gI⟩)); replace b0 := gI.keep b0; replace b1 := gI.keep b1; replace b2 := gI.keep b2; replace b3 := gI.keep b3; replace hI := Lib.hid hI; have z2 := gI.size)
    | (at_make; refine mk1 rfl _ _ _ rfl 51 _ 1 24 Tryz.underlying114 inf_rowI (by decide) e rfl rfl (by omega) ?_; intro w1 own1 g1))
  skip
  rw [made_rowsY] at own1
  have HI1 := Lib.hid (hI.out.ge g1)
  have HL1 := Lib.hid (hL.out.ge (Ge.trans gI g1))
  go_loopw [18] (fun i' wr => ∃ a : Nat, a ≤ e ∧ i' = .int .i64 a ∧ RowsY wr wI.heap.size e a 1 (fun a => mapR e (T a)) ∧ Ge wI wr) (fun i _ => e - (intOf i).toNat)
  case atStart => exact ⟨0, Nat.zero_le _, rfl, RowsY.init own1, g1⟩
  case round =>
    obtain ⟨a, ha, rfl, hrows, hg⟩ := hrel
    by_cases hlt : a < e
    · obtain ⟨r0, f0⟩ := hrows.at hlt
      have HR := Lib.hid hrows
      clear hrows
      have zG := World.block_lt_of_cell? _ _ r0
      simp only at zG
      go_wp2_with fail
      obtain ⟨wa, hwa⟩ : ∃ wa, wa = wr := ⟨_, rfl⟩
      subst hwa
      go_loopw [23] (fun j' wr => ∃ (b : Nat) (u : Value), b ≤ e ∧ j' = .int .i64 b ∧ wr.cell? ⟨wI.heap.size, a, none⟩ = some u ∧ wr.frozen? ⟨wI.heap.size, a, none⟩ = false ∧ wr.ownsRow wa.heap.size 3 1 u b (icells (mapR b (T a))) ∧ GeY ⟨wI.heap.size, a, none⟩ wa wr ∧ Ge wI wr) (fun j _ => e - (intOf j).toNat)
      case atStart => exact ⟨0, _, Nat.zero_le _, rfl, r0, f0, ⟨rfl, .inl ⟨rfl, rfl⟩⟩, GeY.refl _ _, hg⟩
      case round =>
        obtain ⟨b, u, hb, rfl, c0, cf, hown, hy, hgb⟩ := hrel
        by_cases hbn : b < e
        · have HIa := Lib.hid (HI1.out)
          have hIr := SlI.ge hI.out hgb
          have HLr := Lib.hid (hL.out.ge (Ge.trans gI hgb))
          have HD := Lib.hid (fun vR vC w' (g : Ge wr w') hR hC hv => HDt.out a b hlt hbn vL vR vC w' (HLr.out.ge g) hR hC hv)
          have HOw := Lib.hid hown
          have HSn := Lib.hid (mapR_snoc2 b (T a))
          have hLe : (mapR b (T a)).length = b := mapR_length _ _
          generalize mapR b (T a) = L at *
          generalize T a b = X at *
          have zr := hgb.size
          have zGr : wI.heap.size < wr.heap.size := World.block_lt_of_cell? _ _ c0
          have zar := hy.2.2
          go_wp2_with fail
          refine wp_region_head (S := fun w' => w'.cell? ⟨wI.heap.size, a, none⟩ = some u) 19 (by kernel_rfl) (by kernel_rfl) (cell_drew c0) (fun hHeld => ?_)
          refine head_takeR 0 (v := ?_) rfl ?_ ?_; rotate_left; (focus (intro w' hSw; (try dsimp only at hSw); go_simp; (try with_reducible rfl))); (try simp only [Act.put, hnA, hnB, hnC])
          refine head_takeR 1 (v := ?_) rfl ?_ ?_; rotate_left; (focus (intro w' hSw; (try dsimp only at hSw); go_simp; (try with_reducible rfl))); (try simp only [Act.put, hnA, hnB, hnC])
          refine head_takeR 2 (v := ?_) rfl ?_ ?_; rotate_left; (focus (intro w' hSw; (try dsimp only at hSw); go_simp; (try with_reducible rfl))); (try simp only [Act.put, hnA, hnB, hnC])
          refine head_takeR 3 (v := ?_) rfl ?_ ?_; rotate_left; (focus (intro w' hSw; (try dsimp only at hSw); go_simp; (try with_reducible rfl))); (try simp only [Act.put, hnA, hnB, hnC])
          refine head_takeR 4 (v := ?_) rfl ?_ ?_; rotate_left; (focus (intro w' hSw; (try dsimp only at hSw); go_simp; (try with_reducible rfl))); (try simp only [Act.put, hnA, hnB, hnC])
          refine head_takeR 5 (v := ?_) rfl ?_ ?_; rotate_left; (focus (intro w' hSw; (try dsimp only at hSw); go_simp; (try with_reducible rfl))); (try simp only [Act.put, hnA, hnB, hnC])
          refine head_takeR 6 (v := ?_) rfl ?_ ?_; rotate_left; (focus (intro w' hSw; (try dsimp only at hSw); go_simp; (try with_reducible rfl))); (try simp only [Act.put, hnA, hnB, hnC])
          refine head_takeR 7 (v := ?_) rfl ?_ ?_; rotate_left; (focus (intro w' hSw; (try dsimp only at hSw); go_simp; (try with_reducible rfl))); (try simp only [Act.put, hnA, hnB, hnC])
          refine head_takeR 9 (v := ?_) rfl ?_ ?_; rotate_left; (focus (intro w' hSw; (try dsimp only at hSw); go_simp; (try with_reducible rfl))); (try simp only [Act.put, hnA, hnB, hnC])
          refine head_takeR 11 (v := ?_) rfl ?_ ?_; rotate_left; (focus (intro w' hSw; (try dsimp only at hSw); go_simp; (try with_reducible rfl))); (try simp only [Act.put, hnA, hnB, hnC])
          refine head_takeR 13 (v := ?_) rfl ?_ ?_; rotate_left; (focus (intro w' hSw; (try dsimp only at hSw); go_simp; (try with_reducible rfl))); (try simp only [Act.put, hnA, hnB, hnC])
          refine head_two 8 12 rfl rfl (by kernel_rfl) (fun K hK => ?_) (fun K hK => ?_)
          rotate_left
          · go_simp
            refine hK.out _ _ (cell_alloc (cell_drew c0)) (fun hHeld => ?_)
            clear hK K
            (try simp only [Act.put, hnA, hnB, hnC])
            refine head_one 8 rfl (by kernel_rfl) (fun K hK => ?_)
            go_simp
            refine hK.out _ _ (cell_alloc (cell_alloc (cell_drew c0))) (fun hHeld => ?_)
            clear hK K
            (try simp only [Act.put, hnA, hnB, hnC])
            have oB : (wr.drew.alloc (.cells #[.int .i64 (b : Int)] 3)).ownsRow wr.heap.size 3 1 (.slice (some ⟨wr.heap.size, 0, none⟩) 1 1) 1 (icells [(b : Int)]) := owns_cons rfl (Nat.le_refl _)
            have oA : ((wr.drew.alloc (.cells #[.int .i64 (b : Int)] 3)).alloc (.cells #[.int .i64 (a : Int)] 3)).ownsRow wr.heap.size 3 1 (.slice (some ⟨wr.heap.size + 1, 0, none⟩) 1 1) 1 (icells [(a : Int)]) := owns_cons (by simp) (by omega)
            have gB : Ge wr ((wr.drew.alloc (.cells #[.int .i64 (b : Int)] 3)).alloc (.cells #[.int .i64 (a : Int)] 3)) := Ge.alloc (Ge.alloc (Ge.drew (Ge.refl _)) _) _
            refine head_one 10 rfl (by kernel_rfl) (fun K hK => ?_)
            rw [if_pos (by rfl)]
            refine ap_lit _ _ rfl (wr.heap.size + 1) (a : Int) rfl wr.heap.size oA (by simp; omega) ad k c IZ rfl (hIr.ge gB) (by omega) ?_
            intro g1 c1 w3 o1 m1 q1
            simp at q1
            have oB3 := (oB.alloc (.cells #[.int .i64 (a : Int)] 3)).kept m1 (.inr (by simp [Value.ownBlock]))
            have g3 : Ge wr w3 := gB.mine oA (Nat.le_refl _) m1
            refine hK.out _ _ (g3.keep c0) (fun hHeld => ?_)
            clear hK K
            (try simp only [Act.put, hnA, hnB, hnC])
            refine head_one 14 rfl (by kernel_rfl) (fun K hK => ?_)
            rw [if_pos (by rfl)]
            refine ap_lit _ _ rfl wr.heap.size (b : Int) rfl wr.heap.size oB3 (g3.size) ad k c IZ rfl (hIr.ge g3) (by omega) ?_
            intro g2 c2 w4 o2 m2 q2
            have o1' := o1.kept m2 (.inr (by simp [Value.ownBlock]; omega))
            have g4 : Ge wr w4 := g3.mine oB3 (Nat.le_refl _) m2
            refine hK.out _ _ (g4.keep c0) (fun hHeld => ?_)
            clear hK K
            (try simp only [Act.put, hnA, hnB, hnC])
            have hR := SlI.owned o1'
            have hC := SlI.owned o2
            refine head_one 15 rfl (by kernel_rfl) (fun K hK => ?_)
            go_simp
            (go_at_call 114; ((with_reducible refine (HD.out _ _ _ g4 hR.1 hC.1 (capOf hR.2)).mono ?_); rintro e w5 ⟨rfl, g5⟩))
            have G5 : Ge wr w5 := g4.trans g5
            refine hK.out _ _ (G5.keep c0) (fun hHeld => ?_)
            clear hK K
            (try simp only [Act.put, hnA, hnB, hnC])
            refine head_one 16 rfl (by kernel_rfl) (fun K hK => ?_)
            go_simp
            refine hK.out _ _ (cell_alloc (G5.keep c0)) (fun hHeld => ?_)
            clear hK K
            (try simp only [Act.put, hnA, hnB, hnC])
            have G6 : Ge wr (w5.alloc (.cells #[.int .i64 X] 3)) := G5.alloc _
            have ow6 := G6.owns HOw.out
            have hz6 := G6.size
            refine head_one 17 rfl (by kernel_rfl) (fun K hK => ?_)
            rw [if_pos (by rfl)]
            refine ap_intsK _ _ rfl wa.heap.size u b L rfl ow6 (by omega) ⟨w5.heap.size, 0, none⟩ 1 1 [X] rfl (SlI.owned (owns_cons rfl (Nat.le_refl _))).1 (by omega) ?_
            intro v8 w8 own8 m8
            obtain ⟨p8, c8, rfl⟩ := owns_form own8
            have t3 := mine_cell m8 (cell_alloc (o := .cells #[.int .i64 X] 3) (G5.keep c0)) (before_row HOw.out zG)
            have t4 := mine_frozY m8 (cell_alloc (o := .cells #[.int .i64 X] 3) (G5.keep c0)) (G6.keepF c0 cf) (before_row HOw.out zG)
            have HFin := Lib.hid (And.intro (cell_same (u := .slice p8 (b + 1) c8) t3) (And.intro (froz_set (b := ⟨wI.heap.size, a, none⟩) (u := .slice p8 (b + 1) c8) t4) (And.intro (owns_setY (o := a) own8 zG (.slice p8 (b + 1) c8)) (And.intro (((hy.ge ⟨_, c0⟩ G6).mine ow6 (Nat.le_refl _) m8).set (.slice p8 (b + 1) c8)) (Ge.setCell ((hgb.trans G6).mine ow6 (by omega) m8) (p := ⟨wI.heap.size, a, none⟩) (Nat.le_refl _) (.slice p8 (b + 1) c8))))))
            refine hK.out _ _ (t3) (fun hHeld => ?_)
            clear hK K
            (try simp only [Act.put, hnA, hnB, hnC])
            refine head_takeR 18 (v := ?_) rfl ?_ ?_; rotate_left; (focus (intro w' hSw; (try dsimp only at hSw); go_simp; (try with_reducible rfl))); (try simp only [Act.put, hnA, hnB, hnC])
            refine head_done (by kernel_rfl) ?_
            go_wp2_with fail
            go_roundw
            case rel => exact ⟨b + 1, .slice p8 (b + 1) c8, by omega, by go_num, HFin.out.1, HFin.out.2.1, by rw [HSn.out]; exact HFin.out.2.2.1, HFin.out.2.2.2.1, HFin.out.2.2.2.2⟩
            case measure => simp [intOf]; omega
          · go_simp
            refine hK.out _ _ (cell_alloc (cell_drew c0)) (fun hHeld => ?_)
            clear hK K
            (try simp only [Act.put, hnA, hnB, hnC])
            have oA : (wr.drew.alloc (.cells #[.int .i64 (a : Int)] 3)).ownsRow wr.heap.size 3 1 (.slice (some ⟨wr.heap.size, 0, none⟩) 1 1) 1 (icells [(a : Int)]) := owns_cons rfl (Nat.le_refl _)
            have gA : Ge wr (wr.drew.alloc (.cells #[.int .i64 (a : Int)] 3)) := Ge.alloc (Ge.drew (Ge.refl _)) _
            refine head_two 10 12 rfl rfl (by kernel_rfl) (fun K hK => ?_) (fun K hK => ?_)
            · rw [if_pos (by rfl)]
              refine ap_lit _ _ rfl wr.heap.size (a : Int) rfl wr.heap.size oA (by simp) ad k c IZ rfl (hIr.ge gA) (by omega) ?_
              intro g1 c1 w3 o1 m1 q1
              have g3 : Ge wr w3 := gA.mine oA (Nat.le_refl _) m1
              have z3 := g3.size
              refine hK.out _ _ (g3.keep c0) (fun hHeld => ?_)
              clear hK K
              (try simp only [Act.put, hnA, hnB, hnC])
              refine head_one 12 rfl (by kernel_rfl) (fun K hK => ?_)
              go_simp
              refine hK.out _ _ (cell_alloc (g3.keep c0)) (fun hHeld => ?_)
              clear hK K
              (try simp only [Act.put, hnA, hnB, hnC])
              have oB : (w3.alloc (.cells #[.int .i64 (b : Int)] 3)).ownsRow wr.heap.size 3 1 (.slice (some ⟨w3.heap.size, 0, none⟩) 1 1) 1 (icells [(b : Int)]) := owns_cons rfl z3
              have gB : Ge wr (w3.alloc (.cells #[.int .i64 (b : Int)] 3)) := g3.alloc _
              refine head_one 14 rfl (by kernel_rfl) (fun K hK => ?_)
              rw [if_pos (by rfl)]
              refine ap_lit _ _ rfl w3.heap.size (b : Int) rfl wr.heap.size oB (by simp; omega) ad k c IZ rfl (hIr.ge gB) (by omega) ?_
              intro g2 c2 w4 o2 m2 q2
              have zg1 := (o1.lt g1 rfl).2
              have o1' := (o1.alloc (.cells #[.int .i64 (b : Int)] 3)).kept m2 (.inr (by simp [Value.ownBlock]; omega))
              have g4 : Ge wr w4 := gB.mine oB (Nat.le_refl _) m2
              refine hK.out _ _ (g4.keep c0) (fun hHeld => ?_)
              clear hK K
              (try simp only [Act.put, hnA, hnB, hnC])
              have hR := SlI.owned o1'
              have hC := SlI.owned o2
              refine head_one 15 rfl (by kernel_rfl) (fun K hK => ?_)
              go_simp
              (go_at_call 114; ((with_reducible refine (HD.out _ _ _ g4 hR.1 hC.1 (capOf hR.2)).mono ?_); rintro e w5 ⟨rfl, g5⟩))
              have G5 : Ge wr w5 := g4.trans g5
              refine hK.out _ _ (G5.keep c0) (fun hHeld => ?_)
              clear hK K
              (try simp only [Act.put, hnA, hnB, hnC])
              refine head_one 16 rfl (by kernel_rfl) (fun K hK => ?_)
              go_simp
              refine hK.out _ _ (cell_alloc (G5.keep c0)) (fun hHeld => ?_)
              clear hK K
              (try simp only [Act.put, hnA, hnB, hnC])
              have G6 : Ge wr (w5.alloc (.cells #[.int .i64 X] 3)) := G5.alloc _
              have ow6 := G6.owns HOw.out
              have hz6 := G6.size
              refine head_one 17 rfl (by kernel_rfl) (fun K hK => ?_)
              rw [if_pos (by rfl)]
              refine ap_intsK _ _ rfl wa.heap.size u b L rfl ow6 (by omega) ⟨w5.heap.size, 0, none⟩ 1 1 [X] rfl (SlI.owned (owns_cons rfl (Nat.le_refl _))).1 (by omega) ?_
              intro v8 w8 own8 m8
              obtain ⟨p8, c8, rfl⟩ := owns_form own8
              have t3 := mine_cell m8 (cell_alloc (o := .cells #[.int .i64 X] 3) (G5.keep c0)) (before_row HOw.out zG)
              have t4 := mine_frozY m8 (cell_alloc (o := .cells #[.int .i64 X] 3) (G5.keep c0)) (G6.keepF c0 cf) (before_row HOw.out zG)
              have HFin := Lib.hid (And.intro (cell_same (u := .slice p8 (b + 1) c8) t3) (And.intro (froz_set (b := ⟨wI.heap.size, a, none⟩) (u := .slice p8 (b + 1) c8) t4) (And.intro (owns_setY (o := a) own8 zG (.slice p8 (b + 1) c8)) (And.intro (((hy.ge ⟨_, c0⟩ G6).mine ow6 (Nat.le_refl _) m8).set (.slice p8 (b + 1) c8)) (Ge.setCell ((hgb.trans G6).mine ow6 (by omega) m8) (p := ⟨wI.heap.size, a, none⟩) (Nat.le_refl _) (.slice p8 (b + 1) c8))))))
              refine hK.out _ _ (t3) (fun hHeld => ?_)
              clear hK K
              (try simp only [Act.put, hnA, hnB, hnC])
              refine head_takeR 18 (v := ?_) rfl ?_ ?_; rotate_left; (focus (intro w' hSw; (try dsimp only at hSw); go_simp; (try with_reducible rfl))); (try simp only [Act.put, hnA, hnB, hnC])
              refine head_done (by kernel_rfl) ?_
              go_wp2_with fail
              go_roundw
              case rel => exact ⟨b + 1, .slice p8 (b + 1) c8, by omega, by go_num, HFin.out.1, HFin.out.2.1, by rw [HSn.out]; exact HFin.out.2.2.1, HFin.out.2.2.2.1, HFin.out.2.2.2.2⟩
              case measure => simp [intOf]; omega
            · go_simp
              refine hK.out _ _ (cell_alloc (cell_alloc (cell_drew c0))) (fun hHeld => ?_)
              clear hK K
              (try simp only [Act.put, hnA, hnB, hnC])
              have oB : ((wr.drew.alloc (.cells #[.int .i64 (a : Int)] 3)).alloc (.cells #[.int .i64 (b : Int)] 3)).ownsRow wr.heap.size 3 1 (.slice (some ⟨wr.heap.size + 1, 0, none⟩) 1 1) 1 (icells [(b : Int)]) := owns_cons (by simp) (by omega)
              have gB : Ge wr ((wr.drew.alloc (.cells #[.int .i64 (a : Int)] 3)).alloc (.cells #[.int .i64 (b : Int)] 3)) := gA.alloc _
              refine head_one 10 rfl (by kernel_rfl) (fun K hK => ?_)
              rw [if_pos (by rfl)]
              refine ap_lit _ _ rfl wr.heap.size (a : Int) rfl wr.heap.size (oA.alloc _) (by simp; omega) ad k c IZ rfl (hIr.ge gB) (by omega) ?_
              intro g1 c1 w3 o1 m1 q1
              simp at q1
              have oB3 := oB.kept m1 (.inr (by simp [Value.ownBlock]))
              have g3 : Ge wr w3 := gB.mine (oA.alloc _) (Nat.le_refl _) m1
              refine hK.out _ _ (g3.keep c0) (fun hHeld => ?_)
              clear hK K
              (try simp only [Act.put, hnA, hnB, hnC])
              refine head_one 14 rfl (by kernel_rfl) (fun K hK => ?_)
              rw [if_pos (by rfl)]
              refine ap_lit _ _ rfl (wr.heap.size + 1) (b : Int) rfl wr.heap.size oB3 (g3.size) ad k c IZ rfl (hIr.ge g3) (by omega) ?_
              intro g2 c2 w4 o2 m2 q2
              have o1' := o1.kept m2 (.inr (by simp [Value.ownBlock]; omega))
              have g4 : Ge wr w4 := g3.mine oB3 (Nat.le_refl _) m2
              refine hK.out _ _ (g4.keep c0) (fun hHeld => ?_)
              clear hK K
              (try simp only [Act.put, hnA, hnB, hnC])
              have hR := SlI.owned o1'
              have hC := SlI.owned o2
              refine head_one 15 rfl (by kernel_rfl) (fun K hK => ?_)
              go_simp
              (go_at_call 114; ((with_reducible refine (HD.out _ _ _ g4 hR.1 hC.1 (capOf hR.2)).mono ?_); rintro e w5 ⟨rfl, g5⟩))
              have G5 : Ge wr w5 := g4.trans g5
              refine hK.out _ _ (G5.keep c0) (fun hHeld => ?_)
              clear hK K
              (try simp only [Act.put, hnA, hnB, hnC])
              refine head_one 16 rfl (by kernel_rfl) (fun K hK => ?_)
              go_simp
              refine hK.out _ _ (cell_alloc (G5.keep c0)) (fun hHeld => ?_)
              clear hK K
              (try simp only [Act.put, hnA, hnB, hnC])
              have G6 : Ge wr (w5.alloc (.cells #[.int .i64 X] 3)) := G5.alloc _
              have ow6 := G6.owns HOw.out
              have hz6 := G6.size
              refine head_one 17 rfl (by kernel_rfl) (fun K hK => ?_)
              rw [if_pos (by rfl)]
              refine ap_intsK _ _ rfl wa.heap.size u b L rfl ow6 (by omega) ⟨w5.heap.size, 0, none⟩ 1 1 [X] rfl (SlI.owned (owns_cons rfl (Nat.le_refl _))).1 (by omega) ?_
              intro v8 w8 own8 m8
              obtain ⟨p8, c8, rfl⟩ := owns_form own8
              have t3 := mine_cell m8 (cell_alloc (o := .cells #[.int .i64 X] 3) (G5.keep c0)) (before_row HOw.out zG)
              have t4 := mine_frozY m8 (cell_alloc (o := .cells #[.int .i64 X] 3) (G5.keep c0)) (G6.keepF c0 cf) (before_row HOw.out zG)
              have HFin := Lib.hid (And.intro (cell_same (u := .slice p8 (b + 1) c8) t3) (And.intro (froz_set (b := ⟨wI.heap.size, a, none⟩) (u := .slice p8 (b + 1) c8) t4) (And.intro (owns_setY (o := a) own8 zG (.slice p8 (b + 1) c8)) (And.intro (((hy.ge ⟨_, c0⟩ G6).mine ow6 (Nat.le_refl _) m8).set (.slice p8 (b + 1) c8)) (Ge.setCell ((hgb.trans G6).mine ow6 (by omega) m8) (p := ⟨wI.heap.size, a, none⟩) (Nat.le_refl _) (.slice p8 (b + 1) c8))))))
              refine hK.out _ _ (t3) (fun hHeld => ?_)
              clear hK K
              (try simp only [Act.put, hnA, hnB, hnC])
              refine head_takeR 18 (v := ?_) rfl ?_ ?_; rotate_left; (focus (intro w' hSw; (try dsimp only at hSw); go_simp; (try with_reducible rfl))); (try simp only [Act.put, hnA, hnB, hnC])
              refine head_done (by kernel_rfl) ?_
              go_wp2_with fail
              go_roundw
              case rel => exact ⟨b + 1, .slice p8 (b + 1) c8, by omega, by go_num, HFin.out.1, HFin.out.2.1, by rw [HSn.out]; exact HFin.out.2.2.1, HFin.out.2.2.2.1, HFin.out.2.2.2.2⟩
              case measure => simp [intOf]; omega
        · have hbe : b = e := by omega
          subst hbe
          obtain ⟨pu, cu, rfl⟩ := owns_form hown
          have HN := Lib.hid (RowsY.next HR.out hlt hy c0 (fun x hx => by cases hx) (Sl.of_owns hown))
          go_wp2_with fail
          go_roundw
          case rel => exact ⟨a + 1, by omega, by go_num, HN.out, hgb⟩
          case measure => simp [intOf]; omega
    · have hae : a = e := by omega
      subst hae
      have HR := Lib.hid hrows.rows
      have HIr := Lib.hid (hI.out.ge hg)
      have HLr := Lib.hid (hL.out.ge (Ge.trans gI hg))
      have b2r := hg.keep b2
      clear hrows
      go_wp2_with fail
      have hS : ∀ w', Ge wr w' → (w'.cell? ⟨w.heap.size, 2, none⟩ = some (.int .i64 S) ∧ Ge wr w') := fun w' g => ⟨g.keep (kch), Ge.trans (kch) g⟩
      go_region_held3 (fun w' => w'.cell? ⟨w.heap.size, 2, none⟩ = some (.int .i64 S) ∧ Ge wr w') (first | ((with_reducible refine hS _ ?_); exact kch) | fail) (first | (go_at_call 114; ((with_reducible refine (HDd.out vL (.slice (some ad) k c) _ (SlMM.ge HLr.out (kch)) (SlI.ge HIr.out (kch)) (capOf hkc)).mono ?_); rintro e' wD ⟨rfl, hb⟩)) | fail)
      rename_i hHeldX
      obtain ⟨q0, G7⟩ := hHeldX
      clear hS
      all_goals
        go_wp2_with fail
        exact bodyPost_ret (v := .tuple #[.slice (some ⟨wI.heap.size, 0, none⟩) a a, .int .i64 (S * DZ)]) (by simp [results, Tryz.results80, go_sem, *]) rfl ⟨_, rfl, HR.out.ge (kge), kge⟩
end Go.Proofs.YtagiecajffhnpaaGreat

namespace Go.Proofs.YtagiecajffhnpaaGreat
set_option maxRecDepth 100000
open Go.ChangeShapes Go.WideShapes Go.ChangeAt Go.RowKit Go.Joins

theorem inf_RatioQ : (Tryz.prog.info? 86).map (fun i => (i.zero, i.size, i.bytes)) = some (some (Value.agg #[.int .i64 0, .int .i64 0]), 2, 16) := by kernel_rfl
theorem inf_rowQ : (Tryz.prog.info? 78).map (fun i => (i.zero, i.size, i.bytes)) = some (some (Value.slice none 0 0), 1, 24) := by kernel_rfl
/-- Appending one fraction. -/
theorem ap_ratK {w : World} {o : Oper} {a : Act} {K : Act → World → Prop} {Q : Exit → Act → World → Prop} (s x : Operand)
    (ho : o.op = .call { callee := .builtin .append, args := #[s, x], argTypes := #[78, 78] })
    (base : Nat) (v : Value) (n : Nat) (l : List Int) (hs : a.eval s = v) (hown : w.ownsRow base 86 2 v n (icells l)) (hb : base ≤ w.heap.size)
    (y z : Int) {b0 : Nat} (hx : a.eval x = .slice (some ⟨b0, 0, none⟩) 1 1) (h0 : w.cell? ⟨b0, 0, none⟩ = some (.int .i64 y)) (h1 : w.cell? ⟨b0, 1, none⟩ = some (.int .i64 z)) (hn : n < 1000)
    (h : ∀ v' w', w'.ownsRow base 86 2 v' (n + 1) (icells (l ++ [y, z])) → Mine w w' v → K (a.put o.dst v') w') :
    o.wp Tryz.prog a w K Q := by
  obtain ⟨i, hi1, hi2, hi3, hi4⟩ := info_parts inf_RatioQ
  refine wp_append_own _ s x 78 ho base 86 i _ 2 16 Tryz.underlying78 hi1 hi2 hi3 hi4 rfl (by decide) v n (icells l) hs hown ⟨b0, 0, none⟩ 1 1 [.int .i64 y, .int .i64 z] hx rfl ?_ (by simp [Value.oneCell']) (by unfold maxLen; omega) ?_ hb ?_
  · intro j u hu
    match j, hu with
    | 0, hu => simp at hu; subst hu; simpa [Addr.add] using h0
    | 1, hu => simp at hu; subst hu; simpa [Addr.add] using h1
  · omega
  · intro v' w' h2 h3 _
    exact h v' w' (by simpa [icells] using h2) h3
/-- The entries of rows of integers. -/
theorem SlRows.ints {w : World} {v : Value} {E : Nat} {T : Nat → Nat → Int} (h : SlRows w v E 1 (fun a => mapR E (T a))) :
    ∃ b o c, v = .slice (some ⟨b, o, none⟩) E c ∧ ∀ a, a < E → ∃ p k, w.cell? ⟨b, o + a, none⟩ = some (.slice p E k) ∧ ∀ j, j < E → ∃ br or', p = some ⟨br, or', none⟩ ∧ w.cell? ⟨br, or' + j, none⟩ = some (.int .i64 (T a j)) := by
  obtain ⟨b, o, c, hv, hc⟩ := h
  refine ⟨b, o, c, hv, fun a ha => ?_⟩
  obtain ⟨p, k, h1, _, p', k', h2, h3⟩ := hc a ha
  simp only [Value.slice.injEq] at h2
  obtain ⟨rfl, _, rfl⟩ := h2
  refine ⟨p, k, h1, fun j hj => ?_⟩
  refine h3 j _ ?_
  simp [icells, mapR, hj]

set_option maxHeartbeats 1600000 in
theorem iResponseOfF (N E S : Int) (s : Value) (m : Nat) (xs : List Int) (w : World) (hs : SlF w s m 3 xs) (hm : m ≤ 9223372036854775807) (hB : netB N E S m xs = false) :
    Calls Tryz.prog 83 #[.agg #[.int .i64 N, .int .i64 E, .int .i64 S, s]] w fun r w' => r = .returned (.tuple #[.slice none 0 0, .bool false]) ∧ Ge w w' := by
  obtain ⟨p, cap, rfl, hc⟩ := hs.open
  have HV := Lib.hid hs
  clear hs hc
  have HNo := Lib.hid (fun w' (g : Ge w w') => iNetOk N E S (.slice p m cap) m xs w' (HV.out.ge g) hm)
  rw [hB] at HNo
  go_enter Tryz.func83, Tryz.ntmps83
  go_wp2_with (go_at_call 43; ((with_reducible refine (HNo.out _ (kge)).mono ?_); rintro e w1 ⟨rfl, g1⟩))
  exact bodyPost_ret (v := .tuple #[.slice none 0 0, .bool false]) (by simp [results, Tryz.results83, go_sem, *]) rfl ⟨rfl, kge⟩

set_option maxHeartbeats 3200000 in
theorem iResponseOfT (n e : Nat) (S : Int) (s : Value) (m : Nat) (xs : List Int) (w : World) (hs : SlF w s m 3 xs) (hm : m ≤ 9223372036854775807) (hB : netB n e S m xs = true) :
    Calls Tryz.prog 83 #[.agg #[.int .i64 (n : Int), .int .i64 (e : Int), .int .i64 S, s]] w fun r w' => ∃ v, r = .returned (.tuple #[v, .bool true]) ∧ SlRows w' v e 2 (fun a => respL n e m S xs a e) ∧ Ge w w' := by
  obtain ⟨⟨h1, h5⟩, ⟨e1, e2⟩, ⟨s1, s2⟩, hok, _⟩ := netP_of hB
  obtain ⟨p, cap, rfl, hc⟩ := hs.open
  have HV := Lib.hid hs
  have HNo := Lib.hid (fun w' (g : Ge w w') => iNetOk n e S (.slice p m cap) m xs w' (HV.out.ge g) hm)
  rw [hB] at HNo
  have HRe := Lib.hid (fun w' (g : Ge w w') => iResponse n e S (.slice p m cap) m xs w' (HV.out.ge g) hB)
  have hbd := sdwn_bd (S := S) (by omega) hok (by omega : 1 ≤ e) s1 s2
  have HRo := Lib.hid (fun (a b : Nat) w' => iRatioOf (topZ n e m xs a b) (S * dwnZ n e m xs) w' (by have := top_bd (n := n) (e := e) (by omega) hok (by omega) (by omega) a b; exact mid (by omega) (by omega)) (mid (by omega) (by omega)))
  obtain ⟨R, hR⟩ : ∃ R : Nat → Nat → List Int, R = fun a k => respL n e m S xs a k := ⟨_, rfl⟩
  have HR0 : Hid (∀ a, R a 0 = []) := by show ∀ a, _; intro a; rw [hR]; rfl
  have HRs : Hid (∀ a k, R a (k + 1) = R a k ++ [(ratioOf (topZ n e m xs a k) (S * dwnZ n e m xs)).n, (ratioOf (topZ n e m xs a k) (S * dwnZ n e m xs)).d]) := by show ∀ a k, _; intro a k; rw [hR]; rfl
  have HRe' : Hid ((fun a => respL n e m S xs a e) = fun a => R a e) := by show _ = _; rw [hR]
  rw [HRe'.out]
  clear hs hc hok hB hbd hR HRe'
  obtain ⟨T, hT⟩ : ∃ T : Nat → Nat → Int, T = fun a b => topZ n e m xs a b := ⟨_, rfl⟩
  have HT : Hid (∀ a b, topZ n e m xs a b = T a b) := by show ∀ a b, _; rw [hT]; exact fun _ _ => rfl
  simp only [HT.out] at HRo HRs HRe
  clear hT HT
  generalize S * dwnZ n e m xs = SD at *
  go_enter Tryz.func83, Tryz.ntmps83
  go_wp2_with (first
    | ((go_at_call 43; ((with_reducible refine (HNo.out _ (kge)).mono ?_); rintro r w1 ⟨rfl, g1⟩)); have b0 := Ge.keep g1 (cell_new (i := 0) rfl rfl); have b1 := Ge.keep g1 (cell_new (i := 1) rfl rfl); have b2 := Ge.keep g1 (cell_new (i := 2) rfl rfl); have b3 := Ge.keep g1 (cell_new (i := 3) rfl rfl); have z1 := g1.size; (simp at b0 b1 b2 b3 z1))
    | ((go_at_call 80; ((with_reducible refine (HRe.out _ (kge)).mono ?_); rintro r wM ⟨vm, rfl, hM, gM⟩)); obtain ⟨bm, om, cm, rfl, hrow⟩ := hM.ints; have GM : Ge w wM := (kge); replace hrow := Lib.hid hrow; clear hM)
    | (at_make; refine mk1 rfl _ _ _ rfl 78 _ 1 24 Tryz.underlying131 inf_rowQ (by decide) e rfl rfl (by omega) ?_; intro w2 own2 g2))
  rw [made_rowsY] at own2
  go_loopw [23] (fun i' wr => ∃ a : Nat, a ≤ e ∧ i' = .int .i64 a ∧ RowsY wr wM.heap.size e a 2 (fun a => R a e) ∧ Ge wM wr) (fun i _ => e - (intOf i).toNat)
  case atStart => exact ⟨0, Nat.zero_le _, rfl, RowsY.init own2, g2⟩
  case round =>
    obtain ⟨a, ha, rfl, hrows, hg⟩ := hrel
    by_cases hlt : a < e
    · obtain ⟨r0, f0⟩ := hrows.at hlt
      have HR := Lib.hid hrows
      clear hrows
      have zG := World.block_lt_of_cell? _ _ r0
      simp only at zG
      obtain ⟨pr, cr, x0, hent⟩ := hrow.out a hlt
      have x0r := hg.keep x0
      have HE := Lib.hid hent
      clear hent x0
      go_wp2_with fail
      obtain ⟨wa, hwa⟩ : ∃ wa, wa = wr := ⟨_, rfl⟩
      subst hwa
      go_loopw [31] (fun j' wr => ∃ (b : Nat) (u : Value), b ≤ e ∧ j' = .int .i64 b ∧ wr.cell? ⟨wM.heap.size, a, none⟩ = some u ∧ wr.frozen? ⟨wM.heap.size, a, none⟩ = false ∧ wr.ownsRow wa.heap.size 86 2 u b (icells (R a b)) ∧ GeY ⟨wM.heap.size, a, none⟩ wa wr ∧ Ge wM wr) (fun j _ => e - (intOf j).toNat)
      case atStart => exact ⟨0, _, Nat.zero_le _, rfl, r0, f0, by rw [HR0.out]; exact ⟨rfl, .inl ⟨rfl, rfl⟩⟩, GeY.refl _ _, hg⟩
      case round =>
        obtain ⟨b, u, hb, rfl, c0, cf, hown, hy, hgb⟩ := hrel
        by_cases hbn : b < e
        · obtain ⟨br, or', rfl, y0⟩ := HE.out b hbn
          have y0r := hgb.keep y0
          have HOw := Lib.hid hown
          have HSn := Lib.hid (HRs.out a b)
          have HRq := Lib.hid (HRo.out a b)
          clear y0 hown
          generalize R a b = L at *
          generalize T a b = X at *
          generalize ratioOf X SD = P at *
          have zr := hgb.size
          have zGr : wM.heap.size < wr.heap.size := World.block_lt_of_cell? _ _ c0
          have zar := hy.2.2
          go_wp2_with fail
          refine wp_region_head (S := fun w' => w'.cell? ⟨wM.heap.size, a, none⟩ = some u) 12 (by kernel_rfl) (by kernel_rfl) (cell_drew c0) (fun hHeld => ?_)
          refine head_takeR 0 (v := ?_) rfl ?_ ?_; rotate_left; (focus (intro w' hSw; (try dsimp only at hSw); go_simp; (try with_reducible rfl))); (try simp only [Act.put, hnA, hnB, hnC])
          refine head_takeR 1 (v := ?_) rfl ?_ ?_; rotate_left; (focus (intro w' hSw; (try dsimp only at hSw); go_simp; (try with_reducible rfl))); (try simp only [Act.put, hnA, hnB, hnC])
          refine head_takeR 2 (v := ?_) rfl ?_ ?_; rotate_left; (focus (intro w' hSw; (try dsimp only at hSw); go_simp; (try with_reducible rfl))); (try simp only [Act.put, hnA, hnB, hnC])
          refine head_takeR 3 (v := ?_) rfl ?_ ?_; rotate_left; (focus (intro w' hSw; (try dsimp only at hSw); go_simp; (try with_reducible rfl))); (try simp only [Act.put, hnA, hnB, hnC])
          refine head_takeR 4 (v := ?_) rfl ?_ ?_; rotate_left; (focus (intro w' hSw; (try dsimp only at hSw); go_simp; (try with_reducible rfl))); (try simp only [Act.put, hnA, hnB, hnC])
          refine head_takeR 5 (v := ?_) rfl ?_ ?_; rotate_left; (focus (intro w' hSw; (try dsimp only at hSw); go_simp; (try with_reducible rfl))); (try simp only [Act.put, hnA, hnB, hnC])
          refine head_takeR 6 (v := ?_) rfl ?_ ?_; rotate_left; (focus (intro w' hSw; (try dsimp only at hSw); go_simp; (try with_reducible rfl))); (try simp only [Act.put, hnA, hnB, hnC])
          refine head_takeR 7 (v := ?_) rfl ?_ ?_; rotate_left; (focus (intro w' hSw; (try dsimp only at hSw); go_simp; (try with_reducible rfl))); (try simp only [Act.put, hnA, hnB, hnC])
          refine head_one 8 rfl (by kernel_rfl) (fun K hK => ?_)
          go_simp
          (go_at_call 81; ((with_reducible refine (HRq.out _).mono ?_); rintro r w5 ⟨rfl, g5⟩))
          have G5 : Ge wr w5 := Ge.trans (Ge.drew (Ge.refl _)) g5
          refine hK.out _ _ (G5.keep c0) (fun hHeld => ?_)
          clear hK K
          (try simp only [Act.put, hnA, hnB, hnC])
          refine head_one 9 rfl (by kernel_rfl) (fun K hK => ?_)
          go_simp
          refine hK.out _ _ (cell_alloc (G5.keep c0)) (fun hHeld => ?_)
          clear hK K
          (try simp only [Act.put, hnA, hnB, hnC])
          have G6 : Ge wr (w5.alloc (.cells #[.int .i64 P.n, .int .i64 P.d] 86)) := G5.alloc _
          have ow6 := G6.owns HOw.out
          have hz6 := G6.size
          refine head_one 10 rfl (by kernel_rfl) (fun K hK => ?_)
          rw [if_pos (by rfl)]
          refine ap_ratK _ _ rfl wa.heap.size u b L rfl ow6 (by omega) P.n P.d (b0 := w5.heap.size) rfl (cell_new rfl rfl) (cell_new rfl rfl) (by omega) ?_
          intro v8 w8 own8 m8
          obtain ⟨p8, c8, rfl⟩ := owns_form own8
          have t3 := mine_cell m8 (cell_alloc (o := .cells #[.int .i64 P.n, .int .i64 P.d] 86) (G5.keep c0)) (before_row HOw.out zG)
          have t4 := mine_frozY m8 (cell_alloc (o := .cells #[.int .i64 P.n, .int .i64 P.d] 86) (G5.keep c0)) (G6.keepF c0 cf) (before_row HOw.out zG)
          have HFin := Lib.hid (And.intro (cell_same (u := .slice p8 (b + 1) c8) t3) (And.intro (froz_set (b := ⟨wM.heap.size, a, none⟩) (u := .slice p8 (b + 1) c8) t4) (And.intro (owns_setY (o := a) own8 zG (.slice p8 (b + 1) c8)) (And.intro (((hy.ge ⟨_, c0⟩ G6).mine ow6 (Nat.le_refl _) m8).set (.slice p8 (b + 1) c8)) (Ge.setCell ((hgb.trans G6).mine ow6 (by omega) m8) (p := ⟨wM.heap.size, a, none⟩) (Nat.le_refl _) (.slice p8 (b + 1) c8))))))
          refine hK.out _ _ t3 (fun hHeld => ?_)
          clear hK K
          (try simp only [Act.put, hnA, hnB, hnC])
          refine head_takeR 11 (v := ?_) rfl ?_ ?_; rotate_left; (focus (intro w' hSw; (try dsimp only at hSw); go_simp; (try with_reducible rfl))); (try simp only [Act.put, hnA, hnB, hnC])
          refine head_done (by kernel_rfl) ?_
          go_wp2_with fail
          go_roundw
          case rel => exact ⟨b + 1, .slice p8 (b + 1) c8, by omega, by go_num, HFin.out.1, HFin.out.2.1, by rw [HSn.out]; exact HFin.out.2.2.1, HFin.out.2.2.2.1, HFin.out.2.2.2.2⟩
          case measure => simp [intOf]; omega
        · have hbe : b = e := by omega
          subst hbe
          obtain ⟨pu, cu, rfl⟩ := owns_form hown
          have HN := Lib.hid (RowsY.next HR.out hlt hy c0 (fun x hx => by cases hx) (Sl.of_owns hown))
          go_wp2_with fail
          go_roundw
          case rel => exact ⟨a + 1, by omega, by go_num, HN.out, hgb⟩
          case measure => simp [intOf]; omega
    · have hae : a = e := by omega
      subst hae
      have HR := Lib.hid hrows.rows
      clear hrows
      go_wp2_with fail
      exact bodyPost_ret (v := .tuple #[.slice (some ⟨wM.heap.size, 0, none⟩) a a, .bool true]) (by simp [results, Tryz.results83, go_sem, *]) rfl ⟨_, rfl, HR.out, kge⟩
end Go.Proofs.YtagiecajffhnpaaGreat

namespace Go.Proofs.YtagiecajffhnpaaGreat
set_option maxRecDepth 100000
open Go.ChangeShapes Go.WideShapes Go.ChangeAt Go.RowKit Go.Joins

theorem putB_net {n e : Nat} {S : Int} {m : Nat} {xs : List Int} {a b x : Int} (h : putB n e S m xs a b x = true) : netB n e S (putM n m xs a b x).length (flatW (putM n m xs a b x)) = true := by
  by_cases hG : putG n a b x
  · rwa [putB_t hG] at h
  · rw [putB_f hG] at h; cases h
theorem fltB_net {n e : Nat} {S : Int} {m : Nat} {xs : List Int} {i : Nat} {x : Int} (h : fltB n e S m xs i x = true) : netB n e S (fltM n m xs i x).length (flatW (fltM n m xs i x)) = true := by
  by_cases hx : x = nth xs (i * 3 + 2)
  · rw [fltB_f hx] at h; cases h
  · rw [fltB_t hx] at h
    exact putB_net h
/-- The response after a fault. -/
noncomputable def aftR (n e : Nat) (S : Int) (m : Nat) (xs : List Int) (i : Nat) (x : Int) (a : Nat) : List Int := respL n e (fltM n m xs i x).length S (flatW (fltM n m xs i x)) a e
set_option maxHeartbeats 1600000 in
theorem iAfter (n e : Nat) (S : Int) (i : Nat) (x : Int) (s : Value) (m : Nat) (xs : List Int) (w : World) (hs : SlF w s m 3 xs) (hB : netB n e S m xs = true) (hi : i < m) (hx : 0 ≤ x ∧ x ≤ 12) (hF : fltB n e S m xs i x = true) :
    Calls Tryz.prog 122 #[.agg #[.int .i64 (n : Int), .int .i64 (e : Int), .int .i64 S, s], .agg #[.int .i64 (i : Int), .int .i64 x]] w fun r w' => ∃ v, r = .returned v ∧ SlRows w' v e 2 (aftR n e S m xs i x) ∧ Ge w w' := by
  obtain ⟨p, cap, rfl, _⟩ := hs.open
  have HV := Lib.hid hs
  have HAx := Lib.hid (fun w' (g : Ge w w') => iApplyFault n e S i x (.slice p m cap) m xs w' (HV.out.ge g) hB hi hx)
  rw [hF] at HAx
  have HAt := Lib.hid (fun w' (g : Ge w w') => (HAx.out w' g).mono (fun e w' h => h.tt))
  have hN := fltB_net hF
  have hl : (fltM n m xs i x).length ≤ 10 := by
    obtain ⟨⟨h1, h5⟩, _, _, hok, _⟩ := netP_of hN
    exact prs_len (by omega) hok
  have HRe : Hid (∀ (v : Value) (w' : World), SlF w' v (fltM n m xs i x).length 3 (flatW (fltM n m xs i x)) → Calls Tryz.prog 83 #[.agg #[.int .i64 (n : Int), .int .i64 (e : Int), .int .i64 S, v]] w' fun r w'' => ∃ v', r = .returned (.tuple #[v', .bool true]) ∧ SlRows w'' v' e 2 (aftR n e S m xs i x) ∧ Ge w' w'') := fun v w' h => iResponseOfT n e S v _ _ w' h (by omega) hN
  generalize aftR n e S m xs i x = AR at *
  generalize fltM n m xs i x = MM at *
  clear hs hB hF hN HAx
  go_enter Tryz.func122, Tryz.ntmps122
  go_wp2_with (first
    | ((go_at_call 131; ((with_reducible refine (HAt.out _ (kge)).mono ?_); rintro r w9 ⟨u9, rfl, o9, g9⟩)); obtain ⟨pu, cu, rfl⟩ := owns_form o9; have gw9 : Ge w w9 := (kge); have O9 := Lib.hid (SlF.of_owns o9); clear o9)
    | ((go_at_call 83; ((with_reducible refine (HRe.out _ _ (SlF.ge O9.out (kge))).mono ?_); rintro r w10 ⟨v10, rfl, R10, g10⟩)); have gw10 : Ge w w10 := Ge.trans (Ge.alloc gw9 _) g10; have HR10 := Lib.hid R10; clear R10))
  go_ret
  exact ⟨_, rfl, HR10.out, kge⟩

theorem Sl.at {w : World} {p : Option Addr} {k c sz : Nat} {l : List Int} (h : Sl w (.slice p k c) k sz (icells l)) : l.length = k * sz ∧ ∀ i, i < k * sz → ∃ b o, p = some ⟨b, o, none⟩ ∧ w.cell? ⟨b, o + i, none⟩ = some (.int .i64 (nth l i)) := by
  obtain ⟨hl, p', c', hv, hc⟩ := h
  simp only [Value.slice.injEq] at hv
  obtain ⟨rfl, _, rfl⟩ := hv
  have hl2 : l.length = k * sz := by rwa [icells_length] at hl
  exact ⟨hl2, fun i hi => hc i _ (by simp [icells, nth_eq, hl2, hi])⟩
/-- The first k elements agree. -/
def eqTo (l1 l2 : List Int) : Nat → Bool
  | 0 => true
  | k + 1 => eqTo l1 l2 k && (decide (nth l1 (k * 2) = nth l2 (k * 2)) && decide (nth l1 (k * 2 + 1) = nth l2 (k * 2 + 1)))
theorem eqTo_false {l1 l2 : List Int} {k : Nat} : ∀ n, k < n → ¬ (nth l1 (k * 2) = nth l2 (k * 2) ∧ nth l1 (k * 2 + 1) = nth l2 (k * 2 + 1)) → eqTo l1 l2 n = false
  | 0, h, _ => absurd h (Nat.not_lt_zero _)
  | n + 1, h, hne => by
    by_cases e : k = n
    · subst e
      unfold eqTo
      rw [Bool.and_eq_false_iff]
      right
      rw [Bool.and_eq_false_iff]
      by_cases e1 : nth l1 (k * 2) = nth l2 (k * 2)
      · right; simpa using fun e2 => hne ⟨e1, e2⟩
      · left; simpa using e1
    · unfold eqTo
      rw [eqTo_false n (by omega) hne]; rfl
set_option maxHeartbeats 1600000 in
theorem iEqualQ (p1 p2 : Option Addr) (c1 c2 k : Nat) (l1 l2 : List Int) (w : World) (h1 : Sl w (.slice p1 k c1) k 2 (icells l1)) (h2 : Sl w (.slice p2 k c2) k 2 (icells l2)) (hk : k ≤ 1000) :
    Calls Tryz.prog 134 #[.slice p1 k c1, .slice p2 k c2] w fun r w' => r = .returned (.bool (eqTo l1 l2 k)) ∧ Ge w w' := by
  have HC1 := Lib.hid (fun j (hj : j < k) => two_cells h1.at.2 hj)
  have HC2 := Lib.hid (fun j (hj : j < k) => two_cells h2.at.2 hj)
  clear h1 h2
  have HE0 : Hid (eqTo l1 l2 0 = true) := rfl
  have HEs : Hid (∀ k, eqTo l1 l2 k = true → nth l1 (k * 2) = nth l2 (k * 2) → nth l1 (k * 2 + 1) = nth l2 (k * 2 + 1) → eqTo l1 l2 (k + 1) = true) := fun k a b c => by simp [eqTo, a, b, c]
  have HEf : Hid (∀ j, j < k → ¬ (nth l1 (j * 2) = nth l2 (j * 2) ∧ nth l1 (j * 2 + 1) = nth l2 (j * 2 + 1)) → eqTo l1 l2 k = false) := fun j hj hne => eqTo_false k hj hne
  go_enter Tryz.func134, Tryz.ntmps134
  go_wp2_with fail
  go_loopw [13] (fun i' wr => ∃ j : Nat, j ≤ k ∧ i' = .int .i64 j ∧ Hid (eqTo l1 l2 j = true) ∧ Ge w wr) (fun i _ => k - (intOf i).toNat)
  case atStart => exact ⟨0, Nat.zero_le _, rfl, HE0.out, kge⟩
  case round =>
    obtain ⟨j, hj, rfl, HE, hg⟩ := hrel
    by_cases hlt : j < k
    · obtain ⟨b1, o1, rfl, x0, x1⟩ := HC1.out j hlt
      obtain ⟨b2, o2, rfl, y0, y1⟩ := HC2.out j hlt
      have x0 := hg.keep x0
      have x1 := hg.keep x1
      have y0 := hg.keep y0
      have y1 := hg.keep y1
      have HEn := Lib.hid (HEs.out j HE.out)
      have HFn := Lib.hid (HEf.out j hlt)
      clear HC1 HC2
      generalize nth l1 (j * 2) = X0 at *
      generalize nth l1 (j * 2 + 1) = X1 at *
      generalize nth l2 (j * 2) = Y0 at *
      generalize nth l2 (j * 2 + 1) = Y1 at *
      by_cases e0 : X0 = Y0
      · by_cases e1 : X1 = Y1
        · subst e0
          subst e1
          have HEm := Lib.hid (HEn.out rfl rfl)
          go_wp2_with fail
          go_quiet (fail)
          go_wp2_with fail
          go_roundw
          case rel => exact ⟨j + 1, by omega, by go_num, HEm.out, kge⟩
          case measure => simp [intOf]; omega
        · have HFm := Lib.hid (HFn.out (fun h => e1 h.2))
          have t1 : decide (X1 = Y1) = false := by simpa using e1
          have t2 : (X1 == Y1) = false := by simpa using e1
          go_wp2_with fail
          go_quiet (fail)
          go_wp2_with fail
          go_ret
          exact ⟨ret_bool HFm.out.symm, kge⟩
      · have HFm := Lib.hid (HFn.out (fun h => e0 h.1))
        have t1 : decide (X0 = Y0) = false := by simpa using e0
        have t2 : (X0 == Y0) = false := by simpa using e0
        go_wp2_with fail
        go_quiet (fail)
        go_wp2_with fail
        go_ret
        exact ⟨ret_bool HFm.out.symm, kge⟩
    · have hjk : j = k := by omega
      subst hjk
      go_wp2_with fail
      go_ret
      exact ⟨ret_bool HE.out.symm, kge⟩
theorem iSameCl (p1 p2 : Option Addr) (c1 c2 k : Nat) (l1 l2 : List Int) (w : World) (h1 : Sl w (.slice p1 k c1) k 2 (icells l1)) (h2 : Sl w (.slice p2 k c2) k 2 (icells l2)) (hk : k ≤ 1000) :
    Calls Tryz.prog 133 #[.slice p1 k c1, .slice p2 k c2] w fun r w' => r = .returned (.bool (eqTo l1 l2 k)) ∧ Ge w w' := by
  have HE := Lib.hid (fun w' (g : Ge w w') => iEqualQ p1 p2 c1 c2 k l1 l2 w' (Sl.ge h1 g) (Sl.ge h2 g) hk)
  generalize eqTo l1 l2 k = B at *
  clear h1 h2
  go_enter Tryz.func133, Tryz.ntmps133
  go_wp2_with ((go_at_call 134; ((with_reducible refine (HE.out _ (Ge.refl _)).mono ?_); rintro r w1 ⟨rfl, g1⟩)))
  go_ret
  exact ⟨rfl, kge⟩
end Go.Proofs.YtagiecajffhnpaaGreat

namespace Go.Proofs.YtagiecajffhnpaaGreat
set_option maxRecDepth 100000
open Go.ChangeShapes Go.WideShapes Go.ChangeAt Go.RowKit Go.Joins

/-- The first rows agree. -/
def sameR (D1 D2 : Nat → List Int) (k : Nat) : Nat → Bool
  | 0 => true
  | a + 1 => sameR D1 D2 k a && eqTo (D1 a) (D2 a) k
theorem sameR_false {D1 D2 : Nat → List Int} {k a : Nat} : ∀ n, a < n → eqTo (D1 a) (D2 a) k = false → sameR D1 D2 k n = false
  | 0, h, _ => absurd h (Nat.not_lt_zero _)
  | n + 1, h, hne => by
    by_cases e : a = n
    · subst e; simp [sameR, hne]
    · unfold sameR
      rw [sameR_false n (by omega) hne]; rfl
set_option maxHeartbeats 1600000 in
theorem iEqualF (v1 v2 fv : Value) (E : Nat) (D1 D2 : Nat → List Int) (w : World) (h1 : SlRows w v1 E 2 D1) (h2 : SlRows w v2 E 2 D2) (hE : E ≤ 1000) (hf : fv = .func (.func 133) #[] #[]) :
    Calls Tryz.prog 132 #[v1, v2, fv] w fun r w' => r = .returned (.bool (sameR D1 D2 E E)) ∧ Ge w w' := by
  subst hf
  obtain ⟨b1, o1, c1, rfl, hc1⟩ := h1
  obtain ⟨b2, o2, c2, rfl, hc2⟩ := h2
  have HC1 := Lib.hid hc1
  have HC2 := Lib.hid hc2
  clear hc1 hc2
  have HE0 : Hid (sameR D1 D2 E 0 = true) := rfl
  have HEs : Hid (∀ a, sameR D1 D2 E a = true → eqTo (D1 a) (D2 a) E = true → sameR D1 D2 E (a + 1) = true) := fun a x y => by simp [sameR, x, y]
  have HEf : Hid (∀ a, a < E → eqTo (D1 a) (D2 a) E = false → sameR D1 D2 E E = false) := fun a ha hne => sameR_false E ha hne
  go_enter Tryz.func132, Tryz.ntmps132
  go_wp2_with fail
  go_loopw [17] (fun i' wr => ∃ j : Nat, j ≤ E ∧ i' = .int .i64 j ∧ Hid (sameR D1 D2 E j = true) ∧ Ge w wr) (fun i _ => E - (intOf i).toNat)
  case atStart => exact ⟨0, Nat.zero_le _, rfl, HE0.out, kge⟩
  case round =>
    obtain ⟨j, hj, rfl, HE, hg⟩ := hrel
    by_cases hlt : j < E
    · obtain ⟨p1, k1, x0, s1⟩ := HC1.out j hlt
      obtain ⟨p2, k2, y0, s2⟩ := HC2.out j hlt
      have x0 := hg.keep x0
      have y0 := hg.keep y0
      have HCl := Lib.hid (fun w' (g : Ge w w') => iSameCl p1 p2 k1 k2 E (D1 j) (D2 j) w' (Sl.ge s1 g) (Sl.ge s2 g) hE)
      have HEn := Lib.hid (HEs.out j HE.out)
      have HFn := Lib.hid (HEf.out j hlt)
      clear s1 s2 HC1 HC2
      generalize eqTo (D1 j) (D2 j) E = B at *
      cases B with
      | true =>
        have HEm := Lib.hid (HEn.out rfl)
        go_wp2_with ((go_at_call 133; ((with_reducible refine (HCl.out _ hg).mono ?_); rintro r w1 ⟨rfl, g1⟩)))
        go_roundw
        case rel => exact ⟨j + 1, by omega, by go_num, HEm.out, kge⟩
        case measure => simp [intOf]; omega
      | false =>
        have HFm := Lib.hid (HFn.out rfl)
        go_wp2_with ((go_at_call 133; ((with_reducible refine (HCl.out _ hg).mono ?_); rintro r w1 ⟨rfl, g1⟩)))
        go_ret
        exact ⟨ret_bool HFm.out.symm, kge⟩
    · have hjk : j = E := by omega
      subst hjk
      go_wp2_with fail
      go_ret
      exact ⟨ret_bool HE.out.symm, kge⟩
theorem iSameResponse (v1 v2 : Value) (E : Nat) (D1 D2 : Nat → List Int) (w : World) (h1 : SlRows w v1 E 2 D1) (h2 : SlRows w v2 E 2 D2) (hE : E ≤ 1000) :
    Calls Tryz.prog 121 #[v1, v2] w fun r w' => r = .returned (.bool (sameR D1 D2 E E)) ∧ Ge w w' := by
  have HE := Lib.hid (fun fv (hf : fv = .func (.func 133) #[] #[]) w' (g : Ge w w') => iEqualF v1 v2 fv E D1 D2 w' (h1.ge g) (h2.ge g) hE hf)
  generalize sameR D1 D2 E E = B at *
  obtain ⟨b1, o1, c1, rfl, _⟩ := h1
  obtain ⟨b2, o2, c2, rfl, _⟩ := h2
  go_enter Tryz.func121, Tryz.ntmps121
  go_wp2_with ((go_at_call 132; ((with_reducible refine (HE.out _ rfl _ (Ge.refl _)).mono ?_); rintro r w1 ⟨rfl, g1⟩)))
  go_ret
  exact ⟨rfl, kge⟩

/-- Whether a fault is told apart from the rows D. -/
noncomputable def keepF (n e : Nat) (S : Int) (m : Nat) (xs : List Int) (D : Nat → List Int) (q : Nat × Int) : Bool := sameR (aftR n e S m xs q.1 q.2) D e e
set_option maxHeartbeats 1600000 in
theorem iLikeCl (n e : Nat) (S : Int) (i : Nat) (x : Int) (s vm : Value) (m : Nat) (xs : List Int) (D : Nat → List Int) (Bn Bm : Nat) (w : World) (hs : SlF w s m 3 xs) (hB : netB n e S m xs = true) (hi : i < m) (hx : 0 ≤ x ∧ x ≤ 12) (hF : fltB n e S m xs i x = true)
    (hn : NetIn w Bn n e S s) (hm : w.cell? ⟨Bm, 0, none⟩ = some vm) (hD : SlRows w vm e 2 D) :
    Calls Tryz.prog 120 #[.agg #[.int .i64 (i : Int), .int .i64 x], .pointer (some ⟨Bn, 0, none⟩), .pointer (some ⟨Bm, 0, none⟩)] w fun r w' => r = .returned (.bool (!keepF n e S m xs D (i, x))) ∧ Ge w w' := by
  obtain ⟨⟨h1, h5⟩, ⟨e1, e2⟩, ⟨s1, s2⟩, _, _⟩ := netP_of hB
  have HA := Lib.hid (fun w' (g : Ge w w') => iAfter n e S i x s m xs w' (hs.ge g) hB hi hx hF)
  have HS : Hid (∀ v w', SlRows w' v e 2 (aftR n e S m xs i x) → Ge w w' → Calls Tryz.prog 121 #[v, vm] w' fun r w'' => r = .returned (.bool (keepF n e S m xs D (i, x))) ∧ Ge w' w'') := fun v w' h g => iSameResponse v vm e _ D w' h (hD.ge g) (by omega)
  generalize keepF n e S m xs D (i, x) = B at *
  generalize aftR n e S m xs i x = AR at *
  obtain ⟨p, cap, rfl, _⟩ := hs.open
  obtain ⟨bm, om, cm, rfl, _⟩ := hD
  obtain ⟨c0, c1, c2, c3⟩ := hn
  have zn := World.block_lt_of_cell? _ _ c0
  have zm := World.block_lt_of_cell? _ _ hm
  clear hs hB hF
  go_enter Tryz.func120, Tryz.ntmps120
  go_wp2_with fail
  have g0 : Ge w (w.alloc (.cells #[.int .i64 (i : Int), .int .i64 x] 138)) := Ge.alloc (Ge.refl _) _
  have d0 : (w.alloc (.cells #[.int .i64 (i : Int), .int .i64 x] 138)).cell? ⟨w.heap.size, 0, none⟩ = some (.int .i64 (i : Int)) := cell_new rfl rfl
  have d1 : (w.alloc (.cells #[.int .i64 (i : Int), .int .i64 x] 138)).cell? ⟨w.heap.size, 1, none⟩ = some (.int .i64 x) := cell_new rfl rfl
  have c0 := g0.keep c0
  have c1 := g0.keep c1
  have c2 := g0.keep c2
  have c3 := g0.keep c3
  have cm' := g0.keep hm
  have HG0 := Lib.hid g0
  generalize w.alloc (.cells #[.int .i64 (i : Int), .int .i64 x] 138) = W0 at *
  generalize w.heap.size = wb at *
  clear g0 hm
  have hS : ∀ w', Ge W0 w' → (w'.cell? ⟨Bn, 0, none⟩ = some (.int .i64 (n : Int)) ∧ w'.cell? ⟨Bn, 1, none⟩ = some (.int .i64 (e : Int)) ∧ w'.cell? ⟨Bn, 2, none⟩ = some (.int .i64 S) ∧ w'.cell? ⟨Bn, 3, none⟩ = some (.slice p m cap) ∧ w'.cell? ⟨wb, 0, none⟩ = some (.int .i64 (i : Int)) ∧ w'.cell? ⟨wb, 1, none⟩ = some (.int .i64 x) ∧ w'.cell? ⟨Bm, 0, none⟩ = some (.slice (some ⟨bm, om, none⟩) e cm) ∧ Ge W0 w') := fun w' g => ⟨g.keep (kch), g.keep (kch), g.keep (kch), g.keep (kch), g.keep (kch), g.keep (kch), g.keep (kch), Ge.trans (kch) g⟩
  go_region_held3 (fun w' => w'.cell? ⟨Bn, 0, none⟩ = some (.int .i64 (n : Int)) ∧ w'.cell? ⟨Bn, 1, none⟩ = some (.int .i64 (e : Int)) ∧ w'.cell? ⟨Bn, 2, none⟩ = some (.int .i64 S) ∧ w'.cell? ⟨Bn, 3, none⟩ = some (.slice p m cap) ∧ w'.cell? ⟨wb, 0, none⟩ = some (.int .i64 (i : Int)) ∧ w'.cell? ⟨wb, 1, none⟩ = some (.int .i64 x) ∧ w'.cell? ⟨Bm, 0, none⟩ = some (.slice (some ⟨bm, om, none⟩) e cm) ∧ Ge W0 w') (first | ((with_reducible refine hS _ ?_); exact kch) | fail) (first | (go_at_call 122; ((with_reducible refine (HA.out _ (HG0.out.trans (‹_ ∧ _ ∧ _ ∧ _ ∧ _ ∧ _ ∧ _ ∧ Ge W0 _›.2.2.2.2.2.2.2))).mono ?_); rintro r w' ⟨v10, rfl, R10, hb⟩)) | (go_at_call 121; ((with_reducible refine (HS.out _ _ R10 (HG0.out.trans (‹_ ∧ _ ∧ _ ∧ _ ∧ _ ∧ _ ∧ _ ∧ Ge W0 _›.2.2.2.2.2.2.2))).mono ?_); rintro r w' ⟨rfl, hb⟩)) | fail)
  rename_i hHeldX
  obtain ⟨q0, q1, q2, q3, q4, q5, q6, G2⟩ := hHeldX
  clear hS
  go_wp2_with fail
  go_ret
  have gf := HG0.out.trans G2
  exact ⟨rfl, kge⟩
end Go.Proofs.YtagiecajffhnpaaGreat

namespace Go.Proofs.YtagiecajffhnpaaGreat
set_option maxRecDepth 100000
open Go.ChangeShapes Go.WideShapes Go.ChangeAt Go.RowKit Go.Joins

theorem inf_Fault : (Tryz.prog.info? 138).map (fun i => (i.zero, i.size, i.bytes)) = some (some (Value.agg #[.int .i64 0, .int .i64 0]), 2, 16) := by kernel_rfl
end Go.Proofs.YtagiecajffhnpaaGreat
