/- The nodes that are no terminals; appending to a row of one. No condition. response of impl. No condition. ResponseOf of impl. No condition. l06Top, l06Down, ResponseOf of the reference. No condition. -/
import Derived.Test.YtppabikbepdobaaWDetS5
import Derived.Test.YtppabikbepdobaaWOthers
import Derived.Test.YtppabikbepdobaaPlResp
import Derived.Test.YtppabikbepdobaaWGeY
import Derived.Test.YtppabikbepdobaaWDet5
import Derived.Test.YtppabikbepdobaaWLapI
import Derived.Test.YtppabikbepdobaaWRatio
import Derived.Test.YtppabikbepdobaaWNetOkI2
import Derived.Test.YtppabikbepdobaaWLapS
import Derived.Maps.AppendAt
namespace Go.Proofs.Ytppabikbepdobaa
set_option maxRecDepth 100000
open Go.ChangeShapes Go.WideShapes Go.ChangeAt Go.RowKit Go.Joins

theorem owns_cons {w : World} {b base : Nat} {y : Int} (hb : b = w.heap.size) (h : base ≤ b) : (w.alloc (.cells #[.int .i64 y] 3)).ownsRow base 3 1 (.slice (some ⟨b, 0, none⟩) 1 1) 1 (icells [y]) := by
  subst hb
  exact ⟨rfl, .inr ⟨w.heap.size, 1, _, rfl, h, heap_alloc_new w _, Nat.le_refl _, by unfold maxLen; omega, rfl, rfl⟩⟩
/-- append([]int{y}, l...): where the new row lies. -/
theorem ap_lit {w : World} {o : Oper} {a : Act} {K : Act → World → Prop} {Q : Exit → Act → World → Prop} (s x : Operand)
    (ho : o.op = .call { callee := .builtin .append, args := #[s, x], argTypes := #[64, 64] })
    (b : Nat) (y : Int) (hs : a.eval s = .slice (some ⟨b, 0, none⟩) 1 1) (base : Nat) (hown : w.ownsRow base 3 1 (.slice (some ⟨b, 0, none⟩) 1 1) 1 (icells [y])) (hb : base ≤ w.heap.size)
    (ad : Addr) (k c : Nat) (l : List Int) (hx : a.eval x = .slice (some ad) k c) (hy : SlI w (.slice (some ad) k c) l) (hn : k < 900)
    (h : ∀ g c' w', w'.ownsRow base 3 1 (.slice (some ⟨g, 0, none⟩) (k + 1) c') (k + 1) (icells (y :: l)) → Mine w w' (.slice (some ⟨b, 0, none⟩) 1 1) → (g = b ∨ g = w.heap.size) → K (a.put o.dst (.slice (some ⟨g, 0, none⟩) (k + 1) c')) w') : o.wp Try.prog a w K Q := by
  obtain ⟨i, hi, e⟩ : ∃ i, Try.prog.info? 3 = some i ∧ (i.zero, i.size, i.bytes) = (some (.int .i64 0), 1, 8) := by
    have := inf_int
    cases hc : Try.prog.info? 3 with
    | none => rw [hc] at this; simp at this
    | some i => rw [hc] at this; exact ⟨i, rfl, by simpa using this⟩
  simp only [Prod.mk.injEq] at e
  obtain ⟨h1, p, c', he, hc⟩ := hy
  simp only [Value.slice.injEq] at he
  obtain ⟨rfl, hm, rfl⟩ := he
  obtain ⟨v', w', hr, h2, h3, h4, h5⟩ := run_append_own_at (P := Try.prog) w base 64 o.type 3 i _ 1 8 Try.underlying64 hi e.1 e.2.1 e.2.2 rfl (by decide) _ 1 (icells [y]) hown ad k c (icells l) (by rw [h1, hm]) (fun j u hu => by
      obtain ⟨b, o, e, hz⟩ := hc j u hu
      simp only [Option.some.injEq] at e
      subst e
      by_cases hj0 : j = 0
      · subst hj0; simpa [Addr.add] using hz
      · simpa [Addr.add, hj0] using hz) (fun u hu => by
      simp only [icells, List.mem_map] at hu
      obtain ⟨_, _, rfl⟩ := hu
      rfl) (by unfold maxLen; omega) (by omega) hb
  obtain ⟨g, c', rfl⟩ := Go.Joins.ownsRow_form h2 (by omega)
  have e1 : 1 + k = k + 1 := by omega
  have e2 : icells [y] ++ icells l = icells (y :: l) := by simp [icells]
  rw [e2, e1] at h2
  rw [e1] at hr
  unfold Oper.wp execOp
  simp only [ho, resolve, invoke, builtin, Sem.run_bind, Sem.run_pure, Result.andThen_ok, List.map_toArray, List.map_cons, List.map_nil, hs, hx, hr]
  refine h g c' w' h2 h3 ?_
  simp [Value.ownBlock] at h5
  exact h5

theorem iInner (n e : Nat) (S : Int) (s : Value) (w : World) (hs : s.oneCell' = true) (hn : n ≤ 5) (he : e ≤ n) :
    Calls Try.prog 146 #[.agg #[.int .i64 (n : Int), .int .i64 (e : Int), .int .i64 S, s]] w fun r w' => ∃ ad c, r = .returned (.slice (some ad) (n - e) c) ∧ n - e ≤ c ∧ SlI w' (.slice (some ad) (n - e) c) (innZ e (n - e)) ∧ Ge w w' := by
  go_enter Try.func146, Try.ntmps146
  go_wp2_with fail
  go_loopw [3, 4] (fun o i wr => ∃ (k : Nat) (ad : Addr) (c : Nat), k ≤ n - e ∧ i = .int .i64 ((e + k : Nat) : Int) ∧ o = .slice (some ad) k c ∧ wr.ownsRow (w.heap.size + 1) 3 1 (.slice (some ad) k c) (innZ e k).length (icells (innZ e k)) ∧ Ge (w.alloc (.cells #[.int .i64 (n : Int), .int .i64 (e : Int), .int .i64 S, s] 29)) wr) (fun _ i _ => n - (intOf i).toNat)
  case atStart => exact ⟨0, _, _, Nat.zero_le _, rfl, rfl, owns_lit1 _ _ _ _ (by simp), Ge.alloc (Ge.refl _) _⟩
  case round =>
    obtain ⟨k, ad, c, hk, rfl, rfl, hown, hg⟩ := hrel
    have c0 : wr.cell? ⟨w.heap.size, 0, none⟩ = some (.int .i64 (n : Int)) := hg.keep (cell_new (i := 0) rfl rfl)
    have zg := hg.size
    simp at zg
    by_cases hlt : k < n - e
    · have HS := Lib.hid (innZ_snoc e k)
      have hL : (innZ e k).length = k := innZ_length e k
      generalize innZ e k = L at *
      replace hL := Lib.hid hL
      have t : (((e + k : Nat) : Int) < (n : Int)) := by omega
      go_wp2_with (at_builtin; refine ap_int rfl _ _ rfl (w.heap.size + 1) _ L rfl hown _ rfl (by have := hL.out; omega) zg ?_; intro v' w6 own6 hm6; obtain ⟨g6, c6, rfl⟩ := Go.Joins.ownsRow_form own6 (by simp))
      go_roundw
      case rel =>
        have hl1 : (L ++ [(e : Int) + (k : Int)]).length = k + 1 := by simp [hL.out]
        have e1 : ((e + k : Nat) : Int) = (e : Int) + k := by omega
        rw [hl1] at own6
        exact ⟨k + 1, ⟨g6, 0, none⟩, c6, by omega, by go_num, by rw [hL.out], by rw [HS.out, e1, hl1]; exact own6, hg.mine hown (by simp) hm6⟩
      case measure => simp [intOf]; omega
    · have hkn : k = n - e := by omega
      subst hkn
      have HO := Lib.hid hown
      rw [innZ_length] at HO
      clear hown
      have t : ¬ (((e + (n - e) : Nat) : Int) < (n : Int)) := by omega
      have hcap := owns_cap HO.out (some ad) (n - e) c rfl
      go_wp2_with fail
      go_ret
      exact ⟨_, _, rfl, by omega, SlI.of_owns (by rw [innZ_length]; exact HO.out), by (repeat (first | with_reducible exact Ge.refl _ | assumption | with_reducible refine Ge.drew ?_ | with_reducible refine Ge.drewN ?_ _ | with_reducible refine Ge.alloc ?_ _ | (with_reducible refine Ge.setCell ?_ (by first | (simp; done) | omega | (simp; omega)) _) | with_reducible refine Ge.trans ?_ (by assumption)))⟩
theorem sInner (n e : Nat) (S : Int) (s : Value) (w : World) (hs : s.oneCell' = true) (hn : n ≤ 5) (he : e ≤ n) :
    Calls Try.prog 145 #[.agg #[.int .i64 (n : Int), .int .i64 (e : Int), .int .i64 S, s]] w fun r w' => ∃ ad c, r = .returned (.slice (some ad) (n - e) c) ∧ n - e ≤ c ∧ SlI w' (.slice (some ad) (n - e) c) (innZ e (n - e)) ∧ Ge w w' := by
  go_enter Try.func145, Try.ntmps145
  go_wp2_with fail
  go_loopw [3, 4] (fun o i wr => ∃ (k : Nat) (ad : Addr) (c : Nat), k ≤ n - e ∧ i = .int .i64 ((e + k : Nat) : Int) ∧ o = .slice (some ad) k c ∧ wr.ownsRow (w.heap.size + 1) 3 1 (.slice (some ad) k c) (innZ e k).length (icells (innZ e k)) ∧ Ge (w.alloc (.cells #[.int .i64 (n : Int), .int .i64 (e : Int), .int .i64 S, s] 29)) wr) (fun _ i _ => n - (intOf i).toNat)
  case atStart => exact ⟨0, _, _, Nat.zero_le _, rfl, rfl, owns_lit1 _ _ _ _ (by simp), Ge.alloc (Ge.refl _) _⟩
  case round =>
    obtain ⟨k, ad, c, hk, rfl, rfl, hown, hg⟩ := hrel
    have c0 : wr.cell? ⟨w.heap.size, 0, none⟩ = some (.int .i64 (n : Int)) := hg.keep (cell_new (i := 0) rfl rfl)
    have zg := hg.size
    simp at zg
    by_cases hlt : k < n - e
    · have HS := Lib.hid (innZ_snoc e k)
      have hL : (innZ e k).length = k := innZ_length e k
      generalize innZ e k = L at *
      replace hL := Lib.hid hL
      have t : (((e + k : Nat) : Int) < (n : Int)) := by omega
      go_wp2_with (at_builtin; refine ap_int rfl _ _ rfl (w.heap.size + 1) _ L rfl hown _ rfl (by have := hL.out; omega) zg ?_; intro v' w6 own6 hm6; obtain ⟨g6, c6, rfl⟩ := Go.Joins.ownsRow_form own6 (by simp))
      go_roundw
      case rel =>
        have hl1 : (L ++ [(e : Int) + (k : Int)]).length = k + 1 := by simp [hL.out]
        have e1 : ((e + k : Nat) : Int) = (e : Int) + k := by omega
        rw [hl1] at own6
        exact ⟨k + 1, ⟨g6, 0, none⟩, c6, by omega, by go_num, by rw [hL.out], by rw [HS.out, e1, hl1]; exact own6, hg.mine hown (by simp) hm6⟩
      case measure => simp [intOf]; omega
    · have hkn : k = n - e := by omega
      subst hkn
      have HO := Lib.hid hown
      rw [innZ_length] at HO
      clear hown
      have t : ¬ (((e + (n - e) : Nat) : Int) < (n : Int)) := by omega
      have hcap := owns_cap HO.out (some ad) (n - e) c rfl
      go_wp2_with fail
      go_ret
      exact ⟨_, _, rfl, by omega, SlI.of_owns (by rw [innZ_length]; exact HO.out), by (repeat (first | with_reducible exact Ge.refl _ | assumption | with_reducible refine Ge.drew ?_ | with_reducible refine Ge.drewN ?_ _ | with_reducible refine Ge.alloc ?_ _ | (with_reducible refine Ge.setCell ?_ (by first | (simp; done) | omega | (simp; omega)) _) | with_reducible refine Ge.trans ?_ (by assumption)))⟩
end Go.Proofs.Ytppabikbepdobaa

namespace Go.Proofs.Ytppabikbepdobaa
set_option maxRecDepth 100000
open Go.ChangeShapes Go.WideShapes Go.ChangeAt Go.RowKit Go.Joins

theorem made_rowsY (n : Nat) : (madeCells (Value.slice none 0 0).cells (n * 1)).toList = List.replicate n (Value.slice none 0 0) := by
  simp [madeCells, Value.cells, Nat.mod_one]
  rw [List.eq_replicate_iff]; simp
theorem mapR_snoc2 (n : Nat) (f : Nat → Int) : mapR (n + 1) f = mapR n f ++ [f n] := by simp [mapR, List.range_succ]
theorem cons_below {n e a : Nat} (he : e ≤ n) (ha : a < e) : ∀ x ∈ ((a : Int) :: innZ e (n - e)), below n x := fun x hx => by
  rcases List.mem_cons.1 hx with h | h
  · rw [h]; exact ⟨by omega, by omega⟩
  · exact innZ_below he x h
theorem capOf {a : Addr} {n c : Nat} (h : n ≤ c) : ∀ p k c', Value.slice (some a) n c = .slice p k c' → k ≤ c' := fun p k c' e => by
  simp only [Value.slice.injEq] at e
  omega
theorem SlI.owned {w : World} {base g k c : Nat} {e : TypeId} {l : List Int} (h : w.ownsRow base e 1 (.slice (some ⟨g, 0, none⟩) k c) k (icells l)) : SlI w (.slice (some ⟨g, 0, none⟩) k c) l ∧ k ≤ c := by
  have hl : l.length = k := by have := h.1; rw [icells_length] at this; omega
  exact ⟨SlI.of_owns (by rw [hl]; exact h), owns_cap h _ _ _ rfl⟩

set_option maxHeartbeats 3200000 in
theorem iResponse (n e : Nat) (S : Int) (s : Value) (m : Nat) (xs : List Int) (w : World) (hs : SlF w s m 3 xs) (hB : netB n e S m xs = true) :
    Calls Try.prog 119 #[.agg #[.int .i64 (n : Int), .int .i64 (e : Int), .int .i64 S, s]] w fun r w' => ∃ v, r = .returned (.tuple #[v, .int .i64 (S * dwnZ n e m xs)]) ∧ SlRows w' v e 1 (fun a => mapR e (fun b => topZ n e m xs a b)) ∧ Ge w w' := by
  obtain ⟨⟨h1, h5⟩, ⟨e1, e2⟩, ⟨s1, s2⟩, hok, _⟩ := netP_of hB
  have hm : m ≤ 10 := prs_len (by omega) hok
  have HV := Lib.hid hs
  obtain ⟨p, cap, rfl, _⟩ := hs.open
  have HL := Lib.hid (fun w' (g : Ge w w') => iLaplacianOf n e S (.slice p m cap) m xs w' (HV.out.ge g) hB)
  have HI := Lib.hid (fun w' => iInner n e S (.slice p m cap) w' rfl (by omega) (by omega))
  have HDt := Lib.hid (fun (a b : Nat) (ha : a < e) (hb : b < e) vL vR vC w' (hL : SlMM w' vL n (lapZ xs m)) (hR : SlI w' vR ((a : Int) :: innZ e (n - e))) (hC : SlI w' vC ((b : Int) :: innZ e (n - e))) (hvr : ∀ p k c, vR = .slice p k c → k ≤ c) => iDetE n (lapZ xs m) (lapZ_800 (by omega) hok) _ _ vL vR vC w' hL hR hC hvr (by simp [innZ_length]; omega) (by simp [innZ_length]; omega) (cons_below (by omega) ha) (cons_below (by omega) hb))
  have HDd := Lib.hid (fun vL vR w' (hL : SlMM w' vL n (lapZ xs m)) (hR : SlI w' vR (innZ e (n - e))) (hvr : ∀ p k c, vR = .slice p k c → k ≤ c) => iDetE n (lapZ xs m) (lapZ_800 (by omega) hok) _ _ vL vR vR w' hL hR hR hvr (by simp [innZ_length]; omega) (by simp [innZ_length]; omega) (innZ_below (by omega)) (innZ_below (by omega)))
  have HDm : Hid (detF (lapZ xs m) (innZ e (n - e)) (innZ e (n - e)) = dwnZ n e m xs) := rfl
  have HTm : Hid (∀ a b : Nat, detF (lapZ xs m) ((a : Int) :: innZ e (n - e)) ((b : Int) :: innZ e (n - e)) = topZ n e m xs a b) := fun _ _ => rfl
  have hbd := sdwn_bd (S := S) (by omega) hok (by omega : 1 ≤ e) s1 s2
  have hw1 : wrap64 (S * dwnZ n e m xs) = S * dwnZ n e m xs := wr64 _ (by omega) (by omega)
  have hw2 : IntKind.i64.wrap (S * dwnZ n e m xs) = S * dwnZ n e m xs := IntWalk.i64_in _ (by omega)
  have hlI : (innZ e (n - e)).length = n - e := innZ_length e (n - e)
  rw [HDm.out] at HDd
  simp only [HTm.out] at HDt
  clear hs hok hB hbd HTm HDm
  obtain ⟨T, hT⟩ : ∃ T : Nat → Nat → Int, T = fun a b => topZ n e m xs a b := ⟨_, rfl⟩
  have HT : Hid (∀ a b, topZ n e m xs a b = T a b) := by show ∀ a b, _; rw [hT]; exact fun _ _ => rfl
  have HTf : Hid ((fun a => mapR e (fun b => topZ n e m xs a b)) = fun a => mapR e (T a)) := by show _ = _; rw [hT]
  rw [HTf.out]
  simp only [HT.out] at HDt
  clear hT HT HTf
  generalize lapZ xs m = LZ at *
  generalize innZ e (n - e) = IZ at *
  generalize hk : n - e = k at *
  generalize dwnZ n e m xs = DZ at *
  go_enter Try.func119, Try.ntmps119
  go_wp2_with (first
    | ((go_at_call 141; ((with_reducible refine (HL.out _ (by (repeat (first | with_reducible exact Ge.refl _ | assumption | with_reducible refine Ge.drew ?_ | with_reducible refine Ge.drewN ?_ _ | with_reducible refine Ge.alloc ?_ _ | (with_reducible refine Ge.setCell ?_ (by first | (simp; done) | omega | (simp; omega)) _) | with_reducible refine Ge.trans ?_ (by assumption))))).mono ?_); rintro e wL ⟨vL, rfl, hL, gL⟩)); have b0 := Ge.keep gL (cell_new (i := 0) rfl rfl); have b1 := Ge.keep gL (cell_new (i := 1) rfl rfl); have b2 := Ge.keep gL (cell_new (i := 2) rfl rfl); have b3 := Ge.keep gL (cell_new (i := 3) rfl rfl); have z1 := gL.size; (simp at b0 b1 b2 b3 z1); replace hL := Lib.hid hL)
    | ((go_at_call 146; ((with_reducible refine (HI.out _).mono ?_); rintro e wI ⟨ad, c, rfl, hkc, hI, gI⟩)); replace b0 := gI.keep b0; replace b1 := gI.keep b1; replace b2 := gI.keep b2; replace b3 := gI.keep b3; replace hI := Lib.hid hI; have z2 := gI.size)
    | (at_make; refine mk1 rfl _ _ _ rfl 64 _ 1 24 Try.underlying103 inf_rowI (by decide) e rfl rfl (by omega) ?_; intro w1 own1 g1))
  skip
  rw [made_rowsY] at own1
  have HI1 := Lib.hid (hI.out.ge g1)
  have HL1 := Lib.hid (hL.out.ge (Ge.trans gI g1))
  go_loopw [18] (fun i' wr => ∃ a : Nat, a ≤ e ∧ i' = .int .i64 a ∧ RowsY wr wI.heap.size e a 1 (fun a => mapR e (T a)) ∧ Ge wI wr) (fun i _ => e - (intOf i).toNat)
  case atStart => exact ⟨0, Nat.zero_le _, rfl, RowsY.init own1, g1⟩
  case round =>
    obtain ⟨a, ha, rfl, hrows, hg⟩ := hrel
    by_cases hlt : a < e
    · obtain ⟨r0, f0⟩ := hrows.at hlt
      have HR := Lib.hid hrows
      clear hrows
      have zG := World.block_lt_of_cell? _ _ r0
      simp only at zG
      go_wp2_with fail
      obtain ⟨wa, hwa⟩ : ∃ wa, wa = wr := ⟨_, rfl⟩
      subst hwa
      go_loopw [23] (fun j' wr => ∃ (b : Nat) (u : Value), b ≤ e ∧ j' = .int .i64 b ∧ wr.cell? ⟨wI.heap.size, a, none⟩ = some u ∧ wr.frozen? ⟨wI.heap.size, a, none⟩ = false ∧ wr.ownsRow wa.heap.size 3 1 u b (icells (mapR b (T a))) ∧ GeY ⟨wI.heap.size, a, none⟩ wa wr ∧ Ge wI wr) (fun j _ => e - (intOf j).toNat)
      case atStart => exact ⟨0, _, Nat.zero_le _, rfl, r0, f0, ⟨rfl, .inl ⟨rfl, rfl⟩⟩, GeY.refl _ _, hg⟩
      case round =>
        obtain ⟨b, u, hb, rfl, c0, cf, hown, hy, hgb⟩ := hrel
        by_cases hbn : b < e
        · have HIa := Lib.hid (HI1.out)
          have hIr := SlI.ge hI.out hgb
          have HLr := Lib.hid (hL.out.ge (Ge.trans gI hgb))
          have HD := Lib.hid (fun vR vC w' (g : Ge wr w') hR hC hv => HDt.out a b hlt hbn vL vR vC w' (HLr.out.ge g) hR hC hv)
          have HOw := Lib.hid hown
          have HSn := Lib.hid (mapR_snoc2 b (T a))
          have hLe : (mapR b (T a)).length = b := mapR_length _ _
          generalize mapR b (T a) = L at *
          generalize T a b = X at *
          have zr := hgb.size
          have zGr : wI.heap.size < wr.heap.size := World.block_lt_of_cell? _ _ c0
          have zar := hy.2.2
          go_wp2_with fail
          refine wp_region_head (S := fun w' => w'.cell? ⟨wI.heap.size, a, none⟩ = some u) 19 (by kernel_rfl) (by kernel_rfl) (cell_drew c0) (fun hHeld => ?_)
          refine head_take 0 (v := ?_) rfl (by kernel_rfl) (by kernel_rfl) (fun _ _ _ h => h) (by assumption) (yields_if (by rfl) ?_) ?_
          rotate_left
          focus (intro w' hSw; (try dsimp only at hSw); go_simp; (try with_reducible rfl))
          (try simp only [Act.put, List.setIfInBounds_toArray, List.set_cons_zero, List.set_cons_succ])
          refine head_take 1 (v := ?_) rfl (by kernel_rfl) (by kernel_rfl) (fun _ _ _ h => h) (by assumption) (yields_if (by rfl) ?_) ?_
          rotate_left
          focus (intro w' hSw; (try dsimp only at hSw); go_simp; (try with_reducible rfl))
          (try simp only [Act.put, List.setIfInBounds_toArray, List.set_cons_zero, List.set_cons_succ])
          refine head_take 2 (v := ?_) rfl (by kernel_rfl) (by kernel_rfl) (fun _ _ _ h => h) (by assumption) (yields_if (by rfl) ?_) ?_
          rotate_left
          focus (intro w' hSw; (try dsimp only at hSw); go_simp; (try with_reducible rfl))
          (try simp only [Act.put, List.setIfInBounds_toArray, List.set_cons_zero, List.set_cons_succ])
          refine head_take 3 (v := ?_) rfl (by kernel_rfl) (by kernel_rfl) (fun _ _ _ h => h) (by assumption) (yields_if (by rfl) ?_) ?_
          rotate_left
          focus (intro w' hSw; (try dsimp only at hSw); go_simp; (try with_reducible rfl))
          (try simp only [Act.put, List.setIfInBounds_toArray, List.set_cons_zero, List.set_cons_succ])
          refine head_take 4 (v := ?_) rfl (by kernel_rfl) (by kernel_rfl) (fun _ _ _ h => h) (by assumption) (yields_if (by rfl) ?_) ?_
          rotate_left
          focus (intro w' hSw; (try dsimp only at hSw); go_simp; (try with_reducible rfl))
          (try simp only [Act.put, List.setIfInBounds_toArray, List.set_cons_zero, List.set_cons_succ])
          refine head_take 5 (v := ?_) rfl (by kernel_rfl) (by kernel_rfl) (fun _ _ _ h => h) (by assumption) (yields_if (by rfl) ?_) ?_
          rotate_left
          focus (intro w' hSw; (try dsimp only at hSw); go_simp; (try with_reducible rfl))
          (try simp only [Act.put, List.setIfInBounds_toArray, List.set_cons_zero, List.set_cons_succ])
          refine head_take 6 (v := ?_) rfl (by kernel_rfl) (by kernel_rfl) (fun _ _ _ h => h) (by assumption) (yields_if (by rfl) ?_) ?_
          rotate_left
          focus (intro w' hSw; (try dsimp only at hSw); go_simp; (try with_reducible rfl))
          (try simp only [Act.put, List.setIfInBounds_toArray, List.set_cons_zero, List.set_cons_succ])
          refine head_take 7 (v := ?_) rfl (by kernel_rfl) (by kernel_rfl) (fun _ _ _ h => h) (by assumption) (yields_if (by rfl) ?_) ?_
          rotate_left
          focus (intro w' hSw; (try dsimp only at hSw); go_simp; (try with_reducible rfl))
          (try simp only [Act.put, List.setIfInBounds_toArray, List.set_cons_zero, List.set_cons_succ])
          refine head_take 9 (v := ?_) rfl (by kernel_rfl) (by kernel_rfl) (fun _ _ _ h => h) (by assumption) (yields_if (by rfl) ?_) ?_
          rotate_left
          focus (intro w' hSw; (try dsimp only at hSw); go_simp; (try with_reducible rfl))
          (try simp only [Act.put, List.setIfInBounds_toArray, List.set_cons_zero, List.set_cons_succ])
          refine head_take 11 (v := ?_) rfl (by kernel_rfl) (by kernel_rfl) (fun _ _ _ h => h) (by assumption) (yields_if (by rfl) ?_) ?_
          rotate_left
          focus (intro w' hSw; (try dsimp only at hSw); go_simp; (try with_reducible rfl))
          (try simp only [Act.put, List.setIfInBounds_toArray, List.set_cons_zero, List.set_cons_succ])
          refine head_take 13 (v := ?_) rfl (by kernel_rfl) (by kernel_rfl) (fun _ _ _ h => h) (by assumption) (yields_if (by rfl) ?_) ?_
          rotate_left
          focus (intro w' hSw; (try dsimp only at hSw); go_simp; (try with_reducible rfl))
          (try simp only [Act.put, List.setIfInBounds_toArray, List.set_cons_zero, List.set_cons_succ])
          refine head_two 8 12 rfl rfl (by kernel_rfl) (fun K hK => ?_) (fun K hK => ?_)
          rotate_left
          · go_simp
            refine hK.out _ _ (cell_alloc (cell_drew c0)) (fun hHeld => ?_)
            clear hK K
            (try simp only [Act.put, List.setIfInBounds_toArray, List.set_cons_zero, List.set_cons_succ])
            refine head_one 8 rfl (by kernel_rfl) (fun K hK => ?_)
            go_simp
            refine hK.out _ _ (cell_alloc (cell_alloc (cell_drew c0))) (fun hHeld => ?_)
            clear hK K
            (try simp only [Act.put, List.setIfInBounds_toArray, List.set_cons_zero, List.set_cons_succ])
            have oB : (wr.drew.alloc (.cells #[.int .i64 (b : Int)] 3)).ownsRow wr.heap.size 3 1 (.slice (some ⟨wr.heap.size, 0, none⟩) 1 1) 1 (icells [(b : Int)]) := owns_cons rfl (Nat.le_refl _)
            have oA : ((wr.drew.alloc (.cells #[.int .i64 (b : Int)] 3)).alloc (.cells #[.int .i64 (a : Int)] 3)).ownsRow wr.heap.size 3 1 (.slice (some ⟨wr.heap.size + 1, 0, none⟩) 1 1) 1 (icells [(a : Int)]) := owns_cons (by simp) (by omega)
            have gB : Ge wr ((wr.drew.alloc (.cells #[.int .i64 (b : Int)] 3)).alloc (.cells #[.int .i64 (a : Int)] 3)) := Ge.alloc (Ge.alloc (Ge.drew (Ge.refl _)) _) _
            refine head_one 10 rfl (by kernel_rfl) (fun K hK => ?_)
            rw [if_pos (by rfl)]
            refine ap_lit _ _ rfl (wr.heap.size + 1) (a : Int) rfl wr.heap.size oA (by simp; omega) ad k c IZ rfl (hIr.ge gB) (by omega) ?_
            intro g1 c1 w3 o1 m1 q1
            simp at q1
            have oB3 := (oB.alloc (.cells #[.int .i64 (a : Int)] 3)).kept m1 (.inr (by simp [Value.ownBlock]))
            have g3 : Ge wr w3 := gB.mine oA (Nat.le_refl _) m1
            refine hK.out _ _ (g3.keep c0) (fun hHeld => ?_)
            clear hK K
            (try simp only [Act.put, List.setIfInBounds_toArray, List.set_cons_zero, List.set_cons_succ])
            refine head_one 14 rfl (by kernel_rfl) (fun K hK => ?_)
            rw [if_pos (by rfl)]
            refine ap_lit _ _ rfl wr.heap.size (b : Int) rfl wr.heap.size oB3 (g3.size) ad k c IZ rfl (hIr.ge g3) (by omega) ?_
            intro g2 c2 w4 o2 m2 q2
            have o1' := o1.kept m2 (.inr (by simp [Value.ownBlock]; omega))
            have g4 : Ge wr w4 := g3.mine oB3 (Nat.le_refl _) m2
            refine hK.out _ _ (g4.keep c0) (fun hHeld => ?_)
            clear hK K
            (try simp only [Act.put, List.setIfInBounds_toArray, List.set_cons_zero, List.set_cons_succ])
            have hR := SlI.owned o1'
            have hC := SlI.owned o2
            refine head_one 15 rfl (by kernel_rfl) (fun K hK => ?_)
            go_simp
            (go_at_call 140; ((with_reducible refine (HD.out _ _ _ g4 hR.1 hC.1 (capOf hR.2)).mono ?_); rintro e w5 ⟨rfl, g5⟩))
            have G5 : Ge wr w5 := g4.trans g5
            refine hK.out _ _ (G5.keep c0) (fun hHeld => ?_)
            clear hK K
            (try simp only [Act.put, List.setIfInBounds_toArray, List.set_cons_zero, List.set_cons_succ])
            refine head_one 16 rfl (by kernel_rfl) (fun K hK => ?_)
            go_simp
            refine hK.out _ _ (cell_alloc (G5.keep c0)) (fun hHeld => ?_)
            clear hK K
            (try simp only [Act.put, List.setIfInBounds_toArray, List.set_cons_zero, List.set_cons_succ])
            have G6 : Ge wr (w5.alloc (.cells #[.int .i64 X] 3)) := G5.alloc _
            have ow6 := G6.owns HOw.out
            have hz6 := G6.size
            refine head_one 17 rfl (by kernel_rfl) (fun K hK => ?_)
            rw [if_pos (by rfl)]
            refine ap_intsK _ _ rfl wa.heap.size u b L rfl ow6 (by omega) ⟨w5.heap.size, 0, none⟩ 1 1 [X] rfl (SlI.owned (owns_cons rfl (Nat.le_refl _))).1 (by omega) ?_
            intro v8 w8 own8 m8
            obtain ⟨p8, c8, rfl⟩ := owns_form own8
            have t3 := mine_cell m8 (cell_alloc (o := .cells #[.int .i64 X] 3) (G5.keep c0)) (before_row HOw.out zG)
            have t4 := mine_frozY m8 (cell_alloc (o := .cells #[.int .i64 X] 3) (G5.keep c0)) (G6.keepF c0 cf) (before_row HOw.out zG)
            have HFin := Lib.hid (And.intro (cell_same (u := .slice p8 (b + 1) c8) t3) (And.intro (froz_set (b := ⟨wI.heap.size, a, none⟩) (u := .slice p8 (b + 1) c8) t4) (And.intro (owns_setY (o := a) own8 zG (.slice p8 (b + 1) c8)) (And.intro (((hy.ge ⟨_, c0⟩ G6).mine ow6 (Nat.le_refl _) m8).set (.slice p8 (b + 1) c8)) (Ge.setCell ((hgb.trans G6).mine ow6 (by omega) m8) (p := ⟨wI.heap.size, a, none⟩) (Nat.le_refl _) (.slice p8 (b + 1) c8))))))
            refine hK.out _ _ (t3) (fun hHeld => ?_)
            clear hK K
            (try simp only [Act.put, List.setIfInBounds_toArray, List.set_cons_zero, List.set_cons_succ])
            refine head_take 18 (v := ?_) rfl (by kernel_rfl) (by kernel_rfl) (fun _ _ _ h => h) (by assumption) (yields_if (by rfl) ?_) ?_
            rotate_left
            focus (intro w' hSw; (try dsimp only at hSw); go_simp; (try with_reducible rfl))
            (try simp only [Act.put, List.setIfInBounds_toArray, List.set_cons_zero, List.set_cons_succ])
            refine head_done (by kernel_rfl) ?_
            go_wp2_with fail
            go_roundw
            case rel => exact ⟨b + 1, .slice p8 (b + 1) c8, by omega, by go_num, HFin.out.1, HFin.out.2.1, by rw [HSn.out]; exact HFin.out.2.2.1, HFin.out.2.2.2.1, HFin.out.2.2.2.2⟩
            case measure => simp [intOf]; omega
          · go_simp
            refine hK.out _ _ (cell_alloc (cell_drew c0)) (fun hHeld => ?_)
            clear hK K
            (try simp only [Act.put, List.setIfInBounds_toArray, List.set_cons_zero, List.set_cons_succ])
            have oA : (wr.drew.alloc (.cells #[.int .i64 (a : Int)] 3)).ownsRow wr.heap.size 3 1 (.slice (some ⟨wr.heap.size, 0, none⟩) 1 1) 1 (icells [(a : Int)]) := owns_cons rfl (Nat.le_refl _)
            have gA : Ge wr (wr.drew.alloc (.cells #[.int .i64 (a : Int)] 3)) := Ge.alloc (Ge.drew (Ge.refl _)) _
            refine head_two 10 12 rfl rfl (by kernel_rfl) (fun K hK => ?_) (fun K hK => ?_)
            · rw [if_pos (by rfl)]
              refine ap_lit _ _ rfl wr.heap.size (a : Int) rfl wr.heap.size oA (by simp) ad k c IZ rfl (hIr.ge gA) (by omega) ?_
              intro g1 c1 w3 o1 m1 q1
              have g3 : Ge wr w3 := gA.mine oA (Nat.le_refl _) m1
              have z3 := g3.size
              refine hK.out _ _ (g3.keep c0) (fun hHeld => ?_)
              clear hK K
              (try simp only [Act.put, List.setIfInBounds_toArray, List.set_cons_zero, List.set_cons_succ])
              refine head_one 12 rfl (by kernel_rfl) (fun K hK => ?_)
              go_simp
              refine hK.out _ _ (cell_alloc (g3.keep c0)) (fun hHeld => ?_)
              clear hK K
              (try simp only [Act.put, List.setIfInBounds_toArray, List.set_cons_zero, List.set_cons_succ])
              have oB : (w3.alloc (.cells #[.int .i64 (b : Int)] 3)).ownsRow wr.heap.size 3 1 (.slice (some ⟨w3.heap.size, 0, none⟩) 1 1) 1 (icells [(b : Int)]) := owns_cons rfl z3
              have gB : Ge wr (w3.alloc (.cells #[.int .i64 (b : Int)] 3)) := g3.alloc _
              refine head_one 14 rfl (by kernel_rfl) (fun K hK => ?_)
              rw [if_pos (by rfl)]
              refine ap_lit _ _ rfl w3.heap.size (b : Int) rfl wr.heap.size oB (by simp; omega) ad k c IZ rfl (hIr.ge gB) (by omega) ?_
              intro g2 c2 w4 o2 m2 q2
              have zg1 := (o1.lt g1 rfl).2
              have o1' := (o1.alloc (.cells #[.int .i64 (b : Int)] 3)).kept m2 (.inr (by simp [Value.ownBlock]; omega))
              have g4 : Ge wr w4 := gB.mine oB (Nat.le_refl _) m2
              refine hK.out _ _ (g4.keep c0) (fun hHeld => ?_)
              clear hK K
              (try simp only [Act.put, List.setIfInBounds_toArray, List.set_cons_zero, List.set_cons_succ])
              have hR := SlI.owned o1'
              have hC := SlI.owned o2
              refine head_one 15 rfl (by kernel_rfl) (fun K hK => ?_)
              go_simp
              (go_at_call 140; ((with_reducible refine (HD.out _ _ _ g4 hR.1 hC.1 (capOf hR.2)).mono ?_); rintro e w5 ⟨rfl, g5⟩))
              have G5 : Ge wr w5 := g4.trans g5
              refine hK.out _ _ (G5.keep c0) (fun hHeld => ?_)
              clear hK K
              (try simp only [Act.put, List.setIfInBounds_toArray, List.set_cons_zero, List.set_cons_succ])
              refine head_one 16 rfl (by kernel_rfl) (fun K hK => ?_)
              go_simp
              refine hK.out _ _ (cell_alloc (G5.keep c0)) (fun hHeld => ?_)
              clear hK K
              (try simp only [Act.put, List.setIfInBounds_toArray, List.set_cons_zero, List.set_cons_succ])
              have G6 : Ge wr (w5.alloc (.cells #[.int .i64 X] 3)) := G5.alloc _
              have ow6 := G6.owns HOw.out
              have hz6 := G6.size
              refine head_one 17 rfl (by kernel_rfl) (fun K hK => ?_)
              rw [if_pos (by rfl)]
              refine ap_intsK _ _ rfl wa.heap.size u b L rfl ow6 (by omega) ⟨w5.heap.size, 0, none⟩ 1 1 [X] rfl (SlI.owned (owns_cons rfl (Nat.le_refl _))).1 (by omega) ?_
              intro v8 w8 own8 m8
              obtain ⟨p8, c8, rfl⟩ := owns_form own8
              have t3 := mine_cell m8 (cell_alloc (o := .cells #[.int .i64 X] 3) (G5.keep c0)) (before_row HOw.out zG)
              have t4 := mine_frozY m8 (cell_alloc (o := .cells #[.int .i64 X] 3) (G5.keep c0)) (G6.keepF c0 cf) (before_row HOw.out zG)
              have HFin := Lib.hid (And.intro (cell_same (u := .slice p8 (b + 1) c8) t3) (And.intro (froz_set (b := ⟨wI.heap.size, a, none⟩) (u := .slice p8 (b + 1) c8) t4) (And.intro (owns_setY (o := a) own8 zG (.slice p8 (b + 1) c8)) (And.intro (((hy.ge ⟨_, c0⟩ G6).mine ow6 (Nat.le_refl _) m8).set (.slice p8 (b + 1) c8)) (Ge.setCell ((hgb.trans G6).mine ow6 (by omega) m8) (p := ⟨wI.heap.size, a, none⟩) (Nat.le_refl _) (.slice p8 (b + 1) c8))))))
              refine hK.out _ _ (t3) (fun hHeld => ?_)
              clear hK K
              (try simp only [Act.put, List.setIfInBounds_toArray, List.set_cons_zero, List.set_cons_succ])
              refine head_take 18 (v := ?_) rfl (by kernel_rfl) (by kernel_rfl) (fun _ _ _ h => h) (by assumption) (yields_if (by rfl) ?_) ?_
              rotate_left
              focus (intro w' hSw; (try dsimp only at hSw); go_simp; (try with_reducible rfl))
              (try simp only [Act.put, List.setIfInBounds_toArray, List.set_cons_zero, List.set_cons_succ])
              refine head_done (by kernel_rfl) ?_
              go_wp2_with fail
              go_roundw
              case rel => exact ⟨b + 1, .slice p8 (b + 1) c8, by omega, by go_num, HFin.out.1, HFin.out.2.1, by rw [HSn.out]; exact HFin.out.2.2.1, HFin.out.2.2.2.1, HFin.out.2.2.2.2⟩
              case measure => simp [intOf]; omega
            · go_simp
              refine hK.out _ _ (cell_alloc (cell_alloc (cell_drew c0))) (fun hHeld => ?_)
              clear hK K
              (try simp only [Act.put, List.setIfInBounds_toArray, List.set_cons_zero, List.set_cons_succ])
              have oB : ((wr.drew.alloc (.cells #[.int .i64 (a : Int)] 3)).alloc (.cells #[.int .i64 (b : Int)] 3)).ownsRow wr.heap.size 3 1 (.slice (some ⟨wr.heap.size + 1, 0, none⟩) 1 1) 1 (icells [(b : Int)]) := owns_cons (by simp) (by omega)
              have gB : Ge wr ((wr.drew.alloc (.cells #[.int .i64 (a : Int)] 3)).alloc (.cells #[.int .i64 (b : Int)] 3)) := gA.alloc _
              refine head_one 10 rfl (by kernel_rfl) (fun K hK => ?_)
              rw [if_pos (by rfl)]
              refine ap_lit _ _ rfl wr.heap.size (a : Int) rfl wr.heap.size (oA.alloc _) (by simp; omega) ad k c IZ rfl (hIr.ge gB) (by omega) ?_
              intro g1 c1 w3 o1 m1 q1
              simp at q1
              have oB3 := oB.kept m1 (.inr (by simp [Value.ownBlock]))
              have g3 : Ge wr w3 := gB.mine (oA.alloc _) (Nat.le_refl _) m1
              refine hK.out _ _ (g3.keep c0) (fun hHeld => ?_)
              clear hK K
              (try simp only [Act.put, List.setIfInBounds_toArray, List.set_cons_zero, List.set_cons_succ])
              refine head_one 14 rfl (by kernel_rfl) (fun K hK => ?_)
              rw [if_pos (by rfl)]
              refine ap_lit _ _ rfl (wr.heap.size + 1) (b : Int) rfl wr.heap.size oB3 (g3.size) ad k c IZ rfl (hIr.ge g3) (by omega) ?_
              intro g2 c2 w4 o2 m2 q2
              have o1' := o1.kept m2 (.inr (by simp [Value.ownBlock]; omega))
              have g4 : Ge wr w4 := g3.mine oB3 (Nat.le_refl _) m2
              refine hK.out _ _ (g4.keep c0) (fun hHeld => ?_)
              clear hK K
              (try simp only [Act.put, List.setIfInBounds_toArray, List.set_cons_zero, List.set_cons_succ])
              have hR := SlI.owned o1'
              have hC := SlI.owned o2
              refine head_one 15 rfl (by kernel_rfl) (fun K hK => ?_)
              go_simp
              (go_at_call 140; ((with_reducible refine (HD.out _ _ _ g4 hR.1 hC.1 (capOf hR.2)).mono ?_); rintro e w5 ⟨rfl, g5⟩))
              have G5 : Ge wr w5 := g4.trans g5
              refine hK.out _ _ (G5.keep c0) (fun hHeld => ?_)
              clear hK K
              (try simp only [Act.put, List.setIfInBounds_toArray, List.set_cons_zero, List.set_cons_succ])
              refine head_one 16 rfl (by kernel_rfl) (fun K hK => ?_)
              go_simp
              refine hK.out _ _ (cell_alloc (G5.keep c0)) (fun hHeld => ?_)
              clear hK K
              (try simp only [Act.put, List.setIfInBounds_toArray, List.set_cons_zero, List.set_cons_succ])
              have G6 : Ge wr (w5.alloc (.cells #[.int .i64 X] 3)) := G5.alloc _
              have ow6 := G6.owns HOw.out
              have hz6 := G6.size
              refine head_one 17 rfl (by kernel_rfl) (fun K hK => ?_)
              rw [if_pos (by rfl)]
              refine ap_intsK _ _ rfl wa.heap.size u b L rfl ow6 (by omega) ⟨w5.heap.size, 0, none⟩ 1 1 [X] rfl (SlI.owned (owns_cons rfl (Nat.le_refl _))).1 (by omega) ?_
              intro v8 w8 own8 m8
              obtain ⟨p8, c8, rfl⟩ := owns_form own8
              have t3 := mine_cell m8 (cell_alloc (o := .cells #[.int .i64 X] 3) (G5.keep c0)) (before_row HOw.out zG)
              have t4 := mine_frozY m8 (cell_alloc (o := .cells #[.int .i64 X] 3) (G5.keep c0)) (G6.keepF c0 cf) (before_row HOw.out zG)
              have HFin := Lib.hid (And.intro (cell_same (u := .slice p8 (b + 1) c8) t3) (And.intro (froz_set (b := ⟨wI.heap.size, a, none⟩) (u := .slice p8 (b + 1) c8) t4) (And.intro (owns_setY (o := a) own8 zG (.slice p8 (b + 1) c8)) (And.intro (((hy.ge ⟨_, c0⟩ G6).mine ow6 (Nat.le_refl _) m8).set (.slice p8 (b + 1) c8)) (Ge.setCell ((hgb.trans G6).mine ow6 (by omega) m8) (p := ⟨wI.heap.size, a, none⟩) (Nat.le_refl _) (.slice p8 (b + 1) c8))))))
              refine hK.out _ _ (t3) (fun hHeld => ?_)
              clear hK K
              (try simp only [Act.put, List.setIfInBounds_toArray, List.set_cons_zero, List.set_cons_succ])
              refine head_take 18 (v := ?_) rfl (by kernel_rfl) (by kernel_rfl) (fun _ _ _ h => h) (by assumption) (yields_if (by rfl) ?_) ?_
              rotate_left
              focus (intro w' hSw; (try dsimp only at hSw); go_simp; (try with_reducible rfl))
              (try simp only [Act.put, List.setIfInBounds_toArray, List.set_cons_zero, List.set_cons_succ])
              refine head_done (by kernel_rfl) ?_
              go_wp2_with fail
              go_roundw
              case rel => exact ⟨b + 1, .slice p8 (b + 1) c8, by omega, by go_num, HFin.out.1, HFin.out.2.1, by rw [HSn.out]; exact HFin.out.2.2.1, HFin.out.2.2.2.1, HFin.out.2.2.2.2⟩
              case measure => simp [intOf]; omega
        · have hbe : b = e := by omega
          subst hbe
          obtain ⟨pu, cu, rfl⟩ := owns_form hown
          have HN := Lib.hid (RowsY.next HR.out hlt hy c0 (fun x hx => by cases hx) (Sl.of_owns hown))
          go_wp2_with fail
          go_roundw
          case rel => exact ⟨a + 1, by omega, by go_num, HN.out, hgb⟩
          case measure => simp [intOf]; omega
    · have hae : a = e := by omega
      subst hae
      have HR := Lib.hid hrows.rows
      have HIr := Lib.hid (hI.out.ge hg)
      have HLr := Lib.hid (hL.out.ge (Ge.trans gI hg))
      have b2r := hg.keep b2
      clear hrows
      go_wp2_with fail
      have hS : ∀ w', Ge wr w' → (w'.cell? ⟨w.heap.size, 2, none⟩ = some (.int .i64 S) ∧ Ge wr w') := fun w' g => ⟨g.keep (by (repeat (first | assumption | with_reducible exact Ge.refl _ | with_reducible refine cv_drew ?_ | with_reducible refine cv_alloc ?_ | with_reducible refine cv_set ?_ | (with_reducible apply cv_some; assumption) | with_reducible refine cell_drew ?_ | with_reducible refine cell_drewN ?_ | ((with_reducible refine cell_new ?_ ?_); (focus (simp; done)); rfl) | with_reducible refine cell_alloc ?_ | with_reducible refine cell_same2 ?_ | ((with_reducible refine cell_set2 ?_ ?_); focus (first | (simp; done) | (intro hE; simp at hE; done) | (intro hE; simp at hE; omega))) | with_reducible refine Ge.drew ?_ | with_reducible refine Ge.drewN ?_ _ | with_reducible refine Ge.alloc ?_ _ | ((with_reducible refine Ge.setCell ?_ ?_ _); rotate_left; focus (first | (simp; done) | omega | (simp; omega))) | with_reducible refine Ge.trans ?_ (by assumption) | with_reducible refine Ge.keep (by assumption) ?_))), Ge.trans (by (repeat (first | assumption | with_reducible exact Ge.refl _ | with_reducible refine cv_drew ?_ | with_reducible refine cv_alloc ?_ | with_reducible refine cv_set ?_ | (with_reducible apply cv_some; assumption) | with_reducible refine cell_drew ?_ | with_reducible refine cell_drewN ?_ | ((with_reducible refine cell_new ?_ ?_); (focus (simp; done)); rfl) | with_reducible refine cell_alloc ?_ | with_reducible refine cell_same2 ?_ | ((with_reducible refine cell_set2 ?_ ?_); focus (first | (simp; done) | (intro hE; simp at hE; done) | (intro hE; simp at hE; omega))) | with_reducible refine Ge.drew ?_ | with_reducible refine Ge.drewN ?_ _ | with_reducible refine Ge.alloc ?_ _ | ((with_reducible refine Ge.setCell ?_ ?_ _); rotate_left; focus (first | (simp; done) | omega | (simp; omega))) | with_reducible refine Ge.trans ?_ (by assumption) | with_reducible refine Ge.keep (by assumption) ?_))) g⟩
      go_region_held3 (fun w' => w'.cell? ⟨w.heap.size, 2, none⟩ = some (.int .i64 S) ∧ Ge wr w') (first | ((with_reducible refine hS _ ?_); (repeat (first | assumption | with_reducible exact Ge.refl _ | with_reducible refine cv_drew ?_ | with_reducible refine cv_alloc ?_ | with_reducible refine cv_set ?_ | (with_reducible apply cv_some; assumption) | with_reducible refine cell_drew ?_ | with_reducible refine cell_drewN ?_ | ((with_reducible refine cell_new ?_ ?_); (focus (simp; done)); rfl) | with_reducible refine cell_alloc ?_ | with_reducible refine cell_same2 ?_ | ((with_reducible refine cell_set2 ?_ ?_); focus (first | (simp; done) | (intro hE; simp at hE; done) | (intro hE; simp at hE; omega))) | with_reducible refine Ge.drew ?_ | with_reducible refine Ge.drewN ?_ _ | with_reducible refine Ge.alloc ?_ _ | ((with_reducible refine Ge.setCell ?_ ?_ _); rotate_left; focus (first | (simp; done) | omega | (simp; omega))) | with_reducible refine Ge.trans ?_ (by assumption) | with_reducible refine Ge.keep (by assumption) ?_)); done) | fail) (first | (go_at_call 140; ((with_reducible refine (HDd.out vL (.slice (some ad) k c) _ (SlMM.ge HLr.out (by (repeat (first | assumption | with_reducible exact Ge.refl _ | with_reducible refine cv_drew ?_ | with_reducible refine cv_alloc ?_ | with_reducible refine cv_set ?_ | (with_reducible apply cv_some; assumption) | with_reducible refine cell_drew ?_ | with_reducible refine cell_drewN ?_ | ((with_reducible refine cell_new ?_ ?_); (focus (simp; done)); rfl) | with_reducible refine cell_alloc ?_ | with_reducible refine cell_same2 ?_ | ((with_reducible refine cell_set2 ?_ ?_); focus (first | (simp; done) | (intro hE; simp at hE; done) | (intro hE; simp at hE; omega))) | with_reducible refine Ge.drew ?_ | with_reducible refine Ge.drewN ?_ _ | with_reducible refine Ge.alloc ?_ _ | ((with_reducible refine Ge.setCell ?_ ?_ _); rotate_left; focus (first | (simp; done) | omega | (simp; omega))) | with_reducible refine Ge.trans ?_ (by assumption) | with_reducible refine Ge.keep (by assumption) ?_)))) (SlI.ge HIr.out (by (repeat (first | assumption | with_reducible exact Ge.refl _ | with_reducible refine cv_drew ?_ | with_reducible refine cv_alloc ?_ | with_reducible refine cv_set ?_ | (with_reducible apply cv_some; assumption) | with_reducible refine cell_drew ?_ | with_reducible refine cell_drewN ?_ | ((with_reducible refine cell_new ?_ ?_); (focus (simp; done)); rfl) | with_reducible refine cell_alloc ?_ | with_reducible refine cell_same2 ?_ | ((with_reducible refine cell_set2 ?_ ?_); focus (first | (simp; done) | (intro hE; simp at hE; done) | (intro hE; simp at hE; omega))) | with_reducible refine Ge.drew ?_ | with_reducible refine Ge.drewN ?_ _ | with_reducible refine Ge.alloc ?_ _ | ((with_reducible refine Ge.setCell ?_ ?_ _); rotate_left; focus (first | (simp; done) | omega | (simp; omega))) | with_reducible refine Ge.trans ?_ (by assumption) | with_reducible refine Ge.keep (by assumption) ?_)))) (capOf hkc)).mono ?_); rintro e' wD ⟨rfl, hb⟩)) | fail)
      rename_i hHeldX
      obtain ⟨q0, G7⟩ := hHeldX
      clear hS
      all_goals
        go_wp2_with fail
        exact bodyPost_ret (v := .tuple #[.slice (some ⟨wI.heap.size, 0, none⟩) a a, .int .i64 (S * DZ)]) (by simp [results, Try.results119, go_sem, *]) rfl ⟨_, rfl, HR.out.ge (by (repeat (first | with_reducible exact Ge.refl _ | assumption | with_reducible refine Ge.drew ?_ | with_reducible refine Ge.drewN ?_ _ | with_reducible refine Ge.alloc ?_ _ | (with_reducible refine Ge.setCell ?_ (by first | (simp; done) | omega | (simp; omega)) _) | with_reducible refine Ge.trans ?_ (by assumption)))), by (repeat (first | with_reducible exact Ge.refl _ | assumption | with_reducible refine Ge.drew ?_ | with_reducible refine Ge.drewN ?_ _ | with_reducible refine Ge.alloc ?_ _ | (with_reducible refine Ge.setCell ?_ (by first | (simp; done) | omega | (simp; omega)) _) | with_reducible refine Ge.trans ?_ (by assumption)))⟩
end Go.Proofs.Ytppabikbepdobaa

namespace Go.Proofs.Ytppabikbepdobaa
set_option maxRecDepth 100000
open Go.ChangeShapes Go.WideShapes Go.ChangeAt Go.RowKit Go.Joins

theorem inf_RatioQ : (Try.prog.info? 34).map (fun i => (i.zero, i.size, i.bytes)) = some (some (Value.agg #[.int .i64 0, .int .i64 0]), 2, 16) := by kernel_rfl
theorem inf_rowQ : (Try.prog.info? 73).map (fun i => (i.zero, i.size, i.bytes)) = some (some (Value.slice none 0 0), 1, 24) := by kernel_rfl
/-- Appending one fraction. -/
theorem ap_ratK {w : World} {o : Oper} {a : Act} {K : Act → World → Prop} {Q : Exit → Act → World → Prop} (s x : Operand)
    (ho : o.op = .call { callee := .builtin .append, args := #[s, x], argTypes := #[73, 73] })
    (base : Nat) (v : Value) (n : Nat) (l : List Int) (hs : a.eval s = v) (hown : w.ownsRow base 34 2 v n (icells l)) (hb : base ≤ w.heap.size)
    (y z : Int) {b0 : Nat} (hx : a.eval x = .slice (some ⟨b0, 0, none⟩) 1 1) (h0 : w.cell? ⟨b0, 0, none⟩ = some (.int .i64 y)) (h1 : w.cell? ⟨b0, 1, none⟩ = some (.int .i64 z)) (hn : n < 1000)
    (h : ∀ v' w', w'.ownsRow base 34 2 v' (n + 1) (icells (l ++ [y, z])) → Mine w w' v → K (a.put o.dst v') w') :
    o.wp Try.prog a w K Q := by
  obtain ⟨i, hi1, hi2, hi3, hi4⟩ := info_parts inf_RatioQ
  refine wp_append_own _ s x 73 ho base 34 i _ 2 16 Try.underlying73 hi1 hi2 hi3 hi4 rfl (by decide) v n (icells l) hs hown ⟨b0, 0, none⟩ 1 1 [.int .i64 y, .int .i64 z] hx rfl ?_ (by simp [Value.oneCell']) (by unfold maxLen; omega) ?_ hb ?_
  · intro j u hu
    match j, hu with
    | 0, hu => simp at hu; subst hu; simpa [Addr.add] using h0
    | 1, hu => simp at hu; subst hu; simpa [Addr.add] using h1
  · omega
  · intro v' w' h2 h3 _
    exact h v' w' (by simpa [icells] using h2) h3
/-- The entries of rows of integers. -/
theorem SlRows.ints {w : World} {v : Value} {E : Nat} {T : Nat → Nat → Int} (h : SlRows w v E 1 (fun a => mapR E (T a))) :
    ∃ b o c, v = .slice (some ⟨b, o, none⟩) E c ∧ ∀ a, a < E → ∃ p k, w.cell? ⟨b, o + a, none⟩ = some (.slice p E k) ∧ ∀ j, j < E → ∃ br or', p = some ⟨br, or', none⟩ ∧ w.cell? ⟨br, or' + j, none⟩ = some (.int .i64 (T a j)) := by
  obtain ⟨b, o, c, hv, hc⟩ := h
  refine ⟨b, o, c, hv, fun a ha => ?_⟩
  obtain ⟨p, k, h1, _, p', k', h2, h3⟩ := hc a ha
  simp only [Value.slice.injEq] at h2
  obtain ⟨rfl, _, rfl⟩ := h2
  refine ⟨p, k, h1, fun j hj => ?_⟩
  refine h3 j _ ?_
  simp [icells, mapR, hj]

set_option maxHeartbeats 1600000 in
theorem iResponseOfF (N E S : Int) (s : Value) (m : Nat) (xs : List Int) (w : World) (hs : SlF w s m 3 xs) (hm : m ≤ 9223372036854775807) (hB : netB N E S m xs = false) :
    Calls Try.prog 91 #[.agg #[.int .i64 N, .int .i64 E, .int .i64 S, s]] w fun r w' => r = .returned (.tuple #[.slice none 0 0, .bool false]) ∧ Ge w w' := by
  obtain ⟨p, cap, rfl, hc⟩ := hs.open
  have HV := Lib.hid hs
  clear hs hc
  have HNo := Lib.hid (fun w' (g : Ge w w') => iNetOk N E S (.slice p m cap) m xs w' (HV.out.ge g) hm)
  rw [hB] at HNo
  go_enter Try.func91, Try.ntmps91
  go_wp2_with (go_at_call 52; ((with_reducible refine (HNo.out _ (by (repeat (first | with_reducible exact Ge.refl _ | assumption | with_reducible refine Ge.drew ?_ | with_reducible refine Ge.drewN ?_ _ | with_reducible refine Ge.alloc ?_ _ | (with_reducible refine Ge.setCell ?_ (by first | (simp; done) | omega | (simp; omega)) _) | with_reducible refine Ge.trans ?_ (by assumption))))).mono ?_); rintro e w1 ⟨rfl, g1⟩))
  exact bodyPost_ret (v := .tuple #[.slice none 0 0, .bool false]) (by simp [results, Try.results91, go_sem, *]) rfl ⟨rfl, by (repeat (first | with_reducible exact Ge.refl _ | assumption | with_reducible refine Ge.drew ?_ | with_reducible refine Ge.drewN ?_ _ | with_reducible refine Ge.alloc ?_ _ | (with_reducible refine Ge.setCell ?_ (by first | (simp; done) | omega | (simp; omega)) _) | with_reducible refine Ge.trans ?_ (by assumption)))⟩

set_option maxHeartbeats 3200000 in
theorem iResponseOfT (n e : Nat) (S : Int) (s : Value) (m : Nat) (xs : List Int) (w : World) (hs : SlF w s m 3 xs) (hm : m ≤ 9223372036854775807) (hB : netB n e S m xs = true) :
    Calls Try.prog 91 #[.agg #[.int .i64 (n : Int), .int .i64 (e : Int), .int .i64 S, s]] w fun r w' => ∃ v, r = .returned (.tuple #[v, .bool true]) ∧ SlRows w' v e 2 (fun a => respL n e m S xs a e) ∧ Ge w w' := by
  obtain ⟨⟨h1, h5⟩, ⟨e1, e2⟩, ⟨s1, s2⟩, hok, _⟩ := netP_of hB
  obtain ⟨p, cap, rfl, hc⟩ := hs.open
  have HV := Lib.hid hs
  have HNo := Lib.hid (fun w' (g : Ge w w') => iNetOk n e S (.slice p m cap) m xs w' (HV.out.ge g) hm)
  rw [hB] at HNo
  have HRe := Lib.hid (fun w' (g : Ge w w') => iResponse n e S (.slice p m cap) m xs w' (HV.out.ge g) hB)
  have hbd := sdwn_bd (S := S) (by omega) hok (by omega : 1 ≤ e) s1 s2
  have HRo := Lib.hid (fun (a b : Nat) w' => iRatioOf (topZ n e m xs a b) (S * dwnZ n e m xs) w' (by have := top_bd (n := n) (e := e) (by omega) hok (by omega) (by omega) a b; exact mid (by omega) (by omega)) (mid (by omega) (by omega)))
  obtain ⟨R, hR⟩ : ∃ R : Nat → Nat → List Int, R = fun a k => respL n e m S xs a k := ⟨_, rfl⟩
  have HR0 : Hid (∀ a, R a 0 = []) := by show ∀ a, _; intro a; rw [hR]; rfl
  have HRs : Hid (∀ a k, R a (k + 1) = R a k ++ [(ratioOf (topZ n e m xs a k) (S * dwnZ n e m xs)).n, (ratioOf (topZ n e m xs a k) (S * dwnZ n e m xs)).d]) := by show ∀ a k, _; intro a k; rw [hR]; rfl
  have HRe' : Hid ((fun a => respL n e m S xs a e) = fun a => R a e) := by show _ = _; rw [hR]
  rw [HRe'.out]
  clear hs hc hok hB hbd hR HRe'
  obtain ⟨T, hT⟩ : ∃ T : Nat → Nat → Int, T = fun a b => topZ n e m xs a b := ⟨_, rfl⟩
  have HT : Hid (∀ a b, topZ n e m xs a b = T a b) := by show ∀ a b, _; rw [hT]; exact fun _ _ => rfl
  simp only [HT.out] at HRo HRs HRe
  clear hT HT
  generalize S * dwnZ n e m xs = SD at *
  go_enter Try.func91, Try.ntmps91
  go_wp2_with (first
    | ((go_at_call 52; ((with_reducible refine (HNo.out _ (by (repeat (first | with_reducible exact Ge.refl _ | assumption | with_reducible refine Ge.drew ?_ | with_reducible refine Ge.drewN ?_ _ | with_reducible refine Ge.alloc ?_ _ | (with_reducible refine Ge.setCell ?_ (by first | (simp; done) | omega | (simp; omega)) _) | with_reducible refine Ge.trans ?_ (by assumption))))).mono ?_); rintro r w1 ⟨rfl, g1⟩)); have b0 := Ge.keep g1 (cell_new (i := 0) rfl rfl); have b1 := Ge.keep g1 (cell_new (i := 1) rfl rfl); have b2 := Ge.keep g1 (cell_new (i := 2) rfl rfl); have b3 := Ge.keep g1 (cell_new (i := 3) rfl rfl); have z1 := g1.size; (simp at b0 b1 b2 b3 z1))
    | ((go_at_call 119; ((with_reducible refine (HRe.out _ (by (repeat (first | with_reducible exact Ge.refl _ | assumption | with_reducible refine Ge.drew ?_ | with_reducible refine Ge.drewN ?_ _ | with_reducible refine Ge.alloc ?_ _ | (with_reducible refine Ge.setCell ?_ (by first | (simp; done) | omega | (simp; omega)) _) | with_reducible refine Ge.trans ?_ (by assumption))))).mono ?_); rintro r wM ⟨vm, rfl, hM, gM⟩)); obtain ⟨bm, om, cm, rfl, hrow⟩ := hM.ints; have GM : Ge w wM := (by (repeat (first | with_reducible exact Ge.refl _ | assumption | with_reducible refine Ge.drew ?_ | with_reducible refine Ge.drewN ?_ _ | with_reducible refine Ge.alloc ?_ _ | (with_reducible refine Ge.setCell ?_ (by first | (simp; done) | omega | (simp; omega)) _) | with_reducible refine Ge.trans ?_ (by assumption)))); replace hrow := Lib.hid hrow; clear hM)
    | (at_make; refine mk1 rfl _ _ _ rfl 73 _ 1 24 Try.underlying77 inf_rowQ (by decide) e rfl rfl (by omega) ?_; intro w2 own2 g2))
  rw [made_rowsY] at own2
  go_loopw [23] (fun i' wr => ∃ a : Nat, a ≤ e ∧ i' = .int .i64 a ∧ RowsY wr wM.heap.size e a 2 (fun a => R a e) ∧ Ge wM wr) (fun i _ => e - (intOf i).toNat)
  case atStart => exact ⟨0, Nat.zero_le _, rfl, RowsY.init own2, g2⟩
  case round =>
    obtain ⟨a, ha, rfl, hrows, hg⟩ := hrel
    by_cases hlt : a < e
    · obtain ⟨r0, f0⟩ := hrows.at hlt
      have HR := Lib.hid hrows
      clear hrows
      have zG := World.block_lt_of_cell? _ _ r0
      simp only at zG
      obtain ⟨pr, cr, x0, hent⟩ := hrow.out a hlt
      have x0r := hg.keep x0
      have HE := Lib.hid hent
      clear hent x0
      go_wp2_with fail
      obtain ⟨wa, hwa⟩ : ∃ wa, wa = wr := ⟨_, rfl⟩
      subst hwa
      go_loopw [31] (fun j' wr => ∃ (b : Nat) (u : Value), b ≤ e ∧ j' = .int .i64 b ∧ wr.cell? ⟨wM.heap.size, a, none⟩ = some u ∧ wr.frozen? ⟨wM.heap.size, a, none⟩ = false ∧ wr.ownsRow wa.heap.size 34 2 u b (icells (R a b)) ∧ GeY ⟨wM.heap.size, a, none⟩ wa wr ∧ Ge wM wr) (fun j _ => e - (intOf j).toNat)
      case atStart => exact ⟨0, _, Nat.zero_le _, rfl, r0, f0, by rw [HR0.out]; exact ⟨rfl, .inl ⟨rfl, rfl⟩⟩, GeY.refl _ _, hg⟩
      case round =>
        obtain ⟨b, u, hb, rfl, c0, cf, hown, hy, hgb⟩ := hrel
        by_cases hbn : b < e
        · obtain ⟨br, or', rfl, y0⟩ := HE.out b hbn
          have y0r := hgb.keep y0
          have HOw := Lib.hid hown
          have HSn := Lib.hid (HRs.out a b)
          have HRq := Lib.hid (HRo.out a b)
          clear y0 hown
          generalize R a b = L at *
          generalize T a b = X at *
          generalize ratioOf X SD = P at *
          have zr := hgb.size
          have zGr : wM.heap.size < wr.heap.size := World.block_lt_of_cell? _ _ c0
          have zar := hy.2.2
          go_wp2_with fail
          refine wp_region_head (S := fun w' => w'.cell? ⟨wM.heap.size, a, none⟩ = some u) 12 (by kernel_rfl) (by kernel_rfl) (cell_drew c0) (fun hHeld => ?_)
          refine head_take 0 (v := ?_) rfl (by kernel_rfl) (by kernel_rfl) (fun _ _ _ h => h) (by assumption) (yields_if (by rfl) ?_) ?_
          rotate_left
          focus (intro w' hSw; (try dsimp only at hSw); go_simp; (try with_reducible rfl))
          (try simp only [Act.put, List.setIfInBounds_toArray, List.set_cons_zero, List.set_cons_succ])
          refine head_take 1 (v := ?_) rfl (by kernel_rfl) (by kernel_rfl) (fun _ _ _ h => h) (by assumption) (yields_if (by rfl) ?_) ?_
          rotate_left
          focus (intro w' hSw; (try dsimp only at hSw); go_simp; (try with_reducible rfl))
          (try simp only [Act.put, List.setIfInBounds_toArray, List.set_cons_zero, List.set_cons_succ])
          refine head_take 2 (v := ?_) rfl (by kernel_rfl) (by kernel_rfl) (fun _ _ _ h => h) (by assumption) (yields_if (by rfl) ?_) ?_
          rotate_left
          focus (intro w' hSw; (try dsimp only at hSw); go_simp; (try with_reducible rfl))
          (try simp only [Act.put, List.setIfInBounds_toArray, List.set_cons_zero, List.set_cons_succ])
          refine head_take 3 (v := ?_) rfl (by kernel_rfl) (by kernel_rfl) (fun _ _ _ h => h) (by assumption) (yields_if (by rfl) ?_) ?_
          rotate_left
          focus (intro w' hSw; (try dsimp only at hSw); go_simp; (try with_reducible rfl))
          (try simp only [Act.put, List.setIfInBounds_toArray, List.set_cons_zero, List.set_cons_succ])
          refine head_take 4 (v := ?_) rfl (by kernel_rfl) (by kernel_rfl) (fun _ _ _ h => h) (by assumption) (yields_if (by rfl) ?_) ?_
          rotate_left
          focus (intro w' hSw; (try dsimp only at hSw); go_simp; (try with_reducible rfl))
          (try simp only [Act.put, List.setIfInBounds_toArray, List.set_cons_zero, List.set_cons_succ])
          refine head_take 5 (v := ?_) rfl (by kernel_rfl) (by kernel_rfl) (fun _ _ _ h => h) (by assumption) (yields_if (by rfl) ?_) ?_
          rotate_left
          focus (intro w' hSw; (try dsimp only at hSw); go_simp; (try with_reducible rfl))
          (try simp only [Act.put, List.setIfInBounds_toArray, List.set_cons_zero, List.set_cons_succ])
          refine head_take 6 (v := ?_) rfl (by kernel_rfl) (by kernel_rfl) (fun _ _ _ h => h) (by assumption) (yields_if (by rfl) ?_) ?_
          rotate_left
          focus (intro w' hSw; (try dsimp only at hSw); go_simp; (try with_reducible rfl))
          (try simp only [Act.put, List.setIfInBounds_toArray, List.set_cons_zero, List.set_cons_succ])
          refine head_take 7 (v := ?_) rfl (by kernel_rfl) (by kernel_rfl) (fun _ _ _ h => h) (by assumption) (yields_if (by rfl) ?_) ?_
          rotate_left
          focus (intro w' hSw; (try dsimp only at hSw); go_simp; (try with_reducible rfl))
          (try simp only [Act.put, List.setIfInBounds_toArray, List.set_cons_zero, List.set_cons_succ])
          refine head_one 8 rfl (by kernel_rfl) (fun K hK => ?_)
          go_simp
          (go_at_call 60; ((with_reducible refine (HRq.out _).mono ?_); rintro r w5 ⟨rfl, g5⟩))
          have G5 : Ge wr w5 := Ge.trans (Ge.drew (Ge.refl _)) g5
          refine hK.out _ _ (G5.keep c0) (fun hHeld => ?_)
          clear hK K
          (try simp only [Act.put, List.setIfInBounds_toArray, List.set_cons_zero, List.set_cons_succ])
          refine head_one 9 rfl (by kernel_rfl) (fun K hK => ?_)
          go_simp
          refine hK.out _ _ (cell_alloc (G5.keep c0)) (fun hHeld => ?_)
          clear hK K
          (try simp only [Act.put, List.setIfInBounds_toArray, List.set_cons_zero, List.set_cons_succ])
          have G6 : Ge wr (w5.alloc (.cells #[.int .i64 P.n, .int .i64 P.d] 34)) := G5.alloc _
          have ow6 := G6.owns HOw.out
          have hz6 := G6.size
          refine head_one 10 rfl (by kernel_rfl) (fun K hK => ?_)
          rw [if_pos (by rfl)]
          refine ap_ratK _ _ rfl wa.heap.size u b L rfl ow6 (by omega) P.n P.d (b0 := w5.heap.size) rfl (cell_new rfl rfl) (cell_new rfl rfl) (by omega) ?_
          intro v8 w8 own8 m8
          obtain ⟨p8, c8, rfl⟩ := owns_form own8
          have t3 := mine_cell m8 (cell_alloc (o := .cells #[.int .i64 P.n, .int .i64 P.d] 34) (G5.keep c0)) (before_row HOw.out zG)
          have t4 := mine_frozY m8 (cell_alloc (o := .cells #[.int .i64 P.n, .int .i64 P.d] 34) (G5.keep c0)) (G6.keepF c0 cf) (before_row HOw.out zG)
          have HFin := Lib.hid (And.intro (cell_same (u := .slice p8 (b + 1) c8) t3) (And.intro (froz_set (b := ⟨wM.heap.size, a, none⟩) (u := .slice p8 (b + 1) c8) t4) (And.intro (owns_setY (o := a) own8 zG (.slice p8 (b + 1) c8)) (And.intro (((hy.ge ⟨_, c0⟩ G6).mine ow6 (Nat.le_refl _) m8).set (.slice p8 (b + 1) c8)) (Ge.setCell ((hgb.trans G6).mine ow6 (by omega) m8) (p := ⟨wM.heap.size, a, none⟩) (Nat.le_refl _) (.slice p8 (b + 1) c8))))))
          refine hK.out _ _ t3 (fun hHeld => ?_)
          clear hK K
          (try simp only [Act.put, List.setIfInBounds_toArray, List.set_cons_zero, List.set_cons_succ])
          refine head_take 11 (v := ?_) rfl (by kernel_rfl) (by kernel_rfl) (fun _ _ _ h => h) (by assumption) (yields_if (by rfl) ?_) ?_
          rotate_left
          focus (intro w' hSw; (try dsimp only at hSw); go_simp; (try with_reducible rfl))
          (try simp only [Act.put, List.setIfInBounds_toArray, List.set_cons_zero, List.set_cons_succ])
          refine head_done (by kernel_rfl) ?_
          go_wp2_with fail
          go_roundw
          case rel => exact ⟨b + 1, .slice p8 (b + 1) c8, by omega, by go_num, HFin.out.1, HFin.out.2.1, by rw [HSn.out]; exact HFin.out.2.2.1, HFin.out.2.2.2.1, HFin.out.2.2.2.2⟩
          case measure => simp [intOf]; omega
        · have hbe : b = e := by omega
          subst hbe
          obtain ⟨pu, cu, rfl⟩ := owns_form hown
          have HN := Lib.hid (RowsY.next HR.out hlt hy c0 (fun x hx => by cases hx) (Sl.of_owns hown))
          go_wp2_with fail
          go_roundw
          case rel => exact ⟨a + 1, by omega, by go_num, HN.out, hgb⟩
          case measure => simp [intOf]; omega
    · have hae : a = e := by omega
      subst hae
      have HR := Lib.hid hrows.rows
      clear hrows
      go_wp2_with fail
      exact bodyPost_ret (v := .tuple #[.slice (some ⟨wM.heap.size, 0, none⟩) a a, .bool true]) (by simp [results, Try.results91, go_sem, *]) rfl ⟨_, rfl, HR.out, by (repeat (first | with_reducible exact Ge.refl _ | assumption | with_reducible refine Ge.drew ?_ | with_reducible refine Ge.drewN ?_ _ | with_reducible refine Ge.alloc ?_ _ | (with_reducible refine Ge.setCell ?_ (by first | (simp; done) | omega | (simp; omega)) _) | with_reducible refine Ge.trans ?_ (by assumption)))⟩
end Go.Proofs.Ytppabikbepdobaa

namespace Go.Proofs.Ytppabikbepdobaa
set_option maxRecDepth 100000
open Go.ChangeShapes Go.WideShapes Go.ChangeAt Go.RowKit Go.Joins

theorem ap_ratL {w : World} {ops : Array Oper} {rest : List Oper} {o : Oper} {a : Act} {Q : Exit → Act → World → Prop} (hgd : o.guard = none) (s x : Operand)
    (ho : o.op = .call { callee := .builtin .append, args := #[s, x], argTypes := #[73, 73] })
    (base : Nat) (v : Value) (n : Nat) (l : List Int) (hs : a.eval s = v) (hown : w.ownsRow base 34 2 v n (icells l))
    (y z : Int) (hx : a.eval x = .slice (some ⟨w.heap.size, 0, none⟩) 1 1) (hn : n < 1000) (hb : base ≤ w.heap.size)
    (h : ∀ v' w', w'.ownsRow base 34 2 v' (n + 1) (icells (l ++ [y, z])) → Mine w w' v → wpList Try.prog ops Q rest (a.put o.dst v') w') :
    wpList Try.prog ops Q (o :: rest) a (w.alloc (.cells #[.int .i64 y, .int .i64 z] 34)) :=
  wpList_plain hgd fun _ hK => ap_ratK s x ho base v n l hs (hown.alloc _) (by simp; omega) y z hx (cell_new rfl rfl) (cell_new rfl rfl) hn (fun v' w' h1 h2 => hK _ _ (h v' w' h1 (Mine.alloc _ h2)))
theorem ap_litL {w : World} {ops : Array Oper} {rest : List Oper} {o : Oper} {a : Act} {Q : Exit → Act → World → Prop} (hgd : o.guard = none) (s x : Operand)
    (ho : o.op = .call { callee := .builtin .append, args := #[s, x], argTypes := #[64, 64] })
    (b : Nat) (y : Int) (hs : a.eval s = .slice (some ⟨b, 0, none⟩) 1 1) (base : Nat) (hown : w.ownsRow base 3 1 (.slice (some ⟨b, 0, none⟩) 1 1) 1 (icells [y])) (hb : base ≤ w.heap.size)
    (ad : Addr) (k c : Nat) (l : List Int) (hx : a.eval x = .slice (some ad) k c) (hy : SlI w (.slice (some ad) k c) l) (hn : k < 900)
    (h : ∀ g c' w', w'.ownsRow base 3 1 (.slice (some ⟨g, 0, none⟩) (k + 1) c') (k + 1) (icells (y :: l)) → Mine w w' (.slice (some ⟨b, 0, none⟩) 1 1) → (g = b ∨ g = w.heap.size) → wpList Try.prog ops Q rest (a.put o.dst (.slice (some ⟨g, 0, none⟩) (k + 1) c')) w') : wpList Try.prog ops Q (o :: rest) a w :=
  wpList_plain hgd fun _ hK => ap_lit s x ho b y hs base hown hb ad k c l hx hy hn (fun g c' w' h1 h2 h3 => hK _ _ (h g c' w' h1 h2 h3))
theorem apRowQ {w : World} {ops : Array Oper} {rest : List Oper} {o : Oper} {a : Act} {Q : Exit → Act → World → Prop} (hgd : o.guard = none) (s x : Operand)
    (ho : o.op = .call { callee := .builtin .append, args := #[s, x], argTypes := #[77, 77] })
    (base : Nat) (v : Value) (n : Nat) (l : List Value) (hs : a.eval s = v) (hown : w.ownsRow base 73 1 v n l)
    (y : Value) (hy : y.oneCell' = true) (hx : a.eval x = .slice (some ⟨w.heap.size, 0, none⟩) 1 1) (hn : n < 1000000) (hbase : base ≤ w.heap.size)
    (h : ∀ v' w', w'.ownsRow base 73 1 v' (n + 1) (l ++ [y]) → Mine w w' v → (v'.ownBlock = v.ownBlock ∨ ∃ k, v'.ownBlock = some k ∧ w.heap.size ≤ k) → wpList Try.prog ops Q rest (a.put o.dst v') w') :
    wpList Try.prog ops Q (o :: rest) a (w.alloc (.cells #[y] 73)) := by
  obtain ⟨i, hi1, hi2, hi3, hi4⟩ := info_parts inf_rowQ
  refine wpList_append_own_at _ hgd s x 77 ho base 73 i _ 1 24 Try.underlying77 hi1 hi2 hi3 hi4 (by decide) (by decide) v n l hs (hown.alloc _) ⟨w.heap.size, 0, none⟩ 1 1 [y] hx (by simp) ?_ (by simpa using hy) (by unfold maxLen; omega) (by omega) (by simp; omega) ?_
  · exact cell_one_new w y _
  · intro v' w' h2 h3 _ h5
    refine h v' w' h2 (Mine.alloc _ h3) ?_
    rcases h5 with h5 | h5
    · exact .inl h5
    · exact .inr ⟨_, h5, by simp⟩
/-- The rows of out. -/
def RowsT (w : World) (B n : Nat) (u : Value) (cs : List Value) (k : Nat) (D : Nat → List Int) : Prop :=
  w.ownsRow B 73 1 u k cs ∧ ∀ i, i < k → ∃ pr cr, cs[i]? = some (.slice pr n cr) ∧ w.ownsRow B 34 2 (.slice pr n cr) n (icells (D i)) ∧ (∀ q, u.ownBlock = some q → (Value.slice pr n cr).ownBlock ≠ some q)
theorem RowsT.ge {w w' : World} {B n : Nat} {u : Value} {cs : List Value} {k : Nat} {D : Nat → List Int} (h : RowsT w B n u cs k D) (hg : Ge w w') : RowsT w' B n u cs k D :=
  ⟨hg.owns h.1, fun i hi => by obtain ⟨pr, cr, h1, h2, h3⟩ := h.2 i hi; exact ⟨pr, cr, h1, hg.owns h2, h3⟩⟩
theorem RowsT.snoc {w0 w w' : World} {B n : Nat} {u v' row : Value} {cs : List Value} {k : Nat} {D : Nat → List Int} (h : RowsT w0 B n u cs k D) (hg : Ge w0 w)
    (hrow : w.ownsRow w0.heap.size 34 2 row n (icells (D k))) (hn : 0 < n) (hB : B ≤ w0.heap.size) (h2 : w'.ownsRow B 73 1 v' (k + 1) (cs ++ [row])) (hm : Mine w w' u)
    (hat : v'.ownBlock = u.ownBlock ∨ ∃ q, v'.ownBlock = some q ∧ w.heap.size ≤ q) : RowsT w' B n v' (cs ++ [row]) (k + 1) D := by
  have hcl : cs.length = k := by have := h.1.1; omega
  obtain ⟨g, cap, rfl⟩ := Go.Joins.ownsRow_form hrow hn
  have hlr := hrow.lt g rfl
  refine ⟨h2, fun i hi => ?_⟩
  by_cases e : i = k
  · subst e
    refine ⟨some ⟨g, 0, none⟩, cap, by rw [List.getElem?_append_right (by omega)]; simp [hcl], ?_, fun q hq e => ?_⟩
    · refine owns_mono (hrow.kept hm ?_) hB
      right
      intro e
      have := (h.1.lt g e.symm).2
      omega
    · have e' : q = g := by simp [Value.ownBlock] at e; exact e.symm
      subst e'
      rcases hat with hat | ⟨k', hk', hle⟩
      · rw [hat] at hq
        have := (h.1.lt q hq).2
        omega
      · rw [hk'] at hq
        have : k' = q := by simpa using hq
        omega
  · obtain ⟨pr, cr, h1, h3, h4⟩ := (h.ge hg).2 i (by omega)
    have hold := (h.2 i (by omega))
    refine ⟨pr, cr, by rw [List.getElem?_append_left (by omega)]; exact h1, ?_, fun q hq e => ?_⟩
    · refine h3.kept hm ?_
      right
      intro e
      cases hu : u.ownBlock with
      | none =>
        rw [hu] at e
        obtain ⟨g', cap', e'⟩ := Go.Joins.ownsRow_form h3 hn
        rw [e'] at e; simp [Value.ownBlock] at e
      | some q => exact h4 q hu (by rw [e, hu])
    · rcases hat with hat | ⟨k', hk', hle⟩
      · rw [hat] at hq
        exact h4 q hq e
      · rw [hk'] at hq
        have e' : k' = q := by simpa using hq
        have := (h3.lt q e).2
        omega
theorem RowsT.rows {w : World} {B n : Nat} {u : Value} {cs : List Value} {D : Nat → List Int} (h : RowsT w B n u cs n D) (hn : 0 < n) : SlRows w u n 2 D := by
  obtain ⟨g, cap, rfl⟩ := Go.Joins.ownsRow_form h.1 hn
  refine ⟨g, 0, cap, rfl, fun i hi => ?_⟩
  obtain ⟨pr, cr, h1, h2, _⟩ := h.2 i hi
  exact ⟨pr, cr, by rw [Nat.zero_add, h.1.cellAt i (by omega), h1], Sl.of_owns h2⟩

set_option maxHeartbeats 1600000 in
theorem sTop (n e : Nat) (S : Int) (s : Value) (m : Nat) (xs : List Int) (a b : Nat) (w : World) (hs : SlF w s m 3 xs) (hB : netB n e S m xs = true) (ha : a < e) (hb : b < e) :
    Calls Try.prog 118 #[.agg #[.int .i64 (n : Int), .int .i64 (e : Int), .int .i64 S, s], .int .i64 (a : Int), .int .i64 (b : Int)] w fun r w' => r = .returned (.int .i64 (topZ n e m xs a b)) ∧ Ge w w' := by
  obtain ⟨⟨h1, h5⟩, ⟨e1, e2⟩, ⟨s1, s2⟩, hok, _⟩ := netP_of hB
  have HV := Lib.hid hs
  obtain ⟨p, cap, rfl, _⟩ := hs.open
  have HL := Lib.hid (fun w' (g : Ge w w') => sLaplacianOf n e S (.slice p m cap) m xs w' (HV.out.ge g) hB)
  have HI := Lib.hid (fun w' => sInner n e S (.slice p m cap) w' rfl (by omega) (by omega))
  have HDt := Lib.hid (fun vL vR vC w' (hL : SlMM w' vL n (lapZ xs m)) (hR : SlI w' vR ((a : Int) :: innZ e (n - e))) (hC : SlI w' vC ((b : Int) :: innZ e (n - e))) (hvr : ∀ p k c, vR = .slice p k c → k ≤ c) (hvc : ∀ p k c, vC = .slice p k c → k ≤ c) => sL04DetE n (lapZ xs m) (lapZ_800 (by omega) hok) _ _ vL vR vC w' hL hR hC hvr hvc (by simp [innZ_length]; omega) (by simp [innZ_length]; omega) (cons_below (by omega) ha) (cons_below (by omega) hb))
  have HTm : Hid (detF (lapZ xs m) ((a : Int) :: innZ e (n - e)) ((b : Int) :: innZ e (n - e)) = topZ n e m xs a b) := rfl
  have hlI : (innZ e (n - e)).length = n - e := innZ_length e (n - e)
  rw [HTm.out] at HDt
  clear hs hok hB HTm ha hb
  generalize lapZ xs m = LZ at *
  generalize innZ e (n - e) = IZ at *
  generalize hk : n - e = k at *
  generalize topZ n e m xs a b = X at *
  go_enter Try.func118, Try.ntmps118
  go_wp2_with (first
    | ((go_at_call 145; ((with_reducible refine (HI.out _).mono ?_); rintro r wI ⟨ad, c, rfl, hkc, hI, gI⟩)); have b0 := Ge.keep gI (cell_new (i := 0) rfl rfl); have b1 := Ge.keep gI (cell_new (i := 1) rfl rfl); have b2 := Ge.keep gI (cell_new (i := 2) rfl rfl); have b3 := Ge.keep gI (cell_new (i := 3) rfl rfl); have z1 := gI.size; (simp at b0 b1 b2 b3 z1); replace hI := Lib.hid hI)
    | ((go_at_call 138; ((with_reducible refine (HL.out _ (by (repeat (first | with_reducible exact Ge.refl _ | assumption | with_reducible refine Ge.drew ?_ | with_reducible refine Ge.drewN ?_ _ | with_reducible refine Ge.alloc ?_ _ | (with_reducible refine Ge.setCell ?_ (by first | (simp; done) | omega | (simp; omega)) _) | with_reducible refine Ge.trans ?_ (by assumption))))).mono ?_); rintro r wL ⟨vL, rfl, hL, gL⟩)); replace hL := Lib.hid hL; have hIL := SlI.ge hI.out gL; replace hIL := Lib.hid hIL; have GL : Ge w wL := (by (repeat (first | with_reducible exact Ge.refl _ | assumption | with_reducible refine Ge.drew ?_ | with_reducible refine Ge.drewN ?_ _ | with_reducible refine Ge.alloc ?_ _ | (with_reducible refine Ge.setCell ?_ (by first | (simp; done) | omega | (simp; omega)) _) | with_reducible refine Ge.trans ?_ (by assumption)))))
    | (at_builtin; refine ap_litL rfl _ _ rfl wL.heap.size (a : Int) rfl wL.heap.size (owns_cons rfl (Nat.le_refl _)) (by simp) ad k c IZ rfl (SlI.ge hIL.out (Ge.alloc (Ge.refl _) _)) (by omega) ?_; intro g1 c1 w3 o1 m1 q1; have g3 : Ge wL w3 := (Ge.alloc (Ge.refl _) _).mine (owns_cons (base := wL.heap.size) rfl (Nat.le_refl _)) (Nat.le_refl _) m1; have z3 := g3.size)
    | (at_builtin; refine ap_litL rfl _ _ rfl w3.heap.size (b : Int) rfl wL.heap.size (owns_cons rfl z3) (by simp; omega) ad k c IZ rfl (SlI.ge hIL.out (Ge.alloc g3 _)) (by omega) ?_; intro g2 c2 w4 o2 m2 q2; have g4 : Ge wL w4 := (Ge.alloc g3 _).mine (owns_cons (base := wL.heap.size) rfl z3) (Nat.le_refl _) m2; have zg1 := (o1.lt g1 rfl).2; have o1' := (o1.alloc (.cells #[.int .i64 (b : Int)] 3)).kept m2 (.inr (by simp [Value.ownBlock]; omega)); have hR := SlI.owned o1'; have hC := SlI.owned o2)
    | (go_at_call 137; ((with_reducible refine (HDt.out _ _ _ _ (hL.out.ge g4) hR.1 hC.1 (capOf hR.2) (capOf hC.2)).mono ?_); rintro r w5 ⟨rfl, g5⟩)))
  go_ret
  exact ⟨rfl, by (repeat (first | with_reducible exact Ge.refl _ | assumption | with_reducible refine Ge.drew ?_ | with_reducible refine Ge.drewN ?_ _ | with_reducible refine Ge.alloc ?_ _ | (with_reducible refine Ge.setCell ?_ (by first | (simp; done) | omega | (simp; omega)) _) | with_reducible refine Ge.trans ?_ (by assumption)))⟩

set_option maxHeartbeats 1600000 in
theorem sDown (n e : Nat) (S : Int) (s : Value) (m : Nat) (xs : List Int) (w : World) (hs : SlF w s m 3 xs) (hB : netB n e S m xs = true) :
    Calls Try.prog 117 #[.agg #[.int .i64 (n : Int), .int .i64 (e : Int), .int .i64 S, s]] w fun r w' => r = .returned (.int .i64 (dwnZ n e m xs)) ∧ Ge w w' := by
  obtain ⟨⟨h1, h5⟩, ⟨e1, e2⟩, ⟨s1, s2⟩, hok, _⟩ := netP_of hB
  have HV := Lib.hid hs
  obtain ⟨p, cap, rfl, _⟩ := hs.open
  have HL := Lib.hid (fun w' (g : Ge w w') => sLaplacianOf n e S (.slice p m cap) m xs w' (HV.out.ge g) hB)
  have HI := Lib.hid (fun w' => sInner n e S (.slice p m cap) w' rfl (by omega) (by omega))
  have HD := Lib.hid (fun vL vR vC w' (hL : SlMM w' vL n (lapZ xs m)) (hR : SlI w' vR (innZ e (n - e))) (hC : SlI w' vC (innZ e (n - e))) (hvr : ∀ p k c, vR = .slice p k c → k ≤ c) (hvc : ∀ p k c, vC = .slice p k c → k ≤ c) => sL04DetE n (lapZ xs m) (lapZ_800 (by omega) hok) _ _ vL vR vC w' hL hR hC hvr hvc (by simp [innZ_length]; omega) (by simp [innZ_length]; omega) (innZ_below (by omega)) (innZ_below (by omega)))
  have HTm : Hid (detF (lapZ xs m) (innZ e (n - e)) (innZ e (n - e)) = dwnZ n e m xs) := rfl
  rw [HTm.out] at HD
  clear hs hok hB HTm
  generalize lapZ xs m = LZ at *
  generalize innZ e (n - e) = IZ at *
  generalize hk : n - e = k at *
  generalize dwnZ n e m xs = X at *
  go_enter Try.func117, Try.ntmps117
  go_wp2_with fail
  have hS : ∀ w', Ge (w.alloc (.cells #[.int .i64 (n : Int), .int .i64 (e : Int), .int .i64 S, .slice p m cap] 29)) w' → (w'.cell? ⟨w.heap.size, 0, none⟩ = some (.int .i64 (n : Int)) ∧ w'.cell? ⟨w.heap.size, 1, none⟩ = some (.int .i64 (e : Int)) ∧ w'.cell? ⟨w.heap.size, 2, none⟩ = some (.int .i64 S) ∧ w'.cell? ⟨w.heap.size, 3, none⟩ = some (.slice p m cap) ∧ Ge w w') := fun w' g => ⟨g.keep (by (repeat (first | assumption | with_reducible exact Ge.refl _ | with_reducible refine cv_drew ?_ | with_reducible refine cv_alloc ?_ | with_reducible refine cv_set ?_ | (with_reducible apply cv_some; assumption) | with_reducible refine cell_drew ?_ | with_reducible refine cell_drewN ?_ | ((with_reducible refine cell_new ?_ ?_); (focus (simp; done)); rfl) | with_reducible refine cell_alloc ?_ | with_reducible refine cell_same2 ?_ | ((with_reducible refine cell_set2 ?_ ?_); focus (first | (simp; done) | (intro hE; simp at hE; done) | (intro hE; simp at hE; omega))) | with_reducible refine Ge.drew ?_ | with_reducible refine Ge.drewN ?_ _ | with_reducible refine Ge.alloc ?_ _ | ((with_reducible refine Ge.setCell ?_ ?_ _); rotate_left; focus (first | (simp; done) | omega | (simp; omega))) | with_reducible refine Ge.trans ?_ (by assumption) | with_reducible refine Ge.keep (by assumption) ?_))), g.keep (by (repeat (first | assumption | with_reducible exact Ge.refl _ | with_reducible refine cv_drew ?_ | with_reducible refine cv_alloc ?_ | with_reducible refine cv_set ?_ | (with_reducible apply cv_some; assumption) | with_reducible refine cell_drew ?_ | with_reducible refine cell_drewN ?_ | ((with_reducible refine cell_new ?_ ?_); (focus (simp; done)); rfl) | with_reducible refine cell_alloc ?_ | with_reducible refine cell_same2 ?_ | ((with_reducible refine cell_set2 ?_ ?_); focus (first | (simp; done) | (intro hE; simp at hE; done) | (intro hE; simp at hE; omega))) | with_reducible refine Ge.drew ?_ | with_reducible refine Ge.drewN ?_ _ | with_reducible refine Ge.alloc ?_ _ | ((with_reducible refine Ge.setCell ?_ ?_ _); rotate_left; focus (first | (simp; done) | omega | (simp; omega))) | with_reducible refine Ge.trans ?_ (by assumption) | with_reducible refine Ge.keep (by assumption) ?_))), g.keep (by (repeat (first | assumption | with_reducible exact Ge.refl _ | with_reducible refine cv_drew ?_ | with_reducible refine cv_alloc ?_ | with_reducible refine cv_set ?_ | (with_reducible apply cv_some; assumption) | with_reducible refine cell_drew ?_ | with_reducible refine cell_drewN ?_ | ((with_reducible refine cell_new ?_ ?_); (focus (simp; done)); rfl) | with_reducible refine cell_alloc ?_ | with_reducible refine cell_same2 ?_ | ((with_reducible refine cell_set2 ?_ ?_); focus (first | (simp; done) | (intro hE; simp at hE; done) | (intro hE; simp at hE; omega))) | with_reducible refine Ge.drew ?_ | with_reducible refine Ge.drewN ?_ _ | with_reducible refine Ge.alloc ?_ _ | ((with_reducible refine Ge.setCell ?_ ?_ _); rotate_left; focus (first | (simp; done) | omega | (simp; omega))) | with_reducible refine Ge.trans ?_ (by assumption) | with_reducible refine Ge.keep (by assumption) ?_))), g.keep (by (repeat (first | assumption | with_reducible exact Ge.refl _ | with_reducible refine cv_drew ?_ | with_reducible refine cv_alloc ?_ | with_reducible refine cv_set ?_ | (with_reducible apply cv_some; assumption) | with_reducible refine cell_drew ?_ | with_reducible refine cell_drewN ?_ | ((with_reducible refine cell_new ?_ ?_); (focus (simp; done)); rfl) | with_reducible refine cell_alloc ?_ | with_reducible refine cell_same2 ?_ | ((with_reducible refine cell_set2 ?_ ?_); focus (first | (simp; done) | (intro hE; simp at hE; done) | (intro hE; simp at hE; omega))) | with_reducible refine Ge.drew ?_ | with_reducible refine Ge.drewN ?_ _ | with_reducible refine Ge.alloc ?_ _ | ((with_reducible refine Ge.setCell ?_ ?_ _); rotate_left; focus (first | (simp; done) | omega | (simp; omega))) | with_reducible refine Ge.trans ?_ (by assumption) | with_reducible refine Ge.keep (by assumption) ?_))), Ge.trans (by (repeat (first | assumption | with_reducible exact Ge.refl _ | with_reducible refine cv_drew ?_ | with_reducible refine cv_alloc ?_ | with_reducible refine cv_set ?_ | (with_reducible apply cv_some; assumption) | with_reducible refine cell_drew ?_ | with_reducible refine cell_drewN ?_ | ((with_reducible refine cell_new ?_ ?_); (focus (simp; done)); rfl) | with_reducible refine cell_alloc ?_ | with_reducible refine cell_same2 ?_ | ((with_reducible refine cell_set2 ?_ ?_); focus (first | (simp; done) | (intro hE; simp at hE; done) | (intro hE; simp at hE; omega))) | with_reducible refine Ge.drew ?_ | with_reducible refine Ge.drewN ?_ _ | with_reducible refine Ge.alloc ?_ _ | ((with_reducible refine Ge.setCell ?_ ?_ _); rotate_left; focus (first | (simp; done) | omega | (simp; omega))) | with_reducible refine Ge.trans ?_ (by assumption) | with_reducible refine Ge.keep (by assumption) ?_))) g⟩
  go_region_held3 (fun w' => w'.cell? ⟨w.heap.size, 0, none⟩ = some (.int .i64 (n : Int)) ∧ w'.cell? ⟨w.heap.size, 1, none⟩ = some (.int .i64 (e : Int)) ∧ w'.cell? ⟨w.heap.size, 2, none⟩ = some (.int .i64 S) ∧ w'.cell? ⟨w.heap.size, 3, none⟩ = some (.slice p m cap) ∧ Ge w w') (first | ((with_reducible refine hS _ ?_); (repeat (first | assumption | with_reducible exact Ge.refl _ | with_reducible refine cv_drew ?_ | with_reducible refine cv_alloc ?_ | with_reducible refine cv_set ?_ | (with_reducible apply cv_some; assumption) | with_reducible refine cell_drew ?_ | with_reducible refine cell_drewN ?_ | ((with_reducible refine cell_new ?_ ?_); (focus (simp; done)); rfl) | with_reducible refine cell_alloc ?_ | with_reducible refine cell_same2 ?_ | ((with_reducible refine cell_set2 ?_ ?_); focus (first | (simp; done) | (intro hE; simp at hE; done) | (intro hE; simp at hE; omega))) | with_reducible refine Ge.drew ?_ | with_reducible refine Ge.drewN ?_ _ | with_reducible refine Ge.alloc ?_ _ | ((with_reducible refine Ge.setCell ?_ ?_ _); rotate_left; focus (first | (simp; done) | omega | (simp; omega))) | with_reducible refine Ge.trans ?_ (by assumption) | with_reducible refine Ge.keep (by assumption) ?_)); done) | fail) (first | (go_at_call 138; ((with_reducible refine (HL.out _ (by (repeat (first | assumption | with_reducible exact Ge.refl _ | with_reducible refine cv_drew ?_ | with_reducible refine cv_alloc ?_ | with_reducible refine cv_set ?_ | (with_reducible apply cv_some; assumption) | with_reducible refine cell_drew ?_ | with_reducible refine cell_drewN ?_ | ((with_reducible refine cell_new ?_ ?_); (focus (simp; done)); rfl) | with_reducible refine cell_alloc ?_ | with_reducible refine cell_same2 ?_ | ((with_reducible refine cell_set2 ?_ ?_); focus (first | (simp; done) | (intro hE; simp at hE; done) | (intro hE; simp at hE; omega))) | with_reducible refine Ge.drew ?_ | with_reducible refine Ge.drewN ?_ _ | with_reducible refine Ge.alloc ?_ _ | ((with_reducible refine Ge.setCell ?_ ?_ _); rotate_left; focus (first | (simp; done) | omega | (simp; omega))) | with_reducible refine Ge.trans ?_ (by assumption) | with_reducible refine Ge.keep (by assumption) ?_)))).mono ?_); rintro r wL ⟨vL, rfl, hL, hb⟩)) | (go_at_call 145; have hI1' := hI1; ((with_reducible refine (HI.out _).mono ?_); rintro r wC ⟨ad2, c2, rfl, hkc2, hI2, hb⟩)) | (go_at_call 145; ((with_reducible refine (HI.out _).mono ?_); rintro r wR ⟨ad1, c1, rfl, hkc1, hI1, hb⟩)) | (go_at_call 137; ((with_reducible refine (HD.out _ _ _ _ (SlMM.ge hL (by (repeat (first | assumption | with_reducible exact Ge.refl _ | with_reducible refine cv_drew ?_ | with_reducible refine cv_alloc ?_ | with_reducible refine cv_set ?_ | (with_reducible apply cv_some; assumption) | with_reducible refine cell_drew ?_ | with_reducible refine cell_drewN ?_ | ((with_reducible refine cell_new ?_ ?_); (focus (simp; done)); rfl) | with_reducible refine cell_alloc ?_ | with_reducible refine cell_same2 ?_ | ((with_reducible refine cell_set2 ?_ ?_); focus (first | (simp; done) | (intro hE; simp at hE; done) | (intro hE; simp at hE; omega))) | with_reducible refine Ge.drew ?_ | with_reducible refine Ge.drewN ?_ _ | with_reducible refine Ge.alloc ?_ _ | ((with_reducible refine Ge.setCell ?_ ?_ _); rotate_left; focus (first | (simp; done) | omega | (simp; omega))) | with_reducible refine Ge.trans ?_ (by assumption) | with_reducible refine Ge.keep (by assumption) ?_)))) (SlI.ge hI1 (by (repeat (first | assumption | with_reducible exact Ge.refl _ | with_reducible refine cv_drew ?_ | with_reducible refine cv_alloc ?_ | with_reducible refine cv_set ?_ | (with_reducible apply cv_some; assumption) | with_reducible refine cell_drew ?_ | with_reducible refine cell_drewN ?_ | ((with_reducible refine cell_new ?_ ?_); (focus (simp; done)); rfl) | with_reducible refine cell_alloc ?_ | with_reducible refine cell_same2 ?_ | ((with_reducible refine cell_set2 ?_ ?_); focus (first | (simp; done) | (intro hE; simp at hE; done) | (intro hE; simp at hE; omega))) | with_reducible refine Ge.drew ?_ | with_reducible refine Ge.drewN ?_ _ | with_reducible refine Ge.alloc ?_ _ | ((with_reducible refine Ge.setCell ?_ ?_ _); rotate_left; focus (first | (simp; done) | omega | (simp; omega))) | with_reducible refine Ge.trans ?_ (by assumption) | with_reducible refine Ge.keep (by assumption) ?_)))) (SlI.ge hI2 (by (repeat (first | assumption | with_reducible exact Ge.refl _ | with_reducible refine cv_drew ?_ | with_reducible refine cv_alloc ?_ | with_reducible refine cv_set ?_ | (with_reducible apply cv_some; assumption) | with_reducible refine cell_drew ?_ | with_reducible refine cell_drewN ?_ | ((with_reducible refine cell_new ?_ ?_); (focus (simp; done)); rfl) | with_reducible refine cell_alloc ?_ | with_reducible refine cell_same2 ?_ | ((with_reducible refine cell_set2 ?_ ?_); focus (first | (simp; done) | (intro hE; simp at hE; done) | (intro hE; simp at hE; omega))) | with_reducible refine Ge.drew ?_ | with_reducible refine Ge.drewN ?_ _ | with_reducible refine Ge.alloc ?_ _ | ((with_reducible refine Ge.setCell ?_ ?_ _); rotate_left; focus (first | (simp; done) | omega | (simp; omega))) | with_reducible refine Ge.trans ?_ (by assumption) | with_reducible refine Ge.keep (by assumption) ?_)))) (capOf hkc1) (capOf hkc2)).mono ?_); rintro r wD ⟨rfl, hb⟩)) | fail)
  rename_i hHeldX
  obtain ⟨q0, q1, q2, q3, G7⟩ := hHeldX
  clear hS
  all_goals
    go_wp2_with fail
    go_ret
    exact ⟨rfl, by (repeat (first | with_reducible exact Ge.refl _ | assumption | with_reducible refine Ge.drew ?_ | with_reducible refine Ge.drewN ?_ _ | with_reducible refine Ge.alloc ?_ _ | (with_reducible refine Ge.setCell ?_ (by first | (simp; done) | omega | (simp; omega)) _) | with_reducible refine Ge.trans ?_ (by assumption)))⟩

set_option maxHeartbeats 1600000 in
theorem sResponseOfF (N E S : Int) (s : Value) (m : Nat) (xs : List Int) (w : World) (hs : SlF w s m 3 xs) (hm : m ≤ 9223372036854775807) (hB : netB N E S m xs = false) :
    Calls Try.prog 90 #[.agg #[.int .i64 N, .int .i64 E, .int .i64 S, s]] w fun r w' => r = .returned (.tuple #[.slice none 0 0, .bool false]) ∧ Ge w w' := by
  obtain ⟨p, cap, rfl, hc⟩ := hs.open
  have HV := Lib.hid hs
  clear hs hc
  have HNo := Lib.hid (fun w' (g : Ge w w') => sNetOk N E S (.slice p m cap) m xs w' (HV.out.ge g) hm)
  rw [hB] at HNo
  go_enter Try.func90, Try.ntmps90
  go_wp2_with (go_at_call 49; ((with_reducible refine (HNo.out _ (by (repeat (first | with_reducible exact Ge.refl _ | assumption | with_reducible refine Ge.drew ?_ | with_reducible refine Ge.drewN ?_ _ | with_reducible refine Ge.alloc ?_ _ | (with_reducible refine Ge.setCell ?_ (by first | (simp; done) | omega | (simp; omega)) _) | with_reducible refine Ge.trans ?_ (by assumption))))).mono ?_); rintro e w1 ⟨rfl, g1⟩))
  exact bodyPost_ret (v := .tuple #[.slice none 0 0, .bool false]) (by simp [results, Try.results90, go_sem, *]) rfl ⟨rfl, by (repeat (first | with_reducible exact Ge.refl _ | assumption | with_reducible refine Ge.drew ?_ | with_reducible refine Ge.drewN ?_ _ | with_reducible refine Ge.alloc ?_ _ | (with_reducible refine Ge.setCell ?_ (by first | (simp; done) | omega | (simp; omega)) _) | with_reducible refine Ge.trans ?_ (by assumption)))⟩

set_option maxHeartbeats 3200000 in
theorem sResponseOfT (n e : Nat) (S : Int) (s : Value) (m : Nat) (xs : List Int) (w : World) (hs : SlF w s m 3 xs) (hm : m ≤ 9223372036854775807) (hB : netB n e S m xs = true) :
    Calls Try.prog 90 #[.agg #[.int .i64 (n : Int), .int .i64 (e : Int), .int .i64 S, s]] w fun r w' => ∃ v, r = .returned (.tuple #[v, .bool true]) ∧ SlRows w' v e 2 (fun a => respL n e m S xs a e) ∧ Ge w w' := by
  obtain ⟨⟨h1, h5⟩, ⟨e1, e2⟩, ⟨s1, s2⟩, hok, _⟩ := netP_of hB
  obtain ⟨p, cap, rfl, hc⟩ := hs.open
  have HV := Lib.hid hs
  have HNo := Lib.hid (fun w' (g : Ge w w') => sNetOk n e S (.slice p m cap) m xs w' (HV.out.ge g) hm)
  rw [hB] at HNo
  have HDn := Lib.hid (fun w' (g : Ge w w') => sDown n e S (.slice p m cap) m xs w' (HV.out.ge g) hB)
  have HTp := Lib.hid (fun (a b : Nat) (ha : a < e) (hb : b < e) w' (g : Ge w w') => sTop n e S (.slice p m cap) m xs a b w' (HV.out.ge g) hB ha hb)
  have hbd := sdwn_bd (S := S) (by omega) hok (by omega : 1 ≤ e) s1 s2
  have hw2 : IntKind.i64.wrap (S * dwnZ n e m xs) = S * dwnZ n e m xs := IntWalk.i64_in _ (by omega)
  have hw1 : wrap64 (S * dwnZ n e m xs) = S * dwnZ n e m xs := wr64 _ (by omega) (by omega)
  have HRo := Lib.hid (fun (a b : Nat) w' => sRatioOf (topZ n e m xs a b) (S * dwnZ n e m xs) w' (by have := top_bd (n := n) (e := e) (by omega) hok (by omega) (by omega) a b; exact mid (by omega) (by omega)) (mid (by omega) (by omega)))
  obtain ⟨R, hR⟩ : ∃ R : Nat → Nat → List Int, R = fun a k => respL n e m S xs a k := ⟨_, rfl⟩
  have HR0 : Hid (∀ a, R a 0 = []) := by show ∀ a, _; intro a; rw [hR]; rfl
  have HRs : Hid (∀ a k, R a (k + 1) = R a k ++ [(ratioOf (topZ n e m xs a k) (S * dwnZ n e m xs)).n, (ratioOf (topZ n e m xs a k) (S * dwnZ n e m xs)).d]) := by show ∀ a k, _; intro a k; rw [hR]; rfl
  have HRe' : Hid ((fun a => respL n e m S xs a e) = fun a => R a e) := by show _ = _; rw [hR]
  rw [HRe'.out]
  clear hs hc hok hB hbd hR HRe'
  obtain ⟨T, hT⟩ : ∃ T : Nat → Nat → Int, T = fun a b => topZ n e m xs a b := ⟨_, rfl⟩
  have HT : Hid (∀ a b, topZ n e m xs a b = T a b) := by show ∀ a b, _; rw [hT]; exact fun _ _ => rfl
  simp only [HT.out] at HRo HRs HTp
  clear hT HT
  generalize dwnZ n e m xs = DZ at *
  go_enter Try.func90, Try.ntmps90
  go_wp2_with ((go_at_call 49; ((with_reducible refine (HNo.out _ (by (repeat (first | with_reducible exact Ge.refl _ | assumption | with_reducible refine Ge.drew ?_ | with_reducible refine Ge.drewN ?_ _ | with_reducible refine Ge.alloc ?_ _ | (with_reducible refine Ge.setCell ?_ (by first | (simp; done) | omega | (simp; omega)) _) | with_reducible refine Ge.trans ?_ (by assumption))))).mono ?_); rintro r w1 ⟨rfl, g1⟩)); have b0 := Ge.keep g1 (cell_new (i := 0) rfl rfl); have b1 := Ge.keep g1 (cell_new (i := 1) rfl rfl); have b2 := Ge.keep g1 (cell_new (i := 2) rfl rfl); have b3 := Ge.keep g1 (cell_new (i := 3) rfl rfl); have z1 := g1.size; (simp at b0 b1 b2 b3 z1))
  have G1 : Ge w w1 := by (repeat (first | with_reducible exact Ge.refl _ | assumption | with_reducible refine Ge.drew ?_ | with_reducible refine Ge.drewN ?_ _ | with_reducible refine Ge.alloc ?_ _ | (with_reducible refine Ge.setCell ?_ (by first | (simp; done) | omega | (simp; omega)) _) | with_reducible refine Ge.trans ?_ (by assumption)))
  have hS : ∀ w', Ge w1 w' → (w'.cell? ⟨w.heap.size, 0, none⟩ = some (.int .i64 (n : Int)) ∧ w'.cell? ⟨w.heap.size, 1, none⟩ = some (.int .i64 (e : Int)) ∧ w'.cell? ⟨w.heap.size, 2, none⟩ = some (.int .i64 S) ∧ w'.cell? ⟨w.heap.size, 3, none⟩ = some (.slice p m cap) ∧ Ge w1 w') := fun w' g => ⟨g.keep (by (repeat (first | assumption | with_reducible exact Ge.refl _ | with_reducible refine cv_drew ?_ | with_reducible refine cv_alloc ?_ | with_reducible refine cv_set ?_ | (with_reducible apply cv_some; assumption) | with_reducible refine cell_drew ?_ | with_reducible refine cell_drewN ?_ | ((with_reducible refine cell_new ?_ ?_); (focus (simp; done)); rfl) | with_reducible refine cell_alloc ?_ | with_reducible refine cell_same2 ?_ | ((with_reducible refine cell_set2 ?_ ?_); focus (first | (simp; done) | (intro hE; simp at hE; done) | (intro hE; simp at hE; omega))) | with_reducible refine Ge.drew ?_ | with_reducible refine Ge.drewN ?_ _ | with_reducible refine Ge.alloc ?_ _ | ((with_reducible refine Ge.setCell ?_ ?_ _); rotate_left; focus (first | (simp; done) | omega | (simp; omega))) | with_reducible refine Ge.trans ?_ (by assumption) | with_reducible refine Ge.keep (by assumption) ?_))), g.keep (by (repeat (first | assumption | with_reducible exact Ge.refl _ | with_reducible refine cv_drew ?_ | with_reducible refine cv_alloc ?_ | with_reducible refine cv_set ?_ | (with_reducible apply cv_some; assumption) | with_reducible refine cell_drew ?_ | with_reducible refine cell_drewN ?_ | ((with_reducible refine cell_new ?_ ?_); (focus (simp; done)); rfl) | with_reducible refine cell_alloc ?_ | with_reducible refine cell_same2 ?_ | ((with_reducible refine cell_set2 ?_ ?_); focus (first | (simp; done) | (intro hE; simp at hE; done) | (intro hE; simp at hE; omega))) | with_reducible refine Ge.drew ?_ | with_reducible refine Ge.drewN ?_ _ | with_reducible refine Ge.alloc ?_ _ | ((with_reducible refine Ge.setCell ?_ ?_ _); rotate_left; focus (first | (simp; done) | omega | (simp; omega))) | with_reducible refine Ge.trans ?_ (by assumption) | with_reducible refine Ge.keep (by assumption) ?_))), g.keep (by (repeat (first | assumption | with_reducible exact Ge.refl _ | with_reducible refine cv_drew ?_ | with_reducible refine cv_alloc ?_ | with_reducible refine cv_set ?_ | (with_reducible apply cv_some; assumption) | with_reducible refine cell_drew ?_ | with_reducible refine cell_drewN ?_ | ((with_reducible refine cell_new ?_ ?_); (focus (simp; done)); rfl) | with_reducible refine cell_alloc ?_ | with_reducible refine cell_same2 ?_ | ((with_reducible refine cell_set2 ?_ ?_); focus (first | (simp; done) | (intro hE; simp at hE; done) | (intro hE; simp at hE; omega))) | with_reducible refine Ge.drew ?_ | with_reducible refine Ge.drewN ?_ _ | with_reducible refine Ge.alloc ?_ _ | ((with_reducible refine Ge.setCell ?_ ?_ _); rotate_left; focus (first | (simp; done) | omega | (simp; omega))) | with_reducible refine Ge.trans ?_ (by assumption) | with_reducible refine Ge.keep (by assumption) ?_))), g.keep (by (repeat (first | assumption | with_reducible exact Ge.refl _ | with_reducible refine cv_drew ?_ | with_reducible refine cv_alloc ?_ | with_reducible refine cv_set ?_ | (with_reducible apply cv_some; assumption) | with_reducible refine cell_drew ?_ | with_reducible refine cell_drewN ?_ | ((with_reducible refine cell_new ?_ ?_); (focus (simp; done)); rfl) | with_reducible refine cell_alloc ?_ | with_reducible refine cell_same2 ?_ | ((with_reducible refine cell_set2 ?_ ?_); focus (first | (simp; done) | (intro hE; simp at hE; done) | (intro hE; simp at hE; omega))) | with_reducible refine Ge.drew ?_ | with_reducible refine Ge.drewN ?_ _ | with_reducible refine Ge.alloc ?_ _ | ((with_reducible refine Ge.setCell ?_ ?_ _); rotate_left; focus (first | (simp; done) | omega | (simp; omega))) | with_reducible refine Ge.trans ?_ (by assumption) | with_reducible refine Ge.keep (by assumption) ?_))), Ge.trans (by (repeat (first | assumption | with_reducible exact Ge.refl _ | with_reducible refine cv_drew ?_ | with_reducible refine cv_alloc ?_ | with_reducible refine cv_set ?_ | (with_reducible apply cv_some; assumption) | with_reducible refine cell_drew ?_ | with_reducible refine cell_drewN ?_ | ((with_reducible refine cell_new ?_ ?_); (focus (simp; done)); rfl) | with_reducible refine cell_alloc ?_ | with_reducible refine cell_same2 ?_ | ((with_reducible refine cell_set2 ?_ ?_); focus (first | (simp; done) | (intro hE; simp at hE; done) | (intro hE; simp at hE; omega))) | with_reducible refine Ge.drew ?_ | with_reducible refine Ge.drewN ?_ _ | with_reducible refine Ge.alloc ?_ _ | ((with_reducible refine Ge.setCell ?_ ?_ _); rotate_left; focus (first | (simp; done) | omega | (simp; omega))) | with_reducible refine Ge.trans ?_ (by assumption) | with_reducible refine Ge.keep (by assumption) ?_))) g⟩
  go_region_held3 (fun w' => w'.cell? ⟨w.heap.size, 0, none⟩ = some (.int .i64 (n : Int)) ∧ w'.cell? ⟨w.heap.size, 1, none⟩ = some (.int .i64 (e : Int)) ∧ w'.cell? ⟨w.heap.size, 2, none⟩ = some (.int .i64 S) ∧ w'.cell? ⟨w.heap.size, 3, none⟩ = some (.slice p m cap) ∧ Ge w1 w') (first | ((with_reducible refine hS _ ?_); (repeat (first | assumption | with_reducible exact Ge.refl _ | with_reducible refine cv_drew ?_ | with_reducible refine cv_alloc ?_ | with_reducible refine cv_set ?_ | (with_reducible apply cv_some; assumption) | with_reducible refine cell_drew ?_ | with_reducible refine cell_drewN ?_ | ((with_reducible refine cell_new ?_ ?_); (focus (simp; done)); rfl) | with_reducible refine cell_alloc ?_ | with_reducible refine cell_same2 ?_ | ((with_reducible refine cell_set2 ?_ ?_); focus (first | (simp; done) | (intro hE; simp at hE; done) | (intro hE; simp at hE; omega))) | with_reducible refine Ge.drew ?_ | with_reducible refine Ge.drewN ?_ _ | with_reducible refine Ge.alloc ?_ _ | ((with_reducible refine Ge.setCell ?_ ?_ _); rotate_left; focus (first | (simp; done) | omega | (simp; omega))) | with_reducible refine Ge.trans ?_ (by assumption) | with_reducible refine Ge.keep (by assumption) ?_)); done) | fail) (first | (go_at_call 117; ((with_reducible refine (HDn.out _ (Ge.trans G1 (by (repeat (first | assumption | with_reducible exact Ge.refl _ | with_reducible refine cv_drew ?_ | with_reducible refine cv_alloc ?_ | with_reducible refine cv_set ?_ | (with_reducible apply cv_some; assumption) | with_reducible refine cell_drew ?_ | with_reducible refine cell_drewN ?_ | ((with_reducible refine cell_new ?_ ?_); (focus (simp; done)); rfl) | with_reducible refine cell_alloc ?_ | with_reducible refine cell_same2 ?_ | ((with_reducible refine cell_set2 ?_ ?_); focus (first | (simp; done) | (intro hE; simp at hE; done) | (intro hE; simp at hE; omega))) | with_reducible refine Ge.drew ?_ | with_reducible refine Ge.drewN ?_ _ | with_reducible refine Ge.alloc ?_ _ | ((with_reducible refine Ge.setCell ?_ ?_ _); rotate_left; focus (first | (simp; done) | omega | (simp; omega))) | with_reducible refine Ge.trans ?_ (by assumption) | with_reducible refine Ge.keep (by assumption) ?_))))).mono ?_); rintro r wD ⟨rfl, hb⟩)) | fail)
  rename_i hHeldX
  obtain ⟨q0, q1, q2, q3, G7⟩ := hHeldX
  clear hS
  have GD : Ge w wD := Ge.trans G1 G7
  have Q0 := Lib.hid q0
  have Q1 := Lib.hid q1
  have Q2 := Lib.hid q2
  have Q3 := Lib.hid q3
  generalize S * DZ = SD at *
  clear q0 q1 q2 q3 b0 b1 b2 b3 hb
  go_wp2_with fail
  go_loopw [5, 6] (fun o i' wr => ∃ (a : Nat) (cs : List Value), a ≤ e ∧ i' = .int .i64 a ∧ RowsT wr wD.heap.size e o cs a (fun a => R a e) ∧ Ge wD wr) (fun _ i _ => e - (intOf i).toNat)
  case atStart => exact ⟨0, [], Nat.zero_le _, rfl, ⟨owns_lit0 _ _ _, fun i hi => by omega⟩, Ge.alloc (Ge.refl _) _⟩
  case round =>
    obtain ⟨a, cs, ha, rfl, HR, hg⟩ := hrel
    have HRa := Lib.hid HR
    clear HR
    have c1a := hg.keep Q1.out
    have zg := hg.size
    by_cases hlt : a < e
    · go_wp2_with fail
      obtain ⟨wa, hwa⟩ : ∃ wa, wa = wr := ⟨_, rfl⟩
      subst hwa
      go_loopw [7, 8] (fun r j' wr => ∃ b : Nat, b ≤ e ∧ j' = .int .i64 b ∧ wr.ownsRow wa.heap.size 34 2 r b (icells (R a b)) ∧ Ge wa wr) (fun _ j _ => e - (intOf j).toNat)
      case atStart => exact ⟨0, Nat.zero_le _, rfl, by rw [HR0.out]; exact owns_lit0 _ _ _, Ge.alloc (Ge.refl _) _⟩
      case round =>
        obtain ⟨b, hb, rfl, hown, hgb⟩ := hrel
        have c1b := hgb.keep c1a
        by_cases hbn : b < e
        · have gD := Ge.trans hg hgb
          have c0b := gD.keep Q0.out
          have c2b := gD.keep Q2.out
          have c3b := gD.keep Q3.out
          have HOw := Lib.hid hown
          have HSn := Lib.hid (HRs.out a b)
          have HRq := Lib.hid (HRo.out a b)
          have HTq := Lib.hid (HTp.out a b hlt hbn)
          have gwr : Ge w wr := Ge.trans GD gD
          have zgb := hgb.size
          clear hown
          generalize R a b = L at *
          generalize T a b = X at *
          generalize ratioOf X SD = P at *
          go_wp2_with (first
            | ((go_at_call 118; ((with_reducible refine (HTq.out _ gwr).mono ?_); rintro r w5 ⟨rfl, g5⟩)))
            | ((go_at_call 56; ((with_reducible refine (HRq.out _).mono ?_); rintro r w6 ⟨rfl, g6⟩)); have G6 : Ge wr w6 := Ge.trans g5 g6; have ow6 := G6.owns HOw.out; have z6 := G6.size)
            | (at_builtin; refine ap_ratL rfl _ _ rfl wa.heap.size _ b L rfl ow6 P.n P.d rfl (by omega) (by omega) ?_; intro v8 w8 own8 m8))
          go_roundw
          case rel => exact ⟨b + 1, by omega, by go_num, by rw [HSn.out]; exact own8, (Ge.trans hgb G6).mine ow6 (Nat.le_refl _) m8⟩
          case measure => simp [intOf]; omega
        · have hbe : b = e := by omega
          subst hbe
          have HO := Lib.hid hown
          clear hown
          have own9 := HRa.out.ge hgb
          have OA := Lib.hid own9.1
          have zb := hgb.size
          obtain ⟨g, cap', rfl⟩ := Go.Joins.ownsRow_form HO.out (by omega)
          go_wp2_with (at_builtin; refine apRowQ rfl _ _ rfl wD.heap.size _ a cs rfl OA.out _ (by rfl) rfl (by omega) (by omega) ?_; intro v6 w6 own6 hm6 hat6)
          go_roundw
          case rel => exact ⟨a + 1, _, by omega, by go_num, RowsT.snoc HRa.out hgb HO.out (by omega) zg own6 hm6 hat6, (Ge.trans hg hgb).mine OA.out (Nat.le_refl _) hm6⟩
          case measure => simp [intOf]; omega
    · have hae : a = e := by omega
      subst hae
      go_wp2_with fail
      exact bodyPost_ret (by simp [results, Try.results90, go_sem, *]) rfl ⟨_, rfl, HRa.out.rows (by omega), by (repeat (first | with_reducible exact Ge.refl _ | assumption | with_reducible refine Ge.drew ?_ | with_reducible refine Ge.drewN ?_ _ | with_reducible refine Ge.alloc ?_ _ | (with_reducible refine Ge.setCell ?_ (by first | (simp; done) | omega | (simp; omega)) _) | with_reducible refine Ge.trans ?_ (by assumption)))⟩
end Go.Proofs.Ytppabikbepdobaa
