/- without of impl: a table without a row and a column. No condition. -/
import Derived.Test.YtipiiimemmkdgaaWLapS
import Derived.Test.YtipiiimemmkdgaaWMatO
import Derived.Test.YtipiiimemmkdgaaWDet0
import Derived.Test.YtipiiimemmkdgaaPlMesh2
namespace Go.Proofs.Ytipiiimemmkdgaa
set_option maxRecDepth 100000
open Go.ChangeShapes Go.WideShapes Go.ChangeAt Go.RowKit Go.Joins

theorem owns_less {w : World} {b e g n c k : Nat} {xs : List Value} (h : w.ownsRow b e 1 (.slice (some ⟨g, 0, none⟩) n c) n xs) (hk : k ≤ n) : w.ownsRow b e 1 (.slice (some ⟨g, 0, none⟩) k c) k (xs.take k) := by
  rcases h.2 with ⟨h', _⟩ | ⟨g', cap', cur, h', hb, hg, hnc, hcm, hcs, htake⟩
  · simp at h'
  · simp only [Value.slice.injEq, Option.some.injEq, Addr.mk.injEq, and_true, true_and] at h'
    obtain ⟨rfl, rfl⟩ := h'
    refine ⟨?_, .inr ⟨g, c, cur, rfl, hb, hg, by omega, hcm, hcs, ?_⟩⟩
    · have := h.1
      rw [List.length_take]; omega
    · rw [← htake, List.take_take, Nat.mul_one, Nat.mul_one, Nat.min_eq_left hk]
theorem deleteO (base g n c j : Nat) (l : List Int) (w : World) (h : w.ownsRow base 3 1 (.slice (some ⟨g, 0, none⟩) n c) n (icells l)) (hj : j < n) (hm : n ≤ 1000) :
    Calls Try.prog 51 #[.slice (some ⟨g, 0, none⟩) n c, .int .i64 (j : Int), .int .i64 ((j : Int) + 1)] w fun e w' =>
      e = .returned (.slice (some ⟨g, 0, none⟩) (n - 1) c) ∧ w'.ownsRow base 3 1 (.slice (some ⟨g, 0, none⟩) (n - 1) c) (n - 1) (icells (l.eraseIdx j)) ∧ ∀ w0, Ge w0 w → w0.heap.size ≤ g → Ge w0 w' := by
  have hl : l.length = n := by have := h.1; rw [icells_length] at this; omega
  have hcap : n ≤ c ∧ c ≤ 9223372036854775807 := by
    rcases h.2 with ⟨h', _⟩ | ⟨g', cap', cur, h', _, _, hnc, hmx, _⟩
    · simp at h'
    · simp at h'
      unfold maxLen at hmx
      omega
  have hcell : ∀ k, k < l.length → w.cell? ⟨g, 0 + k, none⟩ = some (.int .i64 (l.getD k 0)) := fun k hk => by
    rw [Nat.zero_add, h.cellAt k (by omega)]
    simp [icells, List.getD, hk]
  have hfr : ∀ k, k < n → w.frozen? ⟨g, 0 + k, none⟩ = false := fun k _ => by rw [Nat.zero_add]; exact h.frozenAt k
  have key := Try.slices_Delete_int_cells g 0 n c j (j + 1) l w (by omega) hcap.1 hcap.2 (by omega) (by omega) hcell hfr
  have e1 : ((j + 1 : Nat) : Int) = (j : Int) + 1 := by omega
  rw [e1] at key
  refine key.mono ?_
  rintro e w' ⟨he, q, hw⟩
  have e2 : j + 1 - j = 1 := by omega
  have e3 : l.take n = l := by rw [← hl]; exact List.take_length
  rw [e2] at he hw
  rw [e3] at hw
  have hown : (w.drewN q).ownsRow base 3 1 (.slice (some ⟨g, 0, none⟩) n c) n (icells l) := Ge.owns ((Ge.refl w).drewN q) h
  have e4 : l.take j ++ l.drop (j + 1) = l.eraseIdx j := by rw [List.eraseIdx_eq_take_drop_succ]
  rw [e4] at hw
  have hlen : (l.eraseIdx j).length = n - 1 := by rw [List.length_eraseIdx]; simp [hl, hj]
  have h2 := own_setCells (l.eraseIdx j ++ List.replicate 1 0) 0 (w.drewN q) l hown hl (by simp [hlen]; omega)
  rw [← hw] at h2
  have h3 := owns_less (k := n - 1) h2.1 (by omega)
  have e5 : (icells (l.take 0 ++ (l.eraseIdx j ++ List.replicate 1 0))).take (n - 1) = icells (l.eraseIdx j) := by
    simp only [List.take_zero, List.nil_append, icells, List.map_append]
    rw [List.take_append_of_le_length (by simp [hlen]), List.take_of_length_le (by simp [hlen])]
  refine ⟨he, ?_, fun w0 hg0 hgs => (hg0.drewN q).grown h2.2 (fun k hk => by simp at hk; omega)⟩
  rw [← e5]
  exact h3
theorem mapR_erase (n v : Nat) (F : Nat → Int) (hv : v < n) : (mapR n F).eraseIdx v = mapR (n - 1) (fun b => F (upI v b)) := by
  have hl : ((mapR n F).eraseIdx v).length = n - 1 := by rw [List.length_eraseIdx, mapR_length, if_pos hv]
  refine nth_ext (by rw [hl, mapR_length]) (fun j hj => ?_)
  rw [hl] at hj
  rw [mapR_nth hj, nth_eq _ j (by omega), List.getElem_eraseIdx]
  unfold upI
  split
  · rw [← nth_eq _ j (by rw [mapR_length]; omega), mapR_nth (by omega)]
  · rw [← nth_eq _ (j + 1) (by rw [mapR_length]; omega), mapR_nth (by omega)]
/-- The rows that are there behind i. -/
def rowN (v i : Nat) : Nat := if i ≤ v then i else i - 1
theorem rowN_v (v : Nat) : rowN v (v + 1) = rowN v v := by simp [rowN]
theorem rowN_n {v i : Nat} (h : ¬ i = v) : rowN v (i + 1) = rowN v i + 1 ∧ upI v (rowN v i) = i := by
  unfold rowN upI
  split <;> split <;> split <;> omega
theorem rowN_all {v n : Nat} (h : v < n) : rowN v n = n - 1 := by unfold rowN; split <;> omega
theorem rowN_le (v i : Nat) : rowN v i ≤ i := by unfold rowN; split <;> omega

set_option maxHeartbeats 3200000 in
theorem iWithout (n v : Nat) (T : Int → Int → Int) (vm : Value) (w : World) (hm : SlMM w vm n T) (hn : 2 ≤ n) (h5 : n ≤ 5) (hv : v < n) :
    Calls Try.prog 69 #[vm, .int .i64 (v : Int)] w fun r w' => ∃ u, r = .returned u ∧ SlMM w' u (n - 1) (fun a b => T (upI v a.toNat) (upI v b.toNat)) ∧ Ge w w' := by
  obtain ⟨pm, cm, rfl, hmc⟩ := hm
  have HMC := Lib.hid hmc
  obtain ⟨M, hM⟩ : ∃ M : Nat → Nat → Int, M = fun (a b : Nat) => T (upI v a) (upI v b) := ⟨_, rfl⟩
  have HM : Hid (∀ i, ¬ i = v → mapR (n - 1) (M (rowN v i)) = (mapR n (fun j => T i j)).eraseIdx v) := fun i hi => by
    show _ = _
    rw [mapR_erase n v _ hv, hM]
    refine mapR_congr (fun b _ => ?_)
    show T (upI v (rowN v i)) (upI v b) = T i (upI v b)
    rw [(rowN_n hi).2]
  have HMz : Hid (∀ a b : Nat, M a b = (fun (a b : Int) => T (upI v a.toNat) (upI v b.toNat)) a b) := fun a b => by simp [hM]
  clear hM hmc
  go_enter Try.func69, Try.ntmps69
  go_wp2_with fail
  go_loopw [5, 11] (fun o i' wr => ∃ (a : Nat) (cs : List Value), a ≤ n ∧ i' = .int .i64 a ∧ RowsS wr w.heap.size (n - 1) o cs (rowN v a) M ∧ Ge w wr) (fun _ i _ => n - (intOf i).toNat)
  case atStart => exact ⟨0, [], Nat.zero_le _, rfl, ⟨owns_lit0 _ _ _, fun i hi => by simp [rowN] at hi⟩, by (repeat (first | with_reducible exact Ge.refl _ | assumption | with_reducible refine Ge.drew ?_ | with_reducible refine Ge.drewN ?_ _ | with_reducible refine Ge.alloc ?_ _ | (with_reducible refine Ge.setCell ?_ (by first | (simp; done) | omega | (simp; omega)) _) | with_reducible refine Ge.trans ?_ (by assumption)))⟩
  case round =>
    obtain ⟨a, cs, ha, rfl, HR, hg⟩ := hrel
    have HRa := Lib.hid HR
    clear HR
    by_cases hlt : a < n
    · obtain ⟨b, o, pr, cr, rfl, x0, hrow⟩ := HMC.out a hlt
      have x1 := hg.keep x0
      by_cases hav : a = v
      · subst hav
        have HRn := Lib.hid (rowN_v a)
        go_wp2_with fail
        go_roundw
        case rel => exact ⟨a + 1, cs, by omega, by go_num, by rw [HRn.out]; exact HRa.out, hg⟩
        case measure => simp [intOf]; omega
      · have t : ((a : Int) != (v : Int)) = true := by simp; omega
        have HRn := Lib.hid (rowN_n hav)
        have HMa := Lib.hid (HM.out a hav)
        have hrl := rowN_le v a
        have HCl := Lib.hid (fun w' (g : Ge w w') => cloneC (.slice pr n cr) (mapR n (fun j => T a j)) w' (⟨by rw [icells_length, mapR_length, Nat.mul_one], pr, cr, by rw [mapR_length], fun j u hu => by
          have hj : j < n := by have := (List.getElem?_eq_some_iff.1 hu).1; rwa [icells_length, mapR_length] at this
          obtain ⟨br, or', hp, hc⟩ := hrow j hj
          refine ⟨br, or', hp, ?_⟩
          rw [g.keep hc, ← hu, icells, List.getElem?_map, List.getElem?_eq_getElem (by rw [mapR_length]; exact hj), ← nth_eq _ j (by rw [mapR_length]; exact hj), mapR_nth hj]
          rfl⟩) (by rw [mapR_length]; omega) (by rw [mapR_length]; omega))
        rw [mapR_length] at HCl
        have HDl := Lib.hid (fun base g c w' h => deleteO base g n c v (mapR n (fun j => T a j)) w' h hv (by omega))
        rw [← HMa.out] at HDl
        clear hrow
        generalize mapR n (fun j => T (a : Int) j) = R at *
        go_wp2_with (first
          | (go_at_call 52; ((with_reducible refine (HCl.out _ hg).mono ?_); rintro e wC ⟨gC, cC, rfl, oC, hb⟩))
          | (go_at_call 51; ((with_reducible refine (HDl.out _ _ _ _ oC).mono ?_); rintro e wE ⟨rfl, sE, gE⟩); have gr := gE wr hb (oC.lt gC rfl).1; have OA := Lib.hid (gr.owns HRa.out.1); have zr := gr.size; have zg := hg.size)
          | (at_builtin; refine apRow rfl _ _ rfl w.heap.size _ (rowN v a) cs rfl OA.out _ (by rfl) rfl (by omega) (by omega) ?_; intro v6 w6 own6 hm6 hat6))
        go_roundw
        case rel => exact ⟨a + 1, _, by omega, by go_num, by rw [HRn.out.1]; exact RowsS.snoc HRa.out gr sE (by omega) hg.size own6 hm6 hat6, (Ge.trans hg gr).mine OA.out (Nat.le_refl _) hm6⟩
        case measure => simp [intOf]; omega
    · have han : a = n := by omega
      subst han
      have HRn := Lib.hid (rowN_all hv)
      have hR := HRa.out
      rw [HRn.out] at hR
      have HS := Lib.hid (RowsS.slMM (Z := fun (a b : Int) => T (upI v a.toNat) (upI v b.toNat)) hR (by omega) HMz.out)
      clear hR
      go_wp2_with fail
      go_ret
      exact ⟨_, rfl, HS.out, hg⟩
end Go.Proofs.Ytipiiimemmkdgaa
