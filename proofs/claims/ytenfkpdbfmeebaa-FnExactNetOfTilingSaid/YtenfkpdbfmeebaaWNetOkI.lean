/- NetOk of impl. No condition. -/
import Derived.Test.YtenfkpdbfmeebaaPlNetOk
import Derived.Test.YtenfkpdbfmeebaaWTile
import Derived.Test.YtenfkpdbfmeebaaWToInt
import Derived.Deep.DeepCutAuto
namespace Go.Proofs.Ytenfkpdbfmeebaa
set_option maxRecDepth 100000
open Go.ChangeShapes Go.WideShapes Go.ChangeAt Go.RowKit Go.Joins

set_option maxHeartbeats 800000 in
theorem iByEnds (a1 b1 s1 a2 b2 s2 : Int) (w : World) :
    Calls Try.prog 68 #[.agg #[.int .i64 a1, .int .i64 b1, .int .i64 s1], .agg #[.int .i64 a2, .int .i64 b2, .int .i64 s2]] w fun e w' => e = .returned (.int .i64 (cmpSq b1 a1 b2 a2)) ∧ Ge w w' := by
  go_enter Try.func68, Try.ntmps68
  go_wp2_with fail
  go_region_held3 (fun w' => w'.cell? ⟨w.heap.size, 0, none⟩ = some (.int .i64 a1) ∧ w'.cell? ⟨w.heap.size, 1, none⟩ = some (.int .i64 b1) ∧ w'.cell? ⟨w.heap.size, 2, none⟩ = some (.int .i64 s1) ∧ w'.cell? ⟨w.heap.size + 1, 0, none⟩ = some (.int .i64 a2) ∧ w'.cell? ⟨w.heap.size + 1, 1, none⟩ = some (.int .i64 b2) ∧ w'.cell? ⟨w.heap.size + 1, 2, none⟩ = some (.int .i64 s2) ∧ Ge w w') (first | exact ⟨hb.keep (‹_ ∧ _ ∧ _ ∧ _ ∧ _ ∧ _ ∧ _›).1, hb.keep (‹_ ∧ _ ∧ _ ∧ _ ∧ _ ∧ _ ∧ _›).2.1, hb.keep (‹_ ∧ _ ∧ _ ∧ _ ∧ _ ∧ _ ∧ _›).2.2.1, hb.keep (‹_ ∧ _ ∧ _ ∧ _ ∧ _ ∧ _ ∧ _›).2.2.2.1, hb.keep (‹_ ∧ _ ∧ _ ∧ _ ∧ _ ∧ _ ∧ _›).2.2.2.2.1, hb.keep (‹_ ∧ _ ∧ _ ∧ _ ∧ _ ∧ _ ∧ _›).2.2.2.2.2.1, Ge.trans (‹_ ∧ _ ∧ _ ∧ _ ∧ _ ∧ _ ∧ _›).2.2.2.2.2.2 hb⟩ | ((refine ⟨?_, ?_, ?_, ?_, ?_, ?_, ?_⟩ <;> (repeat (first | assumption | with_reducible exact Ge.refl _ | with_reducible refine cv_drew ?_ | with_reducible refine cv_alloc ?_ | with_reducible refine cv_set ?_ | with_reducible refine cell_drew ?_ | ((with_reducible refine cell_new ?_ ?_); (focus (simp; done)); rfl) | ((with_reducible refine froz_new (v := undef) ?_ ?_); (focus (simp; done)); rfl) | with_reducible refine cell_drewN ?_ | with_reducible refine cell_alloc ?_ | ((with_reducible refine cell_set ?_ ?_); rotate_left; focus (simp; done)) | with_reducible refine froz_drew ?_ | with_reducible refine froz_set ?_ | with_reducible refine froz_alloc (by assumption) ?_ | with_reducible refine Ge.drew ?_ | with_reducible refine Ge.drewN ?_ _ | with_reducible refine Ge.alloc ?_ _ | ((with_reducible refine Ge.setCell ?_ ?_ _); rotate_left; focus (first | (simp; done) | omega | (simp; omega))) | with_reducible refine Ge.trans ?_ (by assumption)))); done) | ((obtain ⟨s0, s1, s2, s3, s4, s5, s6⟩ := ‹_ ∧ _ ∧ _ ∧ _ ∧ _ ∧ _ ∧ _›); refine ⟨?_, ?_, ?_, ?_, ?_, ?_, ?_⟩ <;> (repeat (first | assumption | with_reducible exact Ge.refl _ | with_reducible refine cv_drew ?_ | with_reducible refine cv_alloc ?_ | with_reducible refine cv_set ?_ | with_reducible refine cell_drew ?_ | ((with_reducible refine cell_new ?_ ?_); (focus (simp; done)); rfl) | ((with_reducible refine froz_new (v := undef) ?_ ?_); (focus (simp; done)); rfl) | with_reducible refine cell_drewN ?_ | with_reducible refine cell_alloc ?_ | ((with_reducible refine cell_set ?_ ?_); rotate_left; focus (simp; done)) | with_reducible refine froz_drew ?_ | with_reducible refine froz_set ?_ | with_reducible refine froz_alloc (by assumption) ?_ | with_reducible refine Ge.drew ?_ | with_reducible refine Ge.drewN ?_ _ | with_reducible refine Ge.alloc ?_ _ | ((with_reducible refine Ge.setCell ?_ ?_ _); rotate_left; focus (first | (simp; done) | omega | (simp; omega))) | with_reducible refine Ge.trans ?_ (by assumption))))) (first | (go_at_call 47; ((with_reducible refine (compareInt _ _ _).mono ?_); rintro e w' ⟨rfl, rfl⟩)) | (go_at_call 53; ((with_reducible refine (orInt (cmpI a1 a2) (cmpI b1 b2) _ _ (cell_drew (cell_new (by simp) rfl)) (cell_drew (cell_new (by simp) rfl))).mono ?_); rintro e w' ⟨rfl, rfl⟩)) | fail); (rename_i hHeldX; obtain ⟨c0_0, c0_1, c0_2, c1_0, c1_1, c1_2, G2⟩ := hHeldX)
  go_wp2_with fail
  go_ret
  exact ⟨rfl, by (repeat (first | with_reducible exact Ge.refl _ | assumption | with_reducible refine Ge.drew ?_ | with_reducible refine Ge.drewN ?_ _ | with_reducible refine Ge.alloc ?_ _ | (with_reducible refine Ge.setCell ?_ (by first | (simp; done) | omega | (simp; omega)) _) | with_reducible refine Ge.trans ?_ (by assumption)))⟩

/-- Truth values as cells. -/
def bcells (l : List Bool) : List Value := l.map Value.bool
theorem bcells_length (l : List Bool) : (bcells l).length = l.length := by simp [bcells]
theorem bcells_set (l : List Bool) (j : Nat) (x : Bool) : (bcells l).set j (.bool x) = bcells (l.set j x) := by simp [bcells, List.map_set]
def mget (l : List Bool) (j : Nat) : Bool := l.getD j false
theorem own_bool {w : World} {base g n cap : Nat} {e : TypeId} {l : List Bool} (h : w.ownsRow base e 1 (.slice (some ⟨g, 0, none⟩) n cap) n (bcells l)) {j : Nat} (hj : j < n) : w.cell? ⟨g, j, none⟩ = some (.bool (mget l j)) := by
  have hl : l.length = n := by have := h.1; rw [bcells_length] at this; omega
  rw [h.cellAt j (by omega)]
  simp [bcells, mget, hl, hj]
theorem inf_bool : (Try.prog.info? 4).map (fun i => (i.zero, i.size, i.bytes)) = some (some (Value.bool false), 1, 1) := by kernel_rfl
theorem made_bools (n : Nat) : (madeCells (Value.bool false).cells (n * 1)).toList = bcells (List.replicate n false) := by
  simp [madeCells, bcells, Value.cells, Nat.mod_one]
  rw [List.eq_replicate_iff]; simp

theorem indexFalse (v : Value) (l : List Bool) (w : World) (h : Sl w v l.length 1 (bcells l)) (hm : l.length ≤ 1000000) :
    Calls Try.prog 75 #[v, .bool false] w fun e w' => (∃ i : Int, e = .returned (.int .i64 i) ∧ (0 ≤ i ↔ l.contains false = true)) ∧ w = w' := by
  obtain ⟨_, p, cap, rfl, hc⟩ := h
  obtain ⟨n, hn⟩ : ∃ n, l.length = n := ⟨_, rfl⟩
  have hc' : ∀ i, i < n → ∃ b o, p = some ⟨b, o, none⟩ ∧ w.cell? ⟨b, o + i, none⟩ = some (.bool (mget l i)) := fun i hi => hc i _ (by simp [bcells, mget, hn, hi])
  have HC := Lib.hid hc'
  have HN := Lib.hid hn
  rw [hn] at hm ⊢
  clear hc hc' hn
  go_enter Try.func75, Try.ntmps75
  go_wp2_with fail
  go_loop [8] (fun i => ∃ k : Nat, k ≤ n ∧ i = .int .i64 k ∧ Hid (∀ j, j < k → mget l j = true)) (fun i => n - (intOf i).toNat)
  case atStart => exact ⟨0, Nat.zero_le _, rfl, fun j hj => by omega⟩
  case round =>
    obtain ⟨k, hk, rfl, HA⟩ := hrel
    by_cases hlt : k < n
    · obtain ⟨b, o, rfl, x0⟩ := HC.out k hlt
      cases c : mget l k with
      | true =>
        have HA2 : Hid (∀ j, j < k + 1 → mget l j = true) := fun j hj => by
          by_cases e : j = k
          · subst e; exact c
          · exact HA.out j (by omega)
        rw [c] at x0
        go_wp2_with fail
        go_round
        case rel => exact ⟨k + 1, by omega, by go_num, HA2.out⟩
        case measure => simp [intOf]; omega
      | false =>
        have HF : Hid (l.contains false = true) := by
          show _ = _
          have hk' : k < l.length := by rw [HN.out]; exact hlt
          rw [List.contains_iff_mem]
          have : l[k] = false := by simpa [mget, hk'] using c
          rw [← this]; exact List.getElem_mem _
        rw [c] at x0
        go_wp2_with fail
        go_ret
        exact ⟨⟨_, rfl, ⟨fun _ => by simpa using HF.out, fun _ => by omega⟩⟩, rfl⟩
    · have hkn : k = n := by omega
      subst hkn
      have HF : Hid (¬ l.contains false = true) := by
        intro h
        rw [List.contains_iff_mem] at h
        obtain ⟨j, hj, e⟩ := List.getElem_of_mem h
        have := HA.out j (by rw [← HN.out]; exact hj)
        rw [show mget l j = l[j] by simp [mget, hj], e] at this
        cases this
      go_wp2_with fail
      go_ret
      exact ⟨⟨_, rfl, ⟨fun h => by omega, fun h => absurd h (by simpa using HF.out)⟩⟩, rfl⟩

theorem containsFalse (v : Value) (l : List Bool) (w : World) (h : Sl w v l.length 1 (bcells l)) (hm : l.length ≤ 1000000) :
    Calls Try.prog 69 #[v, .bool false] w fun e w' => e = .returned (.bool (l.contains false)) ∧ w = w' := by
  have hI := indexFalse v l w h hm
  cases c : l.contains false with
  | true =>
    rw [c] at hI
    go_enter Try.func69, Try.ntmps69
    go_wp2_with (go_at_call 75; ((with_reducible refine hI.mono ?_); rintro e w' ⟨⟨i, rfl, hi⟩, rfl⟩); have hi2 : 0 ≤ i := hi.2 rfl)
    go_ret
    exact ⟨rfl, rfl⟩
  | false =>
    rw [c] at hI
    go_enter Try.func69, Try.ntmps69
    go_wp2_with (go_at_call 75; ((with_reducible refine hI.mono ?_); rintro e w' ⟨⟨i, rfl, hi⟩, rfl⟩); have hi2 : ¬ (0 ≤ i) := fun h => by simp at hi; omega)
    go_ret
    exact ⟨rfl, rfl⟩
end Go.Proofs.Ytenfkpdbfmeebaa
