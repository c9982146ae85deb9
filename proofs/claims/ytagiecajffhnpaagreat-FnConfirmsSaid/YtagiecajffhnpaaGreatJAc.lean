/- Tilings: byPlace, sides, TilingOk of both sides. No condition. NetOk of impl. No condition. NetOk of impl: the walk. No condition. netOf of impl, with the common divisor taken out. No condition. -/
import Derived.Test.YtagiecajffhnpaaGreatWLaw
import Derived.Test.YtagiecajffhnpaaGreatWSl
import Derived.Test.YtagiecajffhnpaaGreatJAb
import Derived.Test.YtagiecajffhnpaaGreatWIn
import Derived.Test.YtagiecajffhnpaaGreatPlNetOk
import Derived.Test.YtagiecajffhnpaaGreatWToInt
import Derived.Test.YtagiecajffhnpaaGreatWMatO
import Derived.Test.YtagiecajffhnpaaGreatJAa
import Derived.Deep.DeepCutAuto
namespace Go.Proofs.YtagiecajffhnpaaGreat
set_option maxRecDepth 100000
open Go.ChangeShapes Go.WideShapes Go.ChangeAt Go.RowKit Go.Joins

theorem isNaNInt (x : Int) (w : World) : Calls Tryz.prog 128 #[.int .i64 x] w fun e w' => e = .returned (.bool false) ∧ w = w' := by
  have h : (x != x) = false := by simp
  go_enter Tryz.func128, Tryz.ntmps128
  go_wp2_with fail
  go_ret
  exact ⟨rfl, rfl⟩

theorem compareInt (x y : Int) (w : World) : Calls Tryz.prog 110 #[.int .i64 x, .int .i64 y] w fun e w' => e = .returned (.int .i64 (cmpI x y)) ∧ w = w' := by
  by_cases h1 : x < y
  · go_enter Tryz.func110, Tryz.ntmps110
    go_wp2_with (go_at_call 128; ((with_reducible refine (isNaNInt _ _).mono ?_); rintro e w' ⟨rfl, rfl⟩))
    go_ret
    exact ⟨ret_int (by simp [cmpI, h1]), rfl⟩
  · by_cases h2 : y < x
    · go_enter Tryz.func110, Tryz.ntmps110
      go_wp2_with (go_at_call 128; ((with_reducible refine (isNaNInt _ _).mono ?_); rintro e w' ⟨rfl, rfl⟩))
      go_ret
      exact ⟨ret_int (by simp [cmpI, h1, h2]), rfl⟩
    · have h3 : cmpI x y = 0 := by unfold cmpI; rw [if_neg h1, if_neg h2]
      go_enter Tryz.func110, Tryz.ntmps110
      go_wp2_with (go_at_call 128; ((with_reducible refine (isNaNInt _ _).mono ?_); rintro e w' ⟨rfl, rfl⟩))
      go_ret
      exact ⟨ret_int h3.symm, rfl⟩

def orI (x y : Int) : Int := if x ≠ 0 then x else y
theorem orI_ne {x y : Int} (h : ¬ x = 0) : orI x y = x := by simp [orI, h]
theorem orI_eq {x y : Int} (h : x = 0) : orI x y = y := by simp [orI, h]
set_option maxHeartbeats 400000 in
theorem orInt (x y : Int) (b : Nat) (w : World) (h0 : w.cell? ⟨b, 0, none⟩ = some (.int .i64 x)) (h1 : w.cell? ⟨b, 1, none⟩ = some (.int .i64 y)) :
    Calls Tryz.prog 109 #[.slice (some ⟨b, 0, none⟩) 2 2] w fun e w' => e = .returned (.int .i64 (orI x y)) ∧ w = w' := by
  go_enter Tryz.func109, Tryz.ntmps109
  go_wp2_with fail
  go_loop [8] (fun i => i = .int .i64 0 ∨ i = .int .i64 1 ∧ Hid (x = 0) ∨ i = .int .i64 2 ∧ Hid (x = 0) ∧ Hid (y = 0)) (fun i => 2 - (intOf i).toNat)
  case atStart => exact .inl rfl
  case round =>
    rcases hrel with rfl | ⟨rfl, HX⟩ | ⟨rfl, HX, HY⟩
    · by_cases hx : x = 0
      · have ex : (x != 0) = false := by simp [hx]
        have HX := Lib.hid hx
        clear hx
        go_wp2_with fail
        go_round
        case rel => exact .inr (.inl ⟨rfl, HX⟩)
        case measure => simp [intOf]
      · have ex : (x != 0) = true := by simp [hx]
        go_wp2_with fail
        go_ret
        exact ⟨ret_int (orI_ne hx).symm, rfl⟩
    · by_cases hy : y = 0
      · have ey : (y != 0) = false := by simp [hy]
        have HY := Lib.hid hy
        clear hy
        go_wp2_with fail
        go_round
        case rel => exact .inr (.inr ⟨rfl, HX, HY⟩)
        case measure => simp [intOf]
      · have ey : (y != 0) = true := by simp [hy]
        go_wp2_with fail
        go_ret
        exact ⟨ret_int (orI_eq HX.out).symm, rfl⟩
    · go_wp2_with fail
      go_ret
      exact ⟨ret_int (by rw [orI_eq HX.out, HY.out]), rfl⟩

set_option maxHeartbeats 800000 in
theorem iByPlace (x1 y1 s1 x2 y2 s2 : Int) (w : World) :
    Calls Tryz.prog 95 #[.agg #[.int .i64 x1, .int .i64 y1, .int .i64 s1], .agg #[.int .i64 x2, .int .i64 y2, .int .i64 s2]] w fun e w' => e = .returned (.int .i64 (cmpSq x1 y1 x2 y2)) ∧ Ge w w' := by
  go_enter Tryz.func95, Tryz.ntmps95
  go_wp2_with fail
  go_region_held3 (fun w' => w'.cell? ⟨w.heap.size, 0, none⟩ = some (.int .i64 x1) ∧ w'.cell? ⟨w.heap.size, 1, none⟩ = some (.int .i64 y1) ∧ w'.cell? ⟨w.heap.size, 2, none⟩ = some (.int .i64 s1) ∧ w'.cell? ⟨w.heap.size + 1, 0, none⟩ = some (.int .i64 x2) ∧ w'.cell? ⟨w.heap.size + 1, 1, none⟩ = some (.int .i64 y2) ∧ w'.cell? ⟨w.heap.size + 1, 2, none⟩ = some (.int .i64 s2) ∧ Ge w w') (first | exact ⟨hb.keep (‹_ ∧ _ ∧ _ ∧ _ ∧ _ ∧ _ ∧ _›).1, hb.keep (‹_ ∧ _ ∧ _ ∧ _ ∧ _ ∧ _ ∧ _›).2.1, hb.keep (‹_ ∧ _ ∧ _ ∧ _ ∧ _ ∧ _ ∧ _›).2.2.1, hb.keep (‹_ ∧ _ ∧ _ ∧ _ ∧ _ ∧ _ ∧ _›).2.2.2.1, hb.keep (‹_ ∧ _ ∧ _ ∧ _ ∧ _ ∧ _ ∧ _›).2.2.2.2.1, hb.keep (‹_ ∧ _ ∧ _ ∧ _ ∧ _ ∧ _ ∧ _›).2.2.2.2.2.1, Ge.trans (‹_ ∧ _ ∧ _ ∧ _ ∧ _ ∧ _ ∧ _›).2.2.2.2.2.2 hb⟩ | ((refine ⟨?_, ?_, ?_, ?_, ?_, ?_, ?_⟩ <;> (repeat (first | assumption | with_reducible exact Ge.refl _ | with_reducible refine cv_drew ?_ | with_reducible refine cv_alloc ?_ | with_reducible refine cv_set ?_ | with_reducible refine cell_drew ?_ | ((with_reducible refine cell_new ?_ ?_); (focus (simp; done)); rfl) | ((with_reducible refine froz_new (v := undef) ?_ ?_); (focus (simp; done)); rfl) | with_reducible refine cell_drewN ?_ | with_reducible refine cell_alloc ?_ | ((with_reducible refine cell_set ?_ ?_); rotate_left; focus (simp; done)) | with_reducible refine froz_drew ?_ | with_reducible refine froz_set ?_ | with_reducible refine froz_alloc (by assumption) ?_ | with_reducible refine Ge.drew ?_ | with_reducible refine Ge.drewN ?_ _ | with_reducible refine Ge.alloc ?_ _ | ((with_reducible refine Ge.setCell ?_ ?_ _); rotate_left; focus (first | (simp; done) | omega | (simp; omega))) | with_reducible refine Ge.trans ?_ (by assumption)))); done) | ((obtain ⟨s0, s1, s2, s3, s4, s5, s6⟩ := ‹_ ∧ _ ∧ _ ∧ _ ∧ _ ∧ _ ∧ _›); refine ⟨?_, ?_, ?_, ?_, ?_, ?_, ?_⟩ <;> (repeat (first | assumption | with_reducible exact Ge.refl _ | with_reducible refine cv_drew ?_ | with_reducible refine cv_alloc ?_ | with_reducible refine cv_set ?_ | with_reducible refine cell_drew ?_ | ((with_reducible refine cell_new ?_ ?_); (focus (simp; done)); rfl) | ((with_reducible refine froz_new (v := undef) ?_ ?_); (focus (simp; done)); rfl) | with_reducible refine cell_drewN ?_ | with_reducible refine cell_alloc ?_ | ((with_reducible refine cell_set ?_ ?_); rotate_left; focus (simp; done)) | with_reducible refine froz_drew ?_ | with_reducible refine froz_set ?_ | with_reducible refine froz_alloc (by assumption) ?_ | with_reducible refine Ge.drew ?_ | with_reducible refine Ge.drewN ?_ _ | with_reducible refine Ge.alloc ?_ _ | ((with_reducible refine Ge.setCell ?_ ?_ _); rotate_left; focus (first | (simp; done) | omega | (simp; omega))) | with_reducible refine Ge.trans ?_ (by assumption))))) (first | (go_at_call 110; ((with_reducible refine (compareInt _ _ _).mono ?_); rintro e w' ⟨rfl, rfl⟩)) | (go_at_call 109; ((with_reducible refine (orInt (cmpI y1 y2) (cmpI x1 x2) _ _ (cell_drew (cell_new (by simp) rfl)) (cell_drew (cell_new (by simp) rfl))).mono ?_); rintro e w' ⟨rfl, rfl⟩)) | fail); (rename_i hHeldX; obtain ⟨c0_0, c0_1, c0_2, c1_0, c1_1, c1_2, G2⟩ := hHeldX)
  go_wp2_with fail
  go_ret
  exact ⟨rfl, kge⟩
end Go.Proofs.YtagiecajffhnpaaGreat

namespace Go.Proofs.YtagiecajffhnpaaGreat
set_option maxRecDepth 100000
open Go.ChangeShapes Go.WideShapes Go.ChangeAt Go.RowKit Go.Joins

set_option maxHeartbeats 800000 in
theorem iByEnds (a1 b1 s1 a2 b2 s2 : Int) (w : World) :
    Calls Tryz.prog 78 #[.agg #[.int .i64 a1, .int .i64 b1, .int .i64 s1], .agg #[.int .i64 a2, .int .i64 b2, .int .i64 s2]] w fun e w' => e = .returned (.int .i64 (cmpSq b1 a1 b2 a2)) ∧ Ge w w' := by
  go_enter Tryz.func78, Tryz.ntmps78
  go_wp2_with fail
  go_region_held3 (fun w' => w'.cell? ⟨w.heap.size, 0, none⟩ = some (.int .i64 a1) ∧ w'.cell? ⟨w.heap.size, 1, none⟩ = some (.int .i64 b1) ∧ w'.cell? ⟨w.heap.size, 2, none⟩ = some (.int .i64 s1) ∧ w'.cell? ⟨w.heap.size + 1, 0, none⟩ = some (.int .i64 a2) ∧ w'.cell? ⟨w.heap.size + 1, 1, none⟩ = some (.int .i64 b2) ∧ w'.cell? ⟨w.heap.size + 1, 2, none⟩ = some (.int .i64 s2) ∧ Ge w w') (first | exact ⟨hb.keep (‹_ ∧ _ ∧ _ ∧ _ ∧ _ ∧ _ ∧ _›).1, hb.keep (‹_ ∧ _ ∧ _ ∧ _ ∧ _ ∧ _ ∧ _›).2.1, hb.keep (‹_ ∧ _ ∧ _ ∧ _ ∧ _ ∧ _ ∧ _›).2.2.1, hb.keep (‹_ ∧ _ ∧ _ ∧ _ ∧ _ ∧ _ ∧ _›).2.2.2.1, hb.keep (‹_ ∧ _ ∧ _ ∧ _ ∧ _ ∧ _ ∧ _›).2.2.2.2.1, hb.keep (‹_ ∧ _ ∧ _ ∧ _ ∧ _ ∧ _ ∧ _›).2.2.2.2.2.1, Ge.trans (‹_ ∧ _ ∧ _ ∧ _ ∧ _ ∧ _ ∧ _›).2.2.2.2.2.2 hb⟩ | ((refine ⟨?_, ?_, ?_, ?_, ?_, ?_, ?_⟩ <;> (repeat (first | assumption | with_reducible exact Ge.refl _ | with_reducible refine cv_drew ?_ | with_reducible refine cv_alloc ?_ | with_reducible refine cv_set ?_ | with_reducible refine cell_drew ?_ | ((with_reducible refine cell_new ?_ ?_); (focus (simp; done)); rfl) | ((with_reducible refine froz_new (v := undef) ?_ ?_); (focus (simp; done)); rfl) | with_reducible refine cell_drewN ?_ | with_reducible refine cell_alloc ?_ | ((with_reducible refine cell_set ?_ ?_); rotate_left; focus (simp; done)) | with_reducible refine froz_drew ?_ | with_reducible refine froz_set ?_ | with_reducible refine froz_alloc (by assumption) ?_ | with_reducible refine Ge.drew ?_ | with_reducible refine Ge.drewN ?_ _ | with_reducible refine Ge.alloc ?_ _ | ((with_reducible refine Ge.setCell ?_ ?_ _); rotate_left; focus (first | (simp; done) | omega | (simp; omega))) | with_reducible refine Ge.trans ?_ (by assumption)))); done) | ((obtain ⟨s0, s1, s2, s3, s4, s5, s6⟩ := ‹_ ∧ _ ∧ _ ∧ _ ∧ _ ∧ _ ∧ _›); refine ⟨?_, ?_, ?_, ?_, ?_, ?_, ?_⟩ <;> (repeat (first | assumption | with_reducible exact Ge.refl _ | with_reducible refine cv_drew ?_ | with_reducible refine cv_alloc ?_ | with_reducible refine cv_set ?_ | with_reducible refine cell_drew ?_ | ((with_reducible refine cell_new ?_ ?_); (focus (simp; done)); rfl) | ((with_reducible refine froz_new (v := undef) ?_ ?_); (focus (simp; done)); rfl) | with_reducible refine cell_drewN ?_ | with_reducible refine cell_alloc ?_ | ((with_reducible refine cell_set ?_ ?_); rotate_left; focus (simp; done)) | with_reducible refine froz_drew ?_ | with_reducible refine froz_set ?_ | with_reducible refine froz_alloc (by assumption) ?_ | with_reducible refine Ge.drew ?_ | with_reducible refine Ge.drewN ?_ _ | with_reducible refine Ge.alloc ?_ _ | ((with_reducible refine Ge.setCell ?_ ?_ _); rotate_left; focus (first | (simp; done) | omega | (simp; omega))) | with_reducible refine Ge.trans ?_ (by assumption))))) (first | (go_at_call 110; ((with_reducible refine (compareInt _ _ _).mono ?_); rintro e w' ⟨rfl, rfl⟩)) | (go_at_call 109; ((with_reducible refine (orInt (cmpI a1 a2) (cmpI b1 b2) _ _ (cell_drew (cell_new (by simp) rfl)) (cell_drew (cell_new (by simp) rfl))).mono ?_); rintro e w' ⟨rfl, rfl⟩)) | fail); (rename_i hHeldX; obtain ⟨c0_0, c0_1, c0_2, c1_0, c1_1, c1_2, G2⟩ := hHeldX)
  go_wp2_with fail
  go_ret
  exact ⟨rfl, kge⟩

/-- Truth values as cells. -/
def bcells (l : List Bool) : List Value := l.map Value.bool
theorem bcells_length (l : List Bool) : (bcells l).length = l.length := by simp [bcells]
theorem bcells_set (l : List Bool) (j : Nat) (x : Bool) : (bcells l).set j (.bool x) = bcells (l.set j x) := by simp [bcells, List.map_set]
def mget (l : List Bool) (j : Nat) : Bool := l.getD j false
theorem own_bool {w : World} {base g n cap : Nat} {e : TypeId} {l : List Bool} (h : w.ownsRow base e 1 (.slice (some ⟨g, 0, none⟩) n cap) n (bcells l)) {j : Nat} (hj : j < n) : w.cell? ⟨g, j, none⟩ = some (.bool (mget l j)) := by
  have hl : l.length = n := by have := h.1; rw [bcells_length] at this; omega
  rw [h.cellAt j (by omega)]
  simp [bcells, mget, hl, hj]
theorem inf_bool : (Tryz.prog.info? 4).map (fun i => (i.zero, i.size, i.bytes)) = some (some (Value.bool false), 1, 1) := by kernel_rfl
theorem made_bools (n : Nat) : (madeCells (Value.bool false).cells (n * 1)).toList = bcells (List.replicate n false) := by
  simp [madeCells, bcells, Value.cells, Nat.mod_one]
  rw [List.eq_replicate_iff]; simp

theorem indexFalse (v : Value) (l : List Bool) (w : World) (h : Sl w v l.length 1 (bcells l)) (hm : l.length ≤ 1000000) :
    Calls Tryz.prog 111 #[v, .bool false] w fun e w' => (∃ i : Int, e = .returned (.int .i64 i) ∧ (0 ≤ i ↔ l.contains false = true)) ∧ w = w' := by
  obtain ⟨_, p, cap, rfl, hc⟩ := h
  obtain ⟨n, hn⟩ : ∃ n, l.length = n := ⟨_, rfl⟩
  have hc' : ∀ i, i < n → ∃ b o, p = some ⟨b, o, none⟩ ∧ w.cell? ⟨b, o + i, none⟩ = some (.bool (mget l i)) := fun i hi => hc i _ (by simp [bcells, mget, hn, hi])
  have HC := Lib.hid hc'
  have HN := Lib.hid hn
  rw [hn] at hm ⊢
  clear hc hc' hn
  go_enter Tryz.func111, Tryz.ntmps111
  go_wp2_with fail
  go_loop [8] (fun i => ∃ k : Nat, k ≤ n ∧ i = .int .i64 k ∧ Hid (∀ j, j < k → mget l j = true)) (fun i => n - (intOf i).toNat)
  case atStart => exact ⟨0, Nat.zero_le _, rfl, fun j hj => by omega⟩
  case round =>
    obtain ⟨k, hk, rfl, HA⟩ := hrel
    by_cases hlt : k < n
    · obtain ⟨b, o, rfl, x0⟩ := HC.out k hlt
      cases c : mget l k with
      | true =>
        have HA2 : Hid (∀ j, j < k + 1 → mget l j = true) := fun j hj => by
          by_cases e : j = k
          · subst e; exact c
          · exact HA.out j (by omega)
        rw [c] at x0
        go_wp2_with fail
        go_round
        case rel => exact ⟨k + 1, by omega, by go_num, HA2.out⟩
        case measure => simp [intOf]; omega
      | false =>
        have HF : Hid (l.contains false = true) := by
          show _ = _
          have hk' : k < l.length := by rw [HN.out]; exact hlt
          rw [List.contains_iff_mem]
          have : l[k] = false := by simpa [mget, hk'] using c
          rw [← this]; exact List.getElem_mem _
        rw [c] at x0
        go_wp2_with fail
        go_ret
        exact ⟨⟨_, rfl, ⟨fun _ => by simpa using HF.out, fun _ => by omega⟩⟩, rfl⟩
    · have hkn : k = n := by omega
      subst hkn
      have HF : Hid (¬ l.contains false = true) := by
        intro h
        rw [List.contains_iff_mem] at h
        obtain ⟨j, hj, e⟩ := List.getElem_of_mem h
        have := HA.out j (by rw [← HN.out]; exact hj)
        rw [show mget l j = l[j] by simp [mget, hj], e] at this
        cases this
      go_wp2_with fail
      go_ret
      exact ⟨⟨_, rfl, ⟨fun h => by omega, fun h => absurd h (by simpa using HF.out)⟩⟩, rfl⟩

theorem containsFalse (v : Value) (l : List Bool) (w : World) (h : Sl w v l.length 1 (bcells l)) (hm : l.length ≤ 1000000) :
    Calls Tryz.prog 79 #[v, .bool false] w fun e w' => e = .returned (.bool (l.contains false)) ∧ w = w' := by
  have hI := indexFalse v l w h hm
  cases c : l.contains false with
  | true =>
    rw [c] at hI
    go_enter Tryz.func79, Tryz.ntmps79
    go_wp2_with (go_at_call 111; ((with_reducible refine hI.mono ?_); rintro e w' ⟨⟨i, rfl, hi⟩, rfl⟩); have hi2 : 0 ≤ i := hi.2 rfl)
    go_ret
    exact ⟨rfl, rfl⟩
  | false =>
    rw [c] at hI
    go_enter Tryz.func79, Tryz.ntmps79
    go_wp2_with (go_at_call 111; ((with_reducible refine hI.mono ?_); rintro e w' ⟨⟨i, rfl, hi⟩, rfl⟩); have hi2 : ¬ (0 ≤ i) := fun h => by simp at hi; omega)
    go_ret
    exact ⟨rfl, rfl⟩
end Go.Proofs.YtagiecajffhnpaaGreat

namespace Go.Proofs.YtagiecajffhnpaaGreat
set_option maxRecDepth 100000
open Go.ChangeShapes Go.WideShapes Go.ChangeAt Go.RowKit Go.Joins

theorem good_nextW {N : Int} {xs : List Int} {k : Nat} (h : Hid (∀ i, i < k → goodW N xs i)) (hk : goodW N xs k) : Hid (∀ i, i < k + 1 → goodW N xs i) := fun i hi => by
  by_cases e : i = k
  · subst e; exact hk
  · exact h.out i (by omega)
theorem own_two_bool {w w0 : World} {base g n cap : Nat} {e : TypeId} {l : List Bool} (h : w.ownsRow base e 1 (.slice (some ⟨g, 0, none⟩) n cap) n (bcells l)) (hg : Ge w0 w) (h0 : w0.heap.size ≤ g) (i j : Nat) :
    ((w.setCell ⟨g, i, none⟩ (.bool true)).setCell ⟨g, j, none⟩ (.bool true)).ownsRow base e 1 (.slice (some ⟨g, 0, none⟩) n cap) n (bcells ((l.set i true).set j true)) ∧
    Ge w0 ((w.setCell ⟨g, i, none⟩ (.bool true)).setCell ⟨g, j, none⟩ (.bool true)) := by
  have h1 := h.stored i (.bool true)
  have h2 := h1.1.stored j (.bool true)
  refine ⟨by have := h2.1; rwa [bcells_set, bcells_set] at this, ?_⟩
  have k : ∀ k, some g = some k → w0.heap.size ≤ k := fun k hk => by simp at hk; omega
  exact (hg.grown h1.2 k).grown h2.2 k
theorem mstep_t {met : List Bool} {a b : Nat} (h : mget met a = true ∨ mget met b = true) : mstep met (a, b) = (met.set a true).set b true := by
  unfold mstep mget at *
  rcases h with h | h <;> rw [h] <;> simp
theorem mstep_f {met : List Bool} {a b : Nat} (h : mget met a = false) (k : mget met b = false) : mstep met (a, b) = met := by
  unfold mstep mget at *
  rw [h, k]; rfl

set_option maxHeartbeats 6400000 in
theorem iNetOk (N E S : Int) (s : Value) (m : Nat) (xs : List Int) (w : World) (hs : SlF w s m 3 xs) (hm : m ≤ 9223372036854775807) :
    Calls Tryz.prog 43 #[.agg #[.int .i64 N, .int .i64 E, .int .i64 S, s]] w fun e w' => e = .returned (.bool (netB N E S m xs)) ∧ Ge w w' := by
  obtain ⟨p, cap, rfl, hc⟩ := hs.open
  have HC := Lib.hid hc
  clear hs hc
  by_cases a1 : N < 1
  · have HF : Hid (netB N E S m xs = false) := netB_false (fun h => by have := h.1.1; omega)
    go_enter Tryz.func43, Tryz.ntmps43
    go_wp2_with fail
    go_ret
    exact ⟨ret_bool HF.out.symm, kge⟩
  by_cases a2 : 5 < N
  · have HF : Hid (netB N E S m xs = false) := netB_false (fun h => by have := h.1.2; omega)
    go_enter Tryz.func43, Tryz.ntmps43
    go_wp2_with fail
    go_ret
    exact ⟨ret_bool HF.out.symm, kge⟩
  by_cases a3 : E < 1
  · have HF : Hid (netB N E S m xs = false) := netB_false (fun h => by have := h.2.1.1; omega)
    go_enter Tryz.func43, Tryz.ntmps43
    go_wp2_with fail
    go_ret
    exact ⟨ret_bool HF.out.symm, kge⟩
  by_cases a4 : N < E
  · have HF : Hid (netB N E S m xs = false) := netB_false (fun h => by have := h.2.1.2; omega)
    go_enter Tryz.func43, Tryz.ntmps43
    go_wp2_with fail
    go_ret
    exact ⟨ret_bool HF.out.symm, kge⟩
  by_cases a5 : S < 1
  · have HF : Hid (netB N E S m xs = false) := netB_false (fun h => by have := h.2.2.1.1; omega)
    go_enter Tryz.func43, Tryz.ntmps43
    go_wp2_with fail
    go_ret
    exact ⟨ret_bool HF.out.symm, kge⟩
  by_cases a6 : 1000 < S
  · have HF : Hid (netB N E S m xs = false) := netB_false (fun h => by have := h.2.2.1.2; omega)
    go_enter Tryz.func43, Tryz.ntmps43
    go_wp2_with fail
    go_ret
    exact ⟨ret_bool HF.out.symm, kge⟩
  obtain ⟨n, rfl⟩ : ∃ n : Nat, N = (n : Int) := ⟨N.toNat, by omega⟩
  have n1 : 1 ≤ n := by omega
  have n5 : n ≤ 5 := by omega
  go_enter Tryz.func43, Tryz.ntmps43
  go_wp2_with fail
  go_loopw [41] (fun i wr => ∃ k : Nat, k ≤ m ∧ i = .int .i64 k ∧ Hid (∀ j, j < k → goodW n xs j) ∧ Ge (w.alloc (.cells #[.int .i64 (n : Int), .int .i64 E, .int .i64 S, .slice p m cap] 33)) wr) (fun i _ => m - (intOf i).toNat)
  case atStart => exact ⟨0, Nat.zero_le _, rfl, fun j hj => by omega, Ge.refl _⟩
  case round =>
    obtain ⟨k, hk, rfl, HK, hg⟩ := hrel
    have G : Ge w wr := Ge.trans ((Ge.refl w).alloc _) hg
    have c0 := hg.keep (cell_new (i := 0) rfl rfl)
    have c1 := hg.keep (cell_new (i := 1) rfl rfl)
    have c2 := hg.keep (cell_new (i := 2) rfl rfl)
    have c3 := hg.keep (cell_new (i := 3) rfl rfl)
    have zw := hg.size
    simp at c0 c1 c2 c3 zw
    have zl : w.heap.size < wr.heap.size := by omega
    by_cases hlt : k < m
    · obtain ⟨b, o, rfl, x0, x1, x2⟩ := three_cells HC.out hlt
      have y0 := G.keep x0
      have y1 := G.keep x1
      have y2 := G.keep x2
      have lb := World.block_lt_of_cell? w _ x0
      simp at lb
      clear x0 x1 x2
      change wr.cell? _ = some (.int .i64 (wa xs k)) at y0
      change wr.cell? _ = some (.int .i64 (wb xs k)) at y1
      change wr.cell? _ = some (.int .i64 (ww xs k)) at y2
      by_cases t1 : wa xs k < 0
      · have HF : Hid (netB n E S m xs = false) := netB_false (fun h => by have q := (h.2.2.2.1 k hlt).1; unfold okW at q; omega)
        go_upto_region 6 with (fail)
        go_quiet (fail)
        go_wp2_with fail
        go_ret
        exact ⟨ret_bool HF.out.symm, kge⟩
      by_cases t2 : wb xs k ≤ wa xs k
      · have HF : Hid (netB n E S m xs = false) := netB_false (fun h => by have q := (h.2.2.2.1 k hlt).1; unfold okW at q; omega)
        go_upto_region 6 with (fail)
        go_quiet (fail)
        go_wp2_with fail
        go_ret
        exact ⟨ret_bool HF.out.symm, kge⟩
      by_cases t3 : (n : Int) ≤ wb xs k
      · have HF : Hid (netB n E S m xs = false) := netB_false (fun h => by have q := (h.2.2.2.1 k hlt).1; unfold okW at q; omega)
        go_upto_region 6 with (fail)
        go_quiet (fail)
        go_wp2_with fail
        go_ret
        exact ⟨ret_bool HF.out.symm, kge⟩
      by_cases t4 : ww xs k < 1
      · have HF : Hid (netB n E S m xs = false) := netB_false (fun h => by have q := (h.2.2.2.1 k hlt).1; unfold okW at q; omega)
        go_upto_region 6 with (fail)
        go_quiet (fail)
        go_wp2_with fail
        go_ret
        exact ⟨ret_bool HF.out.symm, kge⟩
      by_cases t5 : 200 < ww xs k
      · have HF : Hid (netB n E S m xs = false) := netB_false (fun h => by have q := (h.2.2.2.1 k hlt).1; unfold okW at q; omega)
        go_upto_region 6 with (fail)
        go_quiet (fail)
        go_wp2_with fail
        go_ret
        exact ⟨ret_bool HF.out.symm, kge⟩
      have OK : Hid (okW n xs k) := ⟨by omega, by omega, by omega, by omega, by omega⟩
      obtain ⟨bad, hbad⟩ : ∃ bad : Bool, bad = true ↔ (0 < k ∧ ¬ ordW xs (k - 1) k) := ⟨@decide (0 < k ∧ ¬ ordW xs (k - 1) k) (Classical.propDecidable _), by simp⟩
      have HBad := Lib.hid hbad
      clear hbad
      go_upto_region 6 with (fail)
      go_cut [87] (fun s wx => s = .bool bad ∧ Ge wr wx)
      case first =>
        by_cases hp : 0 < k
        · obtain ⟨j, rfl⟩ : ∃ j, k = j + 1 := ⟨k - 1, by omega⟩
          obtain ⟨b', o', e', x0, x1, x2⟩ := three_cells HC.out (show j < m by omega)
          simp only [Option.some.injEq, Addr.mk.injEq, and_true] at e'
          obtain ⟨rfl, rfl⟩ := e'
          have z0 := G.keep x0
          have z1 := G.keep x1
          have z2 := G.keep x2
          clear x0 x1 x2
          change wr.cell? _ = some (.int .i64 (wa xs j)) at z0
          change wr.cell? _ = some (.int .i64 (wb xs j)) at z1
          change wr.cell? _ = some (.int .i64 (ww xs j)) at z2
          have w1 : IntKind.i64.wrap (((j + 1 : Nat) : Int) - 1) = (j : Int) := IntWalk.i64_in _ (by omega) |>.trans (by omega)
          have w2 : IntKind.i64.wrap (j : Int) = (j : Int) := IntWalk.i64_in _ (by omega)
          have j0 : (0 : Int) ≤ (j : Int) := by omega
          have j1 : (j : Int) < (m : Int) := by omega
          have w3 : ((j : Int) + 1 - 1) = (j : Int) := by omega
          have c4 : decide (0 ≤ cmpSq (wb xs j) (wa xs j) (wb xs (j + 1)) (wa xs (j + 1))) = bad := by
            have h1 := HBad.out
            have h2 := @cmpSq_lt (wb xs j) (wa xs j) (wb xs (j + 1)) (wa xs (j + 1))
            have h3 : ordW xs j (j + 1) ↔ cmpSq (wb xs j) (wa xs j) (wb xs (j + 1)) (wa xs (j + 1)) < 0 := h2.symm
            simp only [Nat.add_sub_cancel, h3] at h1
            cases bad with
            | true => have := h1.1 rfl; simp; omega
            | false =>
              simp
              by_cases h4 : cmpSq (wb xs j) (wa xs j) (wb xs (j + 1)) (wa xs (j + 1)) < 0
              · exact h4
              · exact absurd (h1.2 ⟨by omega, h4⟩) (by simp)
          have hS : ∀ w', Ge (wr.alloc (.cells #[.int .i64 (wa xs (j + 1)), .int .i64 (wb xs (j + 1)), .int .i64 (ww xs (j + 1))] 45)) w' → (w'.cell? ⟨wr.heap.size, 0, none⟩ = some (.int .i64 (wa xs (j + 1))) ∧ w'.cell? ⟨wr.heap.size, 1, none⟩ = some (.int .i64 (wb xs (j + 1))) ∧ w'.cell? ⟨wr.heap.size, 2, none⟩ = some (.int .i64 (ww xs (j + 1))) ∧ w'.cell? ⟨w.heap.size, 0, none⟩ = some (.int .i64 (n : Int)) ∧ w'.cell? ⟨w.heap.size, 3, none⟩ = some (.slice (some ⟨b, o, none⟩) m cap) ∧ w'.cell? ⟨b, o + j * 3, none⟩ = some (.int .i64 (wa xs j)) ∧ w'.cell? ⟨b, o + j * 3 + 1, none⟩ = some (.int .i64 (wb xs j)) ∧ w'.cell? ⟨b, o + j * 3 + 2, none⟩ = some (.int .i64 (ww xs j)) ∧ Ge wr w') := fun w' g => ⟨g.keep (kch), g.keep (kch), g.keep (kch), g.keep (kch), g.keep (kch), g.keep (kch), g.keep (kch), g.keep (kch), Ge.trans (kch) g⟩
          go_region_held3 (fun w' => w'.cell? ⟨wr.heap.size, 0, none⟩ = some (.int .i64 (wa xs (j + 1))) ∧ w'.cell? ⟨wr.heap.size, 1, none⟩ = some (.int .i64 (wb xs (j + 1))) ∧ w'.cell? ⟨wr.heap.size, 2, none⟩ = some (.int .i64 (ww xs (j + 1))) ∧ w'.cell? ⟨w.heap.size, 0, none⟩ = some (.int .i64 (n : Int)) ∧ w'.cell? ⟨w.heap.size, 3, none⟩ = some (.slice (some ⟨b, o, none⟩) m cap) ∧ w'.cell? ⟨b, o + j * 3, none⟩ = some (.int .i64 (wa xs j)) ∧ w'.cell? ⟨b, o + j * 3 + 1, none⟩ = some (.int .i64 (wb xs j)) ∧ w'.cell? ⟨b, o + j * 3 + 2, none⟩ = some (.int .i64 (ww xs j)) ∧ Ge wr w') (first | ((with_reducible refine hS _ ?_); exact kch) | fail) (first | (go_at_call 78; ((with_reducible refine (iByEnds _ _ _ _ _ _ _).mono ?_); rintro e w' ⟨rfl, hb⟩); have hz := Ge.size hb; (try simp at hz)) | fail)
          rename_i hHeldX
          obtain ⟨q0, q1, q2, q3, q4, q5, q6, q7, G7⟩ := hHeldX
          clear hS
          go_wp2_with fail
          go_meet
          exact ⟨rfl, G7⟩
        · have hk0 : k = 0 := by omega
          subst hk0
          have hb0 : bad = false := by
            cases bad with
            | true => have := (HBad.out.1 rfl).1; omega
            | false => rfl
          subst hb0
          go_quiet (fail)
          go_wp2_with fail
          go_meet
          exact ⟨rfl, kge⟩
      case rest =>
        obtain ⟨rfl, G7⟩ := hcut
        cases bad with
        | true =>
          have HF : Hid (netB n E S m xs = false) := netB_false (fun h => by
            obtain ⟨e1, e2⟩ := HBad.out.1 rfl
            exact e2 ((h.2.2.2.1 k hlt).2 e1))
          go_wp2_with fail
          go_ret
          exact ⟨ret_bool HF.out.symm, kge⟩
        | false =>
          have HG : Hid (∀ i, i < k + 1 → goodW n xs i) := good_nextW HK ⟨OK.out, fun h0 => Classical.byContradiction fun h => by have := HBad.out.2 ⟨h0, h⟩; simp at this⟩
          go_wp2_with fail
          go_roundw
          case rel => exact ⟨k + 1, by omega, by go_num, HG.out, kge⟩
          case measure => simp [intOf]; omega
    · have hkm : k = m := by omega
      subst hkm
      have hk10 : k ≤ 10 := prs_len (N := n) (by omega) HK.out
      have n0 : 0 < n := by omega
      go_wp2_with (at_make; refine mk1 rfl _ _ _ rfl 4 _ 1 1 Tryz.underlying125 inf_bool (by decide) n rfl rfl (by omega) ?_; intro w1 own1 g1; rw [made_bools] at own1; have f0 := own1.frozenAt 0; have d0 := own_bool own1 n0; have st := own1.stored 0 (.bool true); rw [bcells_set] at st; have ST := Lib.hid st; clear st own1; have d1 := Ge.keep g1 c0; have d3 := Ge.keep g1 c3)
      have h0 := ST.out.1
      have h1 := g1.grown ST.out.2 (fun q hq => by simp at hq; omega)
      rw [show (List.replicate n false).set 0 true = minit n from rfl] at h0
      clear ST f0 d0 d1 d3
      obtain ⟨w0, hw0⟩ : ∃ w0, w0 = wr := ⟨_, rfl⟩
      subst hw0
      generalize hgg : w0.heap.size = g at *
      have hg0 : w0.heap.size ≤ g := by omega
      generalize w1.setCell ⟨g, 0, none⟩ (.bool true) = w2 at *
      go_loopw [96] (fun i wi => ∃ r : Nat, r ≤ n ∧ i = .int .i64 r ∧ wi.ownsRow g 4 1 (.slice (some ⟨g, 0, none⟩) n n) n (bcells (mrounds (prs xs k) (minit n) r)) ∧ Ge w0 wi) (fun i _ => n - (intOf i).toNat)
      case atStart => exact ⟨0, Nat.zero_le _, rfl, h0, h1⟩
      case round =>
        obtain ⟨r, hr, rfl, hown, hgr⟩ := hrel
        have c0r := hgr.keep c0
        have c3r := hgr.keep c3
        have lg := (hown.lt g rfl).2
        by_cases hrn : r < n
        · go_wp2_with fail
          go_loopw [101] (fun i wi => ∃ j : Nat, j ≤ k ∧ i = .int .i64 j ∧ wi.ownsRow g 4 1 (.slice (some ⟨g, 0, none⟩) n n) n (bcells (msweep (mrounds (prs xs k) (minit n) r) (prs xs j))) ∧ Ge w0 wi) (fun i _ => k - (intOf i).toNat)
          case atStart => exact ⟨0, Nat.zero_le _, rfl, hown, hgr⟩
          case round =>
            obtain ⟨j, hj, rfl, hownj, hgj⟩ := hrel
            by_cases hjk : j < k
            · obtain ⟨b, o, rfl, x0, x1, x2⟩ := three_cells HC.out hjk
              have y0 := hgj.keep (G.keep x0)
              have y1 := hgj.keep (G.keep x1)
              have y2 := hgj.keep (G.keep x2)
              clear x0 x1 x2
              change wr.cell? _ = some (.int .i64 (wa xs j)) at y0
              change wr.cell? _ = some (.int .i64 (wb xs j)) at y1
              change wr.cell? _ = some (.int .i64 (ww xs j)) at y2
              obtain ⟨q0, q1, q2, q3, q4⟩ := (HK.out j hjk).1
              have hp := prs_succ xs j
              obtain ⟨a, ha⟩ : ∃ a : Nat, wa xs j = a := ⟨(wa xs j).toNat, by omega⟩
              obtain ⟨c, hb⟩ : ∃ c : Nat, wb xs j = c := ⟨(wb xs j).toNat, by omega⟩
              rw [ha, hb] at hp
              simp only [Int.toNat_natCast] at hp
              have HS : Hid (msweep (mrounds (prs xs k) (minit n) r) (prs xs (j + 1)) = mstep (msweep (mrounds (prs xs k) (minit n) r) (prs xs j)) (a, c)) := by
                show _ = _
                rw [hp, msweep_snoc]
              clear hp
              rw [ha] at y0 q0 q1
              rw [hb] at y1 q1 q2
              have an : a < n := by omega
              have cn : c < n := by omega
              have da := own_bool hownj an
              have dc := own_bool hownj cn
              have fa := hownj.frozenAt a
              have fc := hownj.frozenAt c
              have lgj := (hownj.lt g rfl).2
              generalize msweep (mrounds (prs xs k) (minit n) r) (prs xs j) = met at *
              have O2 := Lib.hid (own_two_bool hownj hgj hg0 a c)
              cases hma : mget met a with
              | true =>
                rw [hma] at da
                have HE := Lib.hid (mstep_t (b := c) (Or.inl hma))
                go_wp2_with fail
                go_roundw
                case rel => exact ⟨j + 1, by omega, by go_num, by rw [HS.out, HE.out]; exact O2.out.1.alloc _, O2.out.2.alloc _⟩
                case measure => simp [intOf]; omega
              | false =>
                rw [hma] at da
                cases hmc : mget met c with
                | true =>
                  rw [hmc] at dc
                  have HE := Lib.hid (mstep_t (a := a) (Or.inr hmc))
                  go_wp2_with fail
                  go_roundw
                  case rel => exact ⟨j + 1, by omega, by go_num, by rw [HS.out, HE.out]; exact O2.out.1.alloc _, O2.out.2.alloc _⟩
                  case measure => simp [intOf]; omega
                | false =>
                  rw [hmc] at dc
                  have HE := Lib.hid (mstep_f hma hmc)
                  go_wp2_with fail
                  go_roundw
                  case rel => exact ⟨j + 1, by omega, by go_num, by rw [HS.out, HE.out]; exact hownj.alloc _, hgj.alloc _⟩
                  case measure => simp [intOf]; omega
            · have hjk2 : j = k := by omega
              subst hjk2
              go_wp2_with fail
              go_roundw
              case rel => exact ⟨r + 1, by omega, by go_num, hownj, hgj⟩
              case measure => simp [intOf]; omega
        · have hrn2 : r = n := by omega
          subst hrn2
          have hlen : (mrounds (prs xs k) (minit r) r).length = r := by rw [mrounds_length, minit_length]
          have hsl : Sl wr (.slice (some ⟨g, 0, none⟩) r r) (mrounds (prs xs k) (minit r) r).length 1 (bcells (mrounds (prs xs k) (minit r) r)) := by
            rw [hlen]; exact Sl.of_owns hown
          have HL : Hid (netB r E S k xs = !(mrounds (prs xs k) (minit r) r).contains false) := by
            show _ = _
            cases hcn : (mrounds (prs xs k) (minit r) r).contains false with
            | true => exact netB_false (fun h => by have := h.2.2.2.2; simp only [mconn, Int.toNat_natCast, hcn] at this; cases this)
            | false => exact netB_true ⟨⟨by omega, by omega⟩, ⟨by omega, by omega⟩, ⟨by omega, by omega⟩, HK.out, by simp only [mconn, Int.toNat_natCast, hcn]; rfl⟩
          have HC2 := Lib.hid (containsFalse _ _ _ hsl (by omega))
          clear hlen hsl
          generalize mrounds (prs xs k) (minit r) r = met at *
          cases hct : met.contains false with
          | true =>
            go_wp2_with (go_at_call 79; ((with_reducible refine HC2.out.mono ?_); rintro e w' ⟨rfl, rfl⟩); rw [hct])
            go_ret
            exact ⟨ret_bool (by rw [HL.out, hct]; rfl), kge⟩
          | false =>
            go_wp2_with (go_at_call 79; ((with_reducible refine HC2.out.mono ?_); rintro e w' ⟨rfl, rfl⟩); rw [hct])
            go_ret
            exact ⟨ret_bool (by rw [HL.out, hct]; rfl), kge⟩
end Go.Proofs.YtagiecajffhnpaaGreat

namespace Go.Proofs.YtagiecajffhnpaaGreat
set_option maxRecDepth 100000
open Go.ChangeShapes Go.WideShapes Go.ChangeAt Go.RowKit Go.Joins

/-- A network and whether it is valid, as two results. -/
def GivesO (w : World) (b : Bool) (N E S : Int) (L : List Wr) (e : Ending) (w' : World) : Prop :=
  Ge w w' ∧ ((b = true ∧ ∃ u, e = .returned (.tuple #[.agg #[.int .i64 N, .int .i64 E, .int .i64 S, u], .bool true]) ∧ w'.ownsRow w.heap.size 45 3 u L.length (icells (flatW L))) ∨
    (b = false ∧ e = .returned (.tuple #[.agg #[.int .i64 0, .int .i64 0, .int .i64 0, .slice none 0 0], .bool false])))
theorem GivesO.t {w w' : World} {b : Bool} {N E S : Int} {L : List Wr} {u : Value} (h : b = true) (ho : w'.ownsRow w.heap.size 45 3 u L.length (icells (flatW L))) (hg : Ge w w') : GivesO w b N E S L (.returned (.tuple #[.agg #[.int .i64 N, .int .i64 E, .int .i64 S, u], .bool true])) w' :=
  ⟨hg, .inl ⟨h, u, rfl, ho⟩⟩
theorem GivesO.f {w w' : World} {b : Bool} {N E S : Int} {L : List Wr} (h : b = false) (hg : Ge w w') : GivesO w b N E S L (.returned (.tuple #[.agg #[.int .i64 0, .int .i64 0, .int .i64 0, .slice none 0 0], .bool false])) w' :=
  ⟨hg, .inr ⟨h, rfl⟩⟩
/-- The wires of the rows before i, and of the first c columns of row i. -/
def netL (f : Nat → Nat → Int) (k i c : Nat) : List Wr := tabC f k i ++ rowC f i (i + 1) c
theorem netL_zero (f : Nat → Nat → Int) (k i : Nat) : netL f k i 0 = tabC f k i := by simp [netL, rowC]
theorem netL_in {f : Nat → Nat → Int} {k i c : Nat} (h : ¬ f i (i + 1 + c) = 0) : netL f k i (c + 1) = netL f k i c ++ [⟨(i : Int), ((i + 1 + c : Nat) : Int), f i (i + 1 + c)⟩] := by
  simp [netL, rowC, h]
theorem netL_out {f : Nat → Nat → Int} {k i c : Nat} (h : f i (i + 1 + c) = 0) : netL f k i (c + 1) = netL f k i c := by
  simp [netL, rowC, h]
theorem rowC_len (f : Nat → Nat → Int) (i a : Nat) : ∀ c, (rowC f i a c).length ≤ c
  | 0 => by simp [rowC]
  | c + 1 => by
    have := rowC_len f i a c
    simp only [rowC, List.length_append]
    split <;> simp <;> omega
theorem tabC_len (f : Nat → Nat → Int) (k : Nat) : ∀ i, (tabC f k i).length ≤ i * k
  | 0 => by simp [tabC]
  | i + 1 => by
    have h1 := tabC_len f k i
    have h2 := rowC_len f i (i + 1) (k - (i + 1))
    simp only [tabC, List.length_append]
    rw [Nat.succ_mul]
    omega
theorem netL_len (f : Nat → Nat → Int) {k i c : Nat} (hk : k ≤ 5) (hi : i < k) (hc : i + 1 + c ≤ k) : (netL f k i c).length ≤ 100 := by
  have h1 := tabC_len f k i
  have h2 := rowC_len f i (i + 1) c
  have h3 : i * k ≤ 5 * 5 := Nat.mul_le_mul (by omega) hk
  simp only [netL, List.length_append]
  omega
/-- The wires of the rows before i, and of row i before column d. -/
def netD (f : Nat → Nat → Int) (k i d : Nat) : List Wr := netL f k i (d - (i + 1))
theorem netD_zero (f : Nat → Nat → Int) (k i : Nat) : netD f k i (i + 1) = tabC f k i := by unfold netD; rw [Nat.sub_self, netL_zero]
theorem netD_all (f : Nat → Nat → Int) (k i : Nat) : netD f k i k = tabC f k (i + 1) := rfl
theorem netD_in {f : Nat → Nat → Int} {k i d : Nat} (h : ¬ f i d = 0) (hd : i + 1 ≤ d) : netD f k i (d + 1) = netD f k i d ++ [⟨(i : Int), (d : Int), f i d⟩] := by
  obtain ⟨c, rfl⟩ : ∃ c, d = i + 1 + c := ⟨d - (i + 1), by omega⟩
  unfold netD
  rw [show i + 1 + c + 1 - (i + 1) = c + 1 by omega, show i + 1 + c - (i + 1) = c by omega, netL_in h]
theorem netD_out {f : Nat → Nat → Int} {k i d : Nat} (h : f i d = 0) (hd : i + 1 ≤ d) : netD f k i (d + 1) = netD f k i d := by
  obtain ⟨c, rfl⟩ : ∃ c, d = i + 1 + c := ⟨d - (i + 1), by omega⟩
  unfold netD
  rw [show i + 1 + c + 1 - (i + 1) = c + 1 by omega, show i + 1 + c - (i + 1) = c by omega, netL_out h]
theorem netD_len (f : Nat → Nat → Int) {k i d : Nat} (hk : k ≤ 5) (hi : i < k) (hd : i + 1 ≤ d) (hd2 : d ≤ k) : (netD f k i d).length ≤ 100 := netL_len f hk hi (by omega)
theorem cutW_take (g : Int) (L : List Wr) (i : Nat) (h : i < L.length) : flatW (cutW g (L.take (i + 1)) ++ L.drop (i + 1)) = (flatW (cutW g (L.take i) ++ L.drop i)).set (i * 3 + 2) ((nthW L i).w.tdiv g) := by
  have e : L.drop i = nthW L i :: L.drop (i + 1) := by rw [nthW_eq L i h]; exact (List.getElem_cons_drop h).symm
  rw [take_snocW L i h, cutW_snoc, e]
  have hl : (flatW (cutW g (L.take i))).length = i * 3 := by rw [flatW_length, cutW_length, List.length_take]; omega
  rw [flatW_append, flatW_append, flatW_append]
  rw [show flatW (nthW L i :: L.drop (i + 1)) = (nthW L i).a :: (nthW L i).b :: (nthW L i).w :: flatW (L.drop (i + 1)) from rfl]
  rw [List.set_append, if_neg (by omega), hl, Nat.add_sub_cancel_left]
  rw [show flatW [(⟨(nthW L i).a, (nthW L i).b, (nthW L i).w.tdiv g⟩ : Wr)] = [(nthW L i).a, (nthW L i).b, (nthW L i).w.tdiv g] from rfl]
  simp
theorem cutW_get (g : Int) (L : List Wr) (i : Nat) (h : i < L.length) : (icells (flatW (cutW g (L.take i) ++ L.drop i)))[i * 3 + 2]? = some (.int .i64 (nthW L i).w) := by
  have hl : (cutW g (L.take i)).length = i := by rw [cutW_length, List.length_take]; omega
  have hlen : i < (cutW g (L.take i) ++ L.drop i).length := by simp [hl]; omega
  have h1 := (flatW_get (cutW g (L.take i) ++ L.drop i) i hlen).2.2
  have h2 : nthW (cutW g (L.take i) ++ L.drop i) i = nthW L i := by
    rw [nthW_eq _ i hlen, nthW_eq L i h, List.getElem_append_right (by omega)]
    simp [hl]
  rw [h2] at h1
  have h3 : i * 3 + 2 < (flatW (cutW g (L.take i) ++ L.drop i)).length := by rw [flatW_length]; omega
  rw [icells, List.getElem?_map, List.getElem?_eq_getElem h3]
  rw [List.getD_eq_getElem?_getD, List.getElem?_eq_getElem h3] at h1
  simpa using h1

set_option maxHeartbeats 6400000 in
theorem iNetOf (k : Nat) (E S : Int) (T : Int → Int → Int) (vm : Value) (w : World) (hm : SlMM w vm k T) (hk : k ≤ 5) (hS : 0 < S) (hS2 : S ≤ 1000000000000) (hb : ∀ i j : Nat, i < k → j < k → 0 ≤ T i j ∧ T i j ≤ 1000000000000) :
    Calls Tryz.prog 71 #[.int .i64 E, .int .i64 S, vm, .bool true] w (GivesO w
      (netB k E (S.tdiv (gcdF S (tabC (fun i j => T i j) k k))) (tabC (fun i j => T i j) k k).length (flatW (cutW (gcdF S (tabC (fun i j => T i j) k k)) (tabC (fun i j => T i j) k k))))
      k E (S.tdiv (gcdF S (tabC (fun i j => T i j) k k))) (cutW (gcdF S (tabC (fun i j => T i j) k k)) (tabC (fun i j => T i j) k k))) := by
  obtain ⟨f, hf⟩ : ∃ f : Nat → Nat → Int, (fun (i j : Nat) => T i j) = f := ⟨_, rfl⟩
  have HT : Hid (∀ i j : Nat, T i j = f i j) := fun i j => by rw [← hf]
  rw [hf]
  obtain ⟨pm, cm, rfl, hmc⟩ := hm
  have HMC := Lib.hid hmc
  have HB := Lib.hid hb
  have HG : Hid (∀ L, 0 < gcdF S L ∧ gcdF S L ≤ S) := fun L => gcdF_bd _ hS
  have HGs : Hid (∀ L e, gcdF S (L ++ [e]) = (gcdN (gcdF S L) e.w : Int)) := fun L e => gcdF_snoc S L e
  have HG0 : Hid (gcdF S (tabC f k 0) = S) := rfl
  have HF0 : Hid (flatW (tabC f k 0) = [] ∧ (tabC f k 0).length = 0) := ⟨rfl, rfl⟩
  clear hmc hb hf
  go_enter Tryz.func71, Tryz.ntmps71
  go_upto_region 1 with (fail)
  have R0 := ResD.new w (.int .i64 0) (.int .i64 0) (.int .i64 0) (.slice none 0 0) 33
  go_cut [10] (fun sx wx => sx = .pointer (some ⟨w.heap.size + 1, 0, none⟩) ∧ NetAt wx w.heap.size (w.heap.size + 1) k E S (.slice none 0 0) [] ∧ wx.frozen? ⟨w.heap.size + 1, 2, none⟩ = false ∧ Ge w wx)
  case first =>
    go_wp2_with fail
    go_meet
    have z1 : (w.alloc (.cells #[.int .i64 0, .int .i64 0, .int .i64 0, .slice none 0 0] 33)).heap.size = w.heap.size + 1 := by simp
    have h1 := NetAt.start (n := k) (E := E) (S := S) R0
    rw [z1] at h1
    exact ⟨rfl, h1, froz_new (by simp) (v := .int .i64 S) rfl, kge⟩
  obtain ⟨rfl, HN0, F0, g0⟩ := hcut
  go_wp2_with fail
  go_loopw [11, 24] (fun g i wr => ∃ (a : Nat) (u : Value), a ≤ k ∧ i = .int .i64 a ∧ g = .int .i64 (gcdF S (tabC f k a)) ∧ NetAt wr w.heap.size (w.heap.size + 1) k E S u (tabC f k a) ∧ wr.frozen? ⟨w.heap.size + 1, 2, none⟩ = false ∧ Ge w wr) (fun _ i _ => k - (intOf i).toNat)
  case atStart => exact ⟨0, _, Nat.zero_le _, rfl, by rw [HG0.out], HN0, F0, g0⟩
  case round =>
    obtain ⟨a, u, ha, rfl, rfl, HN', hF, hg⟩ := hrel
    have HNr := Lib.hid HN'
    clear HN' HN0
    by_cases hlt : a < k
    · obtain ⟨bm, om, prow, crow, rfl, xm, hrow⟩ := HMC.out a hlt
      have HR := Lib.hid hrow
      clear hrow
      have ym := hg.keep xm
      go_wp2_with fail
      clear ym
      go_loopw [11, 13] (fun g j wr => ∃ (d : Nat) (u : Value), a + 1 ≤ d ∧ d ≤ k ∧ j = .int .i64 (d : Int) ∧ g = .int .i64 (gcdF S (netD f k a d)) ∧ NetAt wr w.heap.size (w.heap.size + 1) k E S u (netD f k a d) ∧ wr.frozen? ⟨w.heap.size + 1, 2, none⟩ = false ∧ Ge w wr) (fun _ j _ => k - (intOf j).toNat)
      case atStart => exact ⟨a + 1, u, Nat.le_refl _, hlt, by simp, by rw [netD_zero], by rw [netD_zero]; exact HNr.out, hF, hg⟩
      case round =>
        clear hF HNr
        obtain ⟨d, u, hd, hdk, rfl, rfl, HN', hF, hg⟩ := hrel
        have HNi := Lib.hid HN'
        have a3 := HN'.c3
        have zG : w.heap.size + 1 < wr.heap.size := World.block_lt_of_cell? _ _ a3
        clear HN'
        by_cases hjk : d < k
        · obtain ⟨br, or', rfl, y0⟩ := HR.out d hjk
          have hb1 := HB.out a d hlt hjk
          rw [HT.out] at y0 hb1
          have y1 := hg.keep y0
          have xm1 := hg.keep xm
          by_cases hx : f a d = 0
          · have tx : (f a d != 0) = false := by simp [hx]
            have HO := Lib.hid (netD_out (k := k) hx hd)
            clear hx
            generalize f a d = X at *
            go_wp2_with fail
            go_roundw
            case rel => exact ⟨d + 1, u, by omega, by omega, by go_num, by rw [HO.out], by rw [HO.out]; exact HNi.out, hF, hg⟩
            case measure => simp [intOf]; omega
          · have tx : (f a d != 0) = true := by simp [hx]
            have HI := Lib.hid (netD_in (k := k) hx hd)
            clear hx
            have hgb := HG.out (netD f k a d)
            have hlen := netD_len f (by omega) hlt hd hdk
            have HGi := Lib.hid (HGs.out (netD f k a d) ⟨(a : Int), (d : Int), f a d⟩)
            generalize f a d = X at *
            generalize netD f k a d = F at *
            obtain ⟨l, hl⟩ : ∃ l, F.length = l := ⟨_, rfl⟩
            have hO := HNi.out.own
            rw [hl] at hO hlen
            have HO := Lib.hid hO
            have HL := Lib.hid hl
            clear hO hl
            generalize gcdF S F = G at *
            have HGc := Lib.hid (fun w' => iGcdOf G X w' (mid (by omega) (by omega)) (mid (by omega) (by omega)))
            go_wp2_with (first
              | (at_builtin; refine ap_wire rfl _ _ rfl (w.heap.size + 1 + 1) _ l (flatW F) rfl HO.out (a : Int) (d : Int) X (b0 := wr.heap.size) rfl rfl (by omega) (by omega) ?_; intro v8 w8 own8 m8 q8; obtain ⟨p8, c8, rfl⟩ := owns_form own8; have HA := NetAt.app (x := ⟨(a : Int), (d : Int), X⟩) HNi.out (by omega) (Ge.refl _) m8 (by rw [HL.out]; exact own8); have t3 := HA.2.1; have tf := HA.2.2; replace HA := Lib.hid HA.1; have F8 := mine_frozN m8 HNi.out.c2 hF (before_row HO.out (by show w.heap.size + 1 < w.heap.size + 1 + 1; omega)); have G8 := Ge.setCell (hg.mine HO.out (by omega) m8) (p := ⟨w.heap.size + 1, 3, none⟩) (by show w.heap.size ≤ w.heap.size + 1; omega) (.slice p8 (l + 1) c8); have F9 := froz_set (b := ⟨w.heap.size + 1, 3, none⟩) (u := .slice p8 (l + 1) c8) F8)
              | (go_at_call 105; ((with_reducible refine (HGc.out _).mono ?_); rintro r w5 ⟨rfl, g5⟩)))
            go_roundw
            case rel => exact ⟨d + 1, _, by omega, by omega, by go_num, by rw [HI.out, HGi.out], by rw [HI.out]; exact HA.out.ge g5, g5.keepF HA.out.c2 F9, Ge.trans G8 g5⟩
            case measure => simp [intOf]; omega
        · have hdn : d = k := by omega
          subst hdn
          have HAl := Lib.hid (netD_all f d a)
          go_wp2_with fail
          go_roundw
          case rel => exact ⟨a + 1, u, by omega, by go_num, by rw [← HAl.out], by rw [← HAl.out]; exact HNi.out, hF, hg⟩
          case measure => simp [intOf]; omega
    · have hak : a = k := by omega
      subst hak
      have hgb := HG.out (tabC f a a)
      have HT2 : Hid (∀ i, i < (tabC f a a).length → flatW (cutW (gcdF S (tabC f a a)) ((tabC f a a).take (i + 1)) ++ (tabC f a a).drop (i + 1)) = (flatW (cutW (gcdF S (tabC f a a)) ((tabC f a a).take i) ++ (tabC f a a).drop i)).set (i * 3 + 2) ((nthW (tabC f a a) i).w.tdiv (gcdF S (tabC f a a)))) := fun i hi => cutW_take _ _ i hi
      have HTg : Hid (∀ i, i < (tabC f a a).length → (icells (flatW (cutW (gcdF S (tabC f a a)) ((tabC f a a).take i) ++ (tabC f a a).drop i)))[i * 3 + 2]? = some (.int .i64 (nthW (tabC f a a) i).w)) := fun i hi => cutW_get _ _ i hi
      have HTl : Hid (∀ i, i ≤ (tabC f a a).length → (cutW (gcdF S (tabC f a a)) ((tabC f a a).take i) ++ (tabC f a a).drop i).length = (tabC f a a).length) := fun i hi => by
        show _ = _
        rw [List.length_append, cutW_length, List.length_take, List.length_drop]; omega
      have HTn : Hid (cutW (gcdF S (tabC f a a)) ((tabC f a a).take (tabC f a a).length) ++ (tabC f a a).drop (tabC f a a).length = cutW (gcdF S (tabC f a a)) (tabC f a a)) := by
        show _ = _
        rw [List.take_length, List.drop_length, List.append_nil]
      have HT0 : Hid (cutW (gcdF S (tabC f a a)) ((tabC f a a).take 0) ++ (tabC f a a).drop 0 = tabC f a a) := by
        show _ = _
        simp [cutW]
      have HWb : Hid (∀ i, i < (tabC f a a).length → 0 ≤ (nthW (tabC f a a) i).w ∧ (nthW (tabC f a a) i).w ≤ 1000000000000) := fun i hi => by
        have hm : nthW (tabC f a a) i ∈ tabC f a a := by rw [nthW_eq _ i hi]; exact List.getElem_mem _
        obtain ⟨x, y, h1, h2, h3, h4, h5⟩ := mem_tabC.1 hm
        rw [h5]
        have := HB.out x y (by omega) h3
        rw [HT.out] at this
        exact this
      have hln : (tabC f a a).length ≤ 100 := Nat.le_trans (tabC_len f a a) (Nat.le_trans (Nat.mul_le_mul hk hk) (by omega))
      have HCl : Hid (∀ g, (cutW g (tabC f a a)).length = (tabC f a a).length) := fun g => cutW_length _ _
      clear HGs HG0 HF0 HMC
      generalize hGG : gcdF S (tabC f a a) = G at *
      have HGG := Lib.hid hGG
      clear hGG
      generalize tabC f a a = L at *
      obtain ⟨m, hm⟩ : ∃ m, L.length = m := ⟨_, rfl⟩
      rw [hm] at HT2 HTg HTl HTn HWb hln HCl
      have HL := Lib.hid hm
      have HO := HNr.out.own
      rw [hm] at HO
      obtain ⟨p, c, rfl⟩ := owns_form HO
      replace HO := Lib.hid HO
      clear hm
      have gz : ¬ G = 0 := by omega
      have w1 : IntKind.i64.wrap (S.tdiv G) = S.tdiv G := IntWalk.i64_in _ (by have := tdiv_in (x := S) (g := G) (by omega) (by omega); omega)
      have a2 := HNr.out.c2
      have a3 := HNr.out.c3
      have HNs := Lib.hid (NetAt.setS (S' := S.tdiv G) HNr.out (by omega))
      have a3s := HNs.out.c3
      have gS := Ge.setCell hg (p := ⟨w.heap.size + 1, 2, none⟩) (by show w.heap.size ≤ w.heap.size + 1; omega) (.int .i64 (S.tdiv G))
      have HNv := Lib.hid (fun v w' (h : SlF w' v m 3 (flatW (cutW G L))) => iNetOk a E (S.tdiv G) v m (flatW (cutW G L)) w' h (by omega))
      go_wp2_with fail
      go_loopw [66] (fun i wr => ∃ j : Nat, j ≤ m ∧ i = .int .i64 j ∧ NetAt wr w.heap.size (w.heap.size + 1) a E (S.tdiv G) (.slice p m c) (cutW G (L.take j) ++ L.drop j) ∧ Ge w wr) (fun i _ => m - (intOf i).toNat)
      case atStart => exact ⟨0, Nat.zero_le _, rfl, by rw [HT0.out]; exact HNs.out, gS⟩
      case round =>
        clear HNs HNr HO a2 a3 a3s gS hF
        obtain ⟨j, hj, rfl, HN', hg⟩ := hrel
        have HNi := Lib.hid HN'
        clear HN'
        have a3 := HNi.out.c3
        have zG : w.heap.size + 1 < wr.heap.size := World.block_lt_of_cell? _ _ a3
        by_cases hjm : j < m
        · have hO := HNi.out.own
          have hTl := HTl.out j (by omega)
          have hTl2 := HTl.out (j + 1) (by omega)
          rw [hTl] at hO
          obtain ⟨q, cq, hq⟩ := Go.Joins.ownsRow_form hO (by omega)
          simp only [Value.slice.injEq, true_and] at hq
          obtain ⟨rfl, rfl⟩ := hq
          have y0 := hO.cellAt (j * 3 + 2) (by omega)
          have hw := HTg.out j hjm
          have yf := hO.frozenAt (j * 3 + 2)
          have HS := Lib.hid (HNi.out.setW (by omega) hTl hTl2 (HT2.out j hjm))
          have hzq := HS.out.2
          have hwb := HWb.out j hjm
          rw [hw] at y0
          clear hO hw hTl hTl2
          generalize nthW L j = X at *
          have w2 : IntKind.i64.wrap (X.w.tdiv G) = X.w.tdiv G := IntWalk.i64_in _ (by have := tdiv_in (x := X.w) (g := G) (by omega) (by omega); omega)
          go_wp2_with fail
          go_roundw
          case rel => exact ⟨j + 1, by omega, by go_num, HS.out.1, Ge.setCell hg (p := ⟨q, j * 3 + 2, none⟩) (by show w.heap.size ≤ q; omega) _⟩
          case measure => simp [intOf]; omega
        · have hjm' : j = m := by omega
          subst hjm'
          rw [HTn.out] at HNi
          have hcl := HCl.out G
          obtain ⟨a0, a1, a2, a3, af, ao, ar⟩ := HNi.out
          obtain ⟨r0, p0, f0⟩ := ar 0 (by omega)
          obtain ⟨r1, p1, f1⟩ := ar 1 (by omega)
          obtain ⟨r2, p2, f2⟩ := ar 2 (by omega)
          obtain ⟨r3, p3, f3⟩ := ar 3 (by omega)
          have ao2 := ao
          rw [hcl] at ao2
          have HSl := Lib.hid (SlF.of_owns ao2)
          have HO := Lib.hid ao2
          have HCg := Lib.hid hcl
          clear ao ar ao2 hcl
          have zl2 : w.heap.size < wr.heap.size := by omega
          by_cases hB : netB a E (S.tdiv G) j (flatW (cutW G L)) = true
          · have HT1 := Lib.hid (fun u w' ho g => GivesO.t (w := w) (w' := w') (N := a) (E := E) (S := S.tdiv G) (L := cutW G L) (u := u) hB ho g)
            rw [hB] at HNv
            clear hB
            go_wp2_with ((go_at_call 43; ((with_reducible refine (HNv.out _ _ HSl.out).mono ?_); rintro r w9 ⟨rfl, g9⟩)); have e0 := g9.keep a0; have e1 := g9.keep a1; have e2 := g9.keep a2; have e3 := g9.keep a3; have q0 := g9.keep p0; have q1 := g9.keep p1; have q2 := g9.keep p2; have q3 := g9.keep p3; have h0 := g9.keepF p0 f0; have h1 := g9.keepF p1 f1; have h2 := g9.keepF p2 f2; have h3 := g9.keepF p3 f3; have o9 := g9.owns HO.out)
            exact bodyPost_ret (v := .tuple #[.agg #[.int .i64 (a : Int), .int .i64 E, .int .i64 (S.tdiv G), .slice p j c], .bool true]) (by simp [results, Tryz.results71, go_sem, *]) rfl (by refine (?_ : GivesO w _ _ _ _ _ _ _); rw [HL.out]; exact HT1.out _ _ (by rw [HCg.out]; refine owns_mono (base := w.heap.size + 1 + 1) ?_ (by omega); repeat (first | exact o9 | refine own_setD ?_ (by omega))) (kge))
          · have hB' : netB a E (S.tdiv G) j (flatW (cutW G L)) = false := by simpa using hB
            have HT1 := Lib.hid (fun w' g => GivesO.f (w := w) (w' := w') (N := a) (E := E) (S := S.tdiv G) (L := cutW G L) hB' g)
            rw [hB'] at HNv
            clear hB hB'
            go_wp2_with ((go_at_call 43; ((with_reducible refine (HNv.out _ _ HSl.out).mono ?_); rintro r w9 ⟨rfl, g9⟩)); have e0 := g9.keep a0; have e1 := g9.keep a1; have e2 := g9.keep a2; have e3 := g9.keep a3; have q0 := g9.keep p0; have q1 := g9.keep p1; have q2 := g9.keep p2; have q3 := g9.keep p3; have h0 := g9.keepF p0 f0; have h1 := g9.keepF p1 f1; have h2 := g9.keepF p2 f2; have h3 := g9.keepF p3 f3)
            exact bodyPost_ret (v := .tuple #[.agg #[.int .i64 0, .int .i64 0, .int .i64 0, .slice none 0 0], .bool false]) (by simp [results, Tryz.results71, go_sem, *]) rfl (by refine (?_ : GivesO w _ _ _ _ _ _ _); rw [HL.out]; exact HT1.out _ (kge))
end Go.Proofs.YtagiecajffhnpaaGreat
