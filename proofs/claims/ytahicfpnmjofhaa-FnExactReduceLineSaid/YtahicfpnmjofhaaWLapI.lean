/- table, LaplacianOf of impl. No condition. -/
import Derived.Test.YtahicfpnmjofhaaWOthers
import Derived.Test.YtahicfpnmjofhaaPlLap
import Derived.Test.YtahicfpnmjofhaaWWeight
import Derived.Test.YtahicfpnmjofhaaWNetOkI2
namespace Go.Proofs.Ytahicfpnmjofhaa
set_option maxRecDepth 100000
open Go.ChangeShapes Go.WideShapes Go.ChangeAt Go.RowKit Go.Joins

/-- The table's rows while row i is filled up to j. -/
def tabR (T : Nat → Nat → Int) (i j : Nat) (a b : Nat) : Int := if a = i then (if b < j then T a b else 0) else T a b
theorem tabR_zero (T : Nat → Nat → Int) (i n : Nat) : ∀ a b, a < i + 1 → b < n → (if a = i then (fun _ => (0 : Int)) else T a) b = tabR T i 0 a b := fun a b _ _ => by
  unfold tabR; by_cases e : a = i <;> simp [e]
theorem tabR_step (T : Nat → Nat → Int) (i j n : Nat) : ∀ a b, a < i + 1 → b < n → (if a = i ∧ b = j then T i j else tabR T i j a b) = tabR T i (j + 1) a b := fun a b _ _ => by
  unfold tabR
  by_cases e : a = i
  · subst e
    by_cases e2 : b = j
    · subst e2; simp
    · by_cases e3 : b < j
      · simp [e2, e3, show b < j + 1 by omega]
      · simp [e2, e3, show ¬ b < j + 1 by omega]
  · simp [e]
theorem tabR_all (T : Nat → Nat → Int) (i n : Nat) : ∀ a b, a < i + 1 → b < n → tabR T i n a b = T a b := fun a b _ hb => by
  unfold tabR; by_cases e : a = i <;> simp [e, hb]

set_option maxHeartbeats 1600000 in
theorem iTable (n : Nat) (E S : Int) (s : Value) (m : Nat) (xs : List Int) (w : World) (hs : SlF w s m 3 xs) (hm : m ≤ 10) (h1 : 1 ≤ n) (h5 : n ≤ 5) (hok : ∀ k, k < m → goodW n xs k) :
    Calls Try.prog 52 #[.agg #[.int .i64 (n : Int), .int .i64 E, .int .i64 S, s]] w fun e w' => ∃ G f cs, e = .returned (.slice (some ⟨G, 0, none⟩) n n) ∧ OMat w' w.heap.size G n f cs n (fun a b => wbet xs m (a : Int) (b : Int)) ∧ Ge w w' := by
  have HV := Lib.hid hs
  have HK := Lib.hid hok
  obtain ⟨p, cap, rfl, _⟩ := hs.open
  clear hs hok
  generalize hT : (fun (a b : Nat) => wbet xs m (a : Int) (b : Int)) = T
  have HT := Lib.hid hT
  clear hT
  go_enter Try.func52, Try.ntmps52
  go_wp2_with (at_make; refine mk1 rfl _ _ _ rfl 51 _ 1 24 Try.underlying68 inf_rowI (by decide) n rfl rfl (by omega) ?_; intro w1 own1 g1)
  have HO1 : Hid (∃ f cs, OMat w1 (w.heap.size + 1) (w.heap.size + 1) n f cs 0 T) := ⟨fun _ => 0, _, by simpa using own1, fun i hi => by omega⟩
  clear own1
  go_loopw [11] (fun i wr => ∃ k : Nat, k ≤ n ∧ i = .int .i64 k ∧ (∃ f cs, OMat wr (w.heap.size + 1) (w.heap.size + 1) n f cs k T) ∧ Ge (w.alloc (.cells #[.int .i64 (n : Int), .int .i64 E, .int .i64 S, .slice p m cap] 29)) wr) (fun i _ => n - (intOf i).toNat)
  case atStart => exact ⟨0, Nat.zero_le _, rfl, HO1.out, g1⟩
  case round =>
    obtain ⟨i, hi, rfl, ⟨f, cs, HO⟩, hg⟩ := hrel
    have c0 := hg.keep (cell_new (i := 0) rfl rfl)
    have c1 := hg.keep (cell_new (i := 1) rfl rfl)
    have c2 := hg.keep (cell_new (i := 2) rfl rfl)
    have c3 := hg.keep (cell_new (i := 3) rfl rfl)
    simp at c0 c1 c2 c3
    have hl := HO.lt
    by_cases hlt : i < n
    · have HOh := Lib.hid HO
      obtain ⟨lg1, lg2, lg3⟩ := hl
      clear lg3 HO
      obtain ⟨u, hu⟩ : ∃ u, wr.cell? ⟨w.heap.size + 1, i, none⟩ = some u := by
        rw [HOh.out.1.cellAt i (by omega)]
        exact ⟨_, List.getElem?_eq_getElem (by have := HOh.out.1.1; omega)⟩
      have hf := HOh.out.1.frozenAt i
      go_wp2_with (at_make; refine mk1 rfl _ _ _ rfl 3 _ 1 8 Try.underlying51 inf_int (by decide) n rfl rfl (by omega) ?_; intro w5 own5 g5; rw [made_ints, mapR_zero] at own5; have hu5 := g5.keep hu; have hf5 := g5.keepF hu hf; have zr := g5.size)
      have HN5 := Lib.hid (OMat.newRow HOh.out hlt g5 own5 rfl)
      have d0 := g5.keep c0
      have d1 := g5.keep c1
      have d2 := g5.keep c2
      have d3 := g5.keep c3
      clear own5 hu hf c0 c1 c2 c3
      generalize hr : wr.heap.size = r at *
      have hrb : w.heap.size + 1 < r := lg2
      have HN6 := Lib.hid (HN5.out.1.congr (tabR_zero T i n))
      have hg6 : Ge (w.alloc (.cells #[.int .i64 (n : Int), .int .i64 E, .int .i64 S, .slice p m cap] 29)) (w5.setCell ⟨w.heap.size + 1, i, none⟩ (.slice (some ⟨r, 0, none⟩) n n)) := (Ge.trans hg g5).grown HN5.out.2 (fun q hq => by simp at hq; subst hq; simp)
      clear HN5 hu5 hf5 d0 d1 d2 d3
      go_loopw [25] (fun i' wi => ∃ j : Nat, j ≤ n ∧ i' = .int .i64 j ∧ (∃ cs', OMat wi (w.heap.size + 1) (w.heap.size + 1) n (fun a => if a = i then r else f a) cs' (i + 1) (tabR T i j)) ∧ Ge (w.alloc (.cells #[.int .i64 (n : Int), .int .i64 E, .int .i64 S, .slice p m cap] 29)) wi) (fun i _ => n - (intOf i).toNat)
      case atStart => exact ⟨0, Nat.zero_le _, rfl, ⟨_, HN6.out⟩, hg6⟩
      case round =>
        obtain ⟨j, hj, rfl, ⟨cs', HO⟩, hgj⟩ := hrel
        have HOj := Lib.hid HO
        clear HO
        by_cases hjn : j < n
        · have c0 := hgj.keep (cell_new (i := 0) rfl rfl)
          have c1 := hgj.keep (cell_new (i := 1) rfl rfl)
          have c2 := hgj.keep (cell_new (i := 2) rfl rfl)
          have c3 := hgj.keep (cell_new (i := 3) rfl rfl)
          simp at c0 c1 c2 c3
          have x0 := HOj.out.row (i := i) (by omega) hlt
          have x1 := cv_some (HOj.out.entry (i := i) (j := j) (by omega) hjn)
          have x2 := HOj.out.froz (i := i) (by omega) j
          simp only [if_pos] at x0 x1 x2
          have HW := Lib.hid (fun w' (g : Ge w w') => iWeightBetween n E S (.slice p m cap) m xs (i : Int) (j : Int) w' (HV.out.ge g) hm HK.out)
          have hwj : Ge w wr := by (repeat (first | with_reducible exact Ge.refl _ | assumption | with_reducible refine Ge.drew ?_ | with_reducible refine Ge.drewN ?_ _ | with_reducible refine Ge.alloc ?_ _ | (with_reducible refine Ge.setCell ?_ (by first | (simp; done) | omega | (simp; omega)) _) | with_reducible refine Ge.trans ?_ (by assumption)))
          go_wp2_with fail
          go_region_held3 (fun w' => w'.cell? ⟨w.heap.size, 0, none⟩ = some (.int .i64 (n : Int)) ∧ w'.cell? ⟨w.heap.size, 1, none⟩ = some (.int .i64 E) ∧ w'.cell? ⟨w.heap.size, 2, none⟩ = some (.int .i64 S) ∧ w'.cell? ⟨w.heap.size, 3, none⟩ = some (.slice p m cap) ∧ w'.cell? ⟨w.heap.size + 1, i, none⟩ = some (.slice (some ⟨r, 0, none⟩) n n) ∧ w'.cell? ⟨r, j, none⟩ = some (cv w' ⟨r, j, none⟩) ∧ w'.frozen? ⟨r, j, none⟩ = false) (first | exact ⟨hb.keep (‹_ ∧ _ ∧ _ ∧ _ ∧ _ ∧ _ ∧ _›).1, hb.keep (‹_ ∧ _ ∧ _ ∧ _ ∧ _ ∧ _ ∧ _›).2.1, hb.keep (‹_ ∧ _ ∧ _ ∧ _ ∧ _ ∧ _ ∧ _›).2.2.1, hb.keep (‹_ ∧ _ ∧ _ ∧ _ ∧ _ ∧ _ ∧ _›).2.2.2.1, hb.keep (‹_ ∧ _ ∧ _ ∧ _ ∧ _ ∧ _ ∧ _›).2.2.2.2.1, cv_some (hb.keep (‹_ ∧ _ ∧ _ ∧ _ ∧ _ ∧ _ ∧ _›).2.2.2.2.2.1), hb.keepF (‹_ ∧ _ ∧ _ ∧ _ ∧ _ ∧ _ ∧ _›).2.2.2.2.2.1 (‹_ ∧ _ ∧ _ ∧ _ ∧ _ ∧ _ ∧ _›).2.2.2.2.2.2⟩ | ((refine ⟨?_, ?_, ?_, ?_, ?_, ?_, ?_⟩ <;> (repeat (first | assumption | with_reducible refine cv_drew ?_ | with_reducible refine cv_set ?_ | with_reducible refine cell_drew ?_ | with_reducible refine cell_drewN ?_ | ((with_reducible refine cell_set2 ?_ ?_); focus (first | (simp; done) | (intro hE; simp at hE; done) | (intro hE; simp at hE; omega))) | with_reducible refine froz_drew ?_ | with_reducible refine froz_set ?_))); done) | ((obtain ⟨s0, s1, s2, s3, s4, s5, s6⟩ := ‹_ ∧ _ ∧ _ ∧ _ ∧ _ ∧ _ ∧ _›); refine ⟨?_, ?_, ?_, ?_, ?_, ?_, ?_⟩ <;> (repeat (first | assumption | with_reducible refine cv_drew ?_ | with_reducible refine cv_set ?_ | with_reducible refine cell_drew ?_ | with_reducible refine cell_drewN ?_ | ((with_reducible refine cell_set2 ?_ ?_); focus (first | (simp; done) | (intro hE; simp at hE; done) | (intro hE; simp at hE; omega))) | with_reducible refine froz_drew ?_ | with_reducible refine froz_set ?_)))) (first | (go_at_call 51; ((with_reducible refine (HW.out _ (Ge.drew hwj)).mono ?_); rintro e w8 ⟨rfl, hb⟩); have g8 : Ge wr w8 := Ge.trans (Ge.drew (Ge.refl _)) hb) | fail)
          clear c0 c1 c2 c3 x0 x1 x2
          have HE := Lib.hid (OMat.setE (HOj.out.ge g8) (i := i) (j := j) (by omega) hjn (wbet xs m (i : Int) (j : Int)))
          simp only [if_pos] at HE
          have eT : T i j = wbet xs m (i : Int) (j : Int) := by rw [← HT.out]
          have HE2 := Lib.hid (HE.out.1.congr (M' := tabR T i (j + 1)) (fun a b ha hb => by rw [← eT]; exact tabR_step T i j n a b ha hb))
          have hgE := (Ge.trans hgj g8).grown HE.out.2 (fun q hq => by simp at hq; subst hq; simp; try omega)
          clear HE
          go_wp2_with fail
          go_roundw
          case rel => exact ⟨j + 1, by omega, by go_num, ⟨_, HE2.out⟩, hgE⟩
          case measure => simp [intOf]; omega
        · have hjn' : j = n := by omega
          subst hjn'
          have HOk := Lib.hid (HOj.out.congr (tabR_all T i j))
          clear HOj
          go_wp2_with fail
          go_roundw
          case rel => exact ⟨i + 1, by omega, by go_num, ⟨_, _, HOk.out⟩, hgj⟩
          case measure => simp [intOf]; omega
    · have hin : i = n := by omega
      subst hin
      have HOh := Lib.hid HO
      clear HO hl
      go_wp2_with fail
      go_ret
      exact ⟨_, f, cs, rfl, HOh.out.mono (by omega), by (repeat (first | with_reducible exact Ge.refl _ | assumption | with_reducible refine Ge.drew ?_ | with_reducible refine Ge.drewN ?_ _ | with_reducible refine Ge.alloc ?_ _ | (with_reducible refine Ge.setCell ?_ (by first | (simp; done) | omega | (simp; omega)) _) | with_reducible refine Ge.trans ?_ (by assumption)))⟩

/-- The Laplacian's rows while row i is turned up to j. -/
def lapR (W : Nat → Int) (T : Nat → Nat → Int) (i j : Nat) (a b : Nat) : Int := if a < i then (if a = b then W a else -(T a b)) else if a = i ∧ b < j then -(T a b) else T a b
theorem lapR_zero (W : Nat → Int) (T : Nat → Nat → Int) (n : Nat) : ∀ a b, a < n → b < n → T a b = lapR W T 0 0 a b := fun a b _ _ => by simp [lapR]
theorem lapR_step (W : Nat → Int) (T : Nat → Nat → Int) (i j n : Nat) : ∀ a b, a < n → b < n → (if a = i ∧ b = j then -(T i j) else lapR W T i j a b) = lapR W T i (j + 1) a b := fun a b _ _ => by
  unfold lapR
  by_cases e : a = i
  · subst e
    by_cases e2 : b = j
    · subst e2; simp
    · by_cases e3 : b < j
      · simp [e2, e3, show b < j + 1 by omega]
      · simp [e2, e3, show ¬ b < j + 1 by omega]
  · simp [e]
theorem lapR_diag (W : Nat → Int) (T : Nat → Nat → Int) (i n : Nat) : ∀ a b, a < n → b < n → (if a = i ∧ b = i then W i else lapR W T i n a b) = lapR W T (i + 1) 0 a b := fun a b _ hb => by
  unfold lapR
  by_cases e : a = i
  · subst e
    by_cases e2 : b = a
    · subst e2; simp
    · have e3 : ¬ a = b := fun h => e2 h.symm
      simp [e2, e3, hb]
  · by_cases e4 : a < i
    · simp [e, e4, show a < i + 1 by omega]
    · simp [e, e4, show ¬ a < i + 1 by omega]
theorem lapR_at (W : Nat → Int) (T : Nat → Nat → Int) (i j : Nat) : lapR W T i j i j = T i j := by simp [lapR]

end Go.Proofs.Ytahicfpnmjofhaa
