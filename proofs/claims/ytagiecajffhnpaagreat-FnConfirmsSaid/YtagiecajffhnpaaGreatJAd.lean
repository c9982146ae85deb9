/- table, LaplacianOf of impl. No condition. Plain law: wires between the neighbors of a node. No program in sight. Plain law: both sides of the mesh give the same wires. No program in sight. Plain law: weights of a list of wires, in both ways. No program in sight. Plain law: bounds of determinants of up to five rows. No program in sight. l04Det of the reference, up to five rows. No condition. Plain law: chances of walks out of tree sums. No program in sight. Plain law: rows of the Laplacian. No program in sight. -/
import Derived.Test.YtagiecajffhnpaaGreatWOthers
import Derived.Test.YtagiecajffhnpaaGreatPlLap
import Derived.Test.YtagiecajffhnpaaGreatWWeight
import Derived.Test.YtagiecajffhnpaaGreatJAc
import Derived.Test.YtagiecajffhnpaaGreatJAa
import Derived.Test.YtagiecajffhnpaaGreatPlWeight
import Derived.Test.YtagiecajffhnpaaGreatWDetS
import Derived.Test.YtagiecajffhnpaaGreatJAb
namespace Go.Proofs.YtagiecajffhnpaaGreat
set_option maxRecDepth 100000
open Go.ChangeShapes Go.WideShapes Go.ChangeAt Go.RowKit Go.Joins

/-- The table's rows while row i is filled up to j. -/
def tabR (T : Nat → Nat → Int) (i j : Nat) (a b : Nat) : Int := if a = i then (if b < j then T a b else 0) else T a b
theorem tabR_zero (T : Nat → Nat → Int) (i n : Nat) : ∀ a b, a < i + 1 → b < n → (if a = i then (fun _ => (0 : Int)) else T a) b = tabR T i 0 a b := fun a b _ _ => by
  unfold tabR; by_cases e : a = i <;> simp [e]
theorem tabR_step (T : Nat → Nat → Int) (i j n : Nat) : ∀ a b, a < i + 1 → b < n → (if a = i ∧ b = j then T i j else tabR T i j a b) = tabR T i (j + 1) a b := fun a b _ _ => by
  unfold tabR
  by_cases e : a = i
  · subst e
    by_cases e2 : b = j
    · subst e2; simp
    · by_cases e3 : b < j
      · simp [e2, e3, show b < j + 1 by omega]
      · simp [e2, e3, show ¬ b < j + 1 by omega]
  · simp [e]
theorem tabR_all (T : Nat → Nat → Int) (i n : Nat) : ∀ a b, a < i + 1 → b < n → tabR T i n a b = T a b := fun a b _ hb => by
  unfold tabR; by_cases e : a = i <;> simp [e, hb]

set_option maxHeartbeats 1600000 in
theorem iTable (n : Nat) (E S : Int) (s : Value) (m : Nat) (xs : List Int) (w : World) (hs : SlF w s m 3 xs) (hm : m ≤ 10) (h1 : 1 ≤ n) (h5 : n ≤ 5) (hok : ∀ k, k < m → goodW n xs k) :
    Calls Tryz.prog 70 #[.agg #[.int .i64 (n : Int), .int .i64 E, .int .i64 S, s]] w fun e w' => ∃ G f cs, e = .returned (.slice (some ⟨G, 0, none⟩) n n) ∧ OMat w' w.heap.size G n f cs n (fun a b => wbet xs m (a : Int) (b : Int)) ∧ Ge w w' := by
  have HV := Lib.hid hs
  have HK := Lib.hid hok
  obtain ⟨p, cap, rfl, _⟩ := hs.open
  clear hs hok
  generalize hT : (fun (a b : Nat) => wbet xs m (a : Int) (b : Int)) = T
  have HT := Lib.hid hT
  clear hT
  go_enter Tryz.func70, Tryz.ntmps70
  go_wp2_with (at_make; refine mk1 rfl _ _ _ rfl 51 _ 1 24 Tryz.underlying114 inf_rowI (by decide) n rfl rfl (by omega) ?_; intro w1 own1 g1)
  have HO1 : Hid (∃ f cs, OMat w1 (w.heap.size + 1) (w.heap.size + 1) n f cs 0 T) := ⟨fun _ => 0, _, by simpa using own1, fun i hi => by omega⟩
  clear own1
  go_loopw [11] (fun i wr => ∃ k : Nat, k ≤ n ∧ i = .int .i64 k ∧ (∃ f cs, OMat wr (w.heap.size + 1) (w.heap.size + 1) n f cs k T) ∧ Ge (w.alloc (.cells #[.int .i64 (n : Int), .int .i64 E, .int .i64 S, .slice p m cap] 33)) wr) (fun i _ => n - (intOf i).toNat)
  case atStart => exact ⟨0, Nat.zero_le _, rfl, HO1.out, g1⟩
  case round =>
    obtain ⟨i, hi, rfl, ⟨f, cs, HO⟩, hg⟩ := hrel
    have c0 := hg.keep (cell_new (i := 0) rfl rfl)
    have c1 := hg.keep (cell_new (i := 1) rfl rfl)
    have c2 := hg.keep (cell_new (i := 2) rfl rfl)
    have c3 := hg.keep (cell_new (i := 3) rfl rfl)
    simp at c0 c1 c2 c3
    have hl := HO.lt
    by_cases hlt : i < n
    · have HOh := Lib.hid HO
      obtain ⟨lg1, lg2, lg3⟩ := hl
      clear lg3 HO
      obtain ⟨u, hu⟩ : ∃ u, wr.cell? ⟨w.heap.size + 1, i, none⟩ = some u := by
        rw [HOh.out.1.cellAt i (by omega)]
        exact ⟨_, List.getElem?_eq_getElem (by have := HOh.out.1.1; omega)⟩
      have hf := HOh.out.1.frozenAt i
      go_wp2_with (at_make; refine mk1 rfl _ _ _ rfl 3 _ 1 8 Tryz.underlying51 inf_int (by decide) n rfl rfl (by omega) ?_; intro w5 own5 g5; rw [made_ints, mapR_zero] at own5; have hu5 := g5.keep hu; have hf5 := g5.keepF hu hf; have zr := g5.size)
      have HN5 := Lib.hid (OMat.newRow HOh.out hlt g5 own5 rfl)
      have d0 := g5.keep c0
      have d1 := g5.keep c1
      have d2 := g5.keep c2
      have d3 := g5.keep c3
      clear own5 hu hf c0 c1 c2 c3
      generalize hr : wr.heap.size = r at *
      have hrb : w.heap.size + 1 < r := lg2
      have HN6 := Lib.hid (HN5.out.1.congr (tabR_zero T i n))
      have hg6 : Ge (w.alloc (.cells #[.int .i64 (n : Int), .int .i64 E, .int .i64 S, .slice p m cap] 33)) (w5.setCell ⟨w.heap.size + 1, i, none⟩ (.slice (some ⟨r, 0, none⟩) n n)) := (Ge.trans hg g5).grown HN5.out.2 (fun q hq => by simp at hq; subst hq; simp)
      clear HN5 hu5 hf5 d0 d1 d2 d3
      go_loopw [25] (fun i' wi => ∃ j : Nat, j ≤ n ∧ i' = .int .i64 j ∧ (∃ cs', OMat wi (w.heap.size + 1) (w.heap.size + 1) n (fun a => if a = i then r else f a) cs' (i + 1) (tabR T i j)) ∧ Ge (w.alloc (.cells #[.int .i64 (n : Int), .int .i64 E, .int .i64 S, .slice p m cap] 33)) wi) (fun i _ => n - (intOf i).toNat)
      case atStart => exact ⟨0, Nat.zero_le _, rfl, ⟨_, HN6.out⟩, hg6⟩
      case round =>
        obtain ⟨j, hj, rfl, ⟨cs', HO⟩, hgj⟩ := hrel
        have HOj := Lib.hid HO
        clear HO
        by_cases hjn : j < n
        · have c0 := hgj.keep (cell_new (i := 0) rfl rfl)
          have c1 := hgj.keep (cell_new (i := 1) rfl rfl)
          have c2 := hgj.keep (cell_new (i := 2) rfl rfl)
          have c3 := hgj.keep (cell_new (i := 3) rfl rfl)
          simp at c0 c1 c2 c3
          have x0 := HOj.out.row (i := i) (by omega) hlt
          have x1 := cv_some (HOj.out.entry (i := i) (j := j) (by omega) hjn)
          have x2 := HOj.out.froz (i := i) (by omega) j
          simp only [if_pos] at x0 x1 x2
          have HW := Lib.hid (fun w' (g : Ge w w') => iWeightBetween n E S (.slice p m cap) m xs (i : Int) (j : Int) w' (HV.out.ge g) hm HK.out)
          have hwj : Ge w wr := kge
          go_wp2_with fail
          go_region_held3 (fun w' => w'.cell? ⟨w.heap.size, 0, none⟩ = some (.int .i64 (n : Int)) ∧ w'.cell? ⟨w.heap.size, 1, none⟩ = some (.int .i64 E) ∧ w'.cell? ⟨w.heap.size, 2, none⟩ = some (.int .i64 S) ∧ w'.cell? ⟨w.heap.size, 3, none⟩ = some (.slice p m cap) ∧ w'.cell? ⟨w.heap.size + 1, i, none⟩ = some (.slice (some ⟨r, 0, none⟩) n n) ∧ w'.cell? ⟨r, j, none⟩ = some (cv w' ⟨r, j, none⟩) ∧ w'.frozen? ⟨r, j, none⟩ = false) (first | exact ⟨hb.keep (‹_ ∧ _ ∧ _ ∧ _ ∧ _ ∧ _ ∧ _›).1, hb.keep (‹_ ∧ _ ∧ _ ∧ _ ∧ _ ∧ _ ∧ _›).2.1, hb.keep (‹_ ∧ _ ∧ _ ∧ _ ∧ _ ∧ _ ∧ _›).2.2.1, hb.keep (‹_ ∧ _ ∧ _ ∧ _ ∧ _ ∧ _ ∧ _›).2.2.2.1, hb.keep (‹_ ∧ _ ∧ _ ∧ _ ∧ _ ∧ _ ∧ _›).2.2.2.2.1, cv_some (hb.keep (‹_ ∧ _ ∧ _ ∧ _ ∧ _ ∧ _ ∧ _›).2.2.2.2.2.1), hb.keepF (‹_ ∧ _ ∧ _ ∧ _ ∧ _ ∧ _ ∧ _›).2.2.2.2.2.1 (‹_ ∧ _ ∧ _ ∧ _ ∧ _ ∧ _ ∧ _›).2.2.2.2.2.2⟩ | ((refine ⟨?_, ?_, ?_, ?_, ?_, ?_, ?_⟩ <;> (repeat (first | assumption | with_reducible refine cv_drew ?_ | with_reducible refine cv_set ?_ | with_reducible refine cell_drew ?_ | with_reducible refine cell_drewN ?_ | ((with_reducible refine cell_set2 ?_ ?_); focus (first | (simp; done) | (intro hE; simp at hE; done) | (intro hE; simp at hE; omega))) | with_reducible refine froz_drew ?_ | with_reducible refine froz_set ?_))); done) | ((obtain ⟨s0, s1, s2, s3, s4, s5, s6⟩ := ‹_ ∧ _ ∧ _ ∧ _ ∧ _ ∧ _ ∧ _›); refine ⟨?_, ?_, ?_, ?_, ?_, ?_, ?_⟩ <;> (repeat (first | assumption | with_reducible refine cv_drew ?_ | with_reducible refine cv_set ?_ | with_reducible refine cell_drew ?_ | with_reducible refine cell_drewN ?_ | ((with_reducible refine cell_set2 ?_ ?_); focus (first | (simp; done) | (intro hE; simp at hE; done) | (intro hE; simp at hE; omega))) | with_reducible refine froz_drew ?_ | with_reducible refine froz_set ?_)))) (first | (go_at_call 75; ((with_reducible refine (HW.out _ (Ge.drew hwj)).mono ?_); rintro e w8 ⟨rfl, hb⟩); have g8 : Ge wr w8 := Ge.trans (Ge.drew (Ge.refl _)) hb) | fail)
          clear c0 c1 c2 c3 x0 x1 x2
          have HE := Lib.hid (OMat.setE (HOj.out.ge g8) (i := i) (j := j) (by omega) hjn (wbet xs m (i : Int) (j : Int)))
          simp only [if_pos] at HE
          have eT : T i j = wbet xs m (i : Int) (j : Int) := by rw [← HT.out]
          have HE2 := Lib.hid (HE.out.1.congr (M' := tabR T i (j + 1)) (fun a b ha hb => by rw [← eT]; exact tabR_step T i j n a b ha hb))
          have hgE := (Ge.trans hgj g8).grown HE.out.2 (fun q hq => by simp at hq; subst hq; simp; try omega)
          clear HE
          go_wp2_with fail
          go_roundw
          case rel => exact ⟨j + 1, by omega, by go_num, ⟨_, HE2.out⟩, hgE⟩
          case measure => simp [intOf]; omega
        · have hjn' : j = n := by omega
          subst hjn'
          have HOk := Lib.hid (HOj.out.congr (tabR_all T i j))
          clear HOj
          go_wp2_with fail
          go_roundw
          case rel => exact ⟨i + 1, by omega, by go_num, ⟨_, _, HOk.out⟩, hgj⟩
          case measure => simp [intOf]; omega
    · have hin : i = n := by omega
      subst hin
      have HOh := Lib.hid HO
      clear HO hl
      go_wp2_with fail
      go_ret
      exact ⟨_, f, cs, rfl, HOh.out.mono (by omega), kge⟩

/-- The Laplacian's rows while row i is turned up to j. -/
def lapR (W : Nat → Int) (T : Nat → Nat → Int) (i j : Nat) (a b : Nat) : Int := if a < i then (if a = b then W a else -(T a b)) else if a = i ∧ b < j then -(T a b) else T a b
theorem lapR_zero (W : Nat → Int) (T : Nat → Nat → Int) (n : Nat) : ∀ a b, a < n → b < n → T a b = lapR W T 0 0 a b := fun a b _ _ => by simp [lapR]
theorem lapR_step (W : Nat → Int) (T : Nat → Nat → Int) (i j n : Nat) : ∀ a b, a < n → b < n → (if a = i ∧ b = j then -(T i j) else lapR W T i j a b) = lapR W T i (j + 1) a b := fun a b _ _ => by
  unfold lapR
  by_cases e : a = i
  · subst e
    by_cases e2 : b = j
    · subst e2; simp
    · by_cases e3 : b < j
      · simp [e2, e3, show b < j + 1 by omega]
      · simp [e2, e3, show ¬ b < j + 1 by omega]
  · simp [e]
theorem lapR_diag (W : Nat → Int) (T : Nat → Nat → Int) (i n : Nat) : ∀ a b, a < n → b < n → (if a = i ∧ b = i then W i else lapR W T i n a b) = lapR W T (i + 1) 0 a b := fun a b _ hb => by
  unfold lapR
  by_cases e : a = i
  · subst e
    by_cases e2 : b = a
    · subst e2; simp
    · have e3 : ¬ a = b := fun h => e2 h.symm
      simp [e2, e3, hb]
  · by_cases e4 : a < i
    · simp [e, e4, show a < i + 1 by omega]
    · simp [e, e4, show ¬ a < i + 1 by omega]
theorem lapR_at (W : Nat → Int) (T : Nat → Nat → Int) (i j : Nat) : lapR W T i j i j = T i j := by simp [lapR]

set_option maxHeartbeats 1600000 in
theorem iLaplacianOf (n : Nat) (E S : Int) (s : Value) (m : Nat) (xs : List Int) (w : World) (hs : SlF w s m 3 xs) (hB : netB n E S m xs = true) :
    Calls Tryz.prog 112 #[.agg #[.int .i64 (n : Int), .int .i64 E, .int .i64 S, s]] w fun e w' => ∃ v, e = .returned v ∧ SlMM w' v n (lapZ xs m) ∧ Ge w w' := by
  obtain ⟨⟨h1, h5⟩, _, _, hok, _⟩ := netP_of hB
  have hm : m ≤ 10 := prs_len (by omega) hok
  have HV := Lib.hid hs
  have HK := Lib.hid hok
  have HB := Lib.hid hB
  obtain ⟨p, cap, rfl, _⟩ := hs.open
  clear hs hok hB
  have HT5 : Hid (∀ a b : Nat, -200 ≤ wbet xs m (a : Int) (b : Int) ∧ wbet xs m (a : Int) (b : Int) ≤ 200) := fun a b => by have := wbet_bd HK.out (a : Int) (b : Int); omega
  have HNo := Lib.hid (fun w' (g : Ge w w') => iNetOk n E S (.slice p m cap) m xs w' (HV.out.ge g) (by omega))
  rw [HB.out] at HNo
  have HTa := Lib.hid (fun w' (g : Ge w w') => iTable n E S (.slice p m cap) m xs w' (HV.out.ge g) hm (by omega) (by omega) HK.out)
  go_enter Tryz.func112, Tryz.ntmps112
  go_wp2_with (first
    | (go_at_call 43; ((with_reducible refine (HNo.out _ (kge)).mono ?_); rintro e w1 ⟨rfl, g1⟩; have c0 := Ge.keep g1 (cell_new (i := 0) rfl rfl); have c1 := Ge.keep g1 (cell_new (i := 1) rfl rfl); have c2 := Ge.keep g1 (cell_new (i := 2) rfl rfl); have c3 := Ge.keep g1 (cell_new (i := 3) rfl rfl); have z1 := g1.size; (simp at c0 c1 c2 c3 z1)))
    | (go_at_call 70; ((with_reducible refine (HTa.out _ (kge)).mono ?_); rintro e w2 ⟨G, f, cs, rfl, HO, g2⟩)))
  generalize hT : (fun (a b : Nat) => wbet xs m (a : Int) (b : Int)) = T at HO
  have HTe : Hid (∀ a b : Nat, T a b = wbet xs m (a : Int) (b : Int)) := fun a b => by rw [← hT]
  clear hT
  generalize hW : (fun (a : Nat) => wat xs (a : Int) m) = W
  have HWe : Hid (∀ a : Nat, W a = wat xs (a : Int) m) := fun a => by rw [← hW]
  clear hW
  have HO0 := Lib.hid (HO.congr (lapR_zero W T n))
  have lG := Lib.hid HO.lt
  have lG1 := lG.out.1
  clear HO
  have HWA := Lib.hid (fun (a : Int) w' (g : Ge w w') => iWeightAt n E S (.slice p m cap) m xs a w' (HV.out.ge g) hm HK.out)
  have G1 : Ge w w1 := kge
  go_loopw [13] (fun i' wr => ∃ i : Nat, i ≤ n ∧ i' = .int .i64 i ∧ OMat wr w1.heap.size G n f cs n (lapR W T i 0) ∧ Ge w1 wr) (fun i _ => n - (intOf i).toNat)
  case atStart => exact ⟨0, Nat.zero_le _, rfl, HO0.out, g2⟩
  case round =>
    obtain ⟨i, hi, rfl, HO, hg⟩ := hrel
    have HOi := Lib.hid HO
    clear HO
    by_cases hlt : i < n
    · go_wp2_with fail
      go_loopw [18] (fun j' wr => ∃ j : Nat, j ≤ n ∧ j' = .int .i64 j ∧ OMat wr w1.heap.size G n f cs n (lapR W T i j) ∧ Ge w1 wr) (fun i _ => n - (intOf i).toNat)
      case atStart => exact ⟨0, Nat.zero_le _, rfl, HOi.out, hg⟩
      case round =>
        obtain ⟨j, hj, rfl, HO, hgj⟩ := hrel
        have HOj := Lib.hid HO
        clear HO
        have lfi := lG.out.2.2 i hlt
        by_cases hjn : j < n
        · have x0 := HOj.out.row hlt hlt
          have x1 := HOj.out.entry hlt hjn
          rw [lapR_at] at x1
          have x2 := HOj.out.froz hlt j
          have tb := HT5.out i j
          rw [← HTe.out] at tb
          have w4 : wrap64 (-(T i j)) = -(T i j) := wr64 _ (by omega) (by omega)
          have w5 : IntKind.i64.wrap (-(T i j)) = -(T i j) := IntWalk.i64_in _ (by omega)
          have HE := Lib.hid (OMat.setE (HOj.out.ge (Ge.drew (Ge.refl wr))) hlt hjn (-(T i j)))
          have HE2 := Lib.hid (HE.out.1.congr (M' := lapR W T i (j + 1)) (lapR_step W T i j n))
          have hgE := (Ge.drew hgj).grown HE.out.2 (fun q hq => by simp at hq; subst hq; omega)
          clear HE
          generalize f i = r at *
          go_wp2_with fail
          go_still_tail 14, (by kernel_rfl)
          have y1 : wr.drew.cell? ⟨r, j, none⟩ = some (.int .i64 (T i j)) := x1
          have y2 : wr.drew.frozen? ⟨r, j, none⟩ = false := x2
          show wpList _ _ _ _ _ wr.drew
          go_wp2_with fail
          go_roundw
          case rel => exact ⟨j + 1, by omega, by go_num, HE2.out, hgE⟩
          case measure => simp [intOf]; omega
        · have hjn' : j = n := by omega
          subst hjn'
          have c0r := hgj.keep c0
          have c1r := hgj.keep c1
          have c2r := hgj.keep c2
          have c3r := hgj.keep c3
          have x0 := HOj.out.row hlt hlt
          have x1 := cv_some (HOj.out.entry hlt hlt)
          have x2 := HOj.out.froz hlt i
          have gwr : Ge w wr := Ge.trans G1 hgj
          generalize hr : f i = r at *
          have lbr : w.heap.size < r := by omega
          have lbG : w.heap.size < G := by omega
          go_wp2_with fail
          go_region_held3 (fun w' => w'.cell? ⟨w.heap.size, 0, none⟩ = some (.int .i64 (j : Int)) ∧ w'.cell? ⟨w.heap.size, 1, none⟩ = some (.int .i64 E) ∧ w'.cell? ⟨w.heap.size, 2, none⟩ = some (.int .i64 S) ∧ w'.cell? ⟨w.heap.size, 3, none⟩ = some (.slice p m cap) ∧ w'.cell? ⟨G, i, none⟩ = some (.slice (some ⟨r, 0, none⟩) j j) ∧ w'.cell? ⟨r, i, none⟩ = some (cv w' ⟨r, i, none⟩) ∧ w'.frozen? ⟨r, i, none⟩ = false) (first | exact ⟨hb.keep (‹_ ∧ _ ∧ _ ∧ _ ∧ _ ∧ _ ∧ _›).1, hb.keep (‹_ ∧ _ ∧ _ ∧ _ ∧ _ ∧ _ ∧ _›).2.1, hb.keep (‹_ ∧ _ ∧ _ ∧ _ ∧ _ ∧ _ ∧ _›).2.2.1, hb.keep (‹_ ∧ _ ∧ _ ∧ _ ∧ _ ∧ _ ∧ _›).2.2.2.1, hb.keep (‹_ ∧ _ ∧ _ ∧ _ ∧ _ ∧ _ ∧ _›).2.2.2.2.1, cv_some (hb.keep (‹_ ∧ _ ∧ _ ∧ _ ∧ _ ∧ _ ∧ _›).2.2.2.2.2.1), hb.keepF (‹_ ∧ _ ∧ _ ∧ _ ∧ _ ∧ _ ∧ _›).2.2.2.2.2.1 (‹_ ∧ _ ∧ _ ∧ _ ∧ _ ∧ _ ∧ _›).2.2.2.2.2.2⟩ | ((refine ⟨?_, ?_, ?_, ?_, ?_, ?_, ?_⟩ <;> (repeat (first | assumption | with_reducible refine cv_drew ?_ | with_reducible refine cv_set ?_ | with_reducible refine cell_drew ?_ | with_reducible refine cell_drewN ?_ | ((with_reducible refine cell_set2 ?_ ?_); focus (first | (simp; done) | (intro hE; simp at hE; done) | (intro hE; simp at hE; omega))) | with_reducible refine froz_drew ?_ | with_reducible refine froz_set ?_))); done) | ((obtain ⟨s0, s1, s2, s3, s4, s5, s6⟩ := ‹_ ∧ _ ∧ _ ∧ _ ∧ _ ∧ _ ∧ _›); refine ⟨?_, ?_, ?_, ?_, ?_, ?_, ?_⟩ <;> (repeat (first | assumption | with_reducible refine cv_drew ?_ | with_reducible refine cv_set ?_ | with_reducible refine cell_drew ?_ | with_reducible refine cell_drewN ?_ | ((with_reducible refine cell_set2 ?_ ?_); focus (first | (simp; done) | (intro hE; simp at hE; done) | (intro hE; simp at hE; omega))) | with_reducible refine froz_drew ?_ | with_reducible refine froz_set ?_)))) (first | (go_at_call 74; ((with_reducible refine (HWA.out _ _ (Ge.drew gwr)).mono ?_); rintro e w8 ⟨rfl, hb⟩); have g8 : Ge wr w8 := Ge.trans (Ge.drew (Ge.refl _)) hb) | fail)
          clear c0r c1r c2r c3r x0 x1 x2
          have HE := Lib.hid (OMat.setE (HOj.out.ge g8) hlt hlt (W i))
          rw [hr] at HE
          rw [HWe.out] at HE
          have HE2 := Lib.hid (HE.out.1.congr (M' := lapR W T (i + 1) 0) (by rw [← HWe.out]; exact lapR_diag W T i j))
          have hgE := (Ge.trans hgj g8).grown HE.out.2 (fun q hq => by simp at hq; subst hq; omega)
          clear HE
          go_wp2_with fail
          go_roundw
          case rel => exact ⟨i + 1, by omega, by go_num, HE2.out, hgE⟩
          case measure => simp [intOf]; omega
    · have hin : i = n := by omega
      subst hin
      go_wp2_with fail
      go_ret
      refine ⟨_, rfl, HOi.out.slMM (fun a b ha hb => ?_), kge⟩
      unfold lapR lapZ
      rw [if_pos ha, HTe.out, HWe.out]
      by_cases e : a = b
      · subst e; simp
      · rw [if_neg e, if_neg (by omega)]
end Go.Proofs.YtagiecajffhnpaaGreat

namespace Go.Proofs.YtagiecajffhnpaaGreat

end Go.Proofs.YtagiecajffhnpaaGreat

namespace Go.Proofs.YtagiecajffhnpaaGreat

theorem tabC_congr {f g : Nat → Nat → Int} {k t : Nat} (h : ∀ i j, i < j → j < k → f i j = g i j) : tabC f k t = tabC g k t := by
  refine sorted_ext (tabC_sorted _ _ _) (tabC_sorted _ _ _) (fun e => ?_)
  rw [mem_tabC, mem_tabC]
  constructor
  · rintro ⟨i, j, h1, h2, h3, h4, h5⟩
    rw [h i j h2 h3] at h4 h5
    exact ⟨i, j, h1, h2, h3, h4, h5⟩
  · rintro ⟨i, j, h1, h2, h3, h4, h5⟩
    rw [← h i j h2 h3] at h4 h5
    exact ⟨i, j, h1, h2, h3, h4, h5⟩
/-- The weight between v and x. -/
def wbL (L : List Wr) (v x : Nat) : Int := if v = x then 0 else sameS (min v x : Nat) (max v x : Nat) L
def meshF (L : List Wr) (v : Nat) (s : Int) (i j : Nat) : Int := wbL L (upI v i) (upI v j) * s + wbL L (upI v i) v * wbL L v (upI v j)
end Go.Proofs.YtagiecajffhnpaaGreat

namespace Go.Proofs.YtagiecajffhnpaaGreat

theorem flat_wire {L : List Wr} {k : Nat} (h : k < L.length) : wa (flatW L) k = (nthW L k).a ∧ wb (flatW L) k = (nthW L k).b ∧ ww (flatW L) k = (nthW L k).w := flatW_get L k h
theorem wfind_not {xs : List Int} {a b : Int} : ∀ {m : Nat}, wfind xs a b m = none → ∀ k, k < m → ¬ isW xs a b k
  | 0, _, k, hk => by omega
  | m + 1, h, k, hk => by
    simp only [wfind] at h
    split at h
    · cases h
    · rename_i h0
      split at h
      · cases h
      · rename_i h1
        by_cases e : k = m
        · subst e; exact h1
        · exact wfind_not h0 k (by omega)
theorem wbet_wbL {n : Nat} {L : List Wr} (h : Ord n L) (a b : Nat) : wbet (flatW L) L.length (a : Int) (b : Int) = wbL L a b := by
  have hmin : min (a : Int) (b : Int) = ((min a b : Nat) : Int) := by omega
  have hmax : max (a : Int) (b : Int) = ((max a b : Nat) : Int) := by omega
  cases e : wfind (flatW L) (a : Int) (b : Int) L.length with
  | some k =>
    obtain ⟨hk, hw⟩ := wfind_lt e
    obtain ⟨f1, f2, f3⟩ := flat_wire hk
    have hm : nthW L k ∈ L := by rw [nthW_eq L k hk]; exact List.getElem_mem _
    obtain ⟨w1, w2⟩ := hw
    rw [f1, hmin] at w1
    rw [f2, hmax] at w2
    have hs := sameS_mem h.1 hm
    have hlt := (h.2 _ hm).2.1
    rw [wbet_some e, f3, ← hs, w1, w2]
    unfold wbL
    rw [if_neg (by omega)]
  | none =>
    rw [wbet_none e]
    unfold wbL
    split
    · rfl
    · refine (sameS_none (fun x hx hh => ?_)).symm
      obtain ⟨k, hk, he⟩ := List.getElem_of_mem hx
      refine wfind_not e k hk ?_
      obtain ⟨f1, f2, f3⟩ := flat_wire hk
      have hn := nthW_eq L k hk
      unfold isW
      rw [f1, f2, hn, he, hmin, hmax]
      exact hh
end Go.Proofs.YtagiecajffhnpaaGreat

namespace Go.Proofs.YtagiecajffhnpaaGreat

open Go.RowKit

def detE (k : Nat) : Int := (4000 : Int) ^ k
theorem detE_pos (k : Nat) : 0 ≤ detE k := Int.pow_nonneg (by decide)
theorem detE_succ (k : Nat) : detE (k + 1) = 4000 * detE k := by unfold detE; rw [Int.pow_succ, Int.mul_comm]
theorem term_bdE {M : Int → Int → Int} (hM : ∀ a b, absB (M a b) 800) (j : Nat) (r c d B : Int) (hB : 0 ≤ B) (hd : absB d B) : absB (sgn j * M r c * d) (800 * B) := by
  have h1 : absB (sgn j * M r c) 800 := by
    have := hM r c
    unfold sgn absB at *
    split <;> omega
  exact absB_mul (by decide) h1 hd hB
theorem detF_bdE {M : Int → Int → Int} (hM : ∀ a b, absB (M a b) 800) : ∀ (rows cols : List Int), cols.length ≤ 5 → absB (detF M rows cols) (detE rows.length)
  | [], cols, _ => by simp [detF, detE, absB]
  | r :: rs, cols, h => by
    have h1 := sumTo_bd (f := fun j => sgn j * M r (nth cols j) * detF M rs (cols.eraseIdx j)) (B := 800 * detE rs.length) (k := cols.length) (Int.mul_nonneg (by decide) (detE_pos _))
      (fun j _ => term_bdE hM j r _ _ _ (detE_pos _) (detF_bdE hM rs (cols.eraseIdx j) (Nat.le_trans (List.length_eraseIdx_le _ _) h)))
    have h2 : (cols.length : Int) * (800 * detE rs.length) ≤ 5 * (800 * detE rs.length) := Int.mul_le_mul_of_nonneg_right (by omega) (Int.mul_nonneg (by decide) (detE_pos _))
    have h3 := detE_succ rs.length
    simp only [detF, List.length_cons, absB] at *
    omega
theorem detPart_bdE {M : Int → Int → Int} (hM : ∀ a b, absB (M a b) 800) (r : Int) (rs cols : List Int) (h : cols.length ≤ 5) {j : Nat} (hj : j ≤ cols.length) : absB (detPart M r rs cols j) (detE (rs.length + 1)) := by
  have h1 := sumTo_bd (f := fun j => sgn j * M r (nth cols j) * detF M rs (cols.eraseIdx j)) (B := 800 * detE rs.length) (k := j) (Int.mul_nonneg (by decide) (detE_pos _))
    (fun j _ => term_bdE hM j r _ _ _ (detE_pos _) (detF_bdE hM rs (cols.eraseIdx j) (Nat.le_trans (List.length_eraseIdx_le _ _) h)))
  have h2 : (j : Int) * (800 * detE rs.length) ≤ 5 * (800 * detE rs.length) := Int.mul_le_mul_of_nonneg_right (by omega) (Int.mul_nonneg (by decide) (detE_pos _))
  have h3 := detE_succ rs.length
  simp only [detPart, absB] at *
  omega
theorem detE_le {k : Nat} (h : k ≤ 5) : detE k ≤ 1024000000000000000 := by
  have : k = 0 ∨ k = 1 ∨ k = 2 ∨ k = 3 ∨ k = 4 ∨ k = 5 := by omega
  rcases this with rfl | rfl | rfl | rfl | rfl | rfl <;> decide
end Go.Proofs.YtagiecajffhnpaaGreat

namespace Go.Proofs.YtagiecajffhnpaaGreat
set_option maxRecDepth 100000
open Go.ChangeShapes Go.WideShapes Go.ChangeAt Go.RowKit Go.Joins

end Go.Proofs.YtagiecajffhnpaaGreat

namespace Go.Proofs.YtagiecajffhnpaaGreat

open Go.RowKit

noncomputable def grdR (c : Bool) (r : Rt) : Rt := if c = true then r else ⟨0, 0⟩
/-- a and b are two nodes of a valid network. -/
noncomputable def difB (N E S : Int) (m : Nat) (xs : List Int) (a b : Int) : Bool := netB N E S m xs && (decide (0 ≤ a ∧ a < N) && (decide (0 ≤ b ∧ b < N) && !decide (a = b)))
theorem dif_f0 {N E S : Int} {m : Nat} {xs : List Int} {a b : Int} (h : netB N E S m xs = false) : difB N E S m xs a b = false := by simp [difB, h]
theorem dif_f1 {N E S : Int} {m : Nat} {xs : List Int} {a b : Int} (h : ¬ (0 ≤ a ∧ a < N)) : difB N E S m xs a b = false := by simp [difB, h]
theorem dif_f2 {N E S : Int} {m : Nat} {xs : List Int} {a b : Int} (h : ¬ (0 ≤ b ∧ b < N)) : difB N E S m xs a b = false := by simp [difB, h]
theorem dif_f3 {N E S : Int} {m : Nat} {xs : List Int} {a b : Int} (h : a = b) : difB N E S m xs a b = false := by simp [difB, h]
theorem dif_t {N E S : Int} {m : Nat} {xs : List Int} {a b : Int} (h : netB N E S m xs = true) (h1 : 0 ≤ a ∧ a < N) (h2 : 0 ≤ b ∧ b < N) (h3 : ¬ a = b) : difB N E S m xs a b = true := by simp [difB, h, h1, h2, h3]
theorem dif_of {N E S : Int} {m : Nat} {xs : List Int} {a b : Int} (h : difB N E S m xs a b = true) : netB N E S m xs = true ∧ (0 ≤ a ∧ a < N) ∧ (0 ≤ b ∧ b < N) ∧ ¬ a = b := by simpa [difB] using h

theorem without_lt2 {k : Nat} {l : List Int} {x y : Int} (hx : x ∈ l) (hy : y ∈ l) (hxy : ¬ x = y) (h0 : 0 ≤ x ∧ x < k) (h1 : 0 ≤ y ∧ y < k) : (without k l).length + 2 ≤ k := by
  induction k with
  | zero => omega
  | succ k ih =>
    by_cases e : x = k
    · rw [without_in (by rw [← e]; exact hx)]
      have := without_lt hy (k := k) (by omega) (by omega)
      omega
    · by_cases e2 : y = k
      · rw [without_in (by rw [← e2]; exact hy)]
        have := without_lt hx (k := k) (by omega) (by omega)
        omega
      · have h2 := ih (by omega) (by omega)
        by_cases c : (k : Int) ∈ l
        · rw [without_in c]; omega
        · rw [without_out c]; simp; omega
theorem detB_le3 {k : Nat} (h : k ≤ 3) : detB k ≤ 1000000000000 := by
  have e : k = 0 ∨ k = 1 ∨ k = 2 ∨ k = 3 := by omega
  rcases e with rfl | rfl | rfl | rfl <;> decide
/-- An open walk's facts of a valid network. -/
theorem net_wires {N E S : Int} {m : Nat} {xs : List Int} (h : netB N E S m xs = true) : (1 ≤ N ∧ N ≤ 5) ∧ m ≤ 10 ∧ (∀ k, k < m → goodW N xs k) := by
  obtain ⟨⟨n1, n2⟩, _, _, hK, _⟩ := netP_of h
  obtain ⟨n, rfl⟩ : ∃ n : Nat, N = (n : Int) := ⟨N.toNat, by omega⟩
  exact ⟨⟨n1, n2⟩, prs_len (N := n) (by omega) hK, hK⟩
theorem treeV_bd (N E S : Int) (m : Nat) (xs : List Int) : -10000000000000000 ≤ treeV N E S m xs ∧ treeV N E S m xs ≤ 10000000000000000 := by
  cases h : netB N E S m xs with
  | false => rw [treeV_f h]; omega
  | true =>
    rw [treeV_t h]
    obtain ⟨⟨n1, n2⟩, h10, hK⟩ := net_wires h
    obtain ⟨n, rfl⟩ : ∃ n : Nat, N = (n : Int) := ⟨N.toNat, by omega⟩
    rw [show ((n : Int)).toNat = n by omega]
    refine minor_bd (n := n) hK h10 (by omega) _ _ ?_
    have := without_lt (k := n) (l := [0]) (x := 0) (by simp) (by omega) (by omega)
    omega
theorem forV_bd (N E S : Int) (m : Nat) (xs : List Int) (a b : Int) : -1000000000000 ≤ forV N E S m xs a b ∧ forV N E S m xs a b ≤ 1000000000000 := by
  by_cases h : netB N E S m xs = true ∧ (0 ≤ a ∧ a < N) ∧ (0 ≤ b ∧ b < N) ∧ ¬ a = b
  · rw [forV_t h.1 h.2.1 h.2.2.1 h.2.2.2]
    obtain ⟨⟨n1, n2⟩, h10, hK⟩ := net_wires h.1
    obtain ⟨n, rfl⟩ : ∃ n : Nat, N = (n : Int) := ⟨N.toNat, by omega⟩
    rw [show ((n : Int)).toNat = n by omega]
    have h0 := without_lt2 (k := n) (l := [a, b]) (x := a) (y := b) (by simp) (by simp) h.2.2.2 h.2.1 h.2.2.1
    have h1 := detF_bd (lapZ_bd hK h10) (without n [a, b]) (without n [a, b]) (Nat.le_trans (without_len n _) (by omega))
    have h2 := detB_le3 (k := (without n [a, b]).length) (by omega)
    unfold absB at h1
    unfold forT minorV
    omega
  · rw [forV_f h]; omega
theorem mul_bd {u f A B : Int} (h0 : 0 ≤ u) (h1 : u ≤ A) (h2 : -B ≤ f) (h3 : f ≤ B) (hB : 0 ≤ B) : -(A * B) ≤ u * f ∧ u * f ≤ A * B := by
  have := absB_mul (x := u) (y := f) (A := A) (B := B) (by omega) (by unfold absB; omega) (by unfold absB; omega) hB
  unfold absB at this
  omega
theorem wf_bd {N E S : Int} {m : Nat} {xs : List Int} {u : Int} (h0 : 0 ≤ u) (h1 : u ≤ 20000) (a b : Int) : -20000000000000000 ≤ u * forV N E S m xs a b ∧ u * forV N E S m xs a b ≤ 20000000000000000 := by
  obtain ⟨f0, f1⟩ := forV_bd N E S m xs a b
  have := mul_bd h0 h1 f0 f1 (by omega)
  omega
/-- The weights of all nodes. -/
def wtAll (xs : List Int) : Nat → Int
  | 0 => 0
  | k + 1 => wtAll xs k + 2 * ww xs k
theorem wtAll_bd {N : Int} {xs : List Int} : ∀ {m : Nat}, (∀ k, k < m → goodW N xs k) → 0 ≤ wtAll xs m ∧ wtAll xs m ≤ 400 * m
  | 0, _ => by simp [wtAll]
  | m + 1, h => by
    have h1 := wtAll_bd (m := m) (fun k hk => h k (by omega))
    obtain ⟨_, _, _, q1, q2⟩ := (h m (by omega)).1
    simp only [wtAll]
    omega
/-- The weights at the first k nodes. -/
def watS (xs : List Int) (m : Nat) : Nat → Int
  | 0 => 0
  | k + 1 => watS xs m k + wat xs k m
theorem watS_bd {N : Int} {xs : List Int} {m : Nat} (h : ∀ k, k < m → goodW N xs k) : ∀ k : Nat, 0 ≤ watS xs m k ∧ watS xs m k ≤ 200 * m * k
  | 0 => by simp [watS]
  | k + 1 => by
    have h1 := watS_bd h k
    have h2 := wat_bd (k : Int) h
    simp only [watS]
    have e : 200 * (m : Int) * ((k + 1 : Nat) : Int) = 200 * m * k + 200 * m := by
      rw [show ((k + 1 : Nat) : Int) = (k : Int) + 1 by omega, Int.mul_add, Int.mul_one]
    omega
theorem watS_step (xs : List Int) (m : Nat) (hA : 0 ≤ wa xs m) (hB : 0 ≤ wb xs m) (hne : wa xs m ≠ wb xs m) : ∀ k : Nat, watS xs (m + 1) k = watS xs m k + ((if wa xs m < k then ww xs m else 0) + (if wb xs m < k then ww xs m else 0))
  | 0 => by
    rw [if_neg (by omega), if_neg (by omega)]; simp [watS]
  | k + 1 => by
    have ih := watS_step xs m hA hB hne k
    simp only [watS, wat]
    rw [ih]
    repeat' split
    all_goals omega
theorem watS_zero (xs : List Int) : ∀ k : Nat, watS xs 0 k = 0
  | 0 => rfl
  | k + 1 => by simp [watS, watS_zero xs k, wat]
theorem watS_all {n : Nat} {xs : List Int} : ∀ {m : Nat}, (∀ k, k < m → goodW n xs k) → watS xs m n = wtAll xs m
  | 0, _ => watS_zero xs n
  | m + 1, h => by
    obtain ⟨q0, q1, q2, _, _⟩ := (h m (by omega)).1
    rw [watS_step xs m (by omega) (by omega) (by omega) n, watS_all (m := m) (fun k hk => h k (by omega)), if_pos (by omega), if_pos (by omega)]
    simp only [wtAll]
    omega
end Go.Proofs.YtagiecajffhnpaaGreat

namespace Go.Proofs.YtagiecajffhnpaaGreat

open Go.RowKit

/-- One wire more. -/
theorem wbet_snoc {N : Int} {xs : List Int} {m : Nat} (h : ∀ k, k < m + 1 → goodW N xs k) (a b : Int) : wbet xs (m + 1) a b = wbet xs m a b + (if isW xs a b m then ww xs m else 0) := by
  unfold wbet
  cases e : wfind xs a b m with
  | some k =>
    obtain ⟨hk, hw⟩ := wfind_lt e
    have e2 : wfind xs a b (m + 1) = some k := by simp only [wfind, e]
    rw [e2]
    have h2 : ¬ isW xs a b m := fun h2 => by
      have h3 := (prs_pair xs (m + 1) N h).2 m (by omega) k hk
      obtain ⟨p1, p2⟩ := hw
      obtain ⟨p3, p4⟩ := h2
      rw [p1, p2, p3, p4] at h3
      unfold ltP at h3
      omega
    rw [if_neg h2]; simp
  | none =>
    by_cases h2 : isW xs a b m
    · have e2 : wfind xs a b (m + 1) = some m := by simp only [wfind, e, if_pos h2]
      rw [e2, if_pos h2]; simp
    · have e2 : wfind xs a b (m + 1) = none := by simp only [wfind, e, if_neg h2]
      rw [e2, if_neg h2]; simp
theorem ind_sum (xs : List Int) (m : Nat) (v : Int) (hv : 0 ≤ v) (hA : 0 ≤ wa xs m) (hB : wa xs m < wb xs m) : ∀ k : Nat, sumTo (fun (u : Nat) => if isW xs v u m then ww xs m else 0) k = if (wa xs m = v ∧ wb xs m < k) ∨ (wb xs m = v ∧ wa xs m < k) then ww xs m else 0
  | 0 => by rw [if_neg (by omega)]; rfl
  | k + 1 => by
    simp only [sumTo, ind_sum xs m v hv hA hB k]
    by_cases c : isW xs v (k : Int) m
    · rw [if_pos c]
      obtain ⟨c1, c2⟩ := c
      rw [if_neg (by omega), if_pos (by omega)]; omega
    · rw [if_neg c]
      unfold isW at c
      by_cases d : (wa xs m = v ∧ wb xs m < k) ∨ (wb xs m = v ∧ wa xs m < k)
      · rw [if_pos d, if_pos (by omega)]; omega
      · rw [if_neg d, if_neg (by omega)]; omega
theorem sumTo_add (f g : Nat → Int) : ∀ k, sumTo (fun u => f u + g u) k = sumTo f k + sumTo g k
  | 0 => rfl
  | k + 1 => by simp only [sumTo, sumTo_add f g k]; omega
theorem sumTo_congr {f g : Nat → Int} : ∀ {k : Nat}, (∀ u, u < k → f u = g u) → sumTo f k = sumTo g k
  | 0, _ => rfl
  | k + 1, h => by simp only [sumTo]; rw [sumTo_congr (k := k) (fun u hu => h u (by omega)), h k (by omega)]
theorem wat_sum {n : Nat} {xs : List Int} {v : Int} (h0 : 0 ≤ v) (h1 : v < n) : ∀ {m : Nat}, (∀ k, k < m → goodW n xs k) → sumTo (fun (u : Nat) => wbet xs m v u) n = wat xs v m
  | 0, _ => by
    show _ = (0 : Int)
    have : ∀ k, sumTo (fun (u : Nat) => wbet xs 0 v u) k = 0 := fun k => by
      induction k with
      | zero => rfl
      | succ k ih => simp only [sumTo, ih]; rfl
    exact this n
  | m + 1, h => by
    obtain ⟨q0, q1, q2, _, _⟩ := (h m (by omega)).1
    have e1 : sumTo (fun (u : Nat) => wbet xs (m + 1) v u) n = sumTo (fun (u : Nat) => wbet xs m v u + (if isW xs v u m then ww xs m else 0)) n := sumTo_congr (fun u _ => wbet_snoc h v u)
    rw [e1, sumTo_add, wat_sum h0 h1 (m := m) (fun k hk => h k (by omega)), ind_sum xs m v h0 (by omega) (by omega)]
    simp only [wat]
    by_cases d : wa xs m = v ∨ wb xs m = v
    · rw [if_pos d, if_pos (by omega)]
    · rw [if_neg d, if_neg (by omega)]
end Go.Proofs.YtagiecajffhnpaaGreat
