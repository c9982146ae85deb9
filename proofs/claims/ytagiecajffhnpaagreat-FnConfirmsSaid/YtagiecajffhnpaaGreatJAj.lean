/- onPath of impl: ways over the nodes, with a row of marks that comes back as it was. No condition. -/
import Derived.Test.YtagiecajffhnpaaGreatJAi
import Derived.Test.YtagiecajffhnpaaGreatJAc
import Derived.Test.YtagiecajffhnpaaGreatJAb
import Derived.Test.YtagiecajffhnpaaGreatJAf
namespace Go.Proofs.YtagiecajffhnpaaGreat
set_option maxRecDepth 100000
open Go.ChangeShapes Go.WideShapes Go.ChangeAt Go.RowKit Go.Joins

/-- Nothing has turned but block M. -/
def Gr (M : Nat) (w w' : World) : Prop := w.grownBy w' (some M)
theorem Gr.refl (M : Nat) (w : World) : Gr M w w := World.grownBy.refl w _
theorem Gr.size {M : Nat} {a b : World} (h : Gr M a b) : a.heap.size ≤ b.heap.size := World.grownBy.size h
theorem Gr.trans {M : Nat} {a b c : World} (h : Gr M a b) (k : Gr M b c) : Gr M a c :=
  ⟨k.os.trans h.os, k.tape.trans h.tape, k.output.trans h.output, Nat.le_trans h.size k.size, fun j hj hne => (k.block j (Nat.lt_of_lt_of_le hj h.size) hne).trans (h.block j hj hne)⟩
theorem Gr.of_ge {M : Nat} {a b : World} (h : Ge a b) : Gr M a b := ⟨Below.os h, Below.tape h, Below.output h, Below.size h, fun j hj _ => Below.block h j hj⟩
theorem Gr.set (M : Nat) (w : World) (o : Nat) (u : Value) : Gr M w (w.setCell ⟨M, o, none⟩ u) := by
  refine ⟨rfl, rfl, rfl, by simp, fun j hj hne => Below.heap_setCell w ⟨M, o, none⟩ u j (fun e => hne (by rw [e]))⟩
theorem Gr.keep {M : Nat} {w w' : World} (h : Gr M w w') {a : Addr} {v : Value} (hc : w.cell? a = some v) (hne : a.block ≠ M) : w'.cell? a = some v :=
  World.grownBy.cell h hc (fun e => hne (Option.some.inj e))
theorem Gr.ge {M : Nat} {a w w' : World} (hg : Ge a w) (h : Gr M w w') (hM : a.heap.size ≤ M) : Ge a w' := hg.grown h (fun k hk => by rw [← Option.some.inj hk]; exact hM)
/-- A row of marks. -/
def RowB (w : World) (M n : Nat) (f : Nat → Bool) : Prop := ∀ j, j < n → w.cell? ⟨M, j, none⟩ = some (.bool (f j)) ∧ w.frozen? ⟨M, j, none⟩ = false
theorem RowB.ge {w w' : World} {M n : Nat} {f : Nat → Bool} (h : RowB w M n f) (hg : Ge w w') : RowB w' M n f := fun j hj => ⟨hg.keep (h j hj).1, hg.keepF (h j hj).1 (h j hj).2⟩
theorem RowB.congr {w : World} {M n : Nat} {f f' : Nat → Bool} (h : RowB w M n f) (he : ∀ y, f y = f' y) : RowB w M n f' := fun j hj => by rw [← he j]; exact h j hj
theorem RowB.set {w : World} {M n : Nat} {f : Nat → Bool} (h : RowB w M n f) {v : Nat} (hv : v < n) (x : Bool) : RowB (w.setCell ⟨M, v, none⟩ (.bool x)) M n (setF f v x) := fun j hj => by
  by_cases e : j = v
  · subst e
    exact ⟨by rw [setF_same]; exact World.cell?_setCell_same _ _ _ (h j hj).1, froz_set (h j hj).2⟩
  · rw [setF_ne f x e]
    exact ⟨cell_set2 (fun ee => e (congrArg Addr.off ee).symm) (h j hj).1, froz_set (h j hj).2⟩
theorem SlF.gr {w w' : World} {p : Option Addr} {m c M : Nat} {xs : List Int} (h : SlF w (.slice p m c) m 3 xs) (hg : Gr M w w') (hp : ∀ q, p = some q → q.block ≠ M) : SlF w' (.slice p m c) m 3 xs := by
  obtain ⟨hl, p', c', hv, hc⟩ := h
  simp only [Value.slice.injEq] at hv
  obtain ⟨rfl, _, rfl⟩ := hv
  refine ⟨hl, p, c, rfl, fun i u hu => ?_⟩
  obtain ⟨b, o, rfl, hx⟩ := hc i u hu
  exact ⟨b, o, rfl, hg.keep hx (show b ≠ M from hp ⟨b, o, none⟩ rfl)⟩

theorem SlF.open3 {w : World} {p : Option Addr} {n c m : Nat} {xs : List Int} (h : SlF w (.slice p n c) n m xs) : ∀ i, i < n * m → ∃ b o, p = some ⟨b, o, none⟩ ∧ w.cell? ⟨b, o + i, none⟩ = some (.int .i64 (nth xs i)) := by
  obtain ⟨p', c', hv, hc⟩ := h.open
  simp only [Value.slice.injEq] at hv
  obtain ⟨rfl, _, rfl⟩ := hv
  exact hc
/-- A wire in a box. -/
def WiAt (w : World) (B : Nat) (a b c : Int) : Prop := w.cell? ⟨B, 0, none⟩ = some (.int .i64 a) ∧ w.cell? ⟨B, 1, none⟩ = some (.int .i64 b) ∧ w.cell? ⟨B, 2, none⟩ = some (.int .i64 c)
theorem NetIn.gr {w w' : World} {B M : Nat} {n e S : Int} {v : Value} (h : NetIn w B n e S v) (hg : Gr M w w') (hM : B ≠ M) : NetIn w' B n e S v := ⟨hg.keep h.1 hM, hg.keep h.2.1 hM, hg.keep h.2.2.1 hM, hg.keep h.2.2.2 hM⟩
theorem WiAt.gr {w w' : World} {B M : Nat} {a b c : Int} (h : WiAt w B a b c) (hg : Gr M w w') (hM : B ≠ M) : WiAt w' B a b c := ⟨hg.keep h.1 hM, hg.keep h.2.1 hM, hg.keep h.2.2 hM⟩
set_option maxHeartbeats 6400000 in
theorem iOnPath (n e m : Nat) (S : Int) (xs : List Int) (p : Option Addr) (cap : Nat) (a b c : Int) (first M : Nat) (hok : ∀ k, k < m → goodW n xs k) (hn : n ≤ 5) (hm : m ≤ 10) (hp : ∀ q, p = some q → q.block ≠ M) :
    ∀ (k : Nat) (f : Nat → Bool) (v : Nat) (u : Bool) (w : World), cntU f n ≤ k → v < n → f v = false → RowB w M n f → SlF w (.slice p m cap) m 3 xs → M < w.heap.size →
      Calls Tryz.prog 93 #[.agg #[.int .i64 (n : Int), .int .i64 (e : Int), .int .i64 S, .slice p m cap], .int .i64 (v : Int), .slice (some ⟨M, 0, none⟩) n n, .agg #[.int .i64 a, .int .i64 b, .int .i64 c], .bool u, .int .i64 (first : Int)] w fun r w' =>
        r = .returned (.bool (pathB e m xs a b c first k f v u)) ∧ RowB w' M n f ∧ Gr M w w' := by
  intro k
  induction k with
  | zero => intro f v u w hc hv hf; exact absurd (cntU_pos hf hv) (by omega)
  | succ k ih =>
    intro f v u w hc hv hf hR hS hM
    have HOK := Lib.hid hok
    have HP := Lib.hid hp
    have HR := Lib.hid hR
    have HV := Lib.hid hS
    have hcs := cntU_set f hf n hv
    have HIH := Lib.hid (fun (v' : Nat) (u' : Bool) (w' : World) (hv' : v' < n) (hf' : setF f v true v' = false) (hR' : RowB w' M n (setF f v true)) (hS' : SlF w' (.slice p m cap) m 3 xs) (hM' : M < w'.heap.size) => ih (setF f v true) v' u' w' (by omega) hv' hf' hR' hS' hM')
    obtain ⟨T, hT⟩ : ∃ T : Bool, T = (decide (v < e) && !decide (v = first) && u) := ⟨_, rfl⟩
    have HF := Lib.hid hf
    have HB : Hid (pathB e m xs a b c first (k + 1) f v u = (T || anyF (fun j => atWr xs j v && (!setF f v true (toWr xs j v).toNat && pathB e m xs a b c first k (setF f v true) (toWr xs j v).toNat (u || isWr xs j a b c))) m)) := by rw [hT]; rfl
    generalize pathB e m xs a b c first (k + 1) f v u = RES at *
    generalize hPj : (fun j => atWr xs j v && (!setF f v true (toWr xs j v).toNat && pathB e m xs a b c first k (setF f v true) (toWr xs j v).toNat (u || isWr xs j a b c))) = PJ at *
    have HPj : Hid (∀ j, (atWr xs j v && (!setF f v true (toWr xs j v).toNat && pathB e m xs a b c first k (setF f v true) (toWr xs j v).toNat (u || isWr xs j a b c))) = PJ j) := fun j => by rw [← hPj]
    clear hPj ih hok hp hR hS hf
    cases T with
    | true =>
      have hTt := hT.symm
      simp only [Bool.and_eq_true, decide_eq_true_eq, Bool.not_eq_true', decide_eq_false_iff_not] at hTt
      obtain ⟨⟨k1, k2⟩, k3⟩ := hTt
      subst k3
      have HRt : Hid (RES = true) := by show _ = _; rw [HB.out]; rfl
      have t1 : decide ((v : Int) < (e : Int)) = true := by simp; omega
      have t2 : ((v : Int) != (first : Int)) = true := by simp; omega
      clear hT
      go_enter Tryz.func93, Tryz.ntmps93
      go_wp2_with fail
      go_ret
      exact ⟨ret_bool HRt.out.symm, HR.out.ge (kge), Gr.of_ge (kge)⟩
    | false =>
      have HRf : Hid (RES = anyF PJ m) := by show _ = _; rw [HB.out]; rfl
      go_enter Tryz.func93, Tryz.ntmps93
      go_upto_region 1 with fail
      go_cut [28] (fun sx wx => sx = .bool false ∧ wx = ((w.alloc (.cells #[.int .i64 (n : Int), .int .i64 (e : Int), .int .i64 S, .slice p m cap] 33)).alloc (.cells #[.int .i64 a, .int .i64 b, .int .i64 c] 45)))
      case first =>
        by_cases k1 : v < e
        · have t1 : decide ((v : Int) < (e : Int)) = true := by simp; omega
          by_cases k2 : v = first
          · have t2 : ((v : Int) != (first : Int)) = false := by simp; omega
            clear hT
            subst k2
            go_wp2_with fail
            go_meet
            exact ⟨rfl, rfl⟩
          · have t2 : ((v : Int) != (first : Int)) = true := by simp; omega
            have k3 : u = false := by
              have h := hT
              rw [decide_eq_true k1, decide_eq_false k2] at h
              simpa using h.symm
            clear hT
            subst k3
            go_wp2_with fail
            go_meet
            exact ⟨rfl, rfl⟩
        · have t1 : decide ((v : Int) < (e : Int)) = false := by simp; omega
          clear hT
          go_wp2_with fail
          go_meet
          exact ⟨rfl, rfl⟩
      obtain ⟨rfl, rfl⟩ := hcut
      clear hT
      have g0 : Ge w ((w.alloc (.cells #[.int .i64 (n : Int), .int .i64 (e : Int), .int .i64 S, .slice p m cap] 33)).alloc (.cells #[.int .i64 a, .int .i64 b, .int .i64 c] 45)) := Ge.alloc (Ge.alloc (Ge.refl _) _) _
      have c0 : NetIn ((w.alloc (.cells #[.int .i64 (n : Int), .int .i64 (e : Int), .int .i64 S, .slice p m cap] 33)).alloc (.cells #[.int .i64 a, .int .i64 b, .int .i64 c] 45)) w.heap.size n e S (.slice p m cap) := ⟨cell_alloc (cell_new rfl rfl), cell_alloc (cell_new rfl rfl), cell_alloc (cell_new rfl rfl), cell_alloc (cell_new rfl rfl)⟩
      have d0 : WiAt ((w.alloc (.cells #[.int .i64 (n : Int), .int .i64 (e : Int), .int .i64 S, .slice p m cap] 33)).alloc (.cells #[.int .i64 a, .int .i64 b, .int .i64 c] 45)) (w.heap.size + 1) a b c := ⟨cell_new (by simp) rfl, cell_new (by simp) rfl, cell_new (by simp) rfl⟩
      have zs : w.heap.size + 1 < ((w.alloc (.cells #[.int .i64 (n : Int), .int .i64 (e : Int), .int .i64 S, .slice p m cap] 33)).alloc (.cells #[.int .i64 a, .int .i64 b, .int .i64 c] 45)).heap.size := by simp
      have R0 := HR.out.ge g0
      have x0 := (R0 v hv).1
      have f0 := (R0 v hv).2
      have HV0 := Lib.hid (HV.out.ge g0)
      have HG0 := Lib.hid g0
      generalize ((w.alloc (.cells #[.int .i64 (n : Int), .int .i64 (e : Int), .int .i64 S, .slice p m cap] 33)).alloc (.cells #[.int .i64 a, .int .i64 b, .int .i64 c] 45)) = W0 at *
      have HR1 := Lib.hid (R0.set hv true)
      have HN1 : Hid (NetIn (W0.setCell ⟨M, v, none⟩ (.bool true)) w.heap.size n e S (.slice p m cap)) := c0.gr (Gr.set M W0 v (.bool true)) (by omega)
      have HD1 : Hid (WiAt (W0.setCell ⟨M, v, none⟩ (.bool true)) (w.heap.size + 1) a b c) := d0.gr (Gr.set M W0 v (.bool true)) (by omega)
      have HG1 : Hid (Gr M W0 (W0.setCell ⟨M, v, none⟩ (.bool true))) := Gr.set M W0 v (.bool true)
      obtain ⟨b0, b1, b2, b3⟩ := c0
      clear g0 R0 d0 HR HV
      go_wp2_with fail
      go_loopw [13, 35] (fun fd i' wr => ∃ (j : Nat) (B : Bool), j ≤ m ∧ i' = .int .i64 j ∧ fd = .bool B ∧ Hid (B = anyF PJ j) ∧ Hid (RowB wr M n (setF f v true)) ∧ Hid (NetIn wr w.heap.size n e S (.slice p m cap)) ∧ Hid (WiAt wr (w.heap.size + 1) a b c) ∧ Hid (Gr M W0 wr)) (fun _ i _ => m - (intOf i).toNat)
      case atStart => exact ⟨0, false, Nat.zero_le _, rfl, rfl, rfl, HR1.out, HN1.out, HD1.out, HG1.out⟩
      case round =>
        clear HR1 HN1 HD1 HG1 b0 b1 b2 b3 x0 f0
        obtain ⟨j, B, hj, rfl, rfl, HBj, HRw, HNw, HDw, HGw⟩ := hrel
        by_cases hlt : j < m
        · obtain ⟨pb, po, rfl, x0, x1, x2⟩ := three_cells (SlF.gr HV0.out HGw.out HP.out).open3 hlt
          obtain ⟨b0, b1, b2, b3⟩ := HNw.out
          obtain ⟨d0, d1, d2⟩ := HDw.out
          have hk := HOK.out j hlt
          unfold goodW okW wa wb ww at hk
          obtain ⟨⟨k1, k2, k3, k4, k5⟩, _⟩ := hk
          have hpM : pb ≠ M := HP.out ⟨pb, po, none⟩ rfl
          have hzw := Gr.size HGw.out
          have HPt0 := Lib.hid (HPj.out j)
          have hpl := World.block_lt_of_cell? _ _ x0
          by_cases eA : nth xs (j * 3) = (v : Int)
          · rw [eA] at x0 k2
            obtain ⟨t0, ht⟩ := Int.eq_ofNat_of_zero_le (show 0 ≤ nth xs (j * 3 + 1) by omega)
            rw [ht] at x1 k2 k3
            have ht0 : t0 < n := by omega
            have HPt : Hid ((!setF f v true t0 && pathB e m xs a b c first k (setF f v true) t0 (u || isWr xs j a b c)) = PJ j) := by
              have h := HPt0.out
              have e1 : (toWr xs j v).toNat = t0 := by unfold toWr; rw [eA, ht]; omega
              have e2 : atWr xs j v = true := by unfold atWr; rw [eA]; simp
              rw [e1, e2] at h
              show _ = _
              simpa using h
            clear HPt0
            have tt : ((v : Int) + (t0 : Int) - (v : Int)) = (t0 : Int) := by omega
            have HTi : Hid (isWr xs j a b c = (decide ((v : Int) = a) && (decide ((t0 : Int) = b) && decide (nth xs (j * 3 + 2) = c)))) := by show _ = _; unfold isWr; rw [eA, ht]; simp only [Bool.decide_and]
            generalize hIW : isWr xs j a b c = IW at *
            clear hIW eA ht
            have ga : Ge wr (wr.alloc (.cells #[.int .i64 (v : Int), .int .i64 (t0 : Int), .int .i64 (nth xs (j * 3 + 2))] 45)) := Ge.alloc (Ge.refl _) _
            have y0 : (wr.alloc (.cells #[.int .i64 (v : Int), .int .i64 (t0 : Int), .int .i64 (nth xs (j * 3 + 2))] 45)).cell? ⟨wr.heap.size, 0, none⟩ = some (.int .i64 (v : Int)) := cell_new rfl rfl
            have y1 : (wr.alloc (.cells #[.int .i64 (v : Int), .int .i64 (t0 : Int), .int .i64 (nth xs (j * 3 + 2))] 45)).cell? ⟨wr.heap.size, 1, none⟩ = some (.int .i64 (t0 : Int)) := cell_new rfl rfl
            have y2 : (wr.alloc (.cells #[.int .i64 (v : Int), .int .i64 (t0 : Int), .int .i64 (nth xs (j * 3 + 2))] 45)).cell? ⟨wr.heap.size, 2, none⟩ = some (.int .i64 (nth xs (j * 3 + 2))) := cell_new rfl rfl
            have zx : wr.heap.size < (wr.alloc (.cells #[.int .i64 (v : Int), .int .i64 (t0 : Int), .int .i64 (nth xs (j * 3 + 2))] 45)).heap.size := by simp
            go_upto_region 8 with fail
            have b0 := ga.keep b0
            have b1 := ga.keep b1
            have b2 := ga.keep b2
            have b3 := ga.keep b3
            have d0 := ga.keep d0
            have d1 := ga.keep d1
            have d2 := ga.keep d2
            have HRa := Lib.hid (HRw.out.ge ga)
            have HV1 := Lib.hid ((SlF.gr HV0.out HGw.out HP.out).ge ga)
            have HGa := Lib.hid (HGw.out.trans (Gr.of_ge ga))
            have hM1 : M < (wr.alloc (.cells #[.int .i64 (v : Int), .int .i64 (t0 : Int), .int .i64 (nth xs (j * 3 + 2))] 45)).heap.size := by simp; omega
            have hM2 : M < ((wr.alloc (.cells #[.int .i64 (v : Int), .int .i64 (t0 : Int), .int .i64 (nth xs (j * 3 + 2))] 45))).drew.heap.size := hM1
            have hxM : M < wr.heap.size := by omega
            clear HRw HGw ga x0 x1 x2 HNw HDw HV0 HOK
            generalize (wr.alloc (.cells #[.int .i64 (v : Int), .int .i64 (t0 : Int), .int .i64 (nth xs (j * 3 + 2))] 45)) = W1 at *
            generalize wr.heap.size = xb at *
            have HRw := HRa
            have HGw := HGa
            clear HRa HGa
            have m0 := (HRw.out t0 ht0).1
            generalize nth xs (j * 3 + 2) = XC at *
            have heq : ∀ w, (binOp .eql 45 (.agg #[.int .i64 (v : Int), .int .i64 (t0 : Int), .int .i64 XC]) (.agg #[.int .i64 a, .int .i64 b, .int .i64 c])).run Tryz.prog w = .ok (.bool (decide ((v : Int) = a) && (decide ((t0 : Int) = b) && decide (XC = c)))) w := fun w => eql_wire (v : Int) (t0 : Int) XC a b c w
            cases hmet : setF f v true t0 with
            | true =>
              rw [hmet] at m0
              have HBn : Hid (B = anyF PJ (j + 1)) := by show _ = _; rw [HBj.out]; show _ = (anyF PJ j || PJ j); rw [← HPt.out, hmet]; simp
              go_wp2_with fail
              go_roundw
              case rel => exact ⟨j + 1, _, by omega, by go_num, rfl, HBn.out, HRw.out, ⟨b0, b1, b2, b3⟩, ⟨d0, d1, d2⟩, HGw.out⟩
              case measure => simp [intOf]; omega
            | false =>
              rw [hmet] at m0
              cases B with
              | true =>
                have HBn : Hid (true = anyF PJ (j + 1)) := by show _ = (anyF PJ j || PJ j); rw [← HBj.out]; rfl
                go_upto_region 10 with fail
                go_quiet (fail)
                go_wp2_with fail
                go_roundw
                case rel => exact ⟨j + 1, _, by omega, by go_num, rfl, HBn.out, HRw.out.ge (kge), NetIn.ge ⟨b0, b1, b2, b3⟩ (kge), ⟨Ge.keep (w1 := _) (kge) d0, Ge.keep (kge) d1, Ge.keep (kge) d2⟩, HGw.out.trans (Gr.of_ge (kge))⟩
                case measure => simp [intOf]; omega
              | false =>
                have HBn : Hid (pathB e m xs a b c first k (setF f v true) t0 (u || IW) = anyF PJ (j + 1)) := by show _ = (anyF PJ j || PJ j); rw [← HBj.out, ← HPt.out, hmet]; rfl
                cases u with
                | true =>
                  go_upto_region 10 with fail
                  have hS : ∀ w', RowB w' M n (setF f v true) → Gr M W1 w' → (w'.cell? ⟨w.heap.size, 0, none⟩ = some (.int .i64 (n : Int)) ∧ w'.cell? ⟨w.heap.size, 1, none⟩ = some (.int .i64 (e : Int)) ∧ w'.cell? ⟨w.heap.size, 2, none⟩ = some (.int .i64 S) ∧ w'.cell? ⟨w.heap.size, 3, none⟩ = some (.slice (some ⟨pb, po, none⟩) m cap) ∧ w'.cell? ⟨w.heap.size + 1, 0, none⟩ = some (.int .i64 a) ∧ w'.cell? ⟨w.heap.size + 1, 1, none⟩ = some (.int .i64 b) ∧ w'.cell? ⟨w.heap.size + 1, 2, none⟩ = some (.int .i64 c) ∧ w'.cell? ⟨xb, 0, none⟩ = some (.int .i64 (v : Int)) ∧ w'.cell? ⟨xb, 1, none⟩ = some (.int .i64 (t0 : Int)) ∧ w'.cell? ⟨xb, 2, none⟩ = some (.int .i64 XC) ∧ RowB w' M n (setF f v true) ∧ Gr M W1 w') := fun w' hr hg => ⟨hg.keep b0 (by show w.heap.size ≠ M; omega), hg.keep b1 (by show w.heap.size ≠ M; omega), hg.keep b2 (by show w.heap.size ≠ M; omega), hg.keep b3 (by show w.heap.size ≠ M; omega), hg.keep d0 (by show w.heap.size + 1 ≠ M; omega), hg.keep d1 (by show w.heap.size + 1 ≠ M; omega), hg.keep d2 (by show w.heap.size + 1 ≠ M; omega), hg.keep y0 (by show xb ≠ M; omega), hg.keep y1 (by show xb ≠ M; omega), hg.keep y2 (by show xb ≠ M; omega), hr, hg⟩
                  refine wp_region_head (S := fun w' => w'.cell? ⟨w.heap.size, 0, none⟩ = some (.int .i64 (n : Int)) ∧ w'.cell? ⟨w.heap.size, 1, none⟩ = some (.int .i64 (e : Int)) ∧ w'.cell? ⟨w.heap.size, 2, none⟩ = some (.int .i64 S) ∧ w'.cell? ⟨w.heap.size, 3, none⟩ = some (.slice (some ⟨pb, po, none⟩) m cap) ∧ w'.cell? ⟨w.heap.size + 1, 0, none⟩ = some (.int .i64 a) ∧ w'.cell? ⟨w.heap.size + 1, 1, none⟩ = some (.int .i64 b) ∧ w'.cell? ⟨w.heap.size + 1, 2, none⟩ = some (.int .i64 c) ∧ w'.cell? ⟨xb, 0, none⟩ = some (.int .i64 (v : Int)) ∧ w'.cell? ⟨xb, 1, none⟩ = some (.int .i64 (t0 : Int)) ∧ w'.cell? ⟨xb, 2, none⟩ = some (.int .i64 XC) ∧ RowB w' M n (setF f v true) ∧ Gr M W1 w') 15 (by kernel_rfl) (by kernel_rfl) (hS _ (RowB.ge HRw.out (Ge.drew (Ge.refl _))) (Gr.of_ge (Ge.drew (Ge.refl _)))) (fun hHeld => ?_)
                  refine head_takeR 0 (v := ?_) rfl ?_ ?_; rotate_left; (focus (intro w' hSw; (try dsimp only at hSw); go_simp; (try with_reducible rfl))); (try simp only [Act.put, hnA, hnB, hnC])
                  refine head_takeR 1 (v := ?_) rfl ?_ ?_; rotate_left; (focus (intro w' hSw; (try dsimp only at hSw); go_simp; (try with_reducible rfl))); (try simp only [Act.put, hnA, hnB, hnC])
                  refine head_takeR 2 (v := ?_) rfl ?_ ?_; rotate_left; (focus (intro w' hSw; (try dsimp only at hSw); go_simp; (try with_reducible rfl))); (try simp only [Act.put, hnA, hnB, hnC])
                  refine head_takeR 3 (v := ?_) rfl ?_ ?_; rotate_left; (focus (intro w' hSw; (try dsimp only at hSw); go_simp; (try with_reducible rfl))); (try simp only [Act.put, hnA, hnB, hnC])
                  refine head_takeR 4 (v := ?_) rfl ?_ ?_; rotate_left; (focus (intro w' hSw; (try dsimp only at hSw); go_simp; (try with_reducible rfl))); (try simp only [Act.put, hnA, hnB, hnC])
                  refine head_takeR 5 (v := ?_) rfl ?_ ?_; rotate_left; (focus (intro w' hSw; (try dsimp only at hSw); go_simp; (try with_reducible rfl))); (try simp only [Act.put, hnA, hnB, hnC])
                  refine head_takeR 6 (v := ?_) rfl ?_ ?_; rotate_left; (focus (intro w' hSw; (try dsimp only at hSw); go_simp; (try with_reducible rfl))); (try simp only [Act.put, hnA, hnB, hnC])
                  refine head_takeR 7 (v := ?_) rfl ?_ ?_; rotate_left; (focus (intro w' hSw; (try dsimp only at hSw); go_simp; (try with_reducible rfl))); (try simp only [Act.put, hnA, hnB, hnC])
                  refine head_take 8 (v := undef) rfl (by kernel_rfl) (by kernel_rfl) (fun _ _ _ h => h) (by assumption) (.inr ⟨by rfl, rfl⟩) ?_
                  (try simp only [Act.put, hnA, hnB, hnC])
                  refine head_take 9 (v := undef) rfl (by kernel_rfl) (by kernel_rfl) (fun _ _ _ h => h) (by assumption) (.inr ⟨by rfl, rfl⟩) ?_
                  (try simp only [Act.put, hnA, hnB, hnC])
                  refine head_take 10 (v := undef) rfl (by kernel_rfl) (by kernel_rfl) (fun _ _ _ h => h) (by assumption) (.inr ⟨by rfl, rfl⟩) ?_
                  (try simp only [Act.put, hnA, hnB, hnC])
                  refine head_takeR 11 (v := ?_) rfl ?_ ?_; rotate_left; (focus (intro w' hSw; (try dsimp only at hSw); go_simp; (try with_reducible rfl))); (try simp only [Act.put, hnA, hnB, hnC])
                  refine head_takeR 12 (v := ?_) rfl ?_ ?_; rotate_left; (focus (intro w' hSw; (try dsimp only at hSw); go_simp; (try with_reducible rfl))); (try simp only [Act.put, hnA, hnB, hnC])
                  refine head_one 13 rfl (by kernel_rfl) (fun K hK => ?_)
                  go_simp
                  (go_at_call 93; ((with_reducible refine (HIH.out t0 _ _ ht0 hmet (RowB.ge HRw.out (Ge.drew (Ge.refl _))) (HV1.out.ge (Ge.drew (Ge.refl _))) hM2).mono ?_); rintro r w9 ⟨rfl, hr9, hg9⟩))
                  refine hK.out _ _ (hS _ hr9 (Gr.trans (Gr.of_ge (Ge.drew (Ge.refl _))) hg9)) (fun hHeld2 => ?_)
                  clear hK K
                  (try simp only [Act.put, hnA, hnB, hnC])
                  refine head_takeR 14 (v := ?_) rfl ?_ ?_; rotate_left; (focus (intro w' hSw; (try dsimp only at hSw); go_simp; (try with_reducible rfl))); (try simp only [Act.put, hnA, hnB, hnC])
                  refine head_done (by kernel_rfl) ?_
                  obtain ⟨e0, e1, e2, e3, e4, e5, e6, e7, e8, e9, er, eg⟩ := hHeld2
                  clear hS hHeld
                  go_wp2_with fail
                  go_roundw
                  case rel => exact ⟨j + 1, _, by omega, by go_num, rfl, HBn.out, er, ⟨e0, e1, e2, e3⟩, ⟨e4, e5, e6⟩, HGw.out.trans eg⟩
                  case measure => simp [intOf]; omega
                | false =>
                  have HBx : Hid (pathB e m xs a b c first k (setF f v true) t0 (decide ((v : Int) = a) && (decide ((t0 : Int) = b) && decide (XC = c))) = anyF PJ (j + 1)) := by
                    have h := HBn.out
                    rw [Bool.false_or, HTi.out] at h
                    exact h
                  go_upto_region 10 with fail
                  have hS : ∀ w', RowB w' M n (setF f v true) → Gr M W1 w' → (w'.cell? ⟨w.heap.size, 0, none⟩ = some (.int .i64 (n : Int)) ∧ w'.cell? ⟨w.heap.size, 1, none⟩ = some (.int .i64 (e : Int)) ∧ w'.cell? ⟨w.heap.size, 2, none⟩ = some (.int .i64 S) ∧ w'.cell? ⟨w.heap.size, 3, none⟩ = some (.slice (some ⟨pb, po, none⟩) m cap) ∧ w'.cell? ⟨w.heap.size + 1, 0, none⟩ = some (.int .i64 a) ∧ w'.cell? ⟨w.heap.size + 1, 1, none⟩ = some (.int .i64 b) ∧ w'.cell? ⟨w.heap.size + 1, 2, none⟩ = some (.int .i64 c) ∧ w'.cell? ⟨xb, 0, none⟩ = some (.int .i64 (v : Int)) ∧ w'.cell? ⟨xb, 1, none⟩ = some (.int .i64 (t0 : Int)) ∧ w'.cell? ⟨xb, 2, none⟩ = some (.int .i64 XC) ∧ RowB w' M n (setF f v true) ∧ Gr M W1 w') := fun w' hr hg => ⟨hg.keep b0 (by show w.heap.size ≠ M; omega), hg.keep b1 (by show w.heap.size ≠ M; omega), hg.keep b2 (by show w.heap.size ≠ M; omega), hg.keep b3 (by show w.heap.size ≠ M; omega), hg.keep d0 (by show w.heap.size + 1 ≠ M; omega), hg.keep d1 (by show w.heap.size + 1 ≠ M; omega), hg.keep d2 (by show w.heap.size + 1 ≠ M; omega), hg.keep y0 (by show xb ≠ M; omega), hg.keep y1 (by show xb ≠ M; omega), hg.keep y2 (by show xb ≠ M; omega), hr, hg⟩
                  refine wp_region_head (S := fun w' => w'.cell? ⟨w.heap.size, 0, none⟩ = some (.int .i64 (n : Int)) ∧ w'.cell? ⟨w.heap.size, 1, none⟩ = some (.int .i64 (e : Int)) ∧ w'.cell? ⟨w.heap.size, 2, none⟩ = some (.int .i64 S) ∧ w'.cell? ⟨w.heap.size, 3, none⟩ = some (.slice (some ⟨pb, po, none⟩) m cap) ∧ w'.cell? ⟨w.heap.size + 1, 0, none⟩ = some (.int .i64 a) ∧ w'.cell? ⟨w.heap.size + 1, 1, none⟩ = some (.int .i64 b) ∧ w'.cell? ⟨w.heap.size + 1, 2, none⟩ = some (.int .i64 c) ∧ w'.cell? ⟨xb, 0, none⟩ = some (.int .i64 (v : Int)) ∧ w'.cell? ⟨xb, 1, none⟩ = some (.int .i64 (t0 : Int)) ∧ w'.cell? ⟨xb, 2, none⟩ = some (.int .i64 XC) ∧ RowB w' M n (setF f v true) ∧ Gr M W1 w') 15 (by kernel_rfl) (by kernel_rfl) (hS _ (RowB.ge HRw.out (Ge.drew (Ge.refl _))) (Gr.of_ge (Ge.drew (Ge.refl _)))) (fun hHeld => ?_)
                  refine head_takeR 0 (v := ?_) rfl ?_ ?_; rotate_left; (focus (intro w' hSw; (try dsimp only at hSw); go_simp; (try with_reducible rfl))); (try simp only [Act.put, hnA, hnB, hnC])
                  refine head_takeR 1 (v := ?_) rfl ?_ ?_; rotate_left; (focus (intro w' hSw; (try dsimp only at hSw); go_simp; (try with_reducible rfl))); (try simp only [Act.put, hnA, hnB, hnC])
                  refine head_takeR 2 (v := ?_) rfl ?_ ?_; rotate_left; (focus (intro w' hSw; (try dsimp only at hSw); go_simp; (try with_reducible rfl))); (try simp only [Act.put, hnA, hnB, hnC])
                  refine head_takeR 3 (v := ?_) rfl ?_ ?_; rotate_left; (focus (intro w' hSw; (try dsimp only at hSw); go_simp; (try with_reducible rfl))); (try simp only [Act.put, hnA, hnB, hnC])
                  refine head_takeR 4 (v := ?_) rfl ?_ ?_; rotate_left; (focus (intro w' hSw; (try dsimp only at hSw); go_simp; (try with_reducible rfl))); (try simp only [Act.put, hnA, hnB, hnC])
                  refine head_takeR 5 (v := ?_) rfl ?_ ?_; rotate_left; (focus (intro w' hSw; (try dsimp only at hSw); go_simp; (try with_reducible rfl))); (try simp only [Act.put, hnA, hnB, hnC])
                  refine head_takeR 6 (v := ?_) rfl ?_ ?_; rotate_left; (focus (intro w' hSw; (try dsimp only at hSw); go_simp; (try with_reducible rfl))); (try simp only [Act.put, hnA, hnB, hnC])
                  refine head_takeR 7 (v := ?_) rfl ?_ ?_; rotate_left; (focus (intro w' hSw; (try dsimp only at hSw); go_simp; (try with_reducible rfl))); (try simp only [Act.put, hnA, hnB, hnC])
                  refine head_takeR 8 (v := ?_) rfl ?_ ?_; rotate_left; (focus (intro w' hSw; (try dsimp only at hSw); go_simp; (try with_reducible rfl))); (try simp only [Act.put, hnA, hnB, hnC])
                  refine head_takeR 9 (v := ?_) rfl ?_ ?_; rotate_left; (focus (intro w' hSw; (try dsimp only at hSw); go_simp; (try with_reducible rfl))); (try simp only [Act.put, hnA, hnB, hnC])
                  refine head_takeR 10 (v := ?_) rfl ?_ ?_; rotate_left; (focus (intro w' hSw; (try dsimp only at hSw); go_simp; (try with_reducible rfl))); (try simp only [Act.put, hnA, hnB, hnC])
                  refine head_takeR 11 (v := ?_) rfl ?_ ?_; rotate_left; (focus (intro w' hSw; (try dsimp only at hSw); go_simp; (try with_reducible rfl))); (try simp only [Act.put, hnA, hnB, hnC])
                  refine head_takeR 12 (v := ?_) rfl ?_ ?_; rotate_left; (focus (intro w' hSw; (try dsimp only at hSw); go_simp; (try with_reducible rfl))); (try simp only [Act.put, hnA, hnB, hnC])
                  refine head_one 13 rfl (by kernel_rfl) (fun K hK => ?_)
                  go_simp
                  (go_at_call 93; ((with_reducible refine (HIH.out t0 _ _ ht0 hmet (RowB.ge HRw.out (Ge.drew (Ge.refl _))) (HV1.out.ge (Ge.drew (Ge.refl _))) hM2).mono ?_); rintro r w9 ⟨rfl, hr9, hg9⟩))
                  refine hK.out _ _ (hS _ hr9 (Gr.trans (Gr.of_ge (Ge.drew (Ge.refl _))) hg9)) (fun hHeld2 => ?_)
                  clear hK K
                  (try simp only [Act.put, hnA, hnB, hnC])
                  refine head_takeR 14 (v := ?_) rfl ?_ ?_; rotate_left; (focus (intro w' hSw; (try dsimp only at hSw); go_simp; (try with_reducible rfl))); (try simp only [Act.put, hnA, hnB, hnC])
                  refine head_done (by kernel_rfl) ?_
                  obtain ⟨e0, e1, e2, e3, e4, e5, e6, e7, e8, e9, er, eg⟩ := hHeld2
                  clear hS hHeld heq
                  go_wp2_with fail
                  go_roundw
                  case rel => exact ⟨j + 1, _, by omega, by go_num, rfl, HBx.out, er, ⟨e0, e1, e2, e3⟩, ⟨e4, e5, e6⟩, HGw.out.trans eg⟩
                  case measure => simp [intOf]; omega
          · by_cases eB : nth xs (j * 3 + 1) = (v : Int)
            · rw [eB] at x1 k2 k3
              obtain ⟨t0, ht⟩ := Int.eq_ofNat_of_zero_le (show 0 ≤ nth xs (j * 3) by omega)
              rw [ht] at x0 k2 k1
              have ht0 : t0 < n := by omega
              have HPt : Hid ((!setF f v true t0 && pathB e m xs a b c first k (setF f v true) t0 (u || isWr xs j a b c)) = PJ j) := by
                have h := HPt0.out
                have e1 : (toWr xs j v).toNat = t0 := by unfold toWr; rw [eB, ht]; omega
                have e2 : atWr xs j v = true := by unfold atWr; rw [eB]; simp
                rw [e1, e2] at h
                show _ = _
                simpa using h
              clear HPt0
              have tt : ((t0 : Int) + (v : Int) - (v : Int)) = (t0 : Int) := by omega
              have te : ((t0 : Int) == (v : Int)) = false := by simp; omega
              have te2 : decide ((t0 : Int) = (v : Int)) = false := by simp; omega
              have HTi : Hid (isWr xs j a b c = (decide ((t0 : Int) = a) && (decide ((v : Int) = b) && decide (nth xs (j * 3 + 2) = c)))) := by show _ = _; unfold isWr; rw [eB, ht]; simp only [Bool.decide_and]
              generalize hIW : isWr xs j a b c = IW at *
              clear hIW eA eB ht
              have ga : Ge wr (wr.alloc (.cells #[.int .i64 (t0 : Int), .int .i64 (v : Int), .int .i64 (nth xs (j * 3 + 2))] 45)) := Ge.alloc (Ge.refl _) _
              have y0 : (wr.alloc (.cells #[.int .i64 (t0 : Int), .int .i64 (v : Int), .int .i64 (nth xs (j * 3 + 2))] 45)).cell? ⟨wr.heap.size, 0, none⟩ = some (.int .i64 (t0 : Int)) := cell_new rfl rfl
              have y1 : (wr.alloc (.cells #[.int .i64 (t0 : Int), .int .i64 (v : Int), .int .i64 (nth xs (j * 3 + 2))] 45)).cell? ⟨wr.heap.size, 1, none⟩ = some (.int .i64 (v : Int)) := cell_new rfl rfl
              have y2 : (wr.alloc (.cells #[.int .i64 (t0 : Int), .int .i64 (v : Int), .int .i64 (nth xs (j * 3 + 2))] 45)).cell? ⟨wr.heap.size, 2, none⟩ = some (.int .i64 (nth xs (j * 3 + 2))) := cell_new rfl rfl
              have zx : wr.heap.size < (wr.alloc (.cells #[.int .i64 (t0 : Int), .int .i64 (v : Int), .int .i64 (nth xs (j * 3 + 2))] 45)).heap.size := by simp
              go_upto_region 8 with fail
              have b0 := ga.keep b0
              have b1 := ga.keep b1
              have b2 := ga.keep b2
              have b3 := ga.keep b3
              have d0 := ga.keep d0
              have d1 := ga.keep d1
              have d2 := ga.keep d2
              have HRa := Lib.hid (HRw.out.ge ga)
              have HV1 := Lib.hid ((SlF.gr HV0.out HGw.out HP.out).ge ga)
              have HGa := Lib.hid (HGw.out.trans (Gr.of_ge ga))
              have hM1 : M < (wr.alloc (.cells #[.int .i64 (t0 : Int), .int .i64 (v : Int), .int .i64 (nth xs (j * 3 + 2))] 45)).heap.size := by simp; omega
              have hM2 : M < ((wr.alloc (.cells #[.int .i64 (t0 : Int), .int .i64 (v : Int), .int .i64 (nth xs (j * 3 + 2))] 45))).drew.heap.size := hM1
              have hxM : M < wr.heap.size := by omega
              clear HRw HGw ga x0 x1 x2 HNw HDw HV0 HOK
              generalize (wr.alloc (.cells #[.int .i64 (t0 : Int), .int .i64 (v : Int), .int .i64 (nth xs (j * 3 + 2))] 45)) = W1 at *
              generalize wr.heap.size = xb at *
              have HRw := HRa
              have HGw := HGa
              clear HRa HGa
              have m0 := (HRw.out t0 ht0).1
              generalize nth xs (j * 3 + 2) = XC at *
              have heq : ∀ w, (binOp .eql 45 (.agg #[.int .i64 (t0 : Int), .int .i64 (v : Int), .int .i64 XC]) (.agg #[.int .i64 a, .int .i64 b, .int .i64 c])).run Tryz.prog w = .ok (.bool (decide ((t0 : Int) = a) && (decide ((v : Int) = b) && decide (XC = c)))) w := fun w => eql_wire (t0 : Int) (v : Int) XC a b c w
              cases hmet : setF f v true t0 with
              | true =>
                rw [hmet] at m0
                have HBn : Hid (B = anyF PJ (j + 1)) := by show _ = _; rw [HBj.out]; show _ = (anyF PJ j || PJ j); rw [← HPt.out, hmet]; simp
                go_wp2_with fail
                go_roundw
                case rel => exact ⟨j + 1, _, by omega, by go_num, rfl, HBn.out, HRw.out, ⟨b0, b1, b2, b3⟩, ⟨d0, d1, d2⟩, HGw.out⟩
                case measure => simp [intOf]; omega
              | false =>
                rw [hmet] at m0
                cases B with
                | true =>
                  have HBn : Hid (true = anyF PJ (j + 1)) := by show _ = (anyF PJ j || PJ j); rw [← HBj.out]; rfl
                  go_upto_region 10 with fail
                  go_quiet (fail)
                  go_wp2_with fail
                  go_roundw
                  case rel => exact ⟨j + 1, _, by omega, by go_num, rfl, HBn.out, HRw.out.ge (kge), NetIn.ge ⟨b0, b1, b2, b3⟩ (kge), ⟨Ge.keep (w1 := _) (kge) d0, Ge.keep (kge) d1, Ge.keep (kge) d2⟩, HGw.out.trans (Gr.of_ge (kge))⟩
                  case measure => simp [intOf]; omega
                | false =>
                  have HBn : Hid (pathB e m xs a b c first k (setF f v true) t0 (u || IW) = anyF PJ (j + 1)) := by show _ = (anyF PJ j || PJ j); rw [← HBj.out, ← HPt.out, hmet]; rfl
                  cases u with
                  | true =>
                    go_upto_region 10 with fail
                    have hS : ∀ w', RowB w' M n (setF f v true) → Gr M W1 w' → (w'.cell? ⟨w.heap.size, 0, none⟩ = some (.int .i64 (n : Int)) ∧ w'.cell? ⟨w.heap.size, 1, none⟩ = some (.int .i64 (e : Int)) ∧ w'.cell? ⟨w.heap.size, 2, none⟩ = some (.int .i64 S) ∧ w'.cell? ⟨w.heap.size, 3, none⟩ = some (.slice (some ⟨pb, po, none⟩) m cap) ∧ w'.cell? ⟨w.heap.size + 1, 0, none⟩ = some (.int .i64 a) ∧ w'.cell? ⟨w.heap.size + 1, 1, none⟩ = some (.int .i64 b) ∧ w'.cell? ⟨w.heap.size + 1, 2, none⟩ = some (.int .i64 c) ∧ w'.cell? ⟨xb, 0, none⟩ = some (.int .i64 (t0 : Int)) ∧ w'.cell? ⟨xb, 1, none⟩ = some (.int .i64 (v : Int)) ∧ w'.cell? ⟨xb, 2, none⟩ = some (.int .i64 XC) ∧ RowB w' M n (setF f v true) ∧ Gr M W1 w') := fun w' hr hg => ⟨hg.keep b0 (by show w.heap.size ≠ M; omega), hg.keep b1 (by show w.heap.size ≠ M; omega), hg.keep b2 (by show w.heap.size ≠ M; omega), hg.keep b3 (by show w.heap.size ≠ M; omega), hg.keep d0 (by show w.heap.size + 1 ≠ M; omega), hg.keep d1 (by show w.heap.size + 1 ≠ M; omega), hg.keep d2 (by show w.heap.size + 1 ≠ M; omega), hg.keep y0 (by show xb ≠ M; omega), hg.keep y1 (by show xb ≠ M; omega), hg.keep y2 (by show xb ≠ M; omega), hr, hg⟩
                    refine wp_region_head (S := fun w' => w'.cell? ⟨w.heap.size, 0, none⟩ = some (.int .i64 (n : Int)) ∧ w'.cell? ⟨w.heap.size, 1, none⟩ = some (.int .i64 (e : Int)) ∧ w'.cell? ⟨w.heap.size, 2, none⟩ = some (.int .i64 S) ∧ w'.cell? ⟨w.heap.size, 3, none⟩ = some (.slice (some ⟨pb, po, none⟩) m cap) ∧ w'.cell? ⟨w.heap.size + 1, 0, none⟩ = some (.int .i64 a) ∧ w'.cell? ⟨w.heap.size + 1, 1, none⟩ = some (.int .i64 b) ∧ w'.cell? ⟨w.heap.size + 1, 2, none⟩ = some (.int .i64 c) ∧ w'.cell? ⟨xb, 0, none⟩ = some (.int .i64 (t0 : Int)) ∧ w'.cell? ⟨xb, 1, none⟩ = some (.int .i64 (v : Int)) ∧ w'.cell? ⟨xb, 2, none⟩ = some (.int .i64 XC) ∧ RowB w' M n (setF f v true) ∧ Gr M W1 w') 15 (by kernel_rfl) (by kernel_rfl) (hS _ (RowB.ge HRw.out (Ge.drew (Ge.refl _))) (Gr.of_ge (Ge.drew (Ge.refl _)))) (fun hHeld => ?_)
                    refine head_takeR 0 (v := ?_) rfl ?_ ?_; rotate_left; (focus (intro w' hSw; (try dsimp only at hSw); go_simp; (try with_reducible rfl))); (try simp only [Act.put, hnA, hnB, hnC])
                    refine head_takeR 1 (v := ?_) rfl ?_ ?_; rotate_left; (focus (intro w' hSw; (try dsimp only at hSw); go_simp; (try with_reducible rfl))); (try simp only [Act.put, hnA, hnB, hnC])
                    refine head_takeR 2 (v := ?_) rfl ?_ ?_; rotate_left; (focus (intro w' hSw; (try dsimp only at hSw); go_simp; (try with_reducible rfl))); (try simp only [Act.put, hnA, hnB, hnC])
                    refine head_takeR 3 (v := ?_) rfl ?_ ?_; rotate_left; (focus (intro w' hSw; (try dsimp only at hSw); go_simp; (try with_reducible rfl))); (try simp only [Act.put, hnA, hnB, hnC])
                    refine head_takeR 4 (v := ?_) rfl ?_ ?_; rotate_left; (focus (intro w' hSw; (try dsimp only at hSw); go_simp; (try with_reducible rfl))); (try simp only [Act.put, hnA, hnB, hnC])
                    refine head_takeR 5 (v := ?_) rfl ?_ ?_; rotate_left; (focus (intro w' hSw; (try dsimp only at hSw); go_simp; (try with_reducible rfl))); (try simp only [Act.put, hnA, hnB, hnC])
                    refine head_takeR 6 (v := ?_) rfl ?_ ?_; rotate_left; (focus (intro w' hSw; (try dsimp only at hSw); go_simp; (try with_reducible rfl))); (try simp only [Act.put, hnA, hnB, hnC])
                    refine head_takeR 7 (v := ?_) rfl ?_ ?_; rotate_left; (focus (intro w' hSw; (try dsimp only at hSw); go_simp; (try with_reducible rfl))); (try simp only [Act.put, hnA, hnB, hnC])
                    refine head_take 8 (v := undef) rfl (by kernel_rfl) (by kernel_rfl) (fun _ _ _ h => h) (by assumption) (.inr ⟨by rfl, rfl⟩) ?_
                    (try simp only [Act.put, hnA, hnB, hnC])
                    refine head_take 9 (v := undef) rfl (by kernel_rfl) (by kernel_rfl) (fun _ _ _ h => h) (by assumption) (.inr ⟨by rfl, rfl⟩) ?_
                    (try simp only [Act.put, hnA, hnB, hnC])
                    refine head_take 10 (v := undef) rfl (by kernel_rfl) (by kernel_rfl) (fun _ _ _ h => h) (by assumption) (.inr ⟨by rfl, rfl⟩) ?_
                    (try simp only [Act.put, hnA, hnB, hnC])
                    refine head_takeR 11 (v := ?_) rfl ?_ ?_; rotate_left; (focus (intro w' hSw; (try dsimp only at hSw); go_simp; (try with_reducible rfl))); (try simp only [Act.put, hnA, hnB, hnC])
                    refine head_takeR 12 (v := ?_) rfl ?_ ?_; rotate_left; (focus (intro w' hSw; (try dsimp only at hSw); go_simp; (try with_reducible rfl))); (try simp only [Act.put, hnA, hnB, hnC])
                    refine head_one 13 rfl (by kernel_rfl) (fun K hK => ?_)
                    go_simp
                    (go_at_call 93; ((with_reducible refine (HIH.out t0 _ _ ht0 hmet (RowB.ge HRw.out (Ge.drew (Ge.refl _))) (HV1.out.ge (Ge.drew (Ge.refl _))) hM2).mono ?_); rintro r w9 ⟨rfl, hr9, hg9⟩))
                    refine hK.out _ _ (hS _ hr9 (Gr.trans (Gr.of_ge (Ge.drew (Ge.refl _))) hg9)) (fun hHeld2 => ?_)
                    clear hK K
                    (try simp only [Act.put, hnA, hnB, hnC])
                    refine head_takeR 14 (v := ?_) rfl ?_ ?_; rotate_left; (focus (intro w' hSw; (try dsimp only at hSw); go_simp; (try with_reducible rfl))); (try simp only [Act.put, hnA, hnB, hnC])
                    refine head_done (by kernel_rfl) ?_
                    obtain ⟨e0, e1, e2, e3, e4, e5, e6, e7, e8, e9, er, eg⟩ := hHeld2
                    clear hS hHeld
                    go_wp2_with fail
                    go_roundw
                    case rel => exact ⟨j + 1, _, by omega, by go_num, rfl, HBn.out, er, ⟨e0, e1, e2, e3⟩, ⟨e4, e5, e6⟩, HGw.out.trans eg⟩
                    case measure => simp [intOf]; omega
                  | false =>
                    have HBx : Hid (pathB e m xs a b c first k (setF f v true) t0 (decide ((t0 : Int) = a) && (decide ((v : Int) = b) && decide (XC = c))) = anyF PJ (j + 1)) := by
                      have h := HBn.out
                      rw [Bool.false_or, HTi.out] at h
                      exact h
                    go_upto_region 10 with fail
                    have hS : ∀ w', RowB w' M n (setF f v true) → Gr M W1 w' → (w'.cell? ⟨w.heap.size, 0, none⟩ = some (.int .i64 (n : Int)) ∧ w'.cell? ⟨w.heap.size, 1, none⟩ = some (.int .i64 (e : Int)) ∧ w'.cell? ⟨w.heap.size, 2, none⟩ = some (.int .i64 S) ∧ w'.cell? ⟨w.heap.size, 3, none⟩ = some (.slice (some ⟨pb, po, none⟩) m cap) ∧ w'.cell? ⟨w.heap.size + 1, 0, none⟩ = some (.int .i64 a) ∧ w'.cell? ⟨w.heap.size + 1, 1, none⟩ = some (.int .i64 b) ∧ w'.cell? ⟨w.heap.size + 1, 2, none⟩ = some (.int .i64 c) ∧ w'.cell? ⟨xb, 0, none⟩ = some (.int .i64 (t0 : Int)) ∧ w'.cell? ⟨xb, 1, none⟩ = some (.int .i64 (v : Int)) ∧ w'.cell? ⟨xb, 2, none⟩ = some (.int .i64 XC) ∧ RowB w' M n (setF f v true) ∧ Gr M W1 w') := fun w' hr hg => ⟨hg.keep b0 (by show w.heap.size ≠ M; omega), hg.keep b1 (by show w.heap.size ≠ M; omega), hg.keep b2 (by show w.heap.size ≠ M; omega), hg.keep b3 (by show w.heap.size ≠ M; omega), hg.keep d0 (by show w.heap.size + 1 ≠ M; omega), hg.keep d1 (by show w.heap.size + 1 ≠ M; omega), hg.keep d2 (by show w.heap.size + 1 ≠ M; omega), hg.keep y0 (by show xb ≠ M; omega), hg.keep y1 (by show xb ≠ M; omega), hg.keep y2 (by show xb ≠ M; omega), hr, hg⟩
                    refine wp_region_head (S := fun w' => w'.cell? ⟨w.heap.size, 0, none⟩ = some (.int .i64 (n : Int)) ∧ w'.cell? ⟨w.heap.size, 1, none⟩ = some (.int .i64 (e : Int)) ∧ w'.cell? ⟨w.heap.size, 2, none⟩ = some (.int .i64 S) ∧ w'.cell? ⟨w.heap.size, 3, none⟩ = some (.slice (some ⟨pb, po, none⟩) m cap) ∧ w'.cell? ⟨w.heap.size + 1, 0, none⟩ = some (.int .i64 a) ∧ w'.cell? ⟨w.heap.size + 1, 1, none⟩ = some (.int .i64 b) ∧ w'.cell? ⟨w.heap.size + 1, 2, none⟩ = some (.int .i64 c) ∧ w'.cell? ⟨xb, 0, none⟩ = some (.int .i64 (t0 : Int)) ∧ w'.cell? ⟨xb, 1, none⟩ = some (.int .i64 (v : Int)) ∧ w'.cell? ⟨xb, 2, none⟩ = some (.int .i64 XC) ∧ RowB w' M n (setF f v true) ∧ Gr M W1 w') 15 (by kernel_rfl) (by kernel_rfl) (hS _ (RowB.ge HRw.out (Ge.drew (Ge.refl _))) (Gr.of_ge (Ge.drew (Ge.refl _)))) (fun hHeld => ?_)
                    refine head_takeR 0 (v := ?_) rfl ?_ ?_; rotate_left; (focus (intro w' hSw; (try dsimp only at hSw); go_simp; (try with_reducible rfl))); (try simp only [Act.put, hnA, hnB, hnC])
                    refine head_takeR 1 (v := ?_) rfl ?_ ?_; rotate_left; (focus (intro w' hSw; (try dsimp only at hSw); go_simp; (try with_reducible rfl))); (try simp only [Act.put, hnA, hnB, hnC])
                    refine head_takeR 2 (v := ?_) rfl ?_ ?_; rotate_left; (focus (intro w' hSw; (try dsimp only at hSw); go_simp; (try with_reducible rfl))); (try simp only [Act.put, hnA, hnB, hnC])
                    refine head_takeR 3 (v := ?_) rfl ?_ ?_; rotate_left; (focus (intro w' hSw; (try dsimp only at hSw); go_simp; (try with_reducible rfl))); (try simp only [Act.put, hnA, hnB, hnC])
                    refine head_takeR 4 (v := ?_) rfl ?_ ?_; rotate_left; (focus (intro w' hSw; (try dsimp only at hSw); go_simp; (try with_reducible rfl))); (try simp only [Act.put, hnA, hnB, hnC])
                    refine head_takeR 5 (v := ?_) rfl ?_ ?_; rotate_left; (focus (intro w' hSw; (try dsimp only at hSw); go_simp; (try with_reducible rfl))); (try simp only [Act.put, hnA, hnB, hnC])
                    refine head_takeR 6 (v := ?_) rfl ?_ ?_; rotate_left; (focus (intro w' hSw; (try dsimp only at hSw); go_simp; (try with_reducible rfl))); (try simp only [Act.put, hnA, hnB, hnC])
                    refine head_takeR 7 (v := ?_) rfl ?_ ?_; rotate_left; (focus (intro w' hSw; (try dsimp only at hSw); go_simp; (try with_reducible rfl))); (try simp only [Act.put, hnA, hnB, hnC])
                    refine head_takeR 8 (v := ?_) rfl ?_ ?_; rotate_left; (focus (intro w' hSw; (try dsimp only at hSw); go_simp; (try with_reducible rfl))); (try simp only [Act.put, hnA, hnB, hnC])
                    refine head_takeR 9 (v := ?_) rfl ?_ ?_; rotate_left; (focus (intro w' hSw; (try dsimp only at hSw); go_simp; (try with_reducible rfl))); (try simp only [Act.put, hnA, hnB, hnC])
                    refine head_takeR 10 (v := ?_) rfl ?_ ?_; rotate_left; (focus (intro w' hSw; (try dsimp only at hSw); go_simp; (try with_reducible rfl))); (try simp only [Act.put, hnA, hnB, hnC])
                    refine head_takeR 11 (v := ?_) rfl ?_ ?_; rotate_left; (focus (intro w' hSw; (try dsimp only at hSw); go_simp; (try with_reducible rfl))); (try simp only [Act.put, hnA, hnB, hnC])
                    refine head_takeR 12 (v := ?_) rfl ?_ ?_; rotate_left; (focus (intro w' hSw; (try dsimp only at hSw); go_simp; (try with_reducible rfl))); (try simp only [Act.put, hnA, hnB, hnC])
                    refine head_one 13 rfl (by kernel_rfl) (fun K hK => ?_)
                    go_simp
                    (go_at_call 93; ((with_reducible refine (HIH.out t0 _ _ ht0 hmet (RowB.ge HRw.out (Ge.drew (Ge.refl _))) (HV1.out.ge (Ge.drew (Ge.refl _))) hM2).mono ?_); rintro r w9 ⟨rfl, hr9, hg9⟩))
                    refine hK.out _ _ (hS _ hr9 (Gr.trans (Gr.of_ge (Ge.drew (Ge.refl _))) hg9)) (fun hHeld2 => ?_)
                    clear hK K
                    (try simp only [Act.put, hnA, hnB, hnC])
                    refine head_takeR 14 (v := ?_) rfl ?_ ?_; rotate_left; (focus (intro w' hSw; (try dsimp only at hSw); go_simp; (try with_reducible rfl))); (try simp only [Act.put, hnA, hnB, hnC])
                    refine head_done (by kernel_rfl) ?_
                    obtain ⟨e0, e1, e2, e3, e4, e5, e6, e7, e8, e9, er, eg⟩ := hHeld2
                    clear hS hHeld heq
                    go_wp2_with fail
                    go_roundw
                    case rel => exact ⟨j + 1, _, by omega, by go_num, rfl, HBx.out, er, ⟨e0, e1, e2, e3⟩, ⟨e4, e5, e6⟩, HGw.out.trans eg⟩
                    case measure => simp [intOf]; omega
            · have HBn : Hid (B = anyF PJ (j + 1)) := by
                show _ = (anyF PJ j || PJ j)
                rw [← HPt0.out, HBj.out]
                have e2 : atWr xs j v = false := by unfold atWr; simp [eA, eB]
                rw [e2]; simp
              have t1 : (nth xs (j * 3) == (v : Int)) = false := by simpa using eA
              have t2 : (nth xs (j * 3 + 1) == (v : Int)) = false := by simpa using eB
              clear HPt0
              generalize nth xs (j * 3) = XA at *
              generalize nth xs (j * 3 + 1) = XB at *
              generalize nth xs (j * 3 + 2) = XC at *
              go_wp2_with fail
              go_roundw
              case rel => exact ⟨j + 1, _, by omega, by go_num, rfl, HBn.out, HRw.out.ge (kge), NetIn.ge ⟨b0, b1, b2, b3⟩ (kge), ⟨cell_alloc d0, cell_alloc d1, cell_alloc d2⟩, HGw.out.trans (Gr.of_ge (kge))⟩
              case measure => simp [intOf]; omega
        · have hjm : j = m := by omega
          subst hjm
          have hx := (HRw.out v hv).1
          have hfx := (HRw.out v hv).2
          have HRe := Lib.hid ((HRw.out.set hv false).congr (setF_back f HF.out))
          have HGe := Lib.hid ((Gr.of_ge HG0.out : Gr M w W0).trans (HGw.out.trans (Gr.set M wr v (.bool false))))
          have HBe : Hid (RES = B) := by show _ = _; rw [HRf.out, HBj.out]
          go_wp2_with fail
          go_ret
          exact ⟨ret_bool HBe.out.symm, HRe.out, HGe.out⟩
end Go.Proofs.YtagiecajffhnpaaGreat
