/- FnPlanar, walked. No condition. -/
import Derived.Test.YtjdhjoifiebpeaaWPlanarLine
import Derived.Test.YtjdhjoifiebpeaaPlPlan4
import Derived.Test.YtjdhjoifiebpeaaWCur
import Derived.Test.YtjdhjoifiebpeaaWFour
namespace Go.Proofs.Ytjdhjoifiebpeaa
set_option maxRecDepth 100000
open Go.ChangeShapes Go.WideShapes Go.ChangeAt Go.RowKit Go.Joins

set_option maxHeartbeats 1600000 in
theorem iIsPlanarMatrix (N : Nat) (R : List (List Int)) (vm : Value) (w : World) (hv : SlMI w vm N R) (hN : R.length = N) (hR : wmP R) :
    Calls Try.prog 7 #[vm] w fun e w' => e = .returned (.bool (reasonL (entM R) (pairsM N (N / 2))).isNone) ∧ Ge w w' := by
  have hl : ∀ i, i < N → (rowL R i).length = N := fun i hi => by rw [← hN]; exact (hR.2.1.2 i (by omega)).1
  have hN5 : N ≤ 5 := by rw [← hN]; exact hR.2.1.1
  have HW := Lib.hid (iIsWeightMatrix vm N R w hv hN (by omega) (fun i hi => by rw [hl i hi]; omega))
  rw [wmB_true hR] at HW
  have HP := Lib.hid (iPlanarReason N R vm w hv hN hR)
  have q27 : ∀ (w : World) (a : Option Addr) (n c n' c' : Nat), (binOp .eql 25 (.slice a n c) (.slice none n' c')).run Try.prog w = .ok (.bool a.isNone) w := fun w a n c n' c' => Lib.run_eql_slice_nil w _ _ a n c n' c' Try.underlying25
  obtain ⟨pv, cv', rfl, _⟩ := hv
  clear hR hl
  cases hRe : reasonL (entM R) (pairsM N (N / 2)) with
  | none =>
    rw [hRe] at HP
    clear hRe
    go_enter Try.func7, Try.ntmps7
    go_wp2_with (first
      | ((go_at_call 6; ((with_reducible refine (HW.out).mono ?_); rintro e w0 ⟨rfl, rfl⟩)))
      | ((go_at_call 5; ((with_reducible refine (HP.out).mono ?_); rintro e w1 ⟨hx, g1⟩)); obtain rfl := hx))
    go_ret
    exact ⟨rfl, g1⟩
  | some x =>
    rw [hRe] at HP
    clear hRe
    go_enter Try.func7, Try.ntmps7
    go_wp2_with (first
      | ((go_at_call 6; ((with_reducible refine (HW.out).mono ?_); rintro e w0 ⟨rfl, rfl⟩)))
      | ((go_at_call 5; ((with_reducible refine (HP.out).mono ?_); rintro e w1 ⟨hx, g1⟩)); obtain ⟨u, rfl, hpx⟩ := hx; obtain ⟨g, _, _, _, _, rfl, _⟩ := hpx))
    go_ret
    exact ⟨rfl, g1⟩

theorem row_made4 (w : World) (x y z t : Int) : (w.alloc (.cells #[.int .i64 x, .int .i64 y, .int .i64 z, .int .i64 t] 3)).ownsRow 0 3 1 (.slice (some ⟨w.heap.size, 0, none⟩) 4 4) 4 (icells [x, y, z, t]) := row_made w [x, y, z, t] 4 rfl (by omega)
theorem mat4_rows {w : World} {a b c d e f : Int} {b0 b1 b2 b3 : Nat} (r0 : w.ownsRow 0 3 1 (.slice (some ⟨b0, 0, none⟩) 4 4) 4 (icells [a + b + c, -a, -b, -c])) (r1 : w.ownsRow 0 3 1 (.slice (some ⟨b1, 0, none⟩) 4 4) 4 (icells [-a, a + d + e, -d, -e]))
    (r2 : w.ownsRow 0 3 1 (.slice (some ⟨b2, 0, none⟩) 4 4) 4 (icells [-b, -d, b + d + f, -f])) (r3 : w.ownsRow 0 3 1 (.slice (some ⟨b3, 0, none⟩) 4 4) 4 (icells [-c, -e, -f, c + e + f])) :
    SlMI (w.alloc (.cells #[.slice (some ⟨b0, 0, none⟩) 4 4, .slice (some ⟨b1, 0, none⟩) 4 4, .slice (some ⟨b2, 0, none⟩) 4 4, .slice (some ⟨b3, 0, none⟩) 4 4] 23)) (.slice (some ⟨w.heap.size, 0, none⟩) 4 4) 4 (mat4 a b c d e f) := by
  have s0 := SlI.of_owns (r0.alloc (.cells #[.slice (some ⟨b0, 0, none⟩) 4 4, .slice (some ⟨b1, 0, none⟩) 4 4, .slice (some ⟨b2, 0, none⟩) 4 4, .slice (some ⟨b3, 0, none⟩) 4 4] 23))
  have s1 := SlI.of_owns (r1.alloc (.cells #[.slice (some ⟨b0, 0, none⟩) 4 4, .slice (some ⟨b1, 0, none⟩) 4 4, .slice (some ⟨b2, 0, none⟩) 4 4, .slice (some ⟨b3, 0, none⟩) 4 4] 23))
  have s2 := SlI.of_owns (r2.alloc (.cells #[.slice (some ⟨b0, 0, none⟩) 4 4, .slice (some ⟨b1, 0, none⟩) 4 4, .slice (some ⟨b2, 0, none⟩) 4 4, .slice (some ⟨b3, 0, none⟩) 4 4] 23))
  have s3 := SlI.of_owns (r3.alloc (.cells #[.slice (some ⟨b0, 0, none⟩) 4 4, .slice (some ⟨b1, 0, none⟩) 4 4, .slice (some ⟨b2, 0, none⟩) 4 4, .slice (some ⟨b3, 0, none⟩) 4 4] 23))
  refine ⟨_, _, rfl, fun i hi => ?_⟩
  have hi' : i = 0 ∨ i = 1 ∨ i = 2 ∨ i = 3 := by omega
  rcases hi' with rfl | rfl | rfl | rfl
  · exact ⟨_, 0, _, _, rfl, cell_new rfl rfl, s0⟩
  · exact ⟨_, 0, _, _, rfl, cell_new rfl rfl, s1⟩
  · exact ⟨_, 0, _, _, rfl, cell_new rfl rfl, s2⟩
  · exact ⟨_, 0, _, _, rfl, cell_new rfl rfl, s3⟩
theorem mul4 {x y : Int} (hx : 0 ≤ x ∧ x ≤ 4) (hy : 0 ≤ y ∧ y ≤ 4) : 0 ≤ x * y ∧ x * y ≤ 16 :=
  ⟨Int.mul_nonneg hx.1 hy.1, by have := Int.mul_le_mul hx.2 hy.2 hy.1 (by omega : (0 : Int) ≤ 4); omega⟩
theorem tmod5 {x : Int} (hx : 0 ≤ x) : 0 ≤ x.tmod 5 ∧ x.tmod 5 ≤ 4 := by
  rw [Int.tmod_eq_emod_of_nonneg hx]; omega
theorem planTxt_ne {n : Nat} {R : List (List Int)} (h : wmB R = true) : planTxt n R ≠ [] := by
  unfold planTxt
  rw [if_pos h]
  split
  · simp
  · simp

theorem loop_neP (bs : ByteArray) : ∀ (d i : Nat) (r : List UInt8), bs.size - i = d → r ≠ [] → ByteArray.toList.loop bs i r ≠ [] := by
  intro d
  induction d with
  | zero =>
    intro i r hd hr
    rw [ByteArray.toList.loop, if_neg (by omega)]
    simpa using hr
  | succ d ih =>
    intro i r hd hr
    rw [ByteArray.toList.loop, if_pos (by omega)]
    exact ih (i + 1) _ (by omega) (by simp)
theorem bstr_neP {l : List UInt8} (h : ¬ l = []) : (bstr l).toList.isEmpty = false := by
  have hs : 0 < (bstr l).size := by rw [bstr_size]; exact List.length_pos_iff.2 h
  have : (bstr l).toList ≠ [] := by
    unfold ByteArray.toList
    rw [ByteArray.toList.loop, if_pos hs]
    exact loop_neP _ _ _ _ rfl (by simp)
  cases e : (bstr l).toList with
  | nil => exact absurd e this
  | cons => rfl
set_option maxHeartbeats 6400000 in
theorem lFnPlanar (p : Option Addr) (n0 cap : Nat) (w : World) (hb : SlB w p n0) (hm0 : n0 ≤ 9223372036854775807) : Calls Try.prog 3 #[.slice p n0 cap] w fun e w' => e = .returned (.bool true) ∧ Ge w w' := by
  by_cases hbig : 1048576 < n0
  · clear hb
    go_enter Try.func3, Try.ntmps3
    go_wp2_with fail
    go_ret
    exact ⟨rfl, Ge.refl _⟩
  have hn0 : n0 ≤ 1048576 := by omega
  have HB := Lib.hid hb
  clear hb hm0
  go_enter Try.func3, Try.ntmps3
  go_wp2_with fail
  go_loopw [3, 4] (fun o i wr => ∃ (k : Nat) (u : Value) (l : List Int), k ≤ 6 ∧ i = .int .i64 k ∧ o = u ∧ l.length = k ∧ wr.ownsRow w.heap.size 3 1 u l.length (icells l) ∧ Hid (∀ x ∈ l, 0 ≤ x ∧ x ≤ 4) ∧ Ge w wr) (fun _ i _ => 6 - (intOf i).toNat)
  case atStart => exact ⟨0, _, [], Nat.zero_le _, rfl, rfl, rfl, owns_lit0 _ _ _, fun x hx => by simp at hx, by (repeat (first | with_reducible exact Ge.refl _ | assumption | with_reducible refine Ge.drew ?_ | with_reducible refine Ge.drewN ?_ _ | with_reducible refine Ge.alloc ?_ _ | (with_reducible refine Ge.setCell ?_ (by first | (simp; done) | omega | (simp; omega)) _) | with_reducible refine Ge.trans ?_ (by assumption)))⟩
  case round =>
    obtain ⟨k, u, l, hk, rfl, rfl, hl, hown, HL, hg⟩ := hrel
    by_cases hlt : k < 6
    · have HO := Lib.hid hown
      have Hl := Lib.hid hl
      clear hown hl
      go_wp2_with (first
        | ((go_at_call 4; ((with_reducible refine (sMakeNum _ _ _ _ _ (HB.out.ge hg) hn0 (by omega)).mono ?_); rintro e w5 ⟨x, rfl, x0, x1, g5⟩)); have tm5 := tmod5 x0; have G5 := Lib.hid (Ge.trans hg g5); have O5 := Lib.hid (g5.owns HO.out); have z5 := G5.out.size)
        | (at_builtin; refine ap_int rfl _ _ rfl w.heap.size _ l rfl O5.out _ rfl (by have := Hl.out; omega) z5 ?_; intro v' w6 own6 hm6))
      go_roundw
      case rel => exact ⟨k + 1, _, _, by omega, by go_num, rfl, by simp [Hl.out], own6, fun y hy => by
        rcases List.mem_append.1 hy with h | h
        · exact HL.out y h
        · simp at h; subst h; exact ⟨by omega, by omega⟩, G5.out.mine O5.out (Nat.le_refl _) hm6⟩
      case measure => simp [intOf]; omega
    · have hk6 : k = 6 := by omega
      subst hk6
      obtain ⟨a, b, c, d, e, f, rfl⟩ : ∃ a b c d e f, l = [a, b, c, d, e, f] := by match l, hl with | [a, b, c, d, e, f], _ => exact ⟨a, b, c, d, e, f, rfl⟩
      have ha := HL.out a (by simp)
      have hb := HL.out b (by simp)
      have hc := HL.out c (by simp)
      have hd := HL.out d (by simp)
      have he := HL.out e (by simp)
      have hf := HL.out f (by simp)
      have hcd := mul4 hc hd
      have hbe := mul4 hb he
      have haf := mul4 ha hf
      have hwm := mat4_wm ha hb hc hd he hf
      have HWm := Lib.hid hwm
      have hT := planTxt_ne (n := 4) (wmB_true hwm)
      have HG : Hid (good4 a b c d e f → reasonL (entM (mat4 a b c d e f)) (pairsM 4 2) = none) := mat4_good ha.1 hb.1 hc.1 hd.1 he.1 hf.1
      have HNg : Hid (¬ good4 a b c d e f → ∃ x, reasonL (entM (mat4 a b c d e f)) (pairsM 4 2) = some x) := mat4_bad ha.1 hb.1 hc.1 hd.1 he.1 hf.1
      rw [show ([a, b, c, d, e, f] : List Int).length = 6 from rfl] at hown
      obtain ⟨g, cc, rfl⟩ := Go.Joins.ownsRow_form hown (by omega)
      have y0 : wr.cell? ⟨g, 0, none⟩ = some (.int .i64 a) := own_nth hown (by omega)
      have y1 : wr.cell? ⟨g, 1, none⟩ = some (.int .i64 b) := own_nth hown (by omega)
      have y2 : wr.cell? ⟨g, 2, none⟩ = some (.int .i64 c) := own_nth hown (by omega)
      have y3 : wr.cell? ⟨g, 3, none⟩ = some (.int .i64 d) := own_nth hown (by omega)
      have y4 : wr.cell? ⟨g, 4, none⟩ = some (.int .i64 e) := own_nth hown (by omega)
      have y5 : wr.cell? ⟨g, 5, none⟩ = some (.int .i64 f) := own_nth hown (by omega)
      have zb := World.block_lt_of_cell? _ _ y0
      clear hown HL hl
      have hGood : good4 a b c d e f ↔ b * e ≤ c * d ∧ b * e ≤ a * f := Iff.rfl
      replace hGood := Lib.hid hGood
      have w1 : IntKind.i64.wrap (a + b) = a + b := IntWalk.i64_in _ (by omega)
      have w2 : IntKind.i64.wrap (a + b + c) = a + b + c := IntWalk.i64_in _ (by omega)
      have w3 : IntKind.i64.wrap (-a) = -a := IntWalk.i64_in _ (by omega)
      have w4 : IntKind.i64.wrap (-b) = -b := IntWalk.i64_in _ (by omega)
      have w5 : IntKind.i64.wrap (-c) = -c := IntWalk.i64_in _ (by omega)
      have w6 : IntKind.i64.wrap (a + d) = a + d := IntWalk.i64_in _ (by omega)
      have w7 : IntKind.i64.wrap (a + d + e) = a + d + e := IntWalk.i64_in _ (by omega)
      have w8 : IntKind.i64.wrap (-d) = -d := IntWalk.i64_in _ (by omega)
      have w9 : IntKind.i64.wrap (-e) = -e := IntWalk.i64_in _ (by omega)
      have w10 : IntKind.i64.wrap (b + d) = b + d := IntWalk.i64_in _ (by omega)
      have w11 : IntKind.i64.wrap (b + d + f) = b + d + f := IntWalk.i64_in _ (by omega)
      have w12 : IntKind.i64.wrap (-f) = -f := IntWalk.i64_in _ (by omega)
      have w13 : IntKind.i64.wrap (c + e) = c + e := IntWalk.i64_in _ (by omega)
      have w14 : IntKind.i64.wrap (c + e + f) = c + e + f := IntWalk.i64_in _ (by omega)
      have w15 : IntKind.i64.wrap (c * d) = c * d := IntWalk.i64_in _ (by omega)
      have w16 : IntKind.i64.wrap (b * e) = b * e := IntWalk.i64_in _ (by omega)
      have w17 : IntKind.i64.wrap (a * f) = a * f := IntWalk.i64_in _ (by omega)
      go_upto_region 8 with (fail)
      go_cut [5] (fun sx wx => ∃ g', sx = .slice (some ⟨g', 0, none⟩) 4 4 ∧ SlMI wx (.slice (some ⟨g', 0, none⟩) 4 4) 4 (mat4 a b c d e f) ∧ Ge wr wx)
      case first =>
        refine wp_region_head (S := fun w' => Ge wr w') 96 (by kernel_rfl) (by kernel_rfl) (Ge.drew (Ge.refl _)) (fun hHeld => ?_)
        refine head_take 0 (v := ?_) rfl (by kernel_rfl) (by kernel_rfl) (fun _ _ _ h => h) (by assumption) (yields_if (by rfl) ?_) ?_
        rotate_left
        focus (intro w' hSw; (try dsimp only at hSw); have s0 := Ge.keep hSw y0; have s1 := Ge.keep hSw y1; have s2 := Ge.keep hSw y2; have s3 := Ge.keep hSw y3; have s4 := Ge.keep hSw y4; have s5 := Ge.keep hSw y5; go_simp; (try with_reducible rfl))
        (try simp only [Act.put, List.setIfInBounds_toArray, List.set_cons_zero, List.set_cons_succ])
        refine head_take 1 (v := ?_) rfl (by kernel_rfl) (by kernel_rfl) (fun _ _ _ h => h) (by assumption) (yields_if (by rfl) ?_) ?_
        rotate_left
        focus (intro w' hSw; (try dsimp only at hSw); have s0 := Ge.keep hSw y0; have s1 := Ge.keep hSw y1; have s2 := Ge.keep hSw y2; have s3 := Ge.keep hSw y3; have s4 := Ge.keep hSw y4; have s5 := Ge.keep hSw y5; go_simp; (try with_reducible rfl))
        (try simp only [Act.put, List.setIfInBounds_toArray, List.set_cons_zero, List.set_cons_succ])
        refine head_take 2 (v := ?_) rfl (by kernel_rfl) (by kernel_rfl) (fun _ _ _ h => h) (by assumption) (yields_if (by rfl) ?_) ?_
        rotate_left
        focus (intro w' hSw; (try dsimp only at hSw); have s0 := Ge.keep hSw y0; have s1 := Ge.keep hSw y1; have s2 := Ge.keep hSw y2; have s3 := Ge.keep hSw y3; have s4 := Ge.keep hSw y4; have s5 := Ge.keep hSw y5; go_simp; (try with_reducible rfl))
        (try simp only [Act.put, List.setIfInBounds_toArray, List.set_cons_zero, List.set_cons_succ])
        refine head_take 3 (v := ?_) rfl (by kernel_rfl) (by kernel_rfl) (fun _ _ _ h => h) (by assumption) (yields_if (by rfl) ?_) ?_
        rotate_left
        focus (intro w' hSw; (try dsimp only at hSw); have s0 := Ge.keep hSw y0; have s1 := Ge.keep hSw y1; have s2 := Ge.keep hSw y2; have s3 := Ge.keep hSw y3; have s4 := Ge.keep hSw y4; have s5 := Ge.keep hSw y5; go_simp; (try with_reducible rfl))
        (try simp only [Act.put, List.setIfInBounds_toArray, List.set_cons_zero, List.set_cons_succ])
        refine head_take 4 (v := ?_) rfl (by kernel_rfl) (by kernel_rfl) (fun _ _ _ h => h) (by assumption) (yields_if (by rfl) ?_) ?_
        rotate_left
        focus (intro w' hSw; (try dsimp only at hSw); have s0 := Ge.keep hSw y0; have s1 := Ge.keep hSw y1; have s2 := Ge.keep hSw y2; have s3 := Ge.keep hSw y3; have s4 := Ge.keep hSw y4; have s5 := Ge.keep hSw y5; go_simp; (try with_reducible rfl))
        (try simp only [Act.put, List.setIfInBounds_toArray, List.set_cons_zero, List.set_cons_succ])
        refine head_take 5 (v := ?_) rfl (by kernel_rfl) (by kernel_rfl) (fun _ _ _ h => h) (by assumption) (yields_if (by rfl) ?_) ?_
        rotate_left
        focus (intro w' hSw; (try dsimp only at hSw); have s0 := Ge.keep hSw y0; have s1 := Ge.keep hSw y1; have s2 := Ge.keep hSw y2; have s3 := Ge.keep hSw y3; have s4 := Ge.keep hSw y4; have s5 := Ge.keep hSw y5; go_simp; (try with_reducible rfl))
        (try simp only [Act.put, List.setIfInBounds_toArray, List.set_cons_zero, List.set_cons_succ])
        refine head_take 6 (v := ?_) rfl (by kernel_rfl) (by kernel_rfl) (fun _ _ _ h => h) (by assumption) (yields_if (by rfl) ?_) ?_
        rotate_left
        focus (intro w' hSw; (try dsimp only at hSw); have s0 := Ge.keep hSw y0; have s1 := Ge.keep hSw y1; have s2 := Ge.keep hSw y2; have s3 := Ge.keep hSw y3; have s4 := Ge.keep hSw y4; have s5 := Ge.keep hSw y5; go_simp; (try with_reducible rfl))
        (try simp only [Act.put, List.setIfInBounds_toArray, List.set_cons_zero, List.set_cons_succ])
        refine head_take 7 (v := ?_) rfl (by kernel_rfl) (by kernel_rfl) (fun _ _ _ h => h) (by assumption) (yields_if (by rfl) ?_) ?_
        rotate_left
        focus (intro w' hSw; (try dsimp only at hSw); have s0 := Ge.keep hSw y0; have s1 := Ge.keep hSw y1; have s2 := Ge.keep hSw y2; have s3 := Ge.keep hSw y3; have s4 := Ge.keep hSw y4; have s5 := Ge.keep hSw y5; go_simp; (try with_reducible rfl))
        (try simp only [Act.put, List.setIfInBounds_toArray, List.set_cons_zero, List.set_cons_succ])
        refine head_take 8 (v := ?_) rfl (by kernel_rfl) (by kernel_rfl) (fun _ _ _ h => h) (by assumption) (yields_if (by rfl) ?_) ?_
        rotate_left
        focus (intro w' hSw; (try dsimp only at hSw); have s0 := Ge.keep hSw y0; have s1 := Ge.keep hSw y1; have s2 := Ge.keep hSw y2; have s3 := Ge.keep hSw y3; have s4 := Ge.keep hSw y4; have s5 := Ge.keep hSw y5; go_simp; (try with_reducible rfl))
        (try simp only [Act.put, List.setIfInBounds_toArray, List.set_cons_zero, List.set_cons_succ])
        refine head_take 9 (v := ?_) rfl (by kernel_rfl) (by kernel_rfl) (fun _ _ _ h => h) (by assumption) (yields_if (by rfl) ?_) ?_
        rotate_left
        focus (intro w' hSw; (try dsimp only at hSw); have s0 := Ge.keep hSw y0; have s1 := Ge.keep hSw y1; have s2 := Ge.keep hSw y2; have s3 := Ge.keep hSw y3; have s4 := Ge.keep hSw y4; have s5 := Ge.keep hSw y5; go_simp; (try with_reducible rfl))
        (try simp only [Act.put, List.setIfInBounds_toArray, List.set_cons_zero, List.set_cons_succ])
        refine head_take 10 (v := ?_) rfl (by kernel_rfl) (by kernel_rfl) (fun _ _ _ h => h) (by assumption) (yields_if (by rfl) ?_) ?_
        rotate_left
        focus (intro w' hSw; (try dsimp only at hSw); have s0 := Ge.keep hSw y0; have s1 := Ge.keep hSw y1; have s2 := Ge.keep hSw y2; have s3 := Ge.keep hSw y3; have s4 := Ge.keep hSw y4; have s5 := Ge.keep hSw y5; go_simp; (try with_reducible rfl))
        (try simp only [Act.put, List.setIfInBounds_toArray, List.set_cons_zero, List.set_cons_succ])
        refine head_take 11 (v := ?_) rfl (by kernel_rfl) (by kernel_rfl) (fun _ _ _ h => h) (by assumption) (yields_if (by rfl) ?_) ?_
        rotate_left
        focus (intro w' hSw; (try dsimp only at hSw); have s0 := Ge.keep hSw y0; have s1 := Ge.keep hSw y1; have s2 := Ge.keep hSw y2; have s3 := Ge.keep hSw y3; have s4 := Ge.keep hSw y4; have s5 := Ge.keep hSw y5; go_simp; (try with_reducible rfl))
        (try simp only [Act.put, List.setIfInBounds_toArray, List.set_cons_zero, List.set_cons_succ])
        refine head_take 12 (v := ?_) rfl (by kernel_rfl) (by kernel_rfl) (fun _ _ _ h => h) (by assumption) (yields_if (by rfl) ?_) ?_
        rotate_left
        focus (intro w' hSw; (try dsimp only at hSw); have s0 := Ge.keep hSw y0; have s1 := Ge.keep hSw y1; have s2 := Ge.keep hSw y2; have s3 := Ge.keep hSw y3; have s4 := Ge.keep hSw y4; have s5 := Ge.keep hSw y5; go_simp; (try with_reducible rfl))
        (try simp only [Act.put, List.setIfInBounds_toArray, List.set_cons_zero, List.set_cons_succ])
        refine head_take 13 (v := ?_) rfl (by kernel_rfl) (by kernel_rfl) (fun _ _ _ h => h) (by assumption) (yields_if (by rfl) ?_) ?_
        rotate_left
        focus (intro w' hSw; (try dsimp only at hSw); have s0 := Ge.keep hSw y0; have s1 := Ge.keep hSw y1; have s2 := Ge.keep hSw y2; have s3 := Ge.keep hSw y3; have s4 := Ge.keep hSw y4; have s5 := Ge.keep hSw y5; go_simp; (try with_reducible rfl))
        (try simp only [Act.put, List.setIfInBounds_toArray, List.set_cons_zero, List.set_cons_succ])
        refine head_take 14 (v := ?_) rfl (by kernel_rfl) (by kernel_rfl) (fun _ _ _ h => h) (by assumption) (yields_if (by rfl) ?_) ?_
        rotate_left
        focus (intro w' hSw; (try dsimp only at hSw); have s0 := Ge.keep hSw y0; have s1 := Ge.keep hSw y1; have s2 := Ge.keep hSw y2; have s3 := Ge.keep hSw y3; have s4 := Ge.keep hSw y4; have s5 := Ge.keep hSw y5; go_simp; (try with_reducible rfl))
        (try simp only [Act.put, List.setIfInBounds_toArray, List.set_cons_zero, List.set_cons_succ])
        refine head_take 15 (v := ?_) rfl (by kernel_rfl) (by kernel_rfl) (fun _ _ _ h => h) (by assumption) (yields_if (by rfl) ?_) ?_
        rotate_left
        focus (intro w' hSw; (try dsimp only at hSw); have s0 := Ge.keep hSw y0; have s1 := Ge.keep hSw y1; have s2 := Ge.keep hSw y2; have s3 := Ge.keep hSw y3; have s4 := Ge.keep hSw y4; have s5 := Ge.keep hSw y5; go_simp; (try with_reducible rfl))
        (try simp only [Act.put, List.setIfInBounds_toArray, List.set_cons_zero, List.set_cons_succ])
        refine head_take 16 (v := ?_) rfl (by kernel_rfl) (by kernel_rfl) (fun _ _ _ h => h) (by assumption) (yields_if (by rfl) ?_) ?_
        rotate_left
        focus (intro w' hSw; (try dsimp only at hSw); have s0 := Ge.keep hSw y0; have s1 := Ge.keep hSw y1; have s2 := Ge.keep hSw y2; have s3 := Ge.keep hSw y3; have s4 := Ge.keep hSw y4; have s5 := Ge.keep hSw y5; go_simp; (try with_reducible rfl))
        (try simp only [Act.put, List.setIfInBounds_toArray, List.set_cons_zero, List.set_cons_succ])
        refine head_take 17 (v := ?_) rfl (by kernel_rfl) (by kernel_rfl) (fun _ _ _ h => h) (by assumption) (yields_if (by rfl) ?_) ?_
        rotate_left
        focus (intro w' hSw; (try dsimp only at hSw); have s0 := Ge.keep hSw y0; have s1 := Ge.keep hSw y1; have s2 := Ge.keep hSw y2; have s3 := Ge.keep hSw y3; have s4 := Ge.keep hSw y4; have s5 := Ge.keep hSw y5; go_simp; (try with_reducible rfl))
        (try simp only [Act.put, List.setIfInBounds_toArray, List.set_cons_zero, List.set_cons_succ])
        refine head_take 18 (v := ?_) rfl (by kernel_rfl) (by kernel_rfl) (fun _ _ _ h => h) (by assumption) (yields_if (by rfl) ?_) ?_
        rotate_left
        focus (intro w' hSw; (try dsimp only at hSw); have s0 := Ge.keep hSw y0; have s1 := Ge.keep hSw y1; have s2 := Ge.keep hSw y2; have s3 := Ge.keep hSw y3; have s4 := Ge.keep hSw y4; have s5 := Ge.keep hSw y5; go_simp; (try with_reducible rfl))
        (try simp only [Act.put, List.setIfInBounds_toArray, List.set_cons_zero, List.set_cons_succ])
        refine head_take 19 (v := ?_) rfl (by kernel_rfl) (by kernel_rfl) (fun _ _ _ h => h) (by assumption) (yields_if (by rfl) ?_) ?_
        rotate_left
        focus (intro w' hSw; (try dsimp only at hSw); have s0 := Ge.keep hSw y0; have s1 := Ge.keep hSw y1; have s2 := Ge.keep hSw y2; have s3 := Ge.keep hSw y3; have s4 := Ge.keep hSw y4; have s5 := Ge.keep hSw y5; go_simp; (try with_reducible rfl))
        (try simp only [Act.put, List.setIfInBounds_toArray, List.set_cons_zero, List.set_cons_succ])
        refine head_take 20 (v := ?_) rfl (by kernel_rfl) (by kernel_rfl) (fun _ _ _ h => h) (by assumption) (yields_if (by rfl) ?_) ?_
        rotate_left
        focus (intro w' hSw; (try dsimp only at hSw); have s0 := Ge.keep hSw y0; have s1 := Ge.keep hSw y1; have s2 := Ge.keep hSw y2; have s3 := Ge.keep hSw y3; have s4 := Ge.keep hSw y4; have s5 := Ge.keep hSw y5; go_simp; (try with_reducible rfl))
        (try simp only [Act.put, List.setIfInBounds_toArray, List.set_cons_zero, List.set_cons_succ])
        refine head_take 21 (v := ?_) rfl (by kernel_rfl) (by kernel_rfl) (fun _ _ _ h => h) (by assumption) (yields_if (by rfl) ?_) ?_
        rotate_left
        focus (intro w' hSw; (try dsimp only at hSw); have s0 := Ge.keep hSw y0; have s1 := Ge.keep hSw y1; have s2 := Ge.keep hSw y2; have s3 := Ge.keep hSw y3; have s4 := Ge.keep hSw y4; have s5 := Ge.keep hSw y5; go_simp; (try with_reducible rfl))
        (try simp only [Act.put, List.setIfInBounds_toArray, List.set_cons_zero, List.set_cons_succ])
        refine head_take 22 (v := ?_) rfl (by kernel_rfl) (by kernel_rfl) (fun _ _ _ h => h) (by assumption) (yields_if (by rfl) ?_) ?_
        rotate_left
        focus (intro w' hSw; (try dsimp only at hSw); have s0 := Ge.keep hSw y0; have s1 := Ge.keep hSw y1; have s2 := Ge.keep hSw y2; have s3 := Ge.keep hSw y3; have s4 := Ge.keep hSw y4; have s5 := Ge.keep hSw y5; go_simp; (try with_reducible rfl))
        (try simp only [Act.put, List.setIfInBounds_toArray, List.set_cons_zero, List.set_cons_succ])
        refine head_listed #[true, true, true, true, true, true, true, true, true, true, true, true, true, true, true, true, true, true, true, true, true, true, true, false, false, false, false, false, false, false, false, false, false, false, false, false, false, false, false, false, false, false, false, false, false, false, false, false, false, false, false, false, false, false, false, false, false, false, false, false, false, false, false, false, false, false, false, false, false, false, false, false, false, false, false, false, false, false, false, false, false, false, false, false, false, false, false, false, false, false, false, false, false, false, false, false, false, false] (by kernel_rfl) ?_
        as_aux_lemma =>
        refine head_take 24 (v := ?_) rfl (by kernel_rfl) (by kernel_rfl) (fun _ _ _ h => h) (by assumption) (yields_if (by rfl) ?_) ?_
        rotate_left
        focus (intro w' hSw; (try dsimp only at hSw); have s0 := Ge.keep hSw y0; have s1 := Ge.keep hSw y1; have s2 := Ge.keep hSw y2; have s3 := Ge.keep hSw y3; have s4 := Ge.keep hSw y4; have s5 := Ge.keep hSw y5; go_simp; (try with_reducible rfl))
        (try simp only [Act.put, List.setIfInBounds_toArray, List.set_cons_zero, List.set_cons_succ])
        refine head_take 25 (v := ?_) rfl (by kernel_rfl) (by kernel_rfl) (fun _ _ _ h => h) (by assumption) (yields_if (by rfl) ?_) ?_
        rotate_left
        focus (intro w' hSw; (try dsimp only at hSw); have s0 := Ge.keep hSw y0; have s1 := Ge.keep hSw y1; have s2 := Ge.keep hSw y2; have s3 := Ge.keep hSw y3; have s4 := Ge.keep hSw y4; have s5 := Ge.keep hSw y5; go_simp; (try with_reducible rfl))
        (try simp only [Act.put, List.setIfInBounds_toArray, List.set_cons_zero, List.set_cons_succ])
        refine head_take 26 (v := ?_) rfl (by kernel_rfl) (by kernel_rfl) (fun _ _ _ h => h) (by assumption) (yields_if (by rfl) ?_) ?_
        rotate_left
        focus (intro w' hSw; (try dsimp only at hSw); have s0 := Ge.keep hSw y0; have s1 := Ge.keep hSw y1; have s2 := Ge.keep hSw y2; have s3 := Ge.keep hSw y3; have s4 := Ge.keep hSw y4; have s5 := Ge.keep hSw y5; go_simp; (try with_reducible rfl))
        (try simp only [Act.put, List.setIfInBounds_toArray, List.set_cons_zero, List.set_cons_succ])
        refine head_take 27 (v := ?_) rfl (by kernel_rfl) (by kernel_rfl) (fun _ _ _ h => h) (by assumption) (yields_if (by rfl) ?_) ?_
        rotate_left
        focus (intro w' hSw; (try dsimp only at hSw); have s0 := Ge.keep hSw y0; have s1 := Ge.keep hSw y1; have s2 := Ge.keep hSw y2; have s3 := Ge.keep hSw y3; have s4 := Ge.keep hSw y4; have s5 := Ge.keep hSw y5; go_simp; (try with_reducible rfl))
        (try simp only [Act.put, List.setIfInBounds_toArray, List.set_cons_zero, List.set_cons_succ])
        refine head_take 28 (v := ?_) rfl (by kernel_rfl) (by kernel_rfl) (fun _ _ _ h => h) (by assumption) (yields_if (by rfl) ?_) ?_
        rotate_left
        focus (intro w' hSw; (try dsimp only at hSw); have s0 := Ge.keep hSw y0; have s1 := Ge.keep hSw y1; have s2 := Ge.keep hSw y2; have s3 := Ge.keep hSw y3; have s4 := Ge.keep hSw y4; have s5 := Ge.keep hSw y5; go_simp; (try with_reducible rfl))
        (try simp only [Act.put, List.setIfInBounds_toArray, List.set_cons_zero, List.set_cons_succ])
        refine head_take 29 (v := ?_) rfl (by kernel_rfl) (by kernel_rfl) (fun _ _ _ h => h) (by assumption) (yields_if (by rfl) ?_) ?_
        rotate_left
        focus (intro w' hSw; (try dsimp only at hSw); have s0 := Ge.keep hSw y0; have s1 := Ge.keep hSw y1; have s2 := Ge.keep hSw y2; have s3 := Ge.keep hSw y3; have s4 := Ge.keep hSw y4; have s5 := Ge.keep hSw y5; go_simp; (try with_reducible rfl))
        (try simp only [Act.put, List.setIfInBounds_toArray, List.set_cons_zero, List.set_cons_succ])
        refine head_take 30 (v := ?_) rfl (by kernel_rfl) (by kernel_rfl) (fun _ _ _ h => h) (by assumption) (yields_if (by rfl) ?_) ?_
        rotate_left
        focus (intro w' hSw; (try dsimp only at hSw); have s0 := Ge.keep hSw y0; have s1 := Ge.keep hSw y1; have s2 := Ge.keep hSw y2; have s3 := Ge.keep hSw y3; have s4 := Ge.keep hSw y4; have s5 := Ge.keep hSw y5; go_simp; (try with_reducible rfl))
        (try simp only [Act.put, List.setIfInBounds_toArray, List.set_cons_zero, List.set_cons_succ])
        refine head_take 31 (v := ?_) rfl (by kernel_rfl) (by kernel_rfl) (fun _ _ _ h => h) (by assumption) (yields_if (by rfl) ?_) ?_
        rotate_left
        focus (intro w' hSw; (try dsimp only at hSw); have s0 := Ge.keep hSw y0; have s1 := Ge.keep hSw y1; have s2 := Ge.keep hSw y2; have s3 := Ge.keep hSw y3; have s4 := Ge.keep hSw y4; have s5 := Ge.keep hSw y5; go_simp; (try with_reducible rfl))
        (try simp only [Act.put, List.setIfInBounds_toArray, List.set_cons_zero, List.set_cons_succ])
        refine head_take 32 (v := ?_) rfl (by kernel_rfl) (by kernel_rfl) (fun _ _ _ h => h) (by assumption) (yields_if (by rfl) ?_) ?_
        rotate_left
        focus (intro w' hSw; (try dsimp only at hSw); have s0 := Ge.keep hSw y0; have s1 := Ge.keep hSw y1; have s2 := Ge.keep hSw y2; have s3 := Ge.keep hSw y3; have s4 := Ge.keep hSw y4; have s5 := Ge.keep hSw y5; go_simp; (try with_reducible rfl))
        (try simp only [Act.put, List.setIfInBounds_toArray, List.set_cons_zero, List.set_cons_succ])
        refine head_take 33 (v := ?_) rfl (by kernel_rfl) (by kernel_rfl) (fun _ _ _ h => h) (by assumption) (yields_if (by rfl) ?_) ?_
        rotate_left
        focus (intro w' hSw; (try dsimp only at hSw); have s0 := Ge.keep hSw y0; have s1 := Ge.keep hSw y1; have s2 := Ge.keep hSw y2; have s3 := Ge.keep hSw y3; have s4 := Ge.keep hSw y4; have s5 := Ge.keep hSw y5; go_simp; (try with_reducible rfl))
        (try simp only [Act.put, List.setIfInBounds_toArray, List.set_cons_zero, List.set_cons_succ])
        refine head_take 34 (v := ?_) rfl (by kernel_rfl) (by kernel_rfl) (fun _ _ _ h => h) (by assumption) (yields_if (by rfl) ?_) ?_
        rotate_left
        focus (intro w' hSw; (try dsimp only at hSw); have s0 := Ge.keep hSw y0; have s1 := Ge.keep hSw y1; have s2 := Ge.keep hSw y2; have s3 := Ge.keep hSw y3; have s4 := Ge.keep hSw y4; have s5 := Ge.keep hSw y5; go_simp; (try with_reducible rfl))
        (try simp only [Act.put, List.setIfInBounds_toArray, List.set_cons_zero, List.set_cons_succ])
        refine head_take 35 (v := ?_) rfl (by kernel_rfl) (by kernel_rfl) (fun _ _ _ h => h) (by assumption) (yields_if (by rfl) ?_) ?_
        rotate_left
        focus (intro w' hSw; (try dsimp only at hSw); have s0 := Ge.keep hSw y0; have s1 := Ge.keep hSw y1; have s2 := Ge.keep hSw y2; have s3 := Ge.keep hSw y3; have s4 := Ge.keep hSw y4; have s5 := Ge.keep hSw y5; go_simp; (try with_reducible rfl))
        (try simp only [Act.put, List.setIfInBounds_toArray, List.set_cons_zero, List.set_cons_succ])
        refine head_take 36 (v := ?_) rfl (by kernel_rfl) (by kernel_rfl) (fun _ _ _ h => h) (by assumption) (yields_if (by rfl) ?_) ?_
        rotate_left
        focus (intro w' hSw; (try dsimp only at hSw); have s0 := Ge.keep hSw y0; have s1 := Ge.keep hSw y1; have s2 := Ge.keep hSw y2; have s3 := Ge.keep hSw y3; have s4 := Ge.keep hSw y4; have s5 := Ge.keep hSw y5; go_simp; (try with_reducible rfl))
        (try simp only [Act.put, List.setIfInBounds_toArray, List.set_cons_zero, List.set_cons_succ])
        refine head_take 37 (v := ?_) rfl (by kernel_rfl) (by kernel_rfl) (fun _ _ _ h => h) (by assumption) (yields_if (by rfl) ?_) ?_
        rotate_left
        focus (intro w' hSw; (try dsimp only at hSw); have s0 := Ge.keep hSw y0; have s1 := Ge.keep hSw y1; have s2 := Ge.keep hSw y2; have s3 := Ge.keep hSw y3; have s4 := Ge.keep hSw y4; have s5 := Ge.keep hSw y5; go_simp; (try with_reducible rfl))
        (try simp only [Act.put, List.setIfInBounds_toArray, List.set_cons_zero, List.set_cons_succ])
        refine head_take 38 (v := ?_) rfl (by kernel_rfl) (by kernel_rfl) (fun _ _ _ h => h) (by assumption) (yields_if (by rfl) ?_) ?_
        rotate_left
        focus (intro w' hSw; (try dsimp only at hSw); have s0 := Ge.keep hSw y0; have s1 := Ge.keep hSw y1; have s2 := Ge.keep hSw y2; have s3 := Ge.keep hSw y3; have s4 := Ge.keep hSw y4; have s5 := Ge.keep hSw y5; go_simp; (try with_reducible rfl))
        (try simp only [Act.put, List.setIfInBounds_toArray, List.set_cons_zero, List.set_cons_succ])
        refine head_take 39 (v := ?_) rfl (by kernel_rfl) (by kernel_rfl) (fun _ _ _ h => h) (by assumption) (yields_if (by rfl) ?_) ?_
        rotate_left
        focus (intro w' hSw; (try dsimp only at hSw); have s0 := Ge.keep hSw y0; have s1 := Ge.keep hSw y1; have s2 := Ge.keep hSw y2; have s3 := Ge.keep hSw y3; have s4 := Ge.keep hSw y4; have s5 := Ge.keep hSw y5; go_simp; (try with_reducible rfl))
        (try simp only [Act.put, List.setIfInBounds_toArray, List.set_cons_zero, List.set_cons_succ])
        refine head_take 40 (v := ?_) rfl (by kernel_rfl) (by kernel_rfl) (fun _ _ _ h => h) (by assumption) (yields_if (by rfl) ?_) ?_
        rotate_left
        focus (intro w' hSw; (try dsimp only at hSw); have s0 := Ge.keep hSw y0; have s1 := Ge.keep hSw y1; have s2 := Ge.keep hSw y2; have s3 := Ge.keep hSw y3; have s4 := Ge.keep hSw y4; have s5 := Ge.keep hSw y5; go_simp; (try with_reducible rfl))
        (try simp only [Act.put, List.setIfInBounds_toArray, List.set_cons_zero, List.set_cons_succ])
        refine head_take 41 (v := ?_) rfl (by kernel_rfl) (by kernel_rfl) (fun _ _ _ h => h) (by assumption) (yields_if (by rfl) ?_) ?_
        rotate_left
        focus (intro w' hSw; (try dsimp only at hSw); have s0 := Ge.keep hSw y0; have s1 := Ge.keep hSw y1; have s2 := Ge.keep hSw y2; have s3 := Ge.keep hSw y3; have s4 := Ge.keep hSw y4; have s5 := Ge.keep hSw y5; go_simp; (try with_reducible rfl))
        (try simp only [Act.put, List.setIfInBounds_toArray, List.set_cons_zero, List.set_cons_succ])
        refine head_take 42 (v := ?_) rfl (by kernel_rfl) (by kernel_rfl) (fun _ _ _ h => h) (by assumption) (yields_if (by rfl) ?_) ?_
        rotate_left
        focus (intro w' hSw; (try dsimp only at hSw); have s0 := Ge.keep hSw y0; have s1 := Ge.keep hSw y1; have s2 := Ge.keep hSw y2; have s3 := Ge.keep hSw y3; have s4 := Ge.keep hSw y4; have s5 := Ge.keep hSw y5; go_simp; (try with_reducible rfl))
        (try simp only [Act.put, List.setIfInBounds_toArray, List.set_cons_zero, List.set_cons_succ])
        refine head_take 43 (v := ?_) rfl (by kernel_rfl) (by kernel_rfl) (fun _ _ _ h => h) (by assumption) (yields_if (by rfl) ?_) ?_
        rotate_left
        focus (intro w' hSw; (try dsimp only at hSw); have s0 := Ge.keep hSw y0; have s1 := Ge.keep hSw y1; have s2 := Ge.keep hSw y2; have s3 := Ge.keep hSw y3; have s4 := Ge.keep hSw y4; have s5 := Ge.keep hSw y5; go_simp; (try with_reducible rfl))
        (try simp only [Act.put, List.setIfInBounds_toArray, List.set_cons_zero, List.set_cons_succ])
        refine head_take 44 (v := ?_) rfl (by kernel_rfl) (by kernel_rfl) (fun _ _ _ h => h) (by assumption) (yields_if (by rfl) ?_) ?_
        rotate_left
        focus (intro w' hSw; (try dsimp only at hSw); have s0 := Ge.keep hSw y0; have s1 := Ge.keep hSw y1; have s2 := Ge.keep hSw y2; have s3 := Ge.keep hSw y3; have s4 := Ge.keep hSw y4; have s5 := Ge.keep hSw y5; go_simp; (try with_reducible rfl))
        (try simp only [Act.put, List.setIfInBounds_toArray, List.set_cons_zero, List.set_cons_succ])
        refine head_take 45 (v := ?_) rfl (by kernel_rfl) (by kernel_rfl) (fun _ _ _ h => h) (by assumption) (yields_if (by rfl) ?_) ?_
        rotate_left
        focus (intro w' hSw; (try dsimp only at hSw); have s0 := Ge.keep hSw y0; have s1 := Ge.keep hSw y1; have s2 := Ge.keep hSw y2; have s3 := Ge.keep hSw y3; have s4 := Ge.keep hSw y4; have s5 := Ge.keep hSw y5; go_simp; (try with_reducible rfl))
        (try simp only [Act.put, List.setIfInBounds_toArray, List.set_cons_zero, List.set_cons_succ])
        refine head_take 46 (v := ?_) rfl (by kernel_rfl) (by kernel_rfl) (fun _ _ _ h => h) (by assumption) (yields_if (by rfl) ?_) ?_
        rotate_left
        focus (intro w' hSw; (try dsimp only at hSw); have s0 := Ge.keep hSw y0; have s1 := Ge.keep hSw y1; have s2 := Ge.keep hSw y2; have s3 := Ge.keep hSw y3; have s4 := Ge.keep hSw y4; have s5 := Ge.keep hSw y5; go_simp; (try with_reducible rfl))
        (try simp only [Act.put, List.setIfInBounds_toArray, List.set_cons_zero, List.set_cons_succ])
        refine head_listed #[true, true, true, true, true, true, true, true, true, true, true, true, true, true, true, true, true, true, true, true, true, true, true, false, true, true, true, true, true, true, true, true, true, true, true, true, true, true, true, true, true, true, true, true, true, true, true, false, false, false, false, false, false, false, false, false, false, false, false, false, false, false, false, false, false, false, false, false, false, false, false, false, false, false, false, false, false, false, false, false, false, false, false, false, false, false, false, false, false, false, false, false, false, false, false, false, false, false] (by kernel_rfl) ?_
        as_aux_lemma =>
        refine head_take 48 (v := ?_) rfl (by kernel_rfl) (by kernel_rfl) (fun _ _ _ h => h) (by assumption) (yields_if (by rfl) ?_) ?_
        rotate_left
        focus (intro w' hSw; (try dsimp only at hSw); have s0 := Ge.keep hSw y0; have s1 := Ge.keep hSw y1; have s2 := Ge.keep hSw y2; have s3 := Ge.keep hSw y3; have s4 := Ge.keep hSw y4; have s5 := Ge.keep hSw y5; go_simp; (try with_reducible rfl))
        (try simp only [Act.put, List.setIfInBounds_toArray, List.set_cons_zero, List.set_cons_succ])
        refine head_take 49 (v := ?_) rfl (by kernel_rfl) (by kernel_rfl) (fun _ _ _ h => h) (by assumption) (yields_if (by rfl) ?_) ?_
        rotate_left
        focus (intro w' hSw; (try dsimp only at hSw); have s0 := Ge.keep hSw y0; have s1 := Ge.keep hSw y1; have s2 := Ge.keep hSw y2; have s3 := Ge.keep hSw y3; have s4 := Ge.keep hSw y4; have s5 := Ge.keep hSw y5; go_simp; (try with_reducible rfl))
        (try simp only [Act.put, List.setIfInBounds_toArray, List.set_cons_zero, List.set_cons_succ])
        refine head_take 50 (v := ?_) rfl (by kernel_rfl) (by kernel_rfl) (fun _ _ _ h => h) (by assumption) (yields_if (by rfl) ?_) ?_
        rotate_left
        focus (intro w' hSw; (try dsimp only at hSw); have s0 := Ge.keep hSw y0; have s1 := Ge.keep hSw y1; have s2 := Ge.keep hSw y2; have s3 := Ge.keep hSw y3; have s4 := Ge.keep hSw y4; have s5 := Ge.keep hSw y5; go_simp; (try with_reducible rfl))
        (try simp only [Act.put, List.setIfInBounds_toArray, List.set_cons_zero, List.set_cons_succ])
        refine head_take 51 (v := ?_) rfl (by kernel_rfl) (by kernel_rfl) (fun _ _ _ h => h) (by assumption) (yields_if (by rfl) ?_) ?_
        rotate_left
        focus (intro w' hSw; (try dsimp only at hSw); have s0 := Ge.keep hSw y0; have s1 := Ge.keep hSw y1; have s2 := Ge.keep hSw y2; have s3 := Ge.keep hSw y3; have s4 := Ge.keep hSw y4; have s5 := Ge.keep hSw y5; go_simp; (try with_reducible rfl))
        (try simp only [Act.put, List.setIfInBounds_toArray, List.set_cons_zero, List.set_cons_succ])
        refine head_take 52 (v := ?_) rfl (by kernel_rfl) (by kernel_rfl) (fun _ _ _ h => h) (by assumption) (yields_if (by rfl) ?_) ?_
        rotate_left
        focus (intro w' hSw; (try dsimp only at hSw); have s0 := Ge.keep hSw y0; have s1 := Ge.keep hSw y1; have s2 := Ge.keep hSw y2; have s3 := Ge.keep hSw y3; have s4 := Ge.keep hSw y4; have s5 := Ge.keep hSw y5; go_simp; (try with_reducible rfl))
        (try simp only [Act.put, List.setIfInBounds_toArray, List.set_cons_zero, List.set_cons_succ])
        refine head_take 53 (v := ?_) rfl (by kernel_rfl) (by kernel_rfl) (fun _ _ _ h => h) (by assumption) (yields_if (by rfl) ?_) ?_
        rotate_left
        focus (intro w' hSw; (try dsimp only at hSw); have s0 := Ge.keep hSw y0; have s1 := Ge.keep hSw y1; have s2 := Ge.keep hSw y2; have s3 := Ge.keep hSw y3; have s4 := Ge.keep hSw y4; have s5 := Ge.keep hSw y5; go_simp; (try with_reducible rfl))
        (try simp only [Act.put, List.setIfInBounds_toArray, List.set_cons_zero, List.set_cons_succ])
        refine head_take 54 (v := ?_) rfl (by kernel_rfl) (by kernel_rfl) (fun _ _ _ h => h) (by assumption) (yields_if (by rfl) ?_) ?_
        rotate_left
        focus (intro w' hSw; (try dsimp only at hSw); have s0 := Ge.keep hSw y0; have s1 := Ge.keep hSw y1; have s2 := Ge.keep hSw y2; have s3 := Ge.keep hSw y3; have s4 := Ge.keep hSw y4; have s5 := Ge.keep hSw y5; go_simp; (try with_reducible rfl))
        (try simp only [Act.put, List.setIfInBounds_toArray, List.set_cons_zero, List.set_cons_succ])
        refine head_take 55 (v := ?_) rfl (by kernel_rfl) (by kernel_rfl) (fun _ _ _ h => h) (by assumption) (yields_if (by rfl) ?_) ?_
        rotate_left
        focus (intro w' hSw; (try dsimp only at hSw); have s0 := Ge.keep hSw y0; have s1 := Ge.keep hSw y1; have s2 := Ge.keep hSw y2; have s3 := Ge.keep hSw y3; have s4 := Ge.keep hSw y4; have s5 := Ge.keep hSw y5; go_simp; (try with_reducible rfl))
        (try simp only [Act.put, List.setIfInBounds_toArray, List.set_cons_zero, List.set_cons_succ])
        refine head_take 56 (v := ?_) rfl (by kernel_rfl) (by kernel_rfl) (fun _ _ _ h => h) (by assumption) (yields_if (by rfl) ?_) ?_
        rotate_left
        focus (intro w' hSw; (try dsimp only at hSw); have s0 := Ge.keep hSw y0; have s1 := Ge.keep hSw y1; have s2 := Ge.keep hSw y2; have s3 := Ge.keep hSw y3; have s4 := Ge.keep hSw y4; have s5 := Ge.keep hSw y5; go_simp; (try with_reducible rfl))
        (try simp only [Act.put, List.setIfInBounds_toArray, List.set_cons_zero, List.set_cons_succ])
        refine head_take 57 (v := ?_) rfl (by kernel_rfl) (by kernel_rfl) (fun _ _ _ h => h) (by assumption) (yields_if (by rfl) ?_) ?_
        rotate_left
        focus (intro w' hSw; (try dsimp only at hSw); have s0 := Ge.keep hSw y0; have s1 := Ge.keep hSw y1; have s2 := Ge.keep hSw y2; have s3 := Ge.keep hSw y3; have s4 := Ge.keep hSw y4; have s5 := Ge.keep hSw y5; go_simp; (try with_reducible rfl))
        (try simp only [Act.put, List.setIfInBounds_toArray, List.set_cons_zero, List.set_cons_succ])
        refine head_take 58 (v := ?_) rfl (by kernel_rfl) (by kernel_rfl) (fun _ _ _ h => h) (by assumption) (yields_if (by rfl) ?_) ?_
        rotate_left
        focus (intro w' hSw; (try dsimp only at hSw); have s0 := Ge.keep hSw y0; have s1 := Ge.keep hSw y1; have s2 := Ge.keep hSw y2; have s3 := Ge.keep hSw y3; have s4 := Ge.keep hSw y4; have s5 := Ge.keep hSw y5; go_simp; (try with_reducible rfl))
        (try simp only [Act.put, List.setIfInBounds_toArray, List.set_cons_zero, List.set_cons_succ])
        refine head_take 59 (v := ?_) rfl (by kernel_rfl) (by kernel_rfl) (fun _ _ _ h => h) (by assumption) (yields_if (by rfl) ?_) ?_
        rotate_left
        focus (intro w' hSw; (try dsimp only at hSw); have s0 := Ge.keep hSw y0; have s1 := Ge.keep hSw y1; have s2 := Ge.keep hSw y2; have s3 := Ge.keep hSw y3; have s4 := Ge.keep hSw y4; have s5 := Ge.keep hSw y5; go_simp; (try with_reducible rfl))
        (try simp only [Act.put, List.setIfInBounds_toArray, List.set_cons_zero, List.set_cons_succ])
        refine head_take 60 (v := ?_) rfl (by kernel_rfl) (by kernel_rfl) (fun _ _ _ h => h) (by assumption) (yields_if (by rfl) ?_) ?_
        rotate_left
        focus (intro w' hSw; (try dsimp only at hSw); have s0 := Ge.keep hSw y0; have s1 := Ge.keep hSw y1; have s2 := Ge.keep hSw y2; have s3 := Ge.keep hSw y3; have s4 := Ge.keep hSw y4; have s5 := Ge.keep hSw y5; go_simp; (try with_reducible rfl))
        (try simp only [Act.put, List.setIfInBounds_toArray, List.set_cons_zero, List.set_cons_succ])
        refine head_take 61 (v := ?_) rfl (by kernel_rfl) (by kernel_rfl) (fun _ _ _ h => h) (by assumption) (yields_if (by rfl) ?_) ?_
        rotate_left
        focus (intro w' hSw; (try dsimp only at hSw); have s0 := Ge.keep hSw y0; have s1 := Ge.keep hSw y1; have s2 := Ge.keep hSw y2; have s3 := Ge.keep hSw y3; have s4 := Ge.keep hSw y4; have s5 := Ge.keep hSw y5; go_simp; (try with_reducible rfl))
        (try simp only [Act.put, List.setIfInBounds_toArray, List.set_cons_zero, List.set_cons_succ])
        refine head_take 62 (v := ?_) rfl (by kernel_rfl) (by kernel_rfl) (fun _ _ _ h => h) (by assumption) (yields_if (by rfl) ?_) ?_
        rotate_left
        focus (intro w' hSw; (try dsimp only at hSw); have s0 := Ge.keep hSw y0; have s1 := Ge.keep hSw y1; have s2 := Ge.keep hSw y2; have s3 := Ge.keep hSw y3; have s4 := Ge.keep hSw y4; have s5 := Ge.keep hSw y5; go_simp; (try with_reducible rfl))
        (try simp only [Act.put, List.setIfInBounds_toArray, List.set_cons_zero, List.set_cons_succ])
        refine head_take 63 (v := ?_) rfl (by kernel_rfl) (by kernel_rfl) (fun _ _ _ h => h) (by assumption) (yields_if (by rfl) ?_) ?_
        rotate_left
        focus (intro w' hSw; (try dsimp only at hSw); have s0 := Ge.keep hSw y0; have s1 := Ge.keep hSw y1; have s2 := Ge.keep hSw y2; have s3 := Ge.keep hSw y3; have s4 := Ge.keep hSw y4; have s5 := Ge.keep hSw y5; go_simp; (try with_reducible rfl))
        (try simp only [Act.put, List.setIfInBounds_toArray, List.set_cons_zero, List.set_cons_succ])
        refine head_take 64 (v := ?_) rfl (by kernel_rfl) (by kernel_rfl) (fun _ _ _ h => h) (by assumption) (yields_if (by rfl) ?_) ?_
        rotate_left
        focus (intro w' hSw; (try dsimp only at hSw); have s0 := Ge.keep hSw y0; have s1 := Ge.keep hSw y1; have s2 := Ge.keep hSw y2; have s3 := Ge.keep hSw y3; have s4 := Ge.keep hSw y4; have s5 := Ge.keep hSw y5; go_simp; (try with_reducible rfl))
        (try simp only [Act.put, List.setIfInBounds_toArray, List.set_cons_zero, List.set_cons_succ])
        refine head_take 65 (v := ?_) rfl (by kernel_rfl) (by kernel_rfl) (fun _ _ _ h => h) (by assumption) (yields_if (by rfl) ?_) ?_
        rotate_left
        focus (intro w' hSw; (try dsimp only at hSw); have s0 := Ge.keep hSw y0; have s1 := Ge.keep hSw y1; have s2 := Ge.keep hSw y2; have s3 := Ge.keep hSw y3; have s4 := Ge.keep hSw y4; have s5 := Ge.keep hSw y5; go_simp; (try with_reducible rfl))
        (try simp only [Act.put, List.setIfInBounds_toArray, List.set_cons_zero, List.set_cons_succ])
        refine head_take 66 (v := ?_) rfl (by kernel_rfl) (by kernel_rfl) (fun _ _ _ h => h) (by assumption) (yields_if (by rfl) ?_) ?_
        rotate_left
        focus (intro w' hSw; (try dsimp only at hSw); have s0 := Ge.keep hSw y0; have s1 := Ge.keep hSw y1; have s2 := Ge.keep hSw y2; have s3 := Ge.keep hSw y3; have s4 := Ge.keep hSw y4; have s5 := Ge.keep hSw y5; go_simp; (try with_reducible rfl))
        (try simp only [Act.put, List.setIfInBounds_toArray, List.set_cons_zero, List.set_cons_succ])
        refine head_take 67 (v := ?_) rfl (by kernel_rfl) (by kernel_rfl) (fun _ _ _ h => h) (by assumption) (yields_if (by rfl) ?_) ?_
        rotate_left
        focus (intro w' hSw; (try dsimp only at hSw); have s0 := Ge.keep hSw y0; have s1 := Ge.keep hSw y1; have s2 := Ge.keep hSw y2; have s3 := Ge.keep hSw y3; have s4 := Ge.keep hSw y4; have s5 := Ge.keep hSw y5; go_simp; (try with_reducible rfl))
        (try simp only [Act.put, List.setIfInBounds_toArray, List.set_cons_zero, List.set_cons_succ])
        refine head_take 68 (v := ?_) rfl (by kernel_rfl) (by kernel_rfl) (fun _ _ _ h => h) (by assumption) (yields_if (by rfl) ?_) ?_
        rotate_left
        focus (intro w' hSw; (try dsimp only at hSw); have s0 := Ge.keep hSw y0; have s1 := Ge.keep hSw y1; have s2 := Ge.keep hSw y2; have s3 := Ge.keep hSw y3; have s4 := Ge.keep hSw y4; have s5 := Ge.keep hSw y5; go_simp; (try with_reducible rfl))
        (try simp only [Act.put, List.setIfInBounds_toArray, List.set_cons_zero, List.set_cons_succ])
        refine head_take 69 (v := ?_) rfl (by kernel_rfl) (by kernel_rfl) (fun _ _ _ h => h) (by assumption) (yields_if (by rfl) ?_) ?_
        rotate_left
        focus (intro w' hSw; (try dsimp only at hSw); have s0 := Ge.keep hSw y0; have s1 := Ge.keep hSw y1; have s2 := Ge.keep hSw y2; have s3 := Ge.keep hSw y3; have s4 := Ge.keep hSw y4; have s5 := Ge.keep hSw y5; go_simp; (try with_reducible rfl))
        (try simp only [Act.put, List.setIfInBounds_toArray, List.set_cons_zero, List.set_cons_succ])
        refine head_take 70 (v := ?_) rfl (by kernel_rfl) (by kernel_rfl) (fun _ _ _ h => h) (by assumption) (yields_if (by rfl) ?_) ?_
        rotate_left
        focus (intro w' hSw; (try dsimp only at hSw); have s0 := Ge.keep hSw y0; have s1 := Ge.keep hSw y1; have s2 := Ge.keep hSw y2; have s3 := Ge.keep hSw y3; have s4 := Ge.keep hSw y4; have s5 := Ge.keep hSw y5; go_simp; (try with_reducible rfl))
        (try simp only [Act.put, List.setIfInBounds_toArray, List.set_cons_zero, List.set_cons_succ])
        refine head_listed #[true, true, true, true, true, true, true, true, true, true, true, true, true, true, true, true, true, true, true, true, true, true, true, false, true, true, true, true, true, true, true, true, true, true, true, true, true, true, true, true, true, true, true, true, true, true, true, false, true, true, true, true, true, true, true, true, true, true, true, true, true, true, true, true, true, true, true, true, true, true, true, false, false, false, false, false, false, false, false, false, false, false, false, false, false, false, false, false, false, false, false, false, false, false, false, false, false, false] (by kernel_rfl) ?_
        as_aux_lemma =>
        refine head_take 72 (v := ?_) rfl (by kernel_rfl) (by kernel_rfl) (fun _ _ _ h => h) (by assumption) (yields_if (by rfl) ?_) ?_
        rotate_left
        focus (intro w' hSw; (try dsimp only at hSw); have s0 := Ge.keep hSw y0; have s1 := Ge.keep hSw y1; have s2 := Ge.keep hSw y2; have s3 := Ge.keep hSw y3; have s4 := Ge.keep hSw y4; have s5 := Ge.keep hSw y5; go_simp; (try with_reducible rfl))
        (try simp only [Act.put, List.setIfInBounds_toArray, List.set_cons_zero, List.set_cons_succ])
        refine head_take 73 (v := ?_) rfl (by kernel_rfl) (by kernel_rfl) (fun _ _ _ h => h) (by assumption) (yields_if (by rfl) ?_) ?_
        rotate_left
        focus (intro w' hSw; (try dsimp only at hSw); have s0 := Ge.keep hSw y0; have s1 := Ge.keep hSw y1; have s2 := Ge.keep hSw y2; have s3 := Ge.keep hSw y3; have s4 := Ge.keep hSw y4; have s5 := Ge.keep hSw y5; go_simp; (try with_reducible rfl))
        (try simp only [Act.put, List.setIfInBounds_toArray, List.set_cons_zero, List.set_cons_succ])
        refine head_take 74 (v := ?_) rfl (by kernel_rfl) (by kernel_rfl) (fun _ _ _ h => h) (by assumption) (yields_if (by rfl) ?_) ?_
        rotate_left
        focus (intro w' hSw; (try dsimp only at hSw); have s0 := Ge.keep hSw y0; have s1 := Ge.keep hSw y1; have s2 := Ge.keep hSw y2; have s3 := Ge.keep hSw y3; have s4 := Ge.keep hSw y4; have s5 := Ge.keep hSw y5; go_simp; (try with_reducible rfl))
        (try simp only [Act.put, List.setIfInBounds_toArray, List.set_cons_zero, List.set_cons_succ])
        refine head_take 75 (v := ?_) rfl (by kernel_rfl) (by kernel_rfl) (fun _ _ _ h => h) (by assumption) (yields_if (by rfl) ?_) ?_
        rotate_left
        focus (intro w' hSw; (try dsimp only at hSw); have s0 := Ge.keep hSw y0; have s1 := Ge.keep hSw y1; have s2 := Ge.keep hSw y2; have s3 := Ge.keep hSw y3; have s4 := Ge.keep hSw y4; have s5 := Ge.keep hSw y5; go_simp; (try with_reducible rfl))
        (try simp only [Act.put, List.setIfInBounds_toArray, List.set_cons_zero, List.set_cons_succ])
        refine head_take 76 (v := ?_) rfl (by kernel_rfl) (by kernel_rfl) (fun _ _ _ h => h) (by assumption) (yields_if (by rfl) ?_) ?_
        rotate_left
        focus (intro w' hSw; (try dsimp only at hSw); have s0 := Ge.keep hSw y0; have s1 := Ge.keep hSw y1; have s2 := Ge.keep hSw y2; have s3 := Ge.keep hSw y3; have s4 := Ge.keep hSw y4; have s5 := Ge.keep hSw y5; go_simp; (try with_reducible rfl))
        (try simp only [Act.put, List.setIfInBounds_toArray, List.set_cons_zero, List.set_cons_succ])
        refine head_take 77 (v := ?_) rfl (by kernel_rfl) (by kernel_rfl) (fun _ _ _ h => h) (by assumption) (yields_if (by rfl) ?_) ?_
        rotate_left
        focus (intro w' hSw; (try dsimp only at hSw); have s0 := Ge.keep hSw y0; have s1 := Ge.keep hSw y1; have s2 := Ge.keep hSw y2; have s3 := Ge.keep hSw y3; have s4 := Ge.keep hSw y4; have s5 := Ge.keep hSw y5; go_simp; (try with_reducible rfl))
        (try simp only [Act.put, List.setIfInBounds_toArray, List.set_cons_zero, List.set_cons_succ])
        refine head_take 78 (v := ?_) rfl (by kernel_rfl) (by kernel_rfl) (fun _ _ _ h => h) (by assumption) (yields_if (by rfl) ?_) ?_
        rotate_left
        focus (intro w' hSw; (try dsimp only at hSw); have s0 := Ge.keep hSw y0; have s1 := Ge.keep hSw y1; have s2 := Ge.keep hSw y2; have s3 := Ge.keep hSw y3; have s4 := Ge.keep hSw y4; have s5 := Ge.keep hSw y5; go_simp; (try with_reducible rfl))
        (try simp only [Act.put, List.setIfInBounds_toArray, List.set_cons_zero, List.set_cons_succ])
        refine head_take 79 (v := ?_) rfl (by kernel_rfl) (by kernel_rfl) (fun _ _ _ h => h) (by assumption) (yields_if (by rfl) ?_) ?_
        rotate_left
        focus (intro w' hSw; (try dsimp only at hSw); have s0 := Ge.keep hSw y0; have s1 := Ge.keep hSw y1; have s2 := Ge.keep hSw y2; have s3 := Ge.keep hSw y3; have s4 := Ge.keep hSw y4; have s5 := Ge.keep hSw y5; go_simp; (try with_reducible rfl))
        (try simp only [Act.put, List.setIfInBounds_toArray, List.set_cons_zero, List.set_cons_succ])
        refine head_take 80 (v := ?_) rfl (by kernel_rfl) (by kernel_rfl) (fun _ _ _ h => h) (by assumption) (yields_if (by rfl) ?_) ?_
        rotate_left
        focus (intro w' hSw; (try dsimp only at hSw); have s0 := Ge.keep hSw y0; have s1 := Ge.keep hSw y1; have s2 := Ge.keep hSw y2; have s3 := Ge.keep hSw y3; have s4 := Ge.keep hSw y4; have s5 := Ge.keep hSw y5; go_simp; (try with_reducible rfl))
        (try simp only [Act.put, List.setIfInBounds_toArray, List.set_cons_zero, List.set_cons_succ])
        refine head_take 81 (v := ?_) rfl (by kernel_rfl) (by kernel_rfl) (fun _ _ _ h => h) (by assumption) (yields_if (by rfl) ?_) ?_
        rotate_left
        focus (intro w' hSw; (try dsimp only at hSw); have s0 := Ge.keep hSw y0; have s1 := Ge.keep hSw y1; have s2 := Ge.keep hSw y2; have s3 := Ge.keep hSw y3; have s4 := Ge.keep hSw y4; have s5 := Ge.keep hSw y5; go_simp; (try with_reducible rfl))
        (try simp only [Act.put, List.setIfInBounds_toArray, List.set_cons_zero, List.set_cons_succ])
        refine head_take 82 (v := ?_) rfl (by kernel_rfl) (by kernel_rfl) (fun _ _ _ h => h) (by assumption) (yields_if (by rfl) ?_) ?_
        rotate_left
        focus (intro w' hSw; (try dsimp only at hSw); have s0 := Ge.keep hSw y0; have s1 := Ge.keep hSw y1; have s2 := Ge.keep hSw y2; have s3 := Ge.keep hSw y3; have s4 := Ge.keep hSw y4; have s5 := Ge.keep hSw y5; go_simp; (try with_reducible rfl))
        (try simp only [Act.put, List.setIfInBounds_toArray, List.set_cons_zero, List.set_cons_succ])
        refine head_take 83 (v := ?_) rfl (by kernel_rfl) (by kernel_rfl) (fun _ _ _ h => h) (by assumption) (yields_if (by rfl) ?_) ?_
        rotate_left
        focus (intro w' hSw; (try dsimp only at hSw); have s0 := Ge.keep hSw y0; have s1 := Ge.keep hSw y1; have s2 := Ge.keep hSw y2; have s3 := Ge.keep hSw y3; have s4 := Ge.keep hSw y4; have s5 := Ge.keep hSw y5; go_simp; (try with_reducible rfl))
        (try simp only [Act.put, List.setIfInBounds_toArray, List.set_cons_zero, List.set_cons_succ])
        refine head_take 84 (v := ?_) rfl (by kernel_rfl) (by kernel_rfl) (fun _ _ _ h => h) (by assumption) (yields_if (by rfl) ?_) ?_
        rotate_left
        focus (intro w' hSw; (try dsimp only at hSw); have s0 := Ge.keep hSw y0; have s1 := Ge.keep hSw y1; have s2 := Ge.keep hSw y2; have s3 := Ge.keep hSw y3; have s4 := Ge.keep hSw y4; have s5 := Ge.keep hSw y5; go_simp; (try with_reducible rfl))
        (try simp only [Act.put, List.setIfInBounds_toArray, List.set_cons_zero, List.set_cons_succ])
        refine head_take 85 (v := ?_) rfl (by kernel_rfl) (by kernel_rfl) (fun _ _ _ h => h) (by assumption) (yields_if (by rfl) ?_) ?_
        rotate_left
        focus (intro w' hSw; (try dsimp only at hSw); have s0 := Ge.keep hSw y0; have s1 := Ge.keep hSw y1; have s2 := Ge.keep hSw y2; have s3 := Ge.keep hSw y3; have s4 := Ge.keep hSw y4; have s5 := Ge.keep hSw y5; go_simp; (try with_reducible rfl))
        (try simp only [Act.put, List.setIfInBounds_toArray, List.set_cons_zero, List.set_cons_succ])
        refine head_take 86 (v := ?_) rfl (by kernel_rfl) (by kernel_rfl) (fun _ _ _ h => h) (by assumption) (yields_if (by rfl) ?_) ?_
        rotate_left
        focus (intro w' hSw; (try dsimp only at hSw); have s0 := Ge.keep hSw y0; have s1 := Ge.keep hSw y1; have s2 := Ge.keep hSw y2; have s3 := Ge.keep hSw y3; have s4 := Ge.keep hSw y4; have s5 := Ge.keep hSw y5; go_simp; (try with_reducible rfl))
        (try simp only [Act.put, List.setIfInBounds_toArray, List.set_cons_zero, List.set_cons_succ])
        refine head_take 87 (v := ?_) rfl (by kernel_rfl) (by kernel_rfl) (fun _ _ _ h => h) (by assumption) (yields_if (by rfl) ?_) ?_
        rotate_left
        focus (intro w' hSw; (try dsimp only at hSw); have s0 := Ge.keep hSw y0; have s1 := Ge.keep hSw y1; have s2 := Ge.keep hSw y2; have s3 := Ge.keep hSw y3; have s4 := Ge.keep hSw y4; have s5 := Ge.keep hSw y5; go_simp; (try with_reducible rfl))
        (try simp only [Act.put, List.setIfInBounds_toArray, List.set_cons_zero, List.set_cons_succ])
        refine head_take 88 (v := ?_) rfl (by kernel_rfl) (by kernel_rfl) (fun _ _ _ h => h) (by assumption) (yields_if (by rfl) ?_) ?_
        rotate_left
        focus (intro w' hSw; (try dsimp only at hSw); have s0 := Ge.keep hSw y0; have s1 := Ge.keep hSw y1; have s2 := Ge.keep hSw y2; have s3 := Ge.keep hSw y3; have s4 := Ge.keep hSw y4; have s5 := Ge.keep hSw y5; go_simp; (try with_reducible rfl))
        (try simp only [Act.put, List.setIfInBounds_toArray, List.set_cons_zero, List.set_cons_succ])
        refine head_take 89 (v := ?_) rfl (by kernel_rfl) (by kernel_rfl) (fun _ _ _ h => h) (by assumption) (yields_if (by rfl) ?_) ?_
        rotate_left
        focus (intro w' hSw; (try dsimp only at hSw); have s0 := Ge.keep hSw y0; have s1 := Ge.keep hSw y1; have s2 := Ge.keep hSw y2; have s3 := Ge.keep hSw y3; have s4 := Ge.keep hSw y4; have s5 := Ge.keep hSw y5; go_simp; (try with_reducible rfl))
        (try simp only [Act.put, List.setIfInBounds_toArray, List.set_cons_zero, List.set_cons_succ])
        refine head_take 90 (v := ?_) rfl (by kernel_rfl) (by kernel_rfl) (fun _ _ _ h => h) (by assumption) (yields_if (by rfl) ?_) ?_
        rotate_left
        focus (intro w' hSw; (try dsimp only at hSw); have s0 := Ge.keep hSw y0; have s1 := Ge.keep hSw y1; have s2 := Ge.keep hSw y2; have s3 := Ge.keep hSw y3; have s4 := Ge.keep hSw y4; have s5 := Ge.keep hSw y5; go_simp; (try with_reducible rfl))
        (try simp only [Act.put, List.setIfInBounds_toArray, List.set_cons_zero, List.set_cons_succ])
        refine head_take 91 (v := ?_) rfl (by kernel_rfl) (by kernel_rfl) (fun _ _ _ h => h) (by assumption) (yields_if (by rfl) ?_) ?_
        rotate_left
        focus (intro w' hSw; (try dsimp only at hSw); have s0 := Ge.keep hSw y0; have s1 := Ge.keep hSw y1; have s2 := Ge.keep hSw y2; have s3 := Ge.keep hSw y3; have s4 := Ge.keep hSw y4; have s5 := Ge.keep hSw y5; go_simp; (try with_reducible rfl))
        (try simp only [Act.put, List.setIfInBounds_toArray, List.set_cons_zero, List.set_cons_succ])
        refine head_take 92 (v := ?_) rfl (by kernel_rfl) (by kernel_rfl) (fun _ _ _ h => h) (by assumption) (yields_if (by rfl) ?_) ?_
        rotate_left
        focus (intro w' hSw; (try dsimp only at hSw); have s0 := Ge.keep hSw y0; have s1 := Ge.keep hSw y1; have s2 := Ge.keep hSw y2; have s3 := Ge.keep hSw y3; have s4 := Ge.keep hSw y4; have s5 := Ge.keep hSw y5; go_simp; (try with_reducible rfl))
        (try simp only [Act.put, List.setIfInBounds_toArray, List.set_cons_zero, List.set_cons_succ])
        refine head_take 93 (v := ?_) rfl (by kernel_rfl) (by kernel_rfl) (fun _ _ _ h => h) (by assumption) (yields_if (by rfl) ?_) ?_
        rotate_left
        focus (intro w' hSw; (try dsimp only at hSw); have s0 := Ge.keep hSw y0; have s1 := Ge.keep hSw y1; have s2 := Ge.keep hSw y2; have s3 := Ge.keep hSw y3; have s4 := Ge.keep hSw y4; have s5 := Ge.keep hSw y5; go_simp; (try with_reducible rfl))
        (try simp only [Act.put, List.setIfInBounds_toArray, List.set_cons_zero, List.set_cons_succ])
        refine head_take 94 (v := ?_) rfl (by kernel_rfl) (by kernel_rfl) (fun _ _ _ h => h) (by assumption) (yields_if (by rfl) ?_) ?_
        rotate_left
        focus (intro w' hSw; (try dsimp only at hSw); have s0 := Ge.keep hSw y0; have s1 := Ge.keep hSw y1; have s2 := Ge.keep hSw y2; have s3 := Ge.keep hSw y3; have s4 := Ge.keep hSw y4; have s5 := Ge.keep hSw y5; go_simp; (try with_reducible rfl))
        (try simp only [Act.put, List.setIfInBounds_toArray, List.set_cons_zero, List.set_cons_succ])
        refine head_listed #[true, true, true, true, true, true, true, true, true, true, true, true, true, true, true, true, true, true, true, true, true, true, true, false, true, true, true, true, true, true, true, true, true, true, true, true, true, true, true, true, true, true, true, true, true, true, true, false, true, true, true, true, true, true, true, true, true, true, true, true, true, true, true, true, true, true, true, true, true, true, true, false, true, true, true, true, true, true, true, true, true, true, true, true, true, true, true, true, true, true, true, true, true, true, true, false, false, false] (by kernel_rfl) ?_
        have hH0 : Ge wr wr.drew := hHeld
        generalize wr.drew = v0 at *
        as_aux_lemma =>
        refine four_rows2 [a + b + c, -a, -b, -c] [-a, a + d + e, -d, -e] [-b, -d, b + d + f, -f] [-c, -e, -f, c + e + f] rfl rfl rfl rfl (by change 121 < 198; omega) hH0 rfl rfl rfl rfl (by kernel_rfl) (by kernel_rfl) (by kernel_rfl) (by kernel_rfl) (by kernel_rfl) (by kernel_rfl) (by kernel_rfl) (by kernel_rfl) (by kernel_rfl) (by kernel_rfl) (by kernel_rfl) (by kernel_rfl) (by kernel_rfl) (by kernel_rfl) (by kernel_rfl) ?_ ?_ ?_ ?_ ?_
        case refine_5 =>
          intro b23 b47 b71 b95 v hv r23 r47 r71 r95
          refine head_done (by kernel_rfl) ?_
          (try simp only [Act.put, List.setIfInBounds_toArray, List.set_cons_zero, List.set_cons_succ])
          go_wp2_with fail
          go_meet
          exact ⟨_, rfl, mat4_rows r23 r47 r71 r95, Ge.alloc hv _⟩
        all_goals (as_aux_lemma => (intro u1 u2 u3 u4 A w1 K hA hK; subst hA; (try simp only [Act.put, List.setIfInBounds_toArray, List.set_cons_zero, List.set_cons_succ]); go_simp; exact hK))
      obtain ⟨g', rfl, hM, G8⟩ := hcut
      as_aux_lemma =>
      have HM := Lib.hid hM
      have x0 := G8.keep y0
      have x1 := G8.keep y1
      have x2 := G8.keep y2
      have x3 := G8.keep y3
      have x4 := G8.keep y4
      have x5 := G8.keep y5
      clear hM y0 y1 y2 y3 y4 y5 w1 w2 w3 w4 w5 w6 w7 w8 w9 w10 w11 w12 w13 w14
      generalize hR : mat4 a b c d e f = R at *
      have hR4 : R.length = 4 := by rw [← hR]; rfl
      have hRl : ∀ i, i < 4 → (rowL R i).length ≤ 1048576 := fun i hi => by
        have := (HWm.out.2.1.2 i (by omega)).1
        have : (rowL R i).length = R.length := this
        omega
      have HPR := Lib.hid (fun w' (g : Ge wc w') => iPlanarReason 4 R _ w' (HM.out.ge g) hR4 HWm.out)
      have HIP := Lib.hid (fun w' (g : Ge wc w') => iIsPlanarMatrix 4 R _ w' (HM.out.ge g) hR4 HWm.out)
      have HIW := Lib.hid (fun w' (g : Ge wc w') => iIsWeightMatrix _ 4 R w' (HM.out.ge g) hR4 (by omega) hRl)
      have HPL := Lib.hid (fun w' (g : Ge wc w') => iPlanarLine _ 4 R w' (HM.out.ge g) hR4 (by omega) hRl)
      rw [wmB_true HWm.out] at HIW
      have HMM := Lib.hid (fun (m : Nat) (p q : List Int) (a b : Addr) (ca cb : Nat) (w' : World) (g : Ge wc w') (h1 : w'.ownsRow 0 3 1 (.slice (some a) m ca) m (icells p)) (h2 : w'.ownsRow 0 3 1 (.slice (some b) m cb) m (icells q)) (h3 : p.length = m) (h4 : q.length = m) (h5 : 1 ≤ m) (h6 : m ≤ 2) h7 h8 h9 =>
        iMinorMatrix 4 m R p q a b ca cb _ w' (HM.out.ge g) hR4 HWm.out h1 h2 h3 h4 h5 h6 h7 h8 h9)
      rw [show 4 / 2 = 2 from rfl] at HPR HIP
      have HPo := Lib.hid (pairsM_ok 4 2)
      have HT : Hid (((bstr (planTxt 4 R)).toList.isEmpty) = false) := bstr_neP hT
      clear hR hR4 hRl hT
      generalize planTxt 4 R = T at *
      have hT2 := HT.out
      generalize hMM : entM R = M at *
      clear hMM
      by_cases hgd : good4 a b c d e f
      · have hre := HG.out hgd
        rw [hre] at HPR HIP
        obtain ⟨c1, c2⟩ := hGood.out.1 hgd
        clear hgd hre HG HNg hGood
        go_wp2_with fail
        go_quiet (fail)
        go_wp2_with (first
          | ((go_at_call 5; ((with_reducible refine (HPR.out _ (Ge.drewN (Ge.refl _) _)).mono ?_); rintro e w1 ⟨hx, g1⟩)); obtain rfl := hx; have G1 := Lib.hid (Ge.trans (Ge.drewN (Ge.refl wc) _) g1))
          | ((go_at_call 6; ((with_reducible refine (HIW.out _ G1.out).mono ?_); rintro e w2 ⟨rfl, rfl⟩)))
          | ((go_at_call 7; ((with_reducible refine (HIP.out _ G1.out).mono ?_); rintro e w3 ⟨rfl, g3⟩)); have G3 := Lib.hid (G1.out.trans g3))
          | ((go_at_call 8; ((with_reducible refine (HPL.out _ G3.out).mono ?_); rintro e w4 ⟨rfl, g4⟩)); have G4 := Lib.hid (G3.out.trans g4)))
        go_ret
        exact ⟨rfl, Ge.trans hg (Ge.trans G8 G4.out)⟩
      · have hng : ¬ (b * e ≤ c * d ∧ b * e ≤ a * f) := fun h => hgd (hGood.out.2 h)
        obtain ⟨x, hre⟩ := HNg.out hgd
        rw [hre] at HPR HIP
        obtain ⟨hxm, hxn⟩ := reasonL_mem hre
        obtain ⟨h1, h2, h3, h4, h5, h6⟩ := HPo.out x hxm
        obtain ⟨m, hm1⟩ : ∃ m, x.1.length = m := ⟨_, rfl⟩
        rw [hm1] at h1
        have HX := Lib.hid (fun (w' : World) (u : Value) (h : PairV w' u x) => h.cells hm1 h1.symm)
        have HMx := Lib.hid (fun (aa bb : Addr) (ca cb : Nat) (w' : World) (g : Ge wc w') h7 h8 => HMM.out m x.1 x.2 aa bb ca cb w' g h7 h8 hm1 h1.symm (by omega) (by omega) h4 h5 h6)
        clear hgd hre HG HNg hGood hxm h1 h2 h3 h4 h5 h6 hm1 HMM HPo
        generalize circD M x.1 x.2 = D at *
        by_cases c1 : b * e ≤ c * d
        · have c2 : ¬ b * e ≤ a * f := fun h => hng ⟨c1, h⟩
          clear hng
          go_wp2_with fail
          go_quiet (fail)
          go_wp2_with (first
            | ((go_at_call 5; ((with_reducible refine (HPR.out _ (Ge.drewN (Ge.refl _) _)).mono ?_); rintro e w1 ⟨hx, g1⟩)); obtain ⟨u, rfl, hpx⟩ := hx; obtain ⟨gg, aa, ca, bb, cb, rfl, z0, z1, r0, r1⟩ := HX.out _ _ hpx; have R0 := Lib.hid r0; have R1 := Lib.hid r1; clear hpx r0 r1; have G1 := Lib.hid (Ge.trans (Ge.drewN (Ge.refl wc) _) g1))
            | ((go_at_call 6; ((with_reducible refine (HIW.out _ G1.out).mono ?_); rintro e w2 ⟨rfl, rfl⟩)))
            | ((go_at_call 7; ((with_reducible refine (HIP.out _ G1.out).mono ?_); rintro e w3 ⟨rfl, g3⟩)); have G3 := Lib.hid (G1.out.trans g3))
            | ((go_at_call 8; ((with_reducible refine (HPL.out _ G3.out).mono ?_); rintro e w4 ⟨rfl, g4⟩)); have G4 := Lib.hid (G3.out.trans g4)))
          have g14 : Ge w1 w4 := g3.trans g4
          have z0' := g14.keep z0
          have z1' := g14.keep z1
          have HMk := Lib.hid (fun (w' : World) (g : Ge w4 w') => HMx.out aa bb ca cb w' (G4.out.trans g) ((g14.trans g).owns R0.out) ((g14.trans g).owns R1.out))
          clear g3 g4 g1 z0 z1 g14
          have hS : ∀ w', Ge w4 w' → (w'.cell? ⟨gg, 0, none⟩ = some (.slice (some aa) m ca) ∧ w'.cell? ⟨gg, 1, none⟩ = some (.slice (some bb) m cb) ∧ Ge w4 w') := fun w' g => ⟨g.keep (by (repeat (first | assumption | with_reducible exact Ge.refl _ | with_reducible refine cv_drew ?_ | with_reducible refine cv_alloc ?_ | with_reducible refine cv_set ?_ | (with_reducible apply cv_some; assumption) | with_reducible refine cell_drew ?_ | with_reducible refine cell_drewN ?_ | ((with_reducible refine cell_new ?_ ?_); (focus (simp; done)); rfl) | with_reducible refine cell_alloc ?_ | with_reducible refine cell_same2 ?_ | ((with_reducible refine cell_set2 ?_ ?_); focus (first | (simp; done) | (intro hE; simp at hE; done) | (intro hE; simp at hE; omega))) | with_reducible refine Ge.drew ?_ | with_reducible refine Ge.drewN ?_ _ | with_reducible refine Ge.alloc ?_ _ | ((with_reducible refine Ge.setCell ?_ ?_ _); rotate_left; focus (first | (simp; done) | omega | (simp; omega))) | with_reducible refine Ge.trans ?_ (by assumption) | with_reducible refine Ge.keep (by assumption) ?_))), g.keep (by (repeat (first | assumption | with_reducible exact Ge.refl _ | with_reducible refine cv_drew ?_ | with_reducible refine cv_alloc ?_ | with_reducible refine cv_set ?_ | (with_reducible apply cv_some; assumption) | with_reducible refine cell_drew ?_ | with_reducible refine cell_drewN ?_ | ((with_reducible refine cell_new ?_ ?_); (focus (simp; done)); rfl) | with_reducible refine cell_alloc ?_ | with_reducible refine cell_same2 ?_ | ((with_reducible refine cell_set2 ?_ ?_); focus (first | (simp; done) | (intro hE; simp at hE; done) | (intro hE; simp at hE; omega))) | with_reducible refine Ge.drew ?_ | with_reducible refine Ge.drewN ?_ _ | with_reducible refine Ge.alloc ?_ _ | ((with_reducible refine Ge.setCell ?_ ?_ _); rotate_left; focus (first | (simp; done) | omega | (simp; omega))) | with_reducible refine Ge.trans ?_ (by assumption) | with_reducible refine Ge.keep (by assumption) ?_))), Ge.trans (by (repeat (first | assumption | with_reducible exact Ge.refl _ | with_reducible refine cv_drew ?_ | with_reducible refine cv_alloc ?_ | with_reducible refine cv_set ?_ | (with_reducible apply cv_some; assumption) | with_reducible refine cell_drew ?_ | with_reducible refine cell_drewN ?_ | ((with_reducible refine cell_new ?_ ?_); (focus (simp; done)); rfl) | with_reducible refine cell_alloc ?_ | with_reducible refine cell_same2 ?_ | ((with_reducible refine cell_set2 ?_ ?_); focus (first | (simp; done) | (intro hE; simp at hE; done) | (intro hE; simp at hE; omega))) | with_reducible refine Ge.drew ?_ | with_reducible refine Ge.drewN ?_ _ | with_reducible refine Ge.alloc ?_ _ | ((with_reducible refine Ge.setCell ?_ ?_ _); rotate_left; focus (first | (simp; done) | omega | (simp; omega))) | with_reducible refine Ge.trans ?_ (by assumption) | with_reducible refine Ge.keep (by assumption) ?_))) g⟩
          go_region_held3 (fun w' => w'.cell? ⟨gg, 0, none⟩ = some (.slice (some aa) m ca) ∧ w'.cell? ⟨gg, 1, none⟩ = some (.slice (some bb) m cb) ∧ Ge w4 w') (first | ((with_reducible refine hS _ ?_); (repeat (first | assumption | with_reducible exact Ge.refl _ | with_reducible refine cv_drew ?_ | with_reducible refine cv_alloc ?_ | with_reducible refine cv_set ?_ | (with_reducible apply cv_some; assumption) | with_reducible refine cell_drew ?_ | with_reducible refine cell_drewN ?_ | ((with_reducible refine cell_new ?_ ?_); (focus (simp; done)); rfl) | with_reducible refine cell_alloc ?_ | with_reducible refine cell_same2 ?_ | ((with_reducible refine cell_set2 ?_ ?_); focus (first | (simp; done) | (intro hE; simp at hE; done) | (intro hE; simp at hE; omega))) | with_reducible refine Ge.drew ?_ | with_reducible refine Ge.drewN ?_ _ | with_reducible refine Ge.alloc ?_ _ | ((with_reducible refine Ge.setCell ?_ ?_ _); rotate_left; focus (first | (simp; done) | omega | (simp; omega))) | with_reducible refine Ge.trans ?_ (by assumption) | with_reducible refine Ge.keep (by assumption) ?_)); done) | fail) (first | (go_at_call 9; ((with_reducible refine (HMk.out _ ‹_ ∧ _ ∧ Ge w4 _›.2.2).mono ?_); rintro e w' ⟨rfl, hb⟩); have hz := Ge.size hb; (try simp at hz)) | fail)
          rename_i hHeldX
          obtain ⟨q0, q1, G7⟩ := hHeldX
          clear hS
          go_wp2_with fail
          go_ret
          exact ⟨rfl, Ge.trans hg (Ge.trans G8 (Ge.trans G4.out G7))⟩
        · clear hng
          have t1 : decide (b * e ≤ c * d) = false := decide_eq_false c1
          have t2 : c * d < b * e := by omega
          go_wp2_with fail
          go_quiet (fail)
          go_wp2_with (first
            | ((go_at_call 5; ((with_reducible refine (HPR.out _ (Ge.drewN (Ge.refl _) _)).mono ?_); rintro e w1 ⟨hx, g1⟩)); obtain ⟨u, rfl, hpx⟩ := hx; obtain ⟨gg, aa, ca, bb, cb, rfl, z0, z1, r0, r1⟩ := HX.out _ _ hpx; have R0 := Lib.hid r0; have R1 := Lib.hid r1; clear hpx r0 r1; have G1 := Lib.hid (Ge.trans (Ge.drewN (Ge.refl wc) _) g1))
            | ((go_at_call 6; ((with_reducible refine (HIW.out _ G1.out).mono ?_); rintro e w2 ⟨rfl, rfl⟩)))
            | ((go_at_call 7; ((with_reducible refine (HIP.out _ G1.out).mono ?_); rintro e w3 ⟨rfl, g3⟩)); have G3 := Lib.hid (G1.out.trans g3))
            | ((go_at_call 8; ((with_reducible refine (HPL.out _ G3.out).mono ?_); rintro e w4 ⟨rfl, g4⟩)); have G4 := Lib.hid (G3.out.trans g4)))
          have g14 : Ge w1 w4 := g3.trans g4
          have z0' := g14.keep z0
          have z1' := g14.keep z1
          have HMk := Lib.hid (fun (w' : World) (g : Ge w4 w') => HMx.out aa bb ca cb w' (G4.out.trans g) ((g14.trans g).owns R0.out) ((g14.trans g).owns R1.out))
          clear g3 g4 g1 z0 z1 g14
          have hS : ∀ w', Ge w4 w' → (w'.cell? ⟨gg, 0, none⟩ = some (.slice (some aa) m ca) ∧ w'.cell? ⟨gg, 1, none⟩ = some (.slice (some bb) m cb) ∧ Ge w4 w') := fun w' g => ⟨g.keep (by (repeat (first | assumption | with_reducible exact Ge.refl _ | with_reducible refine cv_drew ?_ | with_reducible refine cv_alloc ?_ | with_reducible refine cv_set ?_ | (with_reducible apply cv_some; assumption) | with_reducible refine cell_drew ?_ | with_reducible refine cell_drewN ?_ | ((with_reducible refine cell_new ?_ ?_); (focus (simp; done)); rfl) | with_reducible refine cell_alloc ?_ | with_reducible refine cell_same2 ?_ | ((with_reducible refine cell_set2 ?_ ?_); focus (first | (simp; done) | (intro hE; simp at hE; done) | (intro hE; simp at hE; omega))) | with_reducible refine Ge.drew ?_ | with_reducible refine Ge.drewN ?_ _ | with_reducible refine Ge.alloc ?_ _ | ((with_reducible refine Ge.setCell ?_ ?_ _); rotate_left; focus (first | (simp; done) | omega | (simp; omega))) | with_reducible refine Ge.trans ?_ (by assumption) | with_reducible refine Ge.keep (by assumption) ?_))), g.keep (by (repeat (first | assumption | with_reducible exact Ge.refl _ | with_reducible refine cv_drew ?_ | with_reducible refine cv_alloc ?_ | with_reducible refine cv_set ?_ | (with_reducible apply cv_some; assumption) | with_reducible refine cell_drew ?_ | with_reducible refine cell_drewN ?_ | ((with_reducible refine cell_new ?_ ?_); (focus (simp; done)); rfl) | with_reducible refine cell_alloc ?_ | with_reducible refine cell_same2 ?_ | ((with_reducible refine cell_set2 ?_ ?_); focus (first | (simp; done) | (intro hE; simp at hE; done) | (intro hE; simp at hE; omega))) | with_reducible refine Ge.drew ?_ | with_reducible refine Ge.drewN ?_ _ | with_reducible refine Ge.alloc ?_ _ | ((with_reducible refine Ge.setCell ?_ ?_ _); rotate_left; focus (first | (simp; done) | omega | (simp; omega))) | with_reducible refine Ge.trans ?_ (by assumption) | with_reducible refine Ge.keep (by assumption) ?_))), Ge.trans (by (repeat (first | assumption | with_reducible exact Ge.refl _ | with_reducible refine cv_drew ?_ | with_reducible refine cv_alloc ?_ | with_reducible refine cv_set ?_ | (with_reducible apply cv_some; assumption) | with_reducible refine cell_drew ?_ | with_reducible refine cell_drewN ?_ | ((with_reducible refine cell_new ?_ ?_); (focus (simp; done)); rfl) | with_reducible refine cell_alloc ?_ | with_reducible refine cell_same2 ?_ | ((with_reducible refine cell_set2 ?_ ?_); focus (first | (simp; done) | (intro hE; simp at hE; done) | (intro hE; simp at hE; omega))) | with_reducible refine Ge.drew ?_ | with_reducible refine Ge.drewN ?_ _ | with_reducible refine Ge.alloc ?_ _ | ((with_reducible refine Ge.setCell ?_ ?_ _); rotate_left; focus (first | (simp; done) | omega | (simp; omega))) | with_reducible refine Ge.trans ?_ (by assumption) | with_reducible refine Ge.keep (by assumption) ?_))) g⟩
          go_region_held3 (fun w' => w'.cell? ⟨gg, 0, none⟩ = some (.slice (some aa) m ca) ∧ w'.cell? ⟨gg, 1, none⟩ = some (.slice (some bb) m cb) ∧ Ge w4 w') (first | ((with_reducible refine hS _ ?_); (repeat (first | assumption | with_reducible exact Ge.refl _ | with_reducible refine cv_drew ?_ | with_reducible refine cv_alloc ?_ | with_reducible refine cv_set ?_ | (with_reducible apply cv_some; assumption) | with_reducible refine cell_drew ?_ | with_reducible refine cell_drewN ?_ | ((with_reducible refine cell_new ?_ ?_); (focus (simp; done)); rfl) | with_reducible refine cell_alloc ?_ | with_reducible refine cell_same2 ?_ | ((with_reducible refine cell_set2 ?_ ?_); focus (first | (simp; done) | (intro hE; simp at hE; done) | (intro hE; simp at hE; omega))) | with_reducible refine Ge.drew ?_ | with_reducible refine Ge.drewN ?_ _ | with_reducible refine Ge.alloc ?_ _ | ((with_reducible refine Ge.setCell ?_ ?_ _); rotate_left; focus (first | (simp; done) | omega | (simp; omega))) | with_reducible refine Ge.trans ?_ (by assumption) | with_reducible refine Ge.keep (by assumption) ?_)); done) | fail) (first | (go_at_call 9; ((with_reducible refine (HMk.out _ ‹_ ∧ _ ∧ Ge w4 _›.2.2).mono ?_); rintro e w' ⟨rfl, hb⟩); have hz := Ge.size hb; (try simp at hz)) | fail)
          rename_i hHeldX
          obtain ⟨q0, q1, G7⟩ := hHeldX
          clear hS
          go_wp2_with fail
          go_ret
          exact ⟨rfl, Ge.trans hg (Ge.trans G8 (Ge.trans G4.out G7))⟩
end Go.Proofs.Ytjdhjoifiebpeaa
