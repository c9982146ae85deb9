/- l13Insert of the reference at a square behind all others. No condition. CutTiling of both sides. No condition. Tilings: sides of impl. No condition. Tilings: l13Right, l13Low, l13Overlap, l13Squares of spec. No condition. Tilings: l13Squares of spec. No condition. Tilings: TilingOk of impl. No condition. Tilings: TilingOk, HeightOf, WidthOf of spec and of impl. No condition. FormatSquare. -/
import Derived.Test.YtagiecajffhnpaaGreatJAu
import Derived.Test.YtagiecajffhnpaaGreatJAb
import Derived.Test.YtagiecajffhnpaaGreatJAd
import Derived.Test.YtagiecajffhnpaaGreatWFmt
import Derived.Deep.DeepCutAuto
namespace Go.Proofs.YtagiecajffhnpaaGreat
set_option maxRecDepth 100000
open Go.ChangeShapes Go.WideShapes Go.ChangeAt Go.RowKit Go.Joins

end Go.Proofs.YtagiecajffhnpaaGreat

namespace Go.Proofs.YtagiecajffhnpaaGreat
set_option maxRecDepth 100000
open Go.ChangeShapes Go.WideShapes Go.ChangeAt Go.RowKit Go.Joins

set_option maxHeartbeats 1600000 in
theorem iCut (a b : Int) (w : World) : Calls Tryz.prog 59 #[.int .i64 a, .int .i64 b] w fun e w' => GivesC w (cutO a b) a b e w' ∧ Ge w w' := by
  by_cases h : (1 ≤ a ∧ a ≤ 200) ∧ (1 ≤ b ∧ b ≤ 200)
  · obtain ⟨p, rfl⟩ : ∃ p : Nat, a = p := ⟨a.toNat, by omega⟩
    obtain ⟨q, rfl⟩ : ∃ q : Nat, b = q := ⟨b.toNat, by omega⟩
    exact iCutT p q w ⟨by omega, by omega⟩ ⟨by omega, by omega⟩
  · rw [cutO_f h]
    by_cases h1 : a < 1
    · go_enter Tryz.func59, Tryz.ntmps59
      go_wp2_with fail
      exact bodyPost_ret (v := .tuple #[.slice none 0 0, .bool false]) (by simp [results, Tryz.results59, go_sem]) rfl ⟨rfl, Ge.refl _⟩
    · by_cases h2 : 200 < a
      · go_enter Tryz.func59, Tryz.ntmps59
        go_wp2_with fail
        exact bodyPost_ret (v := .tuple #[.slice none 0 0, .bool false]) (by simp [results, Tryz.results59, go_sem]) rfl ⟨rfl, Ge.refl _⟩
      · by_cases h3 : b < 1
        · go_enter Tryz.func59, Tryz.ntmps59
          go_wp2_with fail
          exact bodyPost_ret (v := .tuple #[.slice none 0 0, .bool false]) (by simp [results, Tryz.results59, go_sem]) rfl ⟨rfl, Ge.refl _⟩
        · have h4 : 200 < b := by omega
          go_enter Tryz.func59, Tryz.ntmps59
          go_wp2_with fail
          exact bodyPost_ret (v := .tuple #[.slice none 0 0, .bool false]) (by simp [results, Tryz.results59, go_sem]) rfl ⟨rfl, Ge.refl _⟩
end Go.Proofs.YtagiecajffhnpaaGreat

namespace Go.Proofs.YtagiecajffhnpaaGreat
set_option maxRecDepth 100000
open Go.ChangeShapes Go.WideShapes Go.ChangeAt Go.RowKit Go.Joins

set_option maxHeartbeats 800000 in
theorem iSides (v : Value) (n : Nat) (xs : List Int) (w : World) (hv : SlF w v n 3 xs) (hn : n ≤ 12) (hok : ∀ k, k < n → okSq xs k) :
    Calls Tryz.prog 125 #[v] w fun e w' => e = .returned (.tuple #[.int .i64 (rightSq xs n), .int .i64 (lowSq xs n)]) ∧ Ge w w' := by
  obtain ⟨p, cap, rfl, hc⟩ := hv.open
  have HC := Lib.hid hc
  have HK := Lib.hid hok
  clear hv hc hok
  go_enter Tryz.func125, Tryz.ntmps125
  go_wp2_with fail
  go_loopw [4, 5, 10] (fun a b i wr => ∃ k : Nat, k ≤ n ∧ i = .int .i64 k ∧ a = .int .i64 (rightSq xs k) ∧ b = .int .i64 (lowSq xs k) ∧ Ge w wr) (fun _ _ i _ => n - (intOf i).toNat)
  case atStart => exact ⟨0, Nat.zero_le _, rfl, rfl, rfl, Ge.refl _⟩
  case round =>
    obtain ⟨k, hk, rfl, rfl, rfl, hg⟩ := hrel
    by_cases hlt : k < n
    · obtain ⟨b, o, rfl, x0, x1, x2⟩ := three_cells HC.out hlt
      have y0 := hg.keep x0
      have y1 := hg.keep x1
      have y2 := hg.keep x2
      clear x0 x1 x2
      obtain ⟨q0, q1, q2, q3, q4, q5⟩ := HK.out k hlt
      obtain ⟨r0, r1⟩ := right_bd k (fun j hj => HK.out j (by omega))
      obtain ⟨s0, s1⟩ := low_bd k (fun j hj => HK.out j (by omega))
      have H1 : Hid (rightSq xs (k + 1) = max (rightSq xs k) (sx xs k + ss xs k)) := rfl
      have H2 : Hid (lowSq xs (k + 1) = max (lowSq xs k) (sy xs k + ss xs k)) := rfl
      change wr.cell? _ = some (.int .i64 (sx xs k)) at y0
      change wr.cell? _ = some (.int .i64 (sy xs k)) at y1
      change wr.cell? _ = some (.int .i64 (ss xs k)) at y2
      generalize sx xs k = X at *
      generalize sy xs k = Y at *
      generalize ss xs k = Z at *
      go_wp2_with fail
      go_roundw
      case rel => exact ⟨k + 1, by omega, by go_num, congrArg _ (by rw [H1.out] <;> (split <;> omega)), congrArg _ (by rw [H2.out] <;> (split <;> omega)), kge⟩
      case measure => simp [intOf]; omega
    · have hkn : k = n := by omega
      subst hkn
      go_wp2_with fail
      exact bodyPost_ret (v := .tuple #[.int .i64 (rightSq xs k), .int .i64 (lowSq xs k)]) (by simp [results, Tryz.results125, go_sem, *]) rfl ⟨rfl, kge⟩

end Go.Proofs.YtagiecajffhnpaaGreat

namespace Go.Proofs.YtagiecajffhnpaaGreat
set_option maxRecDepth 100000
open Go.ChangeShapes Go.WideShapes Go.ChangeAt Go.RowKit Go.Joins

end Go.Proofs.YtagiecajffhnpaaGreat

namespace Go.Proofs.YtagiecajffhnpaaGreat
set_option maxRecDepth 100000
open Go.ChangeShapes Go.WideShapes Go.ChangeAt Go.RowKit Go.Joins

end Go.Proofs.YtagiecajffhnpaaGreat

namespace Go.Proofs.YtagiecajffhnpaaGreat
set_option maxRecDepth 100000
open Go.ChangeShapes Go.WideShapes Go.ChangeAt Go.RowKit Go.Joins

theorem no_step {xs : List Int} {k j : Nat} (h : Hid (∀ i, i < j → ¬ overSq xs k i)) (hj : ¬ overSq xs k j) : Hid (∀ i, i < j + 1 → ¬ overSq xs k i) := fun i hi => by
  by_cases e : i = j
  · subst e; exact hj
  · exact h.out i (by omega)
theorem good_next {xs : List Int} {k : Nat} (h : Hid (∀ i, i < k → goodSq xs i)) (hk : goodSq xs k) : Hid (∀ i, i < k + 1 → goodSq xs i) := fun i hi => by
  by_cases e : i = k
  · subst e; exact hk
  · exact h.out i (by omega)
set_option maxHeartbeats 3200000 in
theorem iTilingOk (v : Value) (n : Nat) (xs : List Int) (w : World) (hv : SlF w v n 3 xs) (hm : n ≤ 9223372036854775807) (hb : ∀ j, -9223372036854775808 ≤ nth xs j ∧ nth xs j ≤ 9223372036854775807) (hcap : ∀ p c, v = .slice p n c → n ≤ c) :
    Calls Tryz.prog 96 #[v] w fun e w' => e = .returned (.bool (tileB n xs)) ∧ Ge w w' := by
  obtain ⟨p, cap, rfl, hc⟩ := hv.open
  have HV := Lib.hid hv
  have HC := Lib.hid hc
  have HBd := Lib.hid hb
  have hnc := hcap _ _ rfl
  have HCap := Lib.hid hcap
  clear hv hc hb hcap
  by_cases h1 : n < 1
  · have HF : Hid (tileB n xs = false) := tileB_false (fun h => by have := h.1; omega)
    go_enter Tryz.func96, Tryz.ntmps96
    go_wp2_with fail
    go_ret
    exact ⟨ret_bool HF.out.symm, Ge.refl _⟩
  by_cases h12 : 12 < n
  · have HF : Hid (tileB n xs = false) := tileB_false (fun h => by have := h.2.1; omega)
    go_enter Tryz.func96, Tryz.ntmps96
    go_wp2_with fail
    go_ret
    exact ⟨ret_bool HF.out.symm, Ge.refl _⟩
  go_enter Tryz.func96, Tryz.ntmps96
  go_wp2_with fail
  go_loopw [3, 4, 5, 22] (fun a b c i wr => ∃ k : Nat, k ≤ n ∧ i = .int .i64 k ∧ a = .int .i64 (minX xs k) ∧ b = .int .i64 (minY xs k) ∧ c = .int .i64 (areaSq xs k) ∧ Hid (∀ j, j < k → goodSq xs j) ∧ Ge w wr) (fun _ _ _ i _ => n - (intOf i).toNat)
  case atStart => exact ⟨0, Nat.zero_le _, rfl, rfl, rfl, rfl, fun j hj => by omega, Ge.refl _⟩
  case round =>
    obtain ⟨k, hk, rfl, rfl, rfl, rfl, HK, hg⟩ := hrel
    by_cases hlt : k < n
    · obtain ⟨b, o, rfl, x0, x1, x2⟩ := three_cells HC.out hlt
      have y0 := hg.keep x0
      have y1 := hg.keep x1
      have y2 := hg.keep x2
      clear x0 x1 x2
      change wr.cell? _ = some (.int .i64 (sx xs k)) at y0
      change wr.cell? _ = some (.int .i64 (sy xs k)) at y1
      change wr.cell? _ = some (.int .i64 (ss xs k)) at y2
      have HB0 := HBd.out (k * 3)
      have HB1 := HBd.out (k * 3 + 1)
      have HB2 := HBd.out (k * 3 + 2)
      change _ ≤ sx xs k ∧ sx xs k ≤ _ at HB0
      change _ ≤ sy xs k ∧ sy xs k ≤ _ at HB1
      change _ ≤ ss xs k ∧ ss xs k ≤ _ at HB2
      by_cases t1 : sx xs k < 0
      · have HF : Hid (tileB n xs = false) := tileB_false (fun h => by have := (h.2.2.1 k hlt).1.1; omega)
        go_upto_region 7 with (fail)
        go_quiet (fail)
        go_wp2_with fail
        go_ret
        exact ⟨ret_bool HF.out.symm, kge⟩
      by_cases t2 : 200 < sx xs k
      · have HF : Hid (tileB n xs = false) := tileB_false (fun h => by have := (h.2.2.1 k hlt).1.2.1; omega)
        go_upto_region 7 with (fail)
        go_quiet (fail)
        go_wp2_with fail
        go_ret
        exact ⟨ret_bool HF.out.symm, kge⟩
      by_cases t3 : sy xs k < 0
      · have HF : Hid (tileB n xs = false) := tileB_false (fun h => by have := (h.2.2.1 k hlt).1.2.2.1; omega)
        go_upto_region 7 with (fail)
        go_quiet (fail)
        go_wp2_with fail
        go_ret
        exact ⟨ret_bool HF.out.symm, kge⟩
      by_cases t4 : 200 < sy xs k
      · have HF : Hid (tileB n xs = false) := tileB_false (fun h => by have := (h.2.2.1 k hlt).1.2.2.2.1; omega)
        go_upto_region 7 with (fail)
        go_quiet (fail)
        go_wp2_with fail
        go_ret
        exact ⟨ret_bool HF.out.symm, kge⟩
      by_cases t5 : ss xs k < 1
      · have HF : Hid (tileB n xs = false) := tileB_false (fun h => by have := (h.2.2.1 k hlt).1.2.2.2.2.1; omega)
        go_upto_region 7 with (fail)
        go_quiet (fail)
        go_wp2_with fail
        go_ret
        exact ⟨ret_bool HF.out.symm, kge⟩
      by_cases t6 : 200 < ss xs k
      · have HF : Hid (tileB n xs = false) := tileB_false (fun h => by have := (h.2.2.1 k hlt).1.2.2.2.2.2; omega)
        go_upto_region 7 with (fail)
        go_quiet (fail)
        go_wp2_with fail
        go_ret
        exact ⟨ret_bool HF.out.symm, kge⟩
      have OK : Hid (okSq xs k) := ⟨by omega, by omega, by omega, by omega, by omega, by omega⟩
      obtain ⟨bad, hbad⟩ : ∃ bad : Bool, bad = true ↔ (0 < k ∧ ¬ ordSq xs (k - 1) k) := ⟨@decide (0 < k ∧ ¬ ordSq xs (k - 1) k) (Classical.propDecidable _), by simp⟩
      have HBad := Lib.hid hbad
      clear hbad
      go_upto_region 7 with (fail)
      go_cut [68] (fun s wx => s = .bool bad ∧ wx.cell? ⟨wr.heap.size, 0, none⟩ = some (.int .i64 (sx xs k)) ∧ wx.cell? ⟨wr.heap.size, 1, none⟩ = some (.int .i64 (sy xs k)) ∧ wx.cell? ⟨wr.heap.size, 2, none⟩ = some (.int .i64 (ss xs k)) ∧ Ge wr wx)
      case first =>
        by_cases hp : 0 < k
        · obtain ⟨j, rfl⟩ : ∃ j, k = j + 1 := ⟨k - 1, by omega⟩
          obtain ⟨b', o', e', x0, x1, x2⟩ := three_cells HC.out (show j < n by omega)
          simp only [Option.some.injEq, Addr.mk.injEq, and_true] at e'
          obtain ⟨rfl, rfl⟩ := e'
          have z0 := hg.keep x0
          have z1 := hg.keep x1
          have z2 := hg.keep x2
          clear x0 x1 x2
          change wr.cell? _ = some (.int .i64 (sx xs j)) at z0
          change wr.cell? _ = some (.int .i64 (sy xs j)) at z1
          change wr.cell? _ = some (.int .i64 (ss xs j)) at z2
          have w1 : IntKind.i64.wrap (((j + 1 : Nat) : Int) - 1) = (j : Int) := IntWalk.i64_in _ (by omega) |>.trans (by omega)
          have w2 : IntKind.i64.wrap (j : Int) = (j : Int) := IntWalk.i64_in _ (by omega)
          have j0 : (0 : Int) ≤ (j : Int) := by omega
          have j1 : (j : Int) < (n : Int) := by omega
          have w3 : ((j : Int) + 1 - 1) = (j : Int) := by omega
          have lb := World.block_lt_of_cell? wr _ z0
          simp at lb
          have c0 : decide (0 ≤ cmpSq (sx xs j) (sy xs j) (sx xs (j + 1)) (sy xs (j + 1))) = bad := by
            have h1 := HBad.out
            have h2 := @cmpSq_lt (sx xs j) (sy xs j) (sx xs (j + 1)) (sy xs (j + 1))
            have h3 : ordSq xs j (j + 1) ↔ cmpSq (sx xs j) (sy xs j) (sx xs (j + 1)) (sy xs (j + 1)) < 0 := h2.symm
            simp only [Nat.add_sub_cancel, h3] at h1
            cases bad with
            | true => have := h1.1 rfl; simp; omega
            | false =>
              simp
              by_cases h4 : cmpSq (sx xs j) (sy xs j) (sx xs (j + 1)) (sy xs (j + 1)) < 0
              · exact h4
              · exact absurd (h1.2 ⟨by omega, h4⟩) (by simp)
          have hS : ∀ w', Ge (wr.alloc (.cells #[.int .i64 (sx xs (j + 1)), .int .i64 (sy xs (j + 1)), .int .i64 (ss xs (j + 1))] 143)) w' → (w'.cell? ⟨wr.heap.size, 0, none⟩ = some (.int .i64 (sx xs (j + 1))) ∧ w'.cell? ⟨wr.heap.size, 1, none⟩ = some (.int .i64 (sy xs (j + 1))) ∧ w'.cell? ⟨wr.heap.size, 2, none⟩ = some (.int .i64 (ss xs (j + 1))) ∧ w'.cell? ⟨b, o + j * 3, none⟩ = some (.int .i64 (sx xs j)) ∧ w'.cell? ⟨b, o + j * 3 + 1, none⟩ = some (.int .i64 (sy xs j)) ∧ w'.cell? ⟨b, o + j * 3 + 2, none⟩ = some (.int .i64 (ss xs j)) ∧ Ge wr w') := fun w' g => ⟨g.keep (kch), g.keep (kch), g.keep (kch), g.keep (kch), g.keep (kch), g.keep (kch), Ge.trans (kch) g⟩
          go_region_held3 (fun w' => w'.cell? ⟨wr.heap.size, 0, none⟩ = some (.int .i64 (sx xs (j + 1))) ∧ w'.cell? ⟨wr.heap.size, 1, none⟩ = some (.int .i64 (sy xs (j + 1))) ∧ w'.cell? ⟨wr.heap.size, 2, none⟩ = some (.int .i64 (ss xs (j + 1))) ∧ w'.cell? ⟨b, o + j * 3, none⟩ = some (.int .i64 (sx xs j)) ∧ w'.cell? ⟨b, o + j * 3 + 1, none⟩ = some (.int .i64 (sy xs j)) ∧ w'.cell? ⟨b, o + j * 3 + 2, none⟩ = some (.int .i64 (ss xs j)) ∧ Ge wr w') (first | ((with_reducible refine hS _ ?_); exact kch) | fail) (first | (go_at_call 95; ((with_reducible refine (iByPlace _ _ _ _ _ _ _).mono ?_); rintro e w' ⟨rfl, hb⟩); have hz := Ge.size hb; (try simp at hz)) | fail)
          rename_i hHeldX
          obtain ⟨q0, q1, q2, q3, q4, q5, G7⟩ := hHeldX
          clear hS
          go_wp2_with fail
          go_meet
          exact ⟨rfl, q0, q1, q2, G7⟩
        · have hk0 : k = 0 := by omega
          subst hk0
          have hb0 : bad = false := by
            cases bad with
            | true => have := (HBad.out.1 rfl).1; omega
            | false => rfl
          subst hb0
          go_quiet (fail)
          go_wp2_with fail
          go_meet
          exact ⟨rfl, cell_drewN (cell_new rfl rfl), cell_drewN (cell_new rfl rfl), cell_drewN (cell_new rfl rfl), kge⟩
      case rest =>
        obtain ⟨rfl, q0, q1, q2, G7⟩ := hcut
        cases bad with
        | true =>
          have HF : Hid (tileB n xs = false) := tileB_false (fun h => by
            obtain ⟨e1, e2⟩ := HBad.out.1 rfl
            exact e2 ((h.2.2.1 k hlt).2.1 e1))
          go_wp2_with fail
          go_ret
          exact ⟨ret_bool HF.out.symm, kge⟩
        | false =>
          have hkc : k ≤ cap := by omega
          have hkn : k ≤ n := by omega
          go_wp2_with fail
          go_loopw [73] (fun i wi => ∃ j : Nat, j ≤ k ∧ i = .int .i64 j ∧ Hid (∀ i, i < j → ¬ overSq xs k i) ∧ Ge wc wi) (fun i _ => k - (intOf i).toNat)
          case atStart => exact ⟨0, Nat.zero_le _, rfl, fun i hi => by omega, Ge.refl _⟩
          case round =>
            obtain ⟨j, hj, rfl, HN, hgi⟩ := hrel
            by_cases hjk : j < k
            · obtain ⟨b', o', e', x0, x1, x2⟩ := three_cells HC.out (show j < n by omega)
              simp only [Option.some.injEq, Addr.mk.injEq, and_true] at e'
              obtain ⟨rfl, rfl⟩ := e'
              have z0 := hgi.keep (G7.keep (hg.keep x0))
              have z1 := hgi.keep (G7.keep (hg.keep x1))
              have z2 := hgi.keep (G7.keep (hg.keep x2))
              clear x0 x1 x2
              have p0 := hgi.keep q0
              have p1 := hgi.keep q1
              have p2 := hgi.keep q2
              have lz := World.block_lt_of_cell? _ _ p0
              simp at lz
              obtain ⟨r0, r1, r2, r3, r4, r5⟩ := (HK.out j hjk).1
              change wr.cell? _ = some (.int .i64 (sx xs j)) at z0
              change wr.cell? _ = some (.int .i64 (sy xs j)) at z1
              change wr.cell? _ = some (.int .i64 (ss xs j)) at z2
              by_cases c1 : sx xs k < sx xs j + ss xs j
              · by_cases c2 : sx xs j < sx xs k + ss xs k
                · by_cases c3 : sy xs k < sy xs j + ss xs j
                  · by_cases c4 : sy xs j < sy xs k + ss xs k
                    · have HF : Hid (tileB n xs = false) := tileB_false (fun h => (h.2.2.1 k hlt).2.2 j hjk ⟨c1, c2, c3, c4⟩)
                      go_wp2_with fail
                      go_ret
                      exact ⟨ret_bool HF.out.symm, kge⟩
                    · have HN2 : Hid (∀ i, i < j + 1 → ¬ overSq xs k i) := no_step HN (fun h => by unfold overSq at h; omega)
                      go_wp2_with fail
                      go_roundw
                      case rel => exact ⟨j + 1, by omega, by go_num, HN2, kge⟩
                      case measure => simp [intOf]; omega
                  · have HN2 : Hid (∀ i, i < j + 1 → ¬ overSq xs k i) := no_step HN (fun h => by unfold overSq at h; omega)
                    go_wp2_with fail
                    go_roundw
                    case rel => exact ⟨j + 1, by omega, by go_num, HN2, kge⟩
                    case measure => simp [intOf]; omega
                · have HN2 : Hid (∀ i, i < j + 1 → ¬ overSq xs k i) := no_step HN (fun h => by unfold overSq at h; omega)
                  go_wp2_with fail
                  go_roundw
                  case rel => exact ⟨j + 1, by omega, by go_num, HN2, kge⟩
                  case measure => simp [intOf]; omega
              · have HN2 : Hid (∀ i, i < j + 1 → ¬ overSq xs k i) := no_step HN (fun h => by unfold overSq at h; omega)
                go_wp2_with fail
                go_roundw
                case rel => exact ⟨j + 1, by omega, by go_num, HN2, kge⟩
                case measure => simp [intOf]; omega
            · have hjk2 : j = k := by omega
              subst hjk2
              have HG : Hid (∀ i, i < j + 1 → goodSq xs i) := good_next HK ⟨OK.out, fun h0 => Classical.byContradiction fun h => by have := HBad.out.2 ⟨h0, h⟩; simp at this, HN.out⟩
              have p0 := hgi.keep q0
              have p1 := hgi.keep q1
              have p2 := hgi.keep q2
              have HX : Hid (minX xs (j + 1) = min (minX xs j) (sx xs j)) := rfl
              have HY : Hid (minY xs (j + 1) = min (minY xs j) (sy xs j)) := rfl
              have HA : Hid (areaSq xs (j + 1) = areaSq xs j + ss xs j * ss xs j) := rfl
              obtain ⟨m0, m1⟩ := minX_bd j (fun i hi => (HK.out i hi).1)
              obtain ⟨m2, m3⟩ := minY_bd j (fun i hi => (HK.out i hi).1)
              obtain ⟨m4, m5⟩ := area_bd j (fun i hi => (HK.out i hi).1)
              have m6 : ss xs j * ss xs j ≤ 200 * 200 := Int.mul_le_mul (by omega) (by omega) (by omega) (by omega)
              have m7 : 0 ≤ ss xs j * ss xs j := Int.mul_nonneg (by omega) (by omega)
              generalize hq : ss xs j * ss xs j = q at *
              go_wp2_with fail
              go_roundw
              case rel => exact ⟨j + 1, by omega, by go_num, congrArg _ (by rw [HX.out] <;> (split <;> omega)), congrArg _ (by rw [HY.out] <;> (split <;> omega)), congrArg _ (by rw [HA.out]), HG, kge⟩
              case measure => simp [intOf]; omega
    · have hkn : k = n := by omega
      subst hkn
      have hn12 : k ≤ 12 := by omega
      obtain ⟨m0, m1⟩ := minX_bd k (fun i hi => (HK.out i hi).1)
      obtain ⟨m2, m3⟩ := minY_bd k (fun i hi => (HK.out i hi).1)
      obtain ⟨m4, m5⟩ := area_bd k (fun i hi => (HK.out i hi).1)
      obtain ⟨r0, r1⟩ := right_bd k (fun i hi => (HK.out i hi).1)
      obtain ⟨l0, l1⟩ := low_bd k (fun i hi => (HK.out i hi).1)
      have m6 : rightSq xs k * lowSq xs k ≤ 400 * 400 := Int.mul_le_mul (by omega) (by omega) (by omega) (by omega)
      have m7 : 0 ≤ rightSq xs k * lowSq xs k := Int.mul_nonneg (by omega) (by omega)
      have HS : ∀ w', Ge w w' → SlF w' (.slice p k cap) k 3 xs := fun w' g => HV.out.ge g
      have HOK : Hid (∀ i, i < k → okSq xs i) := fun i hi => (HK.out i hi).1
      by_cases e1 : minX xs k = 0
      · have e1b : (minX xs k == 0) = true := by simp [e1]
        by_cases e2 : minY xs k = 0
        · have e2b : (minY xs k == 0) = true := by simp [e2]
          by_cases e3 : areaSq xs k = rightSq xs k * lowSq xs k
          · have e3b : (areaSq xs k == rightSq xs k * lowSq xs k) = true := by simp [e3]
            have HF : Hid (tileB k xs = true) := tileB_true ⟨by omega, by omega, HK.out, e1, e2, e3⟩
            go_wp2_with (go_at_call 125; ((with_reducible refine (iSides _ _ _ _ (HS _ hg) hn12 HOK.out).mono ?_); rintro e w' ⟨rfl, hb⟩))
            go_ret
            exact ⟨ret_bool HF.out.symm, kge⟩
          · have e3b : (areaSq xs k == rightSq xs k * lowSq xs k) = false := by simp [e3]
            have HF : Hid (tileB k xs = false) := tileB_false (fun h => e3 h.2.2.2.2.2)
            go_wp2_with (go_at_call 125; ((with_reducible refine (iSides _ _ _ _ (HS _ hg) hn12 HOK.out).mono ?_); rintro e w' ⟨rfl, hb⟩))
            go_ret
            exact ⟨ret_bool HF.out.symm, kge⟩
        · have e2b : (minY xs k == 0) = false := by simp [e2]
          have HF : Hid (tileB k xs = false) := tileB_false (fun h => e2 h.2.2.2.2.1)
          go_wp2_with (go_at_call 125; ((with_reducible refine (iSides _ _ _ _ (HS _ hg) hn12 HOK.out).mono ?_); rintro e w' ⟨rfl, hb⟩))
          go_ret
          exact ⟨ret_bool HF.out.symm, kge⟩
      · have e1b : (minX xs k == 0) = false := by simp [e1]
        have HF : Hid (tileB k xs = false) := tileB_false (fun h => e1 h.2.2.2.1)
        go_wp2_with (go_at_call 125; ((with_reducible refine (iSides _ _ _ _ (HS _ hg) hn12 HOK.out).mono ?_); rintro e w' ⟨rfl, hb⟩))
        go_ret
        exact ⟨ret_bool HF.out.symm, kge⟩
end Go.Proofs.YtagiecajffhnpaaGreat

namespace Go.Proofs.YtagiecajffhnpaaGreat
set_option maxRecDepth 100000
open Go.ChangeShapes Go.WideShapes Go.ChangeAt Go.RowKit Go.Joins

noncomputable def heightQ (n : Nat) (xs : List Int) : Int := if tileB n xs = true then lowSq xs n else 0
theorem heightQ_t {n : Nat} {xs : List Int} (h : tileB n xs = true) : heightQ n xs = lowSq xs n := by simp [heightQ, h]
theorem heightQ_f {n : Nat} {xs : List Int} (h : tileB n xs = false) : heightQ n xs = 0 := by simp [heightQ, h]

set_option maxHeartbeats 800000 in
theorem iHeightOf (v : Value) (n : Nat) (xs : List Int) (w : World) (hv : SlF w v n 3 xs) (hm : n ≤ 9223372036854775807) (hb : ∀ j, -9223372036854775808 ≤ nth xs j ∧ nth xs j ≤ 9223372036854775807) (hcap : ∀ p c, v = .slice p n c → n ≤ c) :
    Calls Tryz.prog 98 #[v] w fun e w' => e = .returned (.int .i64 (heightQ n xs)) ∧ Ge w w' := by
  obtain ⟨p, cap, rfl, hc⟩ := hv.open
  have HV := Lib.hid hv
  have HBd := Lib.hid hb
  have HCap := Lib.hid hcap
  have HT : Hid (tileB n xs = true → tileP n xs) := fun h => by
    unfold tileB at h
    split at h
    · assumption
    · cases h
  clear hv hc hb hcap
  by_cases hB : tileB n xs = true
  · obtain ⟨_, h12, hsq, _⟩ := HT.out hB
    have HOK : Hid (∀ i, i < n → okSq xs i) := fun i hi => (hsq i hi).1
    clear hsq
    have HF := Lib.hid (heightQ_t hB)
    go_enter Tryz.func98, Tryz.ntmps98
    go_wp2_with (first | (go_at_call 96; ((with_reducible refine (iTilingOk _ n xs _ HV.out hm HBd.out HCap.out).mono ?_); rintro e w' ⟨rfl, hb⟩)) | (go_at_call 125; ((with_reducible refine (iSides _ n xs _ (HV.out.ge hb) h12 HOK.out).mono ?_); rintro e w' ⟨rfl, hr⟩)))
    go_ret
    exact ⟨ret_int HF.out.symm, kge⟩
  · have hB : tileB n xs = false := by simpa using hB
    have HF := Lib.hid (heightQ_f hB)
    go_enter Tryz.func98, Tryz.ntmps98
    go_wp2_with ((go_at_call 96; ((with_reducible refine (iTilingOk _ n xs _ HV.out hm HBd.out HCap.out).mono ?_); rintro e w' ⟨rfl, hb⟩)))
    go_ret
    exact ⟨ret_int HF.out.symm, kge⟩

noncomputable def widthQ (n : Nat) (xs : List Int) : Int := if tileB n xs = true then rightSq xs n else 0
theorem widthQ_t {n : Nat} {xs : List Int} (h : tileB n xs = true) : widthQ n xs = rightSq xs n := by simp [widthQ, h]
theorem widthQ_f {n : Nat} {xs : List Int} (h : tileB n xs = false) : widthQ n xs = 0 := by simp [widthQ, h]

set_option maxHeartbeats 800000 in
theorem iWidthOf (v : Value) (n : Nat) (xs : List Int) (w : World) (hv : SlF w v n 3 xs) (hm : n ≤ 9223372036854775807) (hb : ∀ j, -9223372036854775808 ≤ nth xs j ∧ nth xs j ≤ 9223372036854775807) (hcap : ∀ p c, v = .slice p n c → n ≤ c) :
    Calls Tryz.prog 97 #[v] w fun e w' => e = .returned (.int .i64 (widthQ n xs)) ∧ Ge w w' := by
  obtain ⟨p, cap, rfl, hc⟩ := hv.open
  have HV := Lib.hid hv
  have HBd := Lib.hid hb
  have HCap := Lib.hid hcap
  have HT : Hid (tileB n xs = true → tileP n xs) := fun h => by
    unfold tileB at h
    split at h
    · assumption
    · cases h
  clear hv hc hb hcap
  by_cases hB : tileB n xs = true
  · obtain ⟨_, h12, hsq, _⟩ := HT.out hB
    have HOK : Hid (∀ i, i < n → okSq xs i) := fun i hi => (hsq i hi).1
    clear hsq
    have HF := Lib.hid (widthQ_t hB)
    go_enter Tryz.func97, Tryz.ntmps97
    go_wp2_with (first | (go_at_call 96; ((with_reducible refine (iTilingOk _ n xs _ HV.out hm HBd.out HCap.out).mono ?_); rintro e w' ⟨rfl, hb⟩)) | (go_at_call 125; ((with_reducible refine (iSides _ n xs _ (HV.out.ge hb) h12 HOK.out).mono ?_); rintro e w' ⟨rfl, hr⟩)))
    go_ret
    exact ⟨ret_int HF.out.symm, kge⟩
  · have hB : tileB n xs = false := by simpa using hB
    have HF := Lib.hid (widthQ_f hB)
    go_enter Tryz.func97, Tryz.ntmps97
    go_wp2_with ((go_at_call 96; ((with_reducible refine (iTilingOk _ n xs _ HV.out hm HBd.out HCap.out).mono ?_); rintro e w' ⟨rfl, hb⟩)))
    go_ret
    exact ⟨ret_int HF.out.symm, kge⟩
end Go.Proofs.YtagiecajffhnpaaGreat

namespace Go.Proofs.YtagiecajffhnpaaGreat

open Go.RowKit

def squareTxt (x y z : Int) : List UInt8 := fmtInt z ++ [64] ++ fmtInt x ++ [44] ++ fmtInt y

theorem squareTxt_eq (x y z : Int) : bstr (fmtInt z) ++ (⟨#[64]⟩ : ByteArray) ++ bstr (fmtInt x) ++ (⟨#[44]⟩ : ByteArray) ++ bstr (fmtInt y) = bstr (squareTxt x y z) := by
  show bstr (fmtInt z) ++ bstr [64] ++ bstr (fmtInt x) ++ bstr [44] ++ bstr (fmtInt y) = _
  rw [bstr_append, bstr_append, bstr_append, bstr_append]; rfl

theorem square_z (x y z : Int) : (¬ 9223372036854775807 < (bstr (fmtInt z)).size + 1) ∧ (¬ 9223372036854775807 < (bstr (fmtInt z)).size + 1 + (bstr (fmtInt x)).size) ∧
    (¬ 9223372036854775807 < (bstr (fmtInt z)).size + 1 + (bstr (fmtInt x)).size + 1) ∧ (¬ 9223372036854775807 < (bstr (fmtInt z)).size + 1 + (bstr (fmtInt x)).size + 1 + (bstr (fmtInt y)).size) := by
  have := fmtInt_length x; have := fmtInt_length y; have := fmtInt_length z; rw [bstr_size, bstr_size, bstr_size]; omega

set_option maxHeartbeats 400000 in
theorem iFormatSquare (x y z : Int) (w : World) (hx : -9223372036854775808 ≤ x ∧ x ≤ 9223372036854775807) (hy : -9223372036854775808 ≤ y ∧ y ≤ 9223372036854775807) (hz : -9223372036854775808 ≤ z ∧ z ≤ 9223372036854775807) :
    Calls Tryz.prog 99 #[.agg #[.int .i64 x, .int .i64 y, .int .i64 z]] w fun e w' => e = .returned (.string (bstr (squareTxt x y z))) ∧ Ge w w' := by
  obtain ⟨x0, x1⟩ := hx
  obtain ⟨y0, y1⟩ := hy
  obtain ⟨z0, z1⟩ := hz
  obtain ⟨u1, u2, u3, u4⟩ := square_z x y z
  go_enter Tryz.func99, Tryz.ntmps99
  go_wp2_with fail
  go_region_held3 (fun w' => w'.cell? ⟨w.heap.size, 0, none⟩ = some (.int .i64 x) ∧ w'.cell? ⟨w.heap.size, 1, none⟩ = some (.int .i64 y) ∧ w'.cell? ⟨w.heap.size, 2, none⟩ = some (.int .i64 z) ∧ Ge w w') (exact ⟨by simp, by simp, by simp, kge⟩)
    (first | (go_at_call 6; ((with_reducible refine (iFormatInt _ _ (by assumption) (by assumption)).mono ?_); rintro e w' ⟨rfl, rfl⟩)) | fail)
  go_wp2_with fail
  go_ret
  exact ⟨ret_str (squareTxt_eq _ _ _), kge⟩

end Go.Proofs.YtagiecajffhnpaaGreat
