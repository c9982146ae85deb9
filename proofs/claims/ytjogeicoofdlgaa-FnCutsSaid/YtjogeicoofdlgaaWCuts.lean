/- FnCuts, walked. No condition. -/
import Derived.Test.YtjogeicoofdlgaaWCutS
import Derived.Test.YtjogeicoofdlgaaPlCuts
import Derived.Test.YtjogeicoofdlgaaWTerms
import Derived.Test.YtjogeicoofdlgaaWTile2
import Derived.Test.YtjogeicoofdlgaaWTile5
import Derived.Test.YtjogeicoofdlgaaWCur
namespace Go.Proofs.Ytjogeicoofdlgaa
set_option maxRecDepth 100000
open Go.ChangeShapes Go.WideShapes Go.ChangeAt Go.RowKit Go.Joins

theorem tmod40 {x : Int} (hx : 0 ≤ x) : 0 ≤ x.tmod 40 ∧ x.tmod 40 ≤ 39 := by
  rw [Int.tmod_eq_emod_of_nonneg hx]; omega
theorem cutX_in {w h : Nat} (hw : w ≤ 200) (hh : h ≤ 200) (n : Nat) : ∀ j, -9223372036854775808 ≤ nth (cutX w h n) j ∧ nth (cutX w h n) j ≤ 9223372036854775807 := fun j => by
  have key : ∀ n, ∀ x ∈ cutX w h n, 0 ≤ x ∧ x ≤ 400 := fun n => by
    induction n with
    | zero => intro x hx; simp [cutX] at hx
    | succ n ih =>
      intro x hx
      rw [cutX_succ] at hx
      obtain ⟨b1, b2⟩ := stC_bd hw hh n
      rcases List.mem_append.1 hx with hx | hx
      · exact ih x hx
      · simp only [List.mem_cons, List.not_mem_nil, or_false] at hx
        rcases hx with rfl | rfl | rfl <;> omega
  unfold nth
  by_cases hj : j < (cutX w h n).length
  · rw [List.getD_eq_getElem?_getD, List.getElem?_eq_getElem hj]
    have := key n _ (List.getElem_mem hj)
    simp only [Option.getD_some]
    omega
  · rw [List.getD_eq_getElem?_getD, List.getElem?_eq_none (by omega)]
    simp

theorem capN {w : World} {base : Nat} {e : TypeId} {sz : Nat} {v : Value} {n : Nat} {xs : List Value} (h : w.ownsRow base e sz v n xs) : ∀ p c, v = .slice p n c → n ≤ c := by
  rintro p c rfl
  rcases h.2 with ⟨h1, h2⟩ | ⟨g, cap, cur, h1, _, _, h2, _⟩
  · simp only [Value.slice.injEq] at h1; omega
  · simp only [Value.slice.injEq] at h1; omega
set_option maxHeartbeats 3200000 in
theorem lFnCuts (p : Option Addr) (n0 cap : Nat) (w : World) (hb : SlB w p n0) (hm0 : n0 ≤ 9223372036854775807) : Calls Try.prog 4 #[.slice p n0 cap] w fun e w' => e = .returned (.bool true) ∧ Ge w w' := by
  by_cases hbig : 1048576 < n0
  · clear hb
    go_enter Try.func4, Try.ntmps4
    go_wp2_with fail
    go_ret
    exact ⟨rfl, Ge.refl _⟩
  have hn0 : n0 ≤ 1048576 := by omega
  have HB := Lib.hid hb
  clear hb hm0
  go_enter Try.func4, Try.ntmps4
  go_upto_region 5 with (first
    | ((go_at_call 12; ((with_reducible refine (sMakeNum _ _ _ _ _ HB.out hn0 (by omega)).mono ?_); rintro e w1 ⟨x, rfl, x0, x1, g1⟩)); have tx := tmod40 x0; have HB1 := Lib.hid (HB.out.ge g1); clear HB)
    | ((go_at_call 12; ((with_reducible refine (sMakeNum _ _ _ _ _ HB1.out hn0 (by omega)).mono ?_); rintro e w2 ⟨y, rfl, y0, y1, g2⟩)); have ty := tmod40 y0))
  have G12 := Lib.hid (g1.trans g2)
  have hx : 1 ≤ 1 + x % 40 ∧ 1 + x % 40 ≤ 40 := by omega
  have hy : 1 ≤ 1 + y % 40 ∧ 1 + y % 40 ≤ 40 := by omega
  generalize 1 + x % 40 = A at *
  generalize 1 + y % 40 = B at *
  obtain ⟨a, rfl⟩ : ∃ a : Nat, A = a := ⟨A.toNat, by omega⟩
  obtain ⟨b, rfl⟩ : ∃ b : Nat, B = b := ⟨B.toNat, by omega⟩
  have hc := cut_one (w := a) (h := b) (by omega) (by omega)
  have HCu := Lib.hid (fun w' => iCountUnits (a : Int) (b : Int) w')
  have HCt := Lib.hid (fun w' => iCut (a : Int) (b : Int) w')
  rw [cutO_t (a := a) (b := b) (by omega) (by omega)] at HCt
  have hin := fun n => cutX_in (w := a) (h := b) (by omega) (by omega) n
  clear tx ty x0 x1 y0 y1 HB1 g1 g2
  cases hR : cutR a b with
  | none =>
    have hk := cut_none hc hR
    rw [hR] at HCt
    have HC2 : Hid (∀ w', Calls Try.prog 8 #[.int .i64 (a : Int), .int .i64 (b : Int)] w' fun e w'' => e = .returned (.tuple #[.slice none 0 0, .bool false]) ∧ Ge w' w'') := HCt.out
    generalize countUnits (a : Int) (b : Int) = K at *
    clear hin hc hR HCt
    have t1 : decide (K < 1) = false := decide_eq_false (by omega)
    have t2 : decide (K ≤ 12) = false := decide_eq_false (by omega)
    go_wp2_with (first
      | ((go_at_call 13; ((with_reducible refine (HCu.out _).mono ?_); rintro e w3 ⟨rfl, g3⟩)))
      | ((go_at_call 8; ((with_reducible refine (HC2.out _).mono ?_); rintro e w4 ⟨rfl, g4⟩))))
    go_ret
    exact ⟨rfl, G12.out.trans (g3.trans g4)⟩
  | some n =>
    obtain ⟨hk, hT, hr, hl⟩ := cut_some hc hR
    have n1 := hT.1
    have n12 := hT.2.1
    rw [hR] at HCt
    have hB := tileB_true hT
    have hb := hin n
    have hW := widthQ_t hB
    have hH := heightQ_t hB
    rw [hr] at hW
    rw [hl] at hH
    have HC2 : Hid (∀ w', Calls Try.prog 8 #[.int .i64 (a : Int), .int .i64 (b : Int)] w' fun e w'' => (∃ v, e = .returned (.tuple #[v, .bool true]) ∧ w''.ownsRow w'.heap.size 52 3 v n (icells (cutX a b n))) ∧ Ge w' w'') := fun w' => (HCt.out w').mono (fun e w'' h => h)
    have HTi := Lib.hid (fun (v : Value) (w' : World) (h : SlF w' v n 3 (cutX a b n)) hc => iTilingOk v n (cutX a b n) w' h (by omega) hb hc)
    rw [hB] at HTi
    have HWi := Lib.hid (fun (v : Value) (w' : World) (h : SlF w' v n 3 (cutX a b n)) hc => iWidthOf v n (cutX a b n) w' h (by omega) hb hc)
    rw [hW] at HWi
    have HHe := Lib.hid (fun (v : Value) (w' : World) (h : SlF w' v n 3 (cutX a b n)) hc => iHeightOf v n (cutX a b n) w' h (by omega) hb hc)
    rw [hH] at HHe
    rw [← hk] at HCu
    clear hin hc hR HCt hT hr hl hb hB hW hH hk
    generalize cutX a b n = L at *
    have t1 : decide ((n : Int) < 1) = false := decide_eq_false (by omega)
    have t2 : decide ((n : Int) ≤ 12) = true := decide_eq_true (by omega)
    go_wp2_with (first
      | ((go_at_call 13; ((with_reducible refine (HCu.out _).mono ?_); rintro e w3 ⟨rfl, g3⟩)))
      | ((go_at_call 8; ((with_reducible refine (HC2.out _).mono ?_); rintro e w4 ⟨⟨v, rfl, o4⟩, g4⟩)); obtain ⟨gq, cq, rfl⟩ := Go.Joins.ownsRow_form o4 (by omega); have O4 := Lib.hid o4; clear o4)
      | ((go_at_call 14; ((with_reducible refine (HTi.out _ _ (SlF.of_owns O4.out) (capN O4.out)).mono ?_); rintro e w5 ⟨rfl, g5⟩)))
      | ((go_at_call 15; ((with_reducible refine (HWi.out _ _ (SlF.of_owns (g5.owns O4.out)) (capN O4.out)).mono ?_); rintro e w6 ⟨rfl, g6⟩)))
      | ((go_at_call 16; ((with_reducible refine (HHe.out _ _ (SlF.of_owns (g6.owns (g5.owns O4.out))) (capN O4.out)).mono ?_); rintro e w7 ⟨rfl, g7⟩))))
    go_ret
    exact ⟨rfl, G12.out.trans (g3.trans (g4.trans (g5.trans (g6.trans g7))))⟩
end Go.Proofs.Ytjogeicoofdlgaa
