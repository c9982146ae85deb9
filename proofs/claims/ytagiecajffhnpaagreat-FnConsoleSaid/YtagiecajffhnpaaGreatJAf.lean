/- FormatRatio of impl and of spec. No condition. Join of spec. No condition. FormatRow of impl and of spec. No condition. Plain law: the response of a network by minors; entries of the Laplacian. No program in sight. The nodes that are no terminals; appending to a row of one. No condition. The neighbors of a node: WiresAt of impl, l07Near of the reference; the first node with a number of neighbors. No condition. The first node that is no terminal and has a number of neighbors. No condition. Plain law: a node taken out of a valid network; steps of it. No program in sight. -/
import Derived.Test.YtagiecajffhnpaaGreatJAc
import Derived.Test.YtagiecajffhnpaaGreatWFmt
import Derived.Test.YtagiecajffhnpaaGreatWStr
import Derived.Test.YtagiecajffhnpaaGreatWLaw
import Derived.Test.YtagiecajffhnpaaGreatWFlat
import Derived.Test.YtagiecajffhnpaaGreatJAe
import Derived.Test.YtagiecajffhnpaaGreatJAb
import Derived.Test.YtagiecajffhnpaaGreatJAd
import Derived.Maps.AppendAt
namespace Go.Proofs.YtagiecajffhnpaaGreat
set_option maxRecDepth 100000
open Go.ChangeShapes Go.WideShapes Go.ChangeAt Go.RowKit Go.Joins

def ratioTxt (n d : Int) : List UInt8 := if ratioOk n d = true then (if d = 1 then fmtInt n else fmtInt n ++ [47] ++ fmtInt d) else []
theorem ratioTxt_le (n d : Int) : (ratioTxt n d).length ≤ 45 := by
  have := fmtInt_length n; have := fmtInt_length d
  unfold ratioTxt
  repeat' split
  all_goals simp
  all_goals omega
theorem ratioTxt_1 {n d : Int} (h : ratioOk n d = true) (h1 : d = 1) : bstr (fmtInt n) = bstr (ratioTxt n d) := by simp [ratioTxt, h, h1]; rw [h1] at h; simp [h]
theorem ratioTxt_2 {n d : Int} (h : ratioOk n d = true) (h1 : ¬ d = 1) : bstr (fmtInt n) ++ (⟨#[47]⟩ : ByteArray) ++ bstr (fmtInt d) = bstr (ratioTxt n d) := by
  rw [show (⟨#[47]⟩ : ByteArray) = bstr [47] from rfl, bstr_append, bstr_append]; simp [ratioTxt, h, h1]
theorem ratioTxt_0 {n d : Int} (h : ratioOk n d = false) : (⟨#[]⟩ : ByteArray) = bstr (ratioTxt n d) := by simp [ratioTxt, h, bstr]
theorem ratio_sm {n d : Int} (h : ratioOk n d = true) : (-9223372036854775808 ≤ n ∧ n ≤ 9223372036854775807) ∧ (-9223372036854775808 ≤ d ∧ d ≤ 9223372036854775807) := by
  have := ratioOk_iff.1 h; omega

set_option maxHeartbeats 1600000 in
theorem iFormatRatio (n d : Int) (w : World) :
    Calls Tryz.prog 51 #[.agg #[.int .i64 n, .int .i64 d]] w fun e w' => e = .returned (.string (bstr (ratioTxt n d))) ∧ Ge w w' := by
  cases c : ratioOk n d with
  | false =>
    have HF := Lib.hid (ratioTxt_0 c)
    go_enter Tryz.func51, Tryz.ntmps51
    go_wp2_with (go_at_call 82; ((with_reducible refine (iRatioOk _ _ _).mono ?_); rintro e w1 ⟨rfl, gw1⟩); have Gw1 : Ge w w1 := (Ge.trans (kge) gw1); have c0_0 : World.cell? w1 ⟨w.heap.size, 0, none⟩ = some (.int .i64 n) := Ge.keep gw1 kcell; have c0_1 : World.cell? w1 ⟨w.heap.size, 1, none⟩ = some (.int .i64 d) := Ge.keep gw1 kcell; have zw1 : w.heap.size + 1 ≤ w1.heap.size := (by have := Ge.size gw1; (try simp at this); omega))
    go_ret
    exact ⟨ret_str HF.out, kge⟩
  | true =>
    have hs := ratio_sm c
    have H0 := Lib.hid hs.1
    have H1 := Lib.hid hs.2
    clear hs
    have z1 : ¬ (9223372036854775807 < (bstr (fmtInt n)).size + 1) := by rw [bstr_size]; have := fmtInt_length n; omega
    have z2 : ¬ (9223372036854775807 < (bstr (fmtInt n)).size + 1 + (bstr (fmtInt d)).size) := by rw [bstr_size, bstr_size]; have := fmtInt_length n; have := fmtInt_length d; omega
    by_cases h1 : d = 1
    · have HF := Lib.hid (ratioTxt_1 c h1)
      have t1 : (d == 1) = true := by simp [h1]
      clear h1
      go_enter Tryz.func51, Tryz.ntmps51
      go_wp2_with (first | (go_at_call 82; ((with_reducible refine (iRatioOk _ _ _).mono ?_); rintro e w1 ⟨rfl, gw1⟩); have Gw1 : Ge w w1 := (Ge.trans (kge) gw1); have c0_0 : World.cell? w1 ⟨w.heap.size, 0, none⟩ = some (.int .i64 n) := Ge.keep gw1 kcell; have c0_1 : World.cell? w1 ⟨w.heap.size, 1, none⟩ = some (.int .i64 d) := Ge.keep gw1 kcell; have zw1 : w.heap.size + 1 ≤ w1.heap.size := (by have := Ge.size gw1; (try simp at this); omega)) | (go_at_call 6; ((with_reducible refine (iFormatInt _ _ H0.out.1 H0.out.2).mono ?_); rintro e w' ⟨rfl, rfl⟩)))
      go_ret
      exact ⟨ret_str HF.out, kge⟩
    · have HF := Lib.hid (ratioTxt_2 c h1)
      have t1 : (d == 1) = false := by simp [h1]
      clear h1
      go_enter Tryz.func51, Tryz.ntmps51
      go_wp2_with ((go_at_call 82; ((with_reducible refine (iRatioOk _ _ _).mono ?_); rintro e w1 ⟨rfl, gw1⟩); have Gw1 : Ge w w1 := (Ge.trans (kge) gw1); have c0_0 : World.cell? w1 ⟨w.heap.size, 0, none⟩ = some (.int .i64 n) := Ge.keep gw1 kcell; have c0_1 : World.cell? w1 ⟨w.heap.size, 1, none⟩ = some (.int .i64 d) := Ge.keep gw1 kcell; have zw1 : w.heap.size + 1 ≤ w1.heap.size := (by have := Ge.size gw1; (try simp at this); omega)))
      have hS : ∀ w', Ge w1 w' → (w'.cell? ⟨w.heap.size, 0, none⟩ = some (.int .i64 n) ∧ w'.cell? ⟨w.heap.size, 1, none⟩ = some (.int .i64 d) ∧ Ge w1 w') := fun w' g => ⟨g.keep (kch), g.keep (kch), Ge.trans (kch) g⟩
      go_region_held3 (fun w' => w'.cell? ⟨w.heap.size, 0, none⟩ = some (.int .i64 n) ∧ w'.cell? ⟨w.heap.size, 1, none⟩ = some (.int .i64 d) ∧ Ge w1 w') (first | ((with_reducible refine hS _ ?_); exact kch) | fail) (first | (go_at_call 6; ((with_reducible refine (iFormatInt _ _ (by first | exact H0.out.1 | exact H1.out.1) (by first | exact H0.out.2 | exact H1.out.2)).mono ?_); rintro e w' ⟨rfl, rfl⟩)) | fail)
      rename_i hHeldX
      obtain ⟨q0, q1, G2⟩ := hHeldX
      clear hS
      go_wp2_with fail
      go_ret
      exact ⟨ret_str HF.out, kge⟩

end Go.Proofs.YtagiecajffhnpaaGreat

namespace Go.Proofs.YtagiecajffhnpaaGreat
set_option maxRecDepth 100000
open Go.ChangeShapes Go.WideShapes Go.ChangeAt Go.RowKit Go.Joins

end Go.Proofs.YtagiecajffhnpaaGreat

namespace Go.Proofs.YtagiecajffhnpaaGreat
set_option maxRecDepth 100000
open Go.ChangeShapes Go.WideShapes Go.ChangeAt Go.RowKit Go.Joins

def rTxts (xs : List Int) (k : Nat) : List (List UInt8) := (List.range k).map fun j => ratioTxt (nth xs (j * 2)) (nth xs (j * 2 + 1))
theorem rTxts_succ (xs : List Int) (k : Nat) : rTxts xs (k + 1) = rTxts xs k ++ [ratioTxt (nth xs (k * 2)) (nth xs (k * 2 + 1))] := by simp [rTxts, List.range_succ]
theorem rTxts_length (xs : List Int) (k : Nat) : (rTxts xs k).length = k := by simp [rTxts]
theorem rTxts_join (xs : List Int) (k : Nat) : (Lib.join (rTxts xs k) [32]).length ≤ 46 * k := by
  have h := join_le [32] (rTxts xs k) 45 (fun x hx => by
    simp only [rTxts, List.mem_map] at hx
    obtain ⟨j, _, rfl⟩ := hx
    exact ratioTxt_le _ _)
  rwa [rTxts_length] at h
def rowGood (xs : List Int) (j : Nat) : Prop := ratioOk (nth xs (j * 2)) (nth xs (j * 2 + 1)) = true
def rowOk (n : Nat) (xs : List Int) : Bool := (List.range n).all fun j => ratioOk (nth xs (j * 2)) (nth xs (j * 2 + 1))
theorem rowOk_t {n : Nat} {xs : List Int} (h : ∀ j, j < n → rowGood xs j) : rowOk n xs = true := by
  simp only [rowOk, List.all_eq_true, List.mem_range]; exact h
theorem rowOk_f {n : Nat} {xs : List Int} {j : Nat} (hj : j < n) (h : ratioOk (nth xs (j * 2)) (nth xs (j * 2 + 1)) = false) : rowOk n xs = false := by
  cases c : rowOk n xs with
  | false => rfl
  | true =>
    simp only [rowOk, List.all_eq_true, List.mem_range] at c
    rw [c j hj] at h; cases h
def rowLine (n : Nat) (xs : List Int) : List UInt8 := if rowOk n xs = true then (if n = 0 then [110, 111, 110, 101] else Lib.join (rTxts xs n) [32]) else []
theorem rowLine_f {n : Nat} {xs : List Int} (h : rowOk n xs = false) : (⟨#[]⟩ : ByteArray) = bstr (rowLine n xs) := by simp [rowLine, h, bstr]
theorem rowLine_0 {n : Nat} {xs : List Int} (h : n = 0) : bstr (rowLine n xs) = ⟨#[110, 111, 110, 101]⟩ := by
  subst h; simp [rowLine, rowOk, bstr]
theorem rowLine_s {n : Nat} {xs : List Int} (hok : rowOk n xs = true) (h : ¬ n = 0) : bstr (rowLine n xs) = bstr (Lib.join (rTxts xs n) [32]) := by simp [rowLine, h, hok]
theorem rowLine_le (n : Nat) (xs : List Int) : (rowLine n xs).length ≤ 46 * n + 4 := by
  have := rTxts_join xs n
  unfold rowLine
  repeat' split
  all_goals simp
  all_goals omega
theorem good_row {xs : List Int} {k : Nat} (h : Hid (∀ i, i < k → rowGood xs i)) (hk : ratioOk (nth xs (k * 2)) (nth xs (k * 2 + 1)) = true) : Hid (∀ i, i < k + 1 → rowGood xs i) := fun i hi => by
  by_cases e : i = k
  · subst e; exact hk
  · exact h.out i (by omega)

set_option maxHeartbeats 1600000 in
theorem iFormatRow (v : Value) (n : Nat) (xs : List Int) (w : World) (hv : SlF w v n 2 xs) (hm : n ≤ 1048576) (hb : ∀ j, -9223372036854775808 ≤ nth xs j ∧ nth xs j ≤ 9223372036854775807) :
    Calls Tryz.prog 46 #[v] w fun e w' => e = .returned (.string (bstr (rowLine n xs))) ∧ Ge w w' := by
  obtain ⟨p, cap, rfl, hc⟩ := hv.open
  have HC := Lib.hid hc
  clear hv hc hb
  go_enter Tryz.func46, Tryz.ntmps46
  go_wp2_with fail
  go_loopw [3, 9] (fun s i wr => ∃ k : Nat, k ≤ n ∧ i = .int .i64 k ∧ wr.ownsRow w.heap.size 9 1 s (rTxts xs k).length (scells (rTxts xs k)) ∧ Hid (∀ j, j < k → rowGood xs j) ∧ Ge w wr) (fun _ i _ => n - (intOf i).toNat)
  case atStart => exact ⟨0, Nat.zero_le _, rfl, owns_lit0 _ _ _, fun j hj => by omega, kge⟩
  case round =>
    obtain ⟨k, hk, rfl, hown, HG, hg⟩ := hrel
    by_cases hlt : k < n
    · obtain ⟨b, o, rfl, x0, x1⟩ := two_cells HC.out hlt
      have y0 := hg.keep x0
      have y1 := hg.keep x1
      clear x0 x1
      cases c : ratioOk (nth xs (k * 2)) (nth xs (k * 2 + 1)) with
      | false =>
        have HF := Lib.hid (rowLine_f (rowOk_f hlt c))
        generalize nth xs (k * 2) = X at *
        generalize nth xs (k * 2 + 1) = Y at *
        go_wp2_with ((go_at_call 82; ((with_reducible refine (iRatioOk _ _ _).mono ?_); rintro e w4 ⟨rfl, g4⟩)))
        go_ret
        exact ⟨ret_str HF.out, kge⟩
      | true =>
        have HG2 := Lib.hid (good_row HG c)
        have HL : Hid ((rTxts xs k).length < 1099511627776) := by
          show _ < _
          rw [rTxts_length]; omega
        have HS : Hid (rTxts xs k ++ [ratioTxt (nth xs (k * 2)) (nth xs (k * 2 + 1))] = rTxts xs (k + 1)) := (rTxts_succ _ _).symm
        generalize rTxts xs k = L at *
        generalize nth xs (k * 2) = X at *
        generalize nth xs (k * 2 + 1) = Y at *
        go_wp2_with (first
          | (go_at_call 82; ((with_reducible refine (iRatioOk _ _ _).mono ?_); rintro e w4 ⟨rfl, g4⟩; have q0 := Ge.keep g4 (cell_new (i := 0) rfl rfl); have q1 := Ge.keep g4 (cell_new (i := 1) rfl rfl)))
          | (go_at_call 51; ((with_reducible refine (iFormatRatio _ _ _).mono ?_); rintro e w5 ⟨rfl, g5⟩; have own2 := Ge.owns (g4.trans g5) (hown.alloc _); have G5 : Ge w w5 := Ge.trans (Ge.alloc hg _) (g4.trans g5); have Z5 := G5.size))
          | (at_builtin; refine ap_str rfl _ _ rfl w.heap.size u3 L rfl own2 _ rfl HL.out Z5 ?_; intro v' w6 own6 hm6))
        go_roundw
        case rel => exact ⟨k + 1, by omega, by go_num, by have := own6; rwa [HS.out] at this, HG2.out, G5.mine own2 (Nat.le_refl _) hm6⟩
        case measure => simp [intOf]; omega
    · have hkn : k = n := by omega
      subst hkn
      have hown' := hown
      rw [rTxts_length] at hown
      have hok := rowOk_t HG.out
      have H1 : Hid ((rTxts xs k).length ≤ 140737488355328) := by
        show _ ≤ _
        rw [rTxts_length]; omega
      have H2 : Hid ((Lib.join (rTxts xs k) [32]).length ≤ 140737488355328) := by
        show _ ≤ _
        have := rTxts_join xs k; omega
      obtain ⟨p3, c3, rfl⟩ := owns_form hown
      by_cases hz : k = 0
      · have HF := Lib.hid (rowLine_0 (xs := xs) hz)
        have tz : ((k : Int) == 0) = true := by simp [hz]
        clear hz hown' hok
        go_wp2_with fail
        go_ret
        exact ⟨ret_str (by rw [HF.out]), kge⟩
      · have HF := Lib.hid (rowLine_s hok hz)
        have tz : ((k : Int) == 0) = false := by simp [hz]
        have hJ : Calls Tryz.prog 12 #[.slice p3 k c3, .string ⟨#[32]⟩] wr fun en w' => en = .returned (.string (bstr (Lib.join (rTxts xs k) [32]))) ∧ Ge wr w' := iJoin w.heap.size 9 (.slice p3 k c3) (rTxts xs k) [32] _ hown' H1.out H2.out
        clear hz hown' hok
        go_wp2_with ((go_at_call 12; ((with_reducible refine (hJ).mono ?_); rintro e w5 ⟨rfl, g5⟩)))
        go_ret
        exact ⟨ret_str (by rw [HF.out]), kge⟩

end Go.Proofs.YtagiecajffhnpaaGreat

namespace Go.Proofs.YtagiecajffhnpaaGreat

open Go.RowKit

theorem sum_le {n : Nat} {xs : List Int} {m : Nat} (h : ∀ k, k < m → goodW n xs k) {v : Int} (h0 : 0 ≤ v) : ∀ k : Nat, 0 ≤ sumTo (fun (u : Nat) => wbet xs m v u) k ∧ sumTo (fun (u : Nat) => wbet xs m v u) k ≤ 200 * (k : Int) - (if v < k then 200 else 0)
  | 0 => by simp only [sumTo]; rw [if_neg (by omega)]; decide
  | k + 1 => by
    have ih := sum_le h h0 k
    have hb := wbet_bd h v (k : Int)
    simp only [sumTo]
    by_cases e : v = (k : Int)
    · have hz : wbet xs m v (k : Int) = 0 := by rw [e]; exact wbet_none (wfind_self h _)
      rw [if_neg (by omega)] at ih
      rw [if_pos (by omega), hz]
      omega
    · by_cases c : v < (k : Int)
      · rw [if_pos c] at ih
        rw [if_pos (by omega)]
        omega
      · rw [if_neg c] at ih
        rw [if_neg (by omega)]
        omega
theorem wat_no {n : Nat} {xs : List Int} {v : Int} (hv : ¬ (0 ≤ v ∧ v < n)) : ∀ {m : Nat}, (∀ k, k < m → goodW n xs k) → wat xs v m = 0
  | 0, _ => rfl
  | m + 1, h => by
    obtain ⟨q0, q1, q2, _, _⟩ := (h m (by omega)).1
    simp only [wat]
    rw [wat_no hv (m := m) (fun k hk => h k (by omega)), if_neg (by omega)]; rfl
theorem lapZ_800 {n : Nat} {xs : List Int} {m : Nat} (hn : n ≤ 5) (h : ∀ k, k < m → goodW n xs k) (a b : Int) : absB (lapZ xs m a b) 800 := by
  have h1 := wbet_bd h a b
  unfold lapZ absB
  by_cases e : a = b
  · rw [if_pos e]
    by_cases c : 0 ≤ a ∧ a < n
    · have h2 := sum_le h c.1 n
      rw [wat_sum c.1 c.2 h, if_pos c.2] at h2
      omega
    · rw [wat_no c h]; omega
  · rw [if_neg e]; omega
/-- The first k nodes from e on. -/
def innZ (e k : Nat) : List Int := mapR k (fun t => ((e + t : Nat) : Int))
theorem innZ_snoc (e k : Nat) : innZ e (k + 1) = innZ e k ++ [((e + k : Nat) : Int)] := by simp [innZ, mapR, List.range_succ]
theorem innZ_length (e k : Nat) : (innZ e k).length = k := mapR_length _ _
theorem innZ_below {e n : Nat} (he : e ≤ n) : ∀ x ∈ innZ e (n - e), below n x := fun x hx => by
  simp only [innZ, mapR, List.mem_map, List.mem_range] at hx
  obtain ⟨t, ht, rfl⟩ := hx
  exact ⟨by omega, by omega⟩
def topZ (n e m : Nat) (xs : List Int) (a b : Nat) : Int := detF (lapZ xs m) ((a : Int) :: innZ e (n - e)) ((b : Int) :: innZ e (n - e))
def dwnZ (n e m : Nat) (xs : List Int) : Int := detF (lapZ xs m) (innZ e (n - e)) (innZ e (n - e))
theorem top_bd {n e m : Nat} {xs : List Int} (hn : n ≤ 5) (h : ∀ k, k < m → goodW n xs k) (h1 : 1 ≤ e) (he : e ≤ n) (a b : Nat) : -1024000000000000000 ≤ topZ n e m xs a b ∧ topZ n e m xs a b ≤ 1024000000000000000 := by
  have hl := innZ_length e (n - e)
  have h1 := detF_bdE (lapZ_800 hn h) ((a : Int) :: innZ e (n - e)) ((b : Int) :: innZ e (n - e)) (by simp only [List.length_cons]; omega)
  have h2 := detE_le (k := ((a : Int) :: innZ e (n - e)).length) (by simp only [List.length_cons]; omega)
  unfold absB at h1
  unfold topZ
  omega
theorem dwn_bd {n e m : Nat} {xs : List Int} (hn : n ≤ 5) (h : ∀ k, k < m → goodW n xs k) (h1 : 1 ≤ e) : -256000000000000 ≤ dwnZ n e m xs ∧ dwnZ n e m xs ≤ 256000000000000 := by
  have hl := innZ_length e (n - e)
  have h3 := detF_bdE (lapZ_800 hn h) (innZ e (n - e)) (innZ e (n - e)) (by omega)
  have h2 : detE (innZ e (n - e)).length ≤ 256000000000000 := by
    rw [hl]
    have : n - e = 0 ∨ n - e = 1 ∨ n - e = 2 ∨ n - e = 3 ∨ n - e = 4 := by omega
    rcases this with h | h | h | h | h <;> rw [h] <;> decide
  unfold absB at h3
  unfold dwnZ
  omega
theorem sdwn_bd {n e m : Nat} {xs : List Int} {S : Int} (hn : n ≤ 5) (h : ∀ k, k < m → goodW n xs k) (h1 : 1 ≤ e) (s1 : 1 ≤ S) (s2 : S ≤ 1000) : -256000000000000000 ≤ S * dwnZ n e m xs ∧ S * dwnZ n e m xs ≤ 256000000000000000 := by
  have := dwn_bd hn h h1
  have := mul_bd (u := S) (f := dwnZ n e m xs) (A := 1000) (B := 256000000000000) (by omega) s2 this.1 this.2 (by decide)
  omega
/-- An entry of the response. -/
noncomputable def respQ (n e m : Nat) (S : Int) (xs : List Int) (a b : Nat) : Rt := ratioOf (topZ n e m xs a b) (S * dwnZ n e m xs)
/-- The first k entries of a row. -/
noncomputable def respL (n e m : Nat) (S : Int) (xs : List Int) (a : Nat) : Nat → List Int
  | 0 => []
  | k + 1 => respL n e m S xs a k ++ [(respQ n e m S xs a k).n, (respQ n e m S xs a k).d]
end Go.Proofs.YtagiecajffhnpaaGreat

namespace Go.Proofs.YtagiecajffhnpaaGreat
set_option maxRecDepth 100000
open Go.ChangeShapes Go.WideShapes Go.ChangeAt Go.RowKit Go.Joins

theorem owns_cons {w : World} {b base : Nat} {y : Int} (hb : b = w.heap.size) (h : base ≤ b) : (w.alloc (.cells #[.int .i64 y] 3)).ownsRow base 3 1 (.slice (some ⟨b, 0, none⟩) 1 1) 1 (icells [y]) := by
  subst hb
  exact ⟨rfl, .inr ⟨w.heap.size, 1, _, rfl, h, heap_alloc_new w _, Nat.le_refl _, by unfold maxLen; omega, rfl, rfl⟩⟩
/-- append([]int{y}, l...): where the new row lies. -/
theorem ap_lit {w : World} {o : Oper} {a : Act} {K : Act → World → Prop} {Q : Exit → Act → World → Prop} (s x : Operand)
    (ho : o.op = .call { callee := .builtin .append, args := #[s, x], argTypes := #[51, 51] })
    (b : Nat) (y : Int) (hs : a.eval s = .slice (some ⟨b, 0, none⟩) 1 1) (base : Nat) (hown : w.ownsRow base 3 1 (.slice (some ⟨b, 0, none⟩) 1 1) 1 (icells [y])) (hb : base ≤ w.heap.size)
    (ad : Addr) (k c : Nat) (l : List Int) (hx : a.eval x = .slice (some ad) k c) (hy : SlI w (.slice (some ad) k c) l) (hn : k < 900)
    (h : ∀ g c' w', w'.ownsRow base 3 1 (.slice (some ⟨g, 0, none⟩) (k + 1) c') (k + 1) (icells (y :: l)) → Mine w w' (.slice (some ⟨b, 0, none⟩) 1 1) → (g = b ∨ g = w.heap.size) → K (a.put o.dst (.slice (some ⟨g, 0, none⟩) (k + 1) c')) w') : o.wp Tryz.prog a w K Q := by
  obtain ⟨i, hi, e⟩ : ∃ i, Tryz.prog.info? 3 = some i ∧ (i.zero, i.size, i.bytes) = (some (.int .i64 0), 1, 8) := by
    have := inf_int
    cases hc : Tryz.prog.info? 3 with
    | none => rw [hc] at this; simp at this
    | some i => rw [hc] at this; exact ⟨i, rfl, by simpa using this⟩
  simp only [Prod.mk.injEq] at e
  obtain ⟨h1, p, c', he, hc⟩ := hy
  simp only [Value.slice.injEq] at he
  obtain ⟨rfl, hm, rfl⟩ := he
  obtain ⟨v', w', hr, h2, h3, h4, h5⟩ := run_append_own_at (P := Tryz.prog) w base 51 o.type 3 i _ 1 8 Tryz.underlying51 hi e.1 e.2.1 e.2.2 rfl (by decide) _ 1 (icells [y]) hown ad k c (icells l) (by rw [h1, hm]) (fun j u hu => by
      obtain ⟨b, o, e, hz⟩ := hc j u hu
      simp only [Option.some.injEq] at e
      subst e
      by_cases hj0 : j = 0
      · subst hj0; simpa [Addr.add] using hz
      · simpa [Addr.add, hj0] using hz) (fun u hu => by
      simp only [icells, List.mem_map] at hu
      obtain ⟨_, _, rfl⟩ := hu
      rfl) (by unfold maxLen; omega) (by omega) hb
  obtain ⟨g, c', rfl⟩ := Go.Joins.ownsRow_form h2 (by omega)
  have e1 : 1 + k = k + 1 := by omega
  have e2 : icells [y] ++ icells l = icells (y :: l) := by simp [icells]
  rw [e2, e1] at h2
  rw [e1] at hr
  unfold Oper.wp execOp
  simp only [ho, resolve, invoke, builtin, Sem.run_bind, Sem.run_pure, Result.andThen_ok, List.map_toArray, List.map_cons, List.map_nil, hs, hx, hr]
  refine h g c' w' h2 h3 ?_
  simp [Value.ownBlock] at h5
  exact h5

theorem iInner (n e : Nat) (S : Int) (s : Value) (w : World) (hs : s.oneCell' = true) (hn : n ≤ 5) (he : e ≤ n) :
    Calls Tryz.prog 113 #[.agg #[.int .i64 (n : Int), .int .i64 (e : Int), .int .i64 S, s]] w fun r w' => ∃ ad c, r = .returned (.slice (some ad) (n - e) c) ∧ n - e ≤ c ∧ SlI w' (.slice (some ad) (n - e) c) (innZ e (n - e)) ∧ Ge w w' := by
  go_enter Tryz.func113, Tryz.ntmps113
  go_wp2_with fail
  go_loopw [3, 4] (fun o i wr => ∃ (k : Nat) (ad : Addr) (c : Nat), k ≤ n - e ∧ i = .int .i64 ((e + k : Nat) : Int) ∧ o = .slice (some ad) k c ∧ wr.ownsRow (w.heap.size + 1) 3 1 (.slice (some ad) k c) (innZ e k).length (icells (innZ e k)) ∧ Ge (w.alloc (.cells #[.int .i64 (n : Int), .int .i64 (e : Int), .int .i64 S, s] 33)) wr) (fun _ i _ => n - (intOf i).toNat)
  case atStart => exact ⟨0, _, _, Nat.zero_le _, rfl, rfl, owns_lit1 _ _ _ _ (by simp), Ge.alloc (Ge.refl _) _⟩
  case round =>
    obtain ⟨k, ad, c, hk, rfl, rfl, hown, hg⟩ := hrel
    have c0 : wr.cell? ⟨w.heap.size, 0, none⟩ = some (.int .i64 (n : Int)) := hg.keep (cell_new (i := 0) rfl rfl)
    have zg := hg.size
    simp at zg
    by_cases hlt : k < n - e
    · have HS := Lib.hid (innZ_snoc e k)
      have hL : (innZ e k).length = k := innZ_length e k
      generalize innZ e k = L at *
      replace hL := Lib.hid hL
      have t : (((e + k : Nat) : Int) < (n : Int)) := by omega
      go_wp2_with (at_builtin; refine ap_int rfl _ _ rfl (w.heap.size + 1) _ L rfl hown _ rfl (by have := hL.out; omega) zg ?_; intro v' w6 own6 hm6; obtain ⟨g6, c6, rfl⟩ := Go.Joins.ownsRow_form own6 (by simp))
      go_roundw
      case rel =>
        have hl1 : (L ++ [(e : Int) + (k : Int)]).length = k + 1 := by simp [hL.out]
        have e1 : ((e + k : Nat) : Int) = (e : Int) + k := by omega
        rw [hl1] at own6
        exact ⟨k + 1, ⟨g6, 0, none⟩, c6, by omega, by go_num, by rw [hL.out], by rw [HS.out, e1, hl1]; exact own6, hg.mine hown (by simp) hm6⟩
      case measure => simp [intOf]; omega
    · have hkn : k = n - e := by omega
      subst hkn
      have HO := Lib.hid hown
      rw [innZ_length] at HO
      clear hown
      have t : ¬ (((e + (n - e) : Nat) : Int) < (n : Int)) := by omega
      have hcap := owns_cap HO.out (some ad) (n - e) c rfl
      go_wp2_with fail
      go_ret
      exact ⟨_, _, rfl, by omega, SlI.of_owns (by rw [innZ_length]; exact HO.out), kge⟩
end Go.Proofs.YtagiecajffhnpaaGreat

namespace Go.Proofs.YtagiecajffhnpaaGreat
set_option maxRecDepth 100000
open Go.ChangeShapes Go.WideShapes Go.ChangeAt Go.RowKit Go.Joins

/-- The neighbors of v below k. -/
def nearX (m : Nat) (xs : List Int) (v : Int) (k : Nat) : List Int := ((List.range k).map (fun (i : Nat) => (i : Int))).filter (fun x => decide (0 < wbet xs m v x))
theorem nearX_in {m : Nat} {xs : List Int} {v : Int} {k : Nat} (h : 0 < wbet xs m v k) : nearX m xs v (k + 1) = nearX m xs v k ++ [(k : Int)] := by simp [nearX, List.range_succ, h]
theorem nearX_out {m : Nat} {xs : List Int} {v : Int} {k : Nat} (h : ¬ 0 < wbet xs m v k) : nearX m xs v (k + 1) = nearX m xs v k := by simp [nearX, List.range_succ, h]
theorem nearX_len (m : Nat) (xs : List Int) (v : Int) (k : Nat) : (nearX m xs v k).length ≤ k := by
  refine Nat.le_trans (List.length_filter_le _ _) ?_
  simp

set_option maxHeartbeats 1600000 in
theorem iWiresAt (n : Nat) (E S : Int) (s : Value) (m : Nat) (xs : List Int) (v : Int) (w : World) (hs : SlF w s m 3 xs) (hB : netB n E S m xs = true) (hv0 : 0 ≤ v) (hv1 : v < n) :
    Calls Tryz.prog 73 #[.agg #[.int .i64 (n : Int), .int .i64 E, .int .i64 S, s], .int .i64 v] w fun e w' => ∃ v', e = .returned v' ∧ w'.ownsRow w.heap.size 3 1 v' (nearX m xs v n).length (icells (nearX m xs v n)) ∧ Ge w w' := by
  obtain ⟨⟨h1, h5⟩, _, _, hok, _⟩ := netP_of hB
  have hm : m ≤ 10 := prs_len (by omega) hok
  have HV := Lib.hid hs
  obtain ⟨p, cap, rfl, _⟩ := hs.open
  have HW := Lib.hid (fun (a b : Int) w' (g : Ge w w') => iWeightBetween n E S (.slice p m cap) m xs a b w' (HV.out.ge g) hm hok)
  have hbd := Lib.hid (fun (a b : Int) => wbet_bd hok a b)
  have HNo := Lib.hid (fun w' (g : Ge w w') => iNetOk n E S (.slice p m cap) m xs w' (HV.out.ge g) (by omega))
  rw [hB] at HNo
  have HNd := Lib.hid (fun w' => isNodeI n E S (.slice p m cap) v w' rfl)
  rw [nodeB_t ⟨hv0, hv1⟩] at HNd
  clear hs hok hB
  go_enter Tryz.func73, Tryz.ntmps73
  go_wp2_with (first
    | ((go_at_call 43; ((with_reducible refine (HNo.out _ (kge)).mono ?_); rintro e w1 ⟨rfl, g1⟩)); have b0 := Ge.keep g1 (cell_new (i := 0) rfl rfl); have b1 := Ge.keep g1 (cell_new (i := 1) rfl rfl); have b2 := Ge.keep g1 (cell_new (i := 2) rfl rfl); have b3 := Ge.keep g1 (cell_new (i := 3) rfl rfl); have z1 := g1.size; (simp at b0 b1 b2 b3 z1))
    | ((go_at_call 69; ((with_reducible refine (HNd.out _).mono ?_); rintro e w2 ⟨rfl, g2⟩)); have G2 := Ge.trans g1 g2; have b0 := Ge.keep g2 b0; have z2 := G2.size; (simp at z2); have zlt : w.heap.size < w2.heap.size := (by omega)))
  clear b0 b1 b2 b3
  go_loopw [5, 19] (fun o i wr => ∃ (k : Nat) (u : Value), k ≤ n ∧ i = .int .i64 k ∧ o = u ∧ wr.ownsRow (w.heap.size + 1) 3 1 u (nearX m xs v k).length (icells (nearX m xs v k)) ∧ Ge (w.alloc (.cells #[.int .i64 (n : Int), .int .i64 E, .int .i64 S, .slice p m cap] 33)) wr) (fun _ i _ => n - (intOf i).toNat)
  case atStart => exact ⟨0, _, Nat.zero_le _, rfl, rfl, owns_mono (owns_lit0 _ _ _) (by omega), Ge.alloc G2 _⟩
  case round =>
    obtain ⟨k, u, hk, rfl, rfl, hown, hg⟩ := hrel
    have b0 := Ge.keep hg (cell_new (i := 0) rfl rfl)
    have b1 := Ge.keep hg (cell_new (i := 1) rfl rfl)
    have b2 := Ge.keep hg (cell_new (i := 2) rfl rfl)
    have b3 := Ge.keep hg (cell_new (i := 3) rfl rfl)
    have zg := hg.size
    have gw : Ge w wr := Ge.trans (Ge.alloc (Ge.refl _) _) hg
    simp at b0 b1 b2 b3 zg
    by_cases hlt : k < n
    · have HO := Lib.hid hown
      have hL : (nearX m xs v k).length ≤ k := nearX_len m xs v k
      have hbk := hbd.out v k
      have HWk := Lib.hid (fun w' g => HW.out v k w' g)
      clear hown
      by_cases c : 0 < wbet xs m v k
      · have HN := Lib.hid (nearX_in c)
        generalize wbet xs m v k = X at *
        generalize nearX m xs v k = L at *
        replace hL := Lib.hid hL
        go_wp2_with (first
          | (go_at_call 75; ((with_reducible refine (HWk.out _ gw).mono ?_); rintro e w5 ⟨rfl, g5⟩; have own5 := g5.owns HO.out; have z5 := g5.size))
          | (at_builtin; refine ap_int rfl _ _ rfl (w.heap.size + 1) _ L rfl own5 _ rfl (by have := hL.out; omega) (by omega) ?_; intro v' w6 own6 hm6))
        go_roundw
        case rel => exact ⟨k + 1, _, by omega, by go_num, rfl, by rw [HN.out]; exact own6, (Ge.trans hg g5).mine own5 (by simp) hm6⟩
        case measure => simp [intOf]; omega
      · have HN := Lib.hid (nearX_out c)
        generalize wbet xs m v k = X at *
        go_wp2_with ((go_at_call 75; ((with_reducible refine (HWk.out _ gw).mono ?_); rintro e w5 ⟨rfl, g5⟩; have own5 := g5.owns HO.out)))
        go_roundw
        case rel => exact ⟨k + 1, _, by omega, by go_num, rfl, by rw [HN.out]; exact own5, Ge.trans hg g5⟩
        case measure => simp [intOf]; omega
    · have hkn : k = n := by omega
      subst hkn
      have HO := Lib.hid hown
      clear hown
      go_wp2_with fail
      go_ret
      exact ⟨_, rfl, owns_mono HO.out (by omega), gw⟩
end Go.Proofs.YtagiecajffhnpaaGreat

namespace Go.Proofs.YtagiecajffhnpaaGreat
set_option maxRecDepth 100000
open Go.ChangeShapes Go.WideShapes Go.ChangeAt Go.RowKit Go.Joins

/-- The first number from a on, of c, with q; -1 if there is none. -/
def firstQ (q : Nat → Bool) (a : Nat) : Nat → Int
  | 0 => -1
  | c + 1 => if q a = true then (a : Int) else firstQ q (a + 1) c
theorem firstQ_none {q : Nat → Bool} : ∀ {c a : Nat}, (∀ t, t < c → q (a + t) = false) → firstQ q a c = -1
  | 0, a, _ => rfl
  | c + 1, a, h => by
    have h0 := h 0 (by omega)
    rw [Nat.add_zero] at h0
    simp only [firstQ, h0]
    exact firstQ_none (fun t ht => by have := h (t + 1) (by omega); rwa [show a + 1 + t = a + (t + 1) by omega])
theorem firstQ_some {q : Nat → Bool} : ∀ {c a k : Nat}, (∀ t, t < k → q (a + t) = false) → k < c → q (a + k) = true → firstQ q a c = ((a + k : Nat) : Int)
  | 0, a, k, _, h, _ => by omega
  | c + 1, a, 0, _, _, h => by rw [Nat.add_zero] at h; simp [firstQ, h]
  | c + 1, a, k + 1, hn, hk, h => by
    have h0 := hn 0 (by omega)
    rw [Nat.add_zero] at h0
    simp only [firstQ, h0]
    have := firstQ_some (q := q) (c := c) (a := a + 1) (k := k) (fun t ht => by have := hn (t + 1) (by omega); rwa [show a + 1 + t = a + (t + 1) by omega]) (by omega) (by rwa [show a + 1 + k = a + (k + 1) by omega])
    rw [show a + (k + 1) = a + 1 + k by omega]
    exact this
def nodeQ (n m : Nat) (xs : List Int) (c : Nat) (v : Nat) : Bool := decide ((nearX m xs v n).length = c)
def firstN (n e m : Nat) (xs : List Int) (c : Nat) : Int := firstQ (nodeQ n m xs c) e (n - e)
theorem firstN_bd (n e m : Nat) (xs : List Int) (c : Nat) : firstN n e m xs c = -1 ∨ ((e : Int) ≤ firstN n e m xs c ∧ firstN n e m xs c < n ∧ ∃ v : Nat, firstN n e m xs c = v ∧ (nearX m xs v n).length = c) := by
  unfold firstN
  have key : ∀ (c' a : Nat), firstQ (nodeQ n m xs c) a c' = -1 ∨ ((a : Int) ≤ firstQ (nodeQ n m xs c) a c' ∧ firstQ (nodeQ n m xs c) a c' < ((a + c' : Nat) : Int) ∧ ∃ v : Nat, firstQ (nodeQ n m xs c) a c' = v ∧ (nearX m xs v n).length = c) := by
    intro c'
    induction c' with
    | zero => intro a; exact .inl rfl
    | succ c' ih =>
      intro a
      simp only [firstQ]
      by_cases h : nodeQ n m xs c a = true
      · rw [if_pos h]
        exact .inr ⟨by omega, by omega, a, rfl, by simpa [nodeQ] using h⟩
      · rw [if_neg h]
        rcases ih (a + 1) with h | ⟨h1, h2, h3⟩
        · exact .inl h
        · exact .inr ⟨by omega, by omega, h3⟩
  rcases key (n - e) e with h | ⟨h1, h2, h3⟩
  · exact .inl h
  · by_cases he : e ≤ n
    · exact .inr ⟨h1, by omega, h3⟩
    · omega

set_option maxHeartbeats 1600000 in
theorem iFirst (n e : Nat) (S : Int) (s : Value) (m : Nat) (xs : List Int) (c : Nat) (w : World) (hs : SlF w s m 3 xs) (hB : netB n e S m xs = true) :
    Calls Tryz.prog 108 #[.agg #[.int .i64 (n : Int), .int .i64 (e : Int), .int .i64 S, s], .int .i64 (c : Int)] w fun r w' => r = .returned (.int .i64 (firstN n e m xs c)) ∧ Ge w w' := by
  obtain ⟨⟨h1, h5⟩, ⟨e1, e2⟩, _, hok, _⟩ := netP_of hB
  have hm : m ≤ 10 := prs_len (by omega) hok
  have HV := Lib.hid hs
  obtain ⟨p, cap, rfl, _⟩ := hs.open
  have HNo := Lib.hid (fun w' (g : Ge w w') => iNetOk n e S (.slice p m cap) m xs w' (HV.out.ge g) (by omega))
  rw [hB] at HNo
  have HI := Lib.hid (fun w' => iInner n e S (.slice p m cap) w' rfl (by omega) (by omega))
  have HNr := Lib.hid (fun (k : Nat) (hk : k < n - e) w' (g : Ge w w') => iWiresAt n e S (.slice p m cap) m xs ((e : Int) + k) w' (HV.out.ge g) hB (by omega) (by omega))
  have HF : Hid (∀ k, k < n - e → (∀ t, t < k → nodeQ n m xs c (e + t) = false) → nodeQ n m xs c (e + k) = true → ((e : Int) + k) = firstN n e m xs c) := fun k h1 h2 h3 => by
    rw [firstN, firstQ_some h2 h1 h3]; omega
  have HF0 : Hid ((∀ t, t < n - e → nodeQ n m xs c (e + t) = false) → (-1 : Int) = firstN n e m xs c) := fun h => (firstQ_none h).symm
  have HQ : Hid (∀ v, nodeQ n m xs c v = decide ((nearX m xs v n).length = c)) := fun _ => rfl
  have HLe := Lib.hid (fun v => nearX_len m xs v n)
  clear hs hok hB
  go_enter Tryz.func108, Tryz.ntmps108
  go_wp2_with (first
    | ((go_at_call 43; ((with_reducible refine (HNo.out _ (kge)).mono ?_); rintro r w1 ⟨rfl, g1⟩)); have b0 := Ge.keep g1 (cell_new (i := 0) rfl rfl); have b1 := Ge.keep g1 (cell_new (i := 1) rfl rfl); have b2 := Ge.keep g1 (cell_new (i := 2) rfl rfl); have b3 := Ge.keep g1 (cell_new (i := 3) rfl rfl); have z1 := g1.size; (simp at b0 b1 b2 b3 z1))
    | ((go_at_call 113; ((with_reducible refine (HI.out _).mono ?_); rintro r wI ⟨ad, ca, rfl, hkc, hI, gI⟩)); have GI : Ge w wI := (kge); replace b0 := gI.keep b0; replace b1 := gI.keep b1; replace b2 := gI.keep b2; replace b3 := gI.keep b3; have HIo := Lib.hid (SlI.openN hI (innZ_length e (n - e))); clear hI))
  obtain ⟨pI, cI, hpI, hcI⟩ := HIo.out
  simp only [Value.slice.injEq] at hpI
  obtain ⟨rfl, _, rfl⟩ := hpI
  replace hcI := Lib.hid hcI
  go_loopw [13] (fun i wr => ∃ k : Nat, k ≤ n - e ∧ i = .int .i64 k ∧ Hid (∀ t, t < k → nodeQ n m xs c (e + t) = false) ∧ Ge wI wr) (fun i _ => n - (intOf i).toNat)
  case atStart => exact ⟨0, Nat.zero_le _, rfl, fun t ht => by omega, Ge.refl _⟩
  case round =>
    obtain ⟨k, hk, rfl, HA, hg⟩ := hrel
    have c0 := hg.keep b0
    have c1 := hg.keep b1
    have c2 := hg.keep b2
    have c3 := hg.keep b3
    have gw : Ge w wr := Ge.trans GI hg
    by_cases hlt : k < n - e
    · obtain ⟨bI, oI, hbo, y0⟩ := hcI.out k hlt
      simp only [Option.some.injEq] at hbo
      subst hbo
      have y0r := hg.keep y0
      have hny : nth (innZ e (n - e)) k = (e : Int) + k := by unfold innZ; rw [mapR_nth hlt]; omega
      rw [hny] at y0r
      clear y0 hny
      have HNk := Lib.hid (fun w' g => HNr.out k hlt w' g)
      have HLk := HLe.out ((e : Int) + k)
      have HQk : Hid (nodeQ n m xs c (e + k) = decide ((nearX m xs ((e : Int) + k) n).length = c)) := by show _ = _; rw [HQ.out]; simp
      generalize nearX m xs ((e : Int) + k) n = L at *
      obtain ⟨l, hl⟩ : ∃ l, L.length = l := ⟨_, rfl⟩
      rw [hl] at HLk
      have HL := Lib.hid hl
      clear hl
      by_cases h : l = c
      · have HR := Lib.hid (HF.out k hlt HA.out (by rw [HQk.out, HL.out]; simp [h]))
        have t : ((l : Int) == (c : Int)) = true := by simp [h]
        go_wp2_with ((go_at_call 73; ((with_reducible refine (HNk.out _ gw).mono ?_); rintro r w5 ⟨v5, rfl, o5, g5⟩; rw [HL.out] at o5; obtain ⟨p5, c5, rfl⟩ := owns_form o5)))
        go_ret
        exact ⟨ret_int HR.out, kge⟩
      · have HA2 : Hid (∀ t, t < k + 1 → nodeQ n m xs c (e + t) = false) := fun t ht => by
          by_cases e' : t = k
          · rw [e', HQk.out, HL.out]; simp [h]
          · exact HA.out t (by omega)
        have t : ((l : Int) == (c : Int)) = false := by simp; omega
        go_wp2_with ((go_at_call 73; ((with_reducible refine (HNk.out _ gw).mono ?_); rintro r w5 ⟨v5, rfl, o5, g5⟩; rw [HL.out] at o5; obtain ⟨p5, c5, rfl⟩ := owns_form o5)))
        go_roundw
        case rel => exact ⟨k + 1, by omega, by go_num, HA2.out, kge⟩
        case measure => simp [intOf]; omega
    · have hkn : k = n - e := by omega
      subst hkn
      have HR := Lib.hid (HF0.out HA.out)
      go_wp2_with fail
      go_ret
      exact ⟨ret_int HR.out, gw⟩
end Go.Proofs.YtagiecajffhnpaaGreat

namespace Go.Proofs.YtagiecajffhnpaaGreat

theorem ord_of_good {n : Nat} {L : List Wr} (h : ∀ k, k < L.length → goodW n (flatW L) k) : Ord n L ∧ ∀ e ∈ L, e.w ≤ 200 := by
  have key : ∀ k, (hk : k < L.length) → 0 ≤ L[k].a ∧ L[k].a < L[k].b ∧ L[k].b < n ∧ 1 ≤ L[k].w ∧ L[k].w ≤ 200 := fun k hk => by
    obtain ⟨q1, q2, q3, q4, q5⟩ := (h k hk).1
    obtain ⟨f1, f2, f3⟩ := flat_wire hk
    rw [nthW_eq L k hk] at f1 f2 f3
    rw [f1] at q1 q2
    rw [f2] at q2 q3
    rw [f3] at q4 q5
    exact ⟨q1, q2, q3, q4, q5⟩
  have nxt : ∀ k, (hk : k + 1 < L.length) → ltW (L[k]'(by omega)) L[k + 1] := fun k hk => by
    have h1 := (h (k + 1) hk).2 (by omega)
    obtain ⟨f1, f2, _⟩ := flat_wire (L := L) (k := k) (by omega)
    obtain ⟨g1, g2, _⟩ := flat_wire hk
    rw [nthW_eq L k (by omega)] at f1 f2
    rw [nthW_eq L (k + 1) hk] at g1 g2
    rw [Nat.add_sub_cancel] at h1
    unfold ordW at h1
    rw [f1, f2, g1, g2] at h1
    exact h1
  have far : ∀ d i, (hd : i + d + 1 < L.length) → ltW (L[i]'(by omega)) L[i + d + 1] := by
    intro d
    induction d with
    | zero => intro i hd; exact nxt i hd
    | succ d ih => intro i hd; exact ltW_trans (ih i (by omega)) (nxt (i + d + 1) hd)
  refine ⟨⟨List.pairwise_iff_getElem.2 (fun i j hi hj hij => ?_), fun e he => ?_⟩, fun e he => ?_⟩
  · have := far (j - i - 1) i (by omega)
    have e : i + (j - i - 1) + 1 = j := by omega
    simp only [e] at this
    exact this
  · obtain ⟨k, hk, rfl⟩ := List.getElem_of_mem he
    have := key k hk
    omega
  · obtain ⟨k, hk, rfl⟩ := List.getElem_of_mem he
    exact (key k hk).2.2.2.2
theorem wat_le {N : Int} {xs : List Int} (v : Int) {k : Nat} : ∀ {m : Nat}, (∀ k, k < m → goodW N xs k) → k < m → (wa xs k = v ∨ wb xs k = v) → ww xs k ≤ wat xs v m
  | 0, _, h, _ => by omega
  | m + 1, h, hk, hv => by
    have h0 := wat_bd v (m := m) (fun k hk => h k (by omega))
    obtain ⟨_, _, _, q1, q2⟩ := (h m (by omega)).1
    simp only [wat]
    by_cases e : k = m
    · subst e; rw [if_pos hv]; omega
    · have := wat_le v (m := m) (fun k hk => h k (by omega)) (by omega) hv
      split <;> omega
theorem wat_pos {n : Nat} {L : List Wr} (h : ∀ k, k < L.length → goodW n (flatW L) k) {v c : Nat} (hc : (nearX L.length (flatW L) v n).length = c) (h1 : 1 ≤ c) : 0 < wat (flatW L) v L.length := by
  obtain ⟨x, hx⟩ : ∃ x, x ∈ nearX L.length (flatW L) v n := List.exists_mem_of_length_pos (by omega)
  have hw : 0 < wbet (flatW L) L.length v x := by
    unfold nearX at hx
    have := (List.mem_filter.1 hx).2
    simpa using this
  cases e : wfind (flatW L) v x L.length with
  | none => rw [wbet_none e] at hw; omega
  | some k =>
    obtain ⟨hk, hi⟩ := wfind_lt e
    obtain ⟨_, _, _, q1, _⟩ := (h k hk).1
    unfold isW at hi
    have := wat_le (v : Int) h hk (by omega)
    omega
/-- What replaces a node. -/
def redM (n : Nat) (L : List Wr) (v : Nat) : List Wr := tabC (meshF L v (wat (flatW L) v L.length)) (n - 1) (n - 1)
def redG (n : Nat) (S : Int) (L : List Wr) (v : Nat) : Int := gcdF (S * wat (flatW L) v L.length) (redM n L v)
def redS (n : Nat) (S : Int) (L : List Wr) (v : Nat) : Int := (S * wat (flatW L) v L.length).tdiv (redG n S L v)
def redL (n : Nat) (S : Int) (L : List Wr) (v : Nat) : List Wr := cutW (redG n S L v) (redM n L v)
noncomputable def redB (n : Nat) (E S : Int) (L : List Wr) (v : Nat) : Bool := netB ((n - 1 : Nat) : Int) E (redS n S L v) (redL n S L v).length (flatW (redL n S L v))
/-- A network: nodes, scale, wires. -/
structure NwR where
  n : Nat
  s : Int
  l : List Wr
/-- The node that is taken out. -/
def redV (e : Nat) (x : NwR) : Int := if firstN x.n e x.l.length (flatW x.l) 1 < 0 then firstN x.n e x.l.length (flatW x.l) 2 else firstN x.n e x.l.length (flatW x.l) 1
noncomputable def redN (e : Nat) (x : NwR) : Option NwR :=
  if redV e x < 0 then none else if redB x.n e x.s x.l (redV e x).toNat = true then some ⟨x.n - 1, redS x.n x.s x.l (redV e x).toNat, redL x.n x.s x.l (redV e x).toNat⟩ else none
noncomputable def redK (e : Nat) (x : NwR) : Nat → Option NwR
  | 0 => some x
  | k + 1 => (redK e x k).bind (redN e)
theorem redK_succ {e : Nat} {x y z : NwR} {k : Nat} (h : redK e x k = some y) (h2 : redN e y = some z) : redK e x (k + 1) = some z := by
  simp [redK, h, h2]
theorem redK_none {e : Nat} {x y : NwR} {k : Nat} (h : redK e x k = some y) (h2 : redN e y = none) : ∀ d, redK e x (k + 1 + d) = none
  | 0 => by simp [redK, h, h2]
  | d + 1 => by
    have := redK_none h h2 d
    rw [show k + 1 + (d + 1) = (k + 1 + d) + 1 by omega]
    simp [redK, this]
theorem redV_bd {e : Nat} {x : NwR} (h : ¬ redV e x < 0) : ∃ v c : Nat, redV e x = v ∧ (redV e x).toNat = v ∧ e ≤ v ∧ v < x.n ∧ (nearX x.l.length (flatW x.l) v x.n).length = c ∧ 1 ≤ c ∧ c ≤ 2 := by
  have h1 := firstN_bd x.n e x.l.length (flatW x.l) 1
  have h2 := firstN_bd x.n e x.l.length (flatW x.l) 2
  unfold redV at *
  split at h
  · rename_i hlt
    rw [if_pos hlt]
    rcases h2 with h2 | ⟨a, b, v, hv, hc⟩
    · omega
    · exact ⟨v, 2, hv, by omega, by omega, by omega, hc, by omega, by omega⟩
  · rename_i hlt
    rw [if_neg hlt]
    rcases h1 with h1 | ⟨a, b, v, hv, hc⟩
    · omega
    · exact ⟨v, 1, hv, by omega, by omega, by omega, hc, by omega, by omega⟩
end Go.Proofs.YtagiecajffhnpaaGreat
