/- FormatNet of impl and of spec. No condition. -/
import Derived.Test.YtfhhgonoddedlaaWNetOkI2
import Derived.Test.YtfhhgonoddedlaaWNetOkS
import Derived.Test.YtfhhgonoddedlaaWFmt
namespace Go.Proofs.Ytfhhgonoddedlaa
set_option maxRecDepth 100000
open Go.ChangeShapes Go.WideShapes Go.ChangeAt Go.RowKit Go.Joins

def wireTxt (xs : List Int) (k : Nat) : List UInt8 := [32] ++ fmtInt (wa xs k) ++ [45] ++ fmtInt (wb xs k) ++ [61] ++ fmtInt (ww xs k)
def netHead (N E S : Int) : List UInt8 := fmtInt N ++ [47] ++ fmtInt E ++ [47] ++ fmtInt S ++ [58]
def netPart (N E S : Int) (xs : List Int) : Nat → List UInt8
  | 0 => netHead N E S
  | k + 1 => netPart N E S xs k ++ wireTxt xs k
theorem netPart_le (N E S : Int) (xs : List Int) : ∀ k, (netPart N E S xs k).length ≤ 69 + 69 * k
  | 0 => by have := fmtInt_length N; have := fmtInt_length E; have := fmtInt_length S; simp [netPart, netHead]; omega
  | k + 1 => by
    have := netPart_le N E S xs k
    have := fmtInt_length (wa xs k); have := fmtInt_length (wb xs k); have := fmtInt_length (ww xs k)
    simp [netPart, wireTxt]; omega
noncomputable def netTxt (N E S : Int) (m : Nat) (xs : List Int) : List UInt8 := if netB N E S m xs = true then netPart N E S xs m else []
theorem netTxt_t {N E S : Int} {m : Nat} {xs : List Int} (h : netB N E S m xs = true) : bstr (netTxt N E S m xs) = bstr (netPart N E S xs m) := by simp [netTxt, h]
theorem netTxt_f {N E S : Int} {m : Nat} {xs : List Int} (h : netB N E S m xs = false) : bstr (netTxt N E S m xs) = ⟨#[]⟩ := by simp [netTxt, h, bstr]
theorem head_eq (N E S : Int) (xs : List Int) : bstr (fmtInt N) ++ (⟨#[47]⟩ : ByteArray) ++ bstr (fmtInt E) ++ (⟨#[47]⟩ : ByteArray) ++ bstr (fmtInt S) ++ (⟨#[58]⟩ : ByteArray) = bstr (netPart N E S xs 0) := by
  rw [show (⟨#[47]⟩ : ByteArray) = bstr [47] from rfl, show (⟨#[58]⟩ : ByteArray) = bstr [58] from rfl]
  simp only [bstr_append, netPart, netHead]
theorem wire_eq_s (N E S : Int) (xs : List Int) (k : Nat) : bstr (netPart N E S xs k) ++ (⟨#[32]⟩ : ByteArray) ++ bstr (fmtInt (wa xs k)) ++ (⟨#[45]⟩ : ByteArray) ++ bstr (fmtInt (wb xs k)) ++ (⟨#[61]⟩ : ByteArray) ++ bstr (fmtInt (ww xs k)) = bstr (netPart N E S xs (k + 1)) := by
  rw [show (⟨#[32]⟩ : ByteArray) = bstr [32] from rfl, show (⟨#[45]⟩ : ByteArray) = bstr [45] from rfl, show (⟨#[61]⟩ : ByteArray) = bstr [61] from rfl]
  simp only [bstr_append, netPart, wireTxt, List.append_assoc]
theorem wire_eq_i (N E S : Int) (xs : List Int) (k : Nat) : bstr (netPart N E S xs k) ++ ((⟨#[32]⟩ : ByteArray) ++ bstr (fmtInt (wa xs k)) ++ (⟨#[45]⟩ : ByteArray) ++ bstr (fmtInt (wb xs k)) ++ (⟨#[61]⟩ : ByteArray) ++ bstr (fmtInt (ww xs k))) = bstr (netPart N E S xs (k + 1)) := by
  rw [show (⟨#[32]⟩ : ByteArray) = bstr [32] from rfl, show (⟨#[45]⟩ : ByteArray) = bstr [45] from rfl, show (⟨#[61]⟩ : ByteArray) = bstr [61] from rfl]
  simp only [bstr_append, netPart, wireTxt, List.append_assoc]
/-- An integer of 64 bits. -/
def I64 (x : Int) : Prop := -9223372036854775808 ≤ x ∧ x ≤ 9223372036854775807
theorem fsz (x : Int) : (bstr (fmtInt x)).size ≤ 22 := by rw [bstr_size]; exact fmtInt_length x

set_option maxHeartbeats 3200000 in
theorem iFormatNet (N E S : Int) (s : Value) (m : Nat) (xs : List Int) (w : World) (hs : SlF w s m 3 xs) (hm : m ≤ 9223372036854775807) :
    Calls Try.prog 20 #[.agg #[.int .i64 N, .int .i64 E, .int .i64 S, s]] w fun e w' => e = .returned (.string (bstr (netTxt N E S m xs))) ∧ Ge w w' := by
  obtain ⟨p, cap, rfl, hc⟩ := hs.open
  have HV := Lib.hid hs
  have HC := Lib.hid hc
  clear hs hc
  cases hB : netB N E S m xs with
  | false =>
    have HF := Lib.hid (netTxt_f hB)
    go_enter Try.func20, Try.ntmps20
    go_wp2_with ((go_at_call 25; ((with_reducible refine (iNetOk _ _ _ _ m xs _ (HV.out.ge (Ge.alloc (Ge.refl w) _)) hm).mono ?_); rintro e w1 ⟨rfl, g1⟩)); rw [hB])
    go_ret
    exact ⟨ret_str (by rw [HF.out]), by (repeat (first | with_reducible exact Ge.refl _ | assumption | with_reducible refine Ge.drew ?_ | with_reducible refine Ge.drewN ?_ _ | with_reducible refine Ge.alloc ?_ _ | (with_reducible refine Ge.setCell ?_ (by first | (simp; done) | omega | (simp; omega)) _) | with_reducible refine Ge.trans ?_ (by assumption)))⟩
  | true =>
    have HF := Lib.hid (netTxt_t hB)
    obtain ⟨⟨a1, a2⟩, ⟨b1, b2⟩, ⟨d1, d2⟩, hK, _⟩ := netP_of hB
    have HK := Lib.hid hK
    clear hK
    obtain ⟨n, rfl⟩ : ∃ n : Nat, N = (n : Int) := ⟨N.toNat, by omega⟩
    have hm10 : m ≤ 10 := prs_len (N := n) (by omega) HK.out
    have HE := Lib.hid (head_eq n E S xs)
    have f1 := fsz (n : Int)
    have f2 := fsz E
    have f3 := fsz S
    have u0 : ¬ (9223372036854775807 < (bstr (fmtInt (n : Int))).size + 1) := by omega
    have u1 : ¬ (9223372036854775807 < (bstr (fmtInt (n : Int))).size + 1 + (bstr (fmtInt E)).size) := by omega
    have u2 : ¬ (9223372036854775807 < (bstr (fmtInt (n : Int))).size + 1 + (bstr (fmtInt E)).size + 1) := by omega
    have u3 : ¬ (9223372036854775807 < (bstr (fmtInt (n : Int))).size + 1 + (bstr (fmtInt E)).size + 1 + (bstr (fmtInt S)).size) := by omega
    have u4 : ¬ (9223372036854775807 < (bstr (fmtInt (n : Int))).size + 1 + (bstr (fmtInt E)).size + 1 + (bstr (fmtInt S)).size + 1) := by omega
    have IN : Hid (-9223372036854775808 ≤ (n : Int) ∧ (n : Int) ≤ 9223372036854775807) := ⟨by omega, by omega⟩
    have IE : Hid (-9223372036854775808 ≤ E ∧ E ≤ 9223372036854775807) := ⟨by omega, by omega⟩
    have IS : Hid (-9223372036854775808 ≤ S ∧ S ≤ 9223372036854775807) := ⟨by omega, by omega⟩
    go_enter Try.func20, Try.ntmps20
    go_wp2_with ((go_at_call 25; ((with_reducible refine (iNetOk _ _ _ _ m xs _ (HV.out.ge (Ge.alloc (Ge.refl w) _)) hm).mono ?_); rintro e w1 ⟨rfl, g1⟩)); rw [hB]; have c0 := Ge.keep g1 (cell_new (i := 0) rfl rfl); have c1 := Ge.keep g1 (cell_new (i := 1) rfl rfl); have c2 := Ge.keep g1 (cell_new (i := 2) rfl rfl); have c3 := Ge.keep g1 (cell_new (i := 3) rfl rfl); have z1 := g1.size; simp at c0 c1 c2 c3 z1)
    have zl : w.heap.size < w1.heap.size := by omega
    have G1 : Ge w w1 := Ge.trans (Ge.alloc (Ge.refl w) _) g1
    have hS : ∀ w', Ge w1 w' → (w'.cell? ⟨w.heap.size, 0, none⟩ = some (.int .i64 (n : Int)) ∧ w'.cell? ⟨w.heap.size, 1, none⟩ = some (.int .i64 E) ∧ w'.cell? ⟨w.heap.size, 2, none⟩ = some (.int .i64 S) ∧ w'.cell? ⟨w.heap.size, 3, none⟩ = some (.slice p m cap) ∧ Ge w1 w') := fun w' g => ⟨g.keep (by (repeat (first | assumption | with_reducible exact Ge.refl _ | with_reducible refine cv_drew ?_ | with_reducible refine cv_alloc ?_ | with_reducible refine cv_set ?_ | (with_reducible apply cv_some; assumption) | with_reducible refine cell_drew ?_ | with_reducible refine cell_drewN ?_ | ((with_reducible refine cell_new ?_ ?_); (focus (simp; done)); rfl) | with_reducible refine cell_alloc ?_ | with_reducible refine cell_same2 ?_ | ((with_reducible refine cell_set2 ?_ ?_); focus (first | (simp; done) | (intro hE; simp at hE; done) | (intro hE; simp at hE; omega))) | with_reducible refine Ge.drew ?_ | with_reducible refine Ge.drewN ?_ _ | with_reducible refine Ge.alloc ?_ _ | ((with_reducible refine Ge.setCell ?_ ?_ _); rotate_left; focus (first | (simp; done) | omega | (simp; omega))) | with_reducible refine Ge.trans ?_ (by assumption) | with_reducible refine Ge.keep (by assumption) ?_))), g.keep (by (repeat (first | assumption | with_reducible exact Ge.refl _ | with_reducible refine cv_drew ?_ | with_reducible refine cv_alloc ?_ | with_reducible refine cv_set ?_ | (with_reducible apply cv_some; assumption) | with_reducible refine cell_drew ?_ | with_reducible refine cell_drewN ?_ | ((with_reducible refine cell_new ?_ ?_); (focus (simp; done)); rfl) | with_reducible refine cell_alloc ?_ | with_reducible refine cell_same2 ?_ | ((with_reducible refine cell_set2 ?_ ?_); focus (first | (simp; done) | (intro hE; simp at hE; done) | (intro hE; simp at hE; omega))) | with_reducible refine Ge.drew ?_ | with_reducible refine Ge.drewN ?_ _ | with_reducible refine Ge.alloc ?_ _ | ((with_reducible refine Ge.setCell ?_ ?_ _); rotate_left; focus (first | (simp; done) | omega | (simp; omega))) | with_reducible refine Ge.trans ?_ (by assumption) | with_reducible refine Ge.keep (by assumption) ?_))), g.keep (by (repeat (first | assumption | with_reducible exact Ge.refl _ | with_reducible refine cv_drew ?_ | with_reducible refine cv_alloc ?_ | with_reducible refine cv_set ?_ | (with_reducible apply cv_some; assumption) | with_reducible refine cell_drew ?_ | with_reducible refine cell_drewN ?_ | ((with_reducible refine cell_new ?_ ?_); (focus (simp; done)); rfl) | with_reducible refine cell_alloc ?_ | with_reducible refine cell_same2 ?_ | ((with_reducible refine cell_set2 ?_ ?_); focus (first | (simp; done) | (intro hE; simp at hE; done) | (intro hE; simp at hE; omega))) | with_reducible refine Ge.drew ?_ | with_reducible refine Ge.drewN ?_ _ | with_reducible refine Ge.alloc ?_ _ | ((with_reducible refine Ge.setCell ?_ ?_ _); rotate_left; focus (first | (simp; done) | omega | (simp; omega))) | with_reducible refine Ge.trans ?_ (by assumption) | with_reducible refine Ge.keep (by assumption) ?_))), g.keep (by (repeat (first | assumption | with_reducible exact Ge.refl _ | with_reducible refine cv_drew ?_ | with_reducible refine cv_alloc ?_ | with_reducible refine cv_set ?_ | (with_reducible apply cv_some; assumption) | with_reducible refine cell_drew ?_ | with_reducible refine cell_drewN ?_ | ((with_reducible refine cell_new ?_ ?_); (focus (simp; done)); rfl) | with_reducible refine cell_alloc ?_ | with_reducible refine cell_same2 ?_ | ((with_reducible refine cell_set2 ?_ ?_); focus (first | (simp; done) | (intro hE; simp at hE; done) | (intro hE; simp at hE; omega))) | with_reducible refine Ge.drew ?_ | with_reducible refine Ge.drewN ?_ _ | with_reducible refine Ge.alloc ?_ _ | ((with_reducible refine Ge.setCell ?_ ?_ _); rotate_left; focus (first | (simp; done) | omega | (simp; omega))) | with_reducible refine Ge.trans ?_ (by assumption) | with_reducible refine Ge.keep (by assumption) ?_))), Ge.trans (by (repeat (first | assumption | with_reducible exact Ge.refl _ | with_reducible refine cv_drew ?_ | with_reducible refine cv_alloc ?_ | with_reducible refine cv_set ?_ | (with_reducible apply cv_some; assumption) | with_reducible refine cell_drew ?_ | with_reducible refine cell_drewN ?_ | ((with_reducible refine cell_new ?_ ?_); (focus (simp; done)); rfl) | with_reducible refine cell_alloc ?_ | with_reducible refine cell_same2 ?_ | ((with_reducible refine cell_set2 ?_ ?_); focus (first | (simp; done) | (intro hE; simp at hE; done) | (intro hE; simp at hE; omega))) | with_reducible refine Ge.drew ?_ | with_reducible refine Ge.drewN ?_ _ | with_reducible refine Ge.alloc ?_ _ | ((with_reducible refine Ge.setCell ?_ ?_ _); rotate_left; focus (first | (simp; done) | omega | (simp; omega))) | with_reducible refine Ge.trans ?_ (by assumption) | with_reducible refine Ge.keep (by assumption) ?_))) g⟩
    go_region_held3 (fun w' => w'.cell? ⟨w.heap.size, 0, none⟩ = some (.int .i64 (n : Int)) ∧ w'.cell? ⟨w.heap.size, 1, none⟩ = some (.int .i64 E) ∧ w'.cell? ⟨w.heap.size, 2, none⟩ = some (.int .i64 S) ∧ w'.cell? ⟨w.heap.size, 3, none⟩ = some (.slice p m cap) ∧ Ge w1 w') (first | ((with_reducible refine hS _ ?_); (repeat (first | assumption | with_reducible exact Ge.refl _ | with_reducible refine cv_drew ?_ | with_reducible refine cv_alloc ?_ | with_reducible refine cv_set ?_ | (with_reducible apply cv_some; assumption) | with_reducible refine cell_drew ?_ | with_reducible refine cell_drewN ?_ | ((with_reducible refine cell_new ?_ ?_); (focus (simp; done)); rfl) | with_reducible refine cell_alloc ?_ | with_reducible refine cell_same2 ?_ | ((with_reducible refine cell_set2 ?_ ?_); focus (first | (simp; done) | (intro hE; simp at hE; done) | (intro hE; simp at hE; omega))) | with_reducible refine Ge.drew ?_ | with_reducible refine Ge.drewN ?_ _ | with_reducible refine Ge.alloc ?_ _ | ((with_reducible refine Ge.setCell ?_ ?_ _); rotate_left; focus (first | (simp; done) | omega | (simp; omega))) | with_reducible refine Ge.trans ?_ (by assumption) | with_reducible refine Ge.keep (by assumption) ?_)); done) | fail) (first | (go_at_call 32; ((with_reducible refine (iFormatInt _ _ (by first | exact IN.out.1 | exact IE.out.1 | exact IS.out.1) (by first | exact IN.out.2 | exact IE.out.2 | exact IS.out.2)).mono ?_); rintro e w' ⟨rfl, rfl⟩)) | fail)
    rename_i hHeldX
    obtain ⟨q0, q1, q2, q3, G2⟩ := hHeldX
    clear hS
    go_wp2_with fail
    go_loopw [3, 26] (fun t i wr => ∃ k : Nat, k ≤ m ∧ i = .int .i64 k ∧ t = .string (bstr (netPart n E S xs k)) ∧ Ge w wr) (fun _ i _ => m - (intOf i).toNat)
    case atStart => exact ⟨0, Nat.zero_le _, rfl, congrArg _ HE.out, by (repeat (first | with_reducible exact Ge.refl _ | assumption | with_reducible refine Ge.drew ?_ | with_reducible refine Ge.drewN ?_ _ | with_reducible refine Ge.alloc ?_ _ | (with_reducible refine Ge.setCell ?_ (by first | (simp; done) | omega | (simp; omega)) _) | with_reducible refine Ge.trans ?_ (by assumption)))⟩
    case round =>
      obtain ⟨k, hk, rfl, rfl, hg⟩ := hrel
      by_cases hlt : k < m
      · obtain ⟨b, o, rfl, x0, x1, x2⟩ := three_cells HC.out hlt
        have y0 := hg.keep x0
        have y1 := hg.keep x1
        have y2 := hg.keep x2
        clear x0 x1 x2
        change wr.cell? _ = some (.int .i64 (wa xs k)) at y0
        change wr.cell? _ = some (.int .i64 (wb xs k)) at y1
        change wr.cell? _ = some (.int .i64 (ww xs k)) at y2
        obtain ⟨q0, q1, q2, q3, q4⟩ := (HK.out k hlt).1
        have HS := Lib.hid (wire_eq_i n E S xs k)
        have t0 : (bstr (netPart n E S xs k)).size ≤ 69 + 69 * k := by rw [bstr_size]; exact netPart_le _ _ _ _ _
        have t1 := fsz (wa xs k)
        have t2 := fsz (wb xs k)
        have t3 := fsz (ww xs k)
        have z0 : ¬ (9223372036854775807 < 1 + (bstr (fmtInt (wa xs k))).size) := by omega
        have z1 : ¬ (9223372036854775807 < 1 + (bstr (fmtInt (wa xs k))).size + 1) := by omega
        have z2 : ¬ (9223372036854775807 < 1 + (bstr (fmtInt (wa xs k))).size + 1 + (bstr (fmtInt (wb xs k))).size) := by omega
        have z3 : ¬ (9223372036854775807 < 1 + (bstr (fmtInt (wa xs k))).size + 1 + (bstr (fmtInt (wb xs k))).size + 1) := by omega
        have z4 : ¬ (9223372036854775807 < 1 + (bstr (fmtInt (wa xs k))).size + 1 + (bstr (fmtInt (wb xs k))).size + 1 + (bstr (fmtInt (ww xs k))).size) := by omega
        have z5 : ¬ (9223372036854775807 < (bstr (netPart n E S xs k)).size + (1 + (bstr (fmtInt (wa xs k))).size + 1 + (bstr (fmtInt (wb xs k))).size + 1 + (bstr (fmtInt (ww xs k))).size)) := by omega
        have IA : Hid (-9223372036854775808 ≤ (wa xs k) ∧ (wa xs k) ≤ 9223372036854775807) := ⟨by omega, by omega⟩
        have IB : Hid (-9223372036854775808 ≤ (wb xs k) ∧ (wb xs k) ≤ 9223372036854775807) := ⟨by omega, by omega⟩
        have IW : Hid (-9223372036854775808 ≤ (ww xs k) ∧ (ww xs k) ≤ 9223372036854775807) := ⟨by omega, by omega⟩
        generalize wa xs k = X at *
        generalize wb xs k = Y at *
        generalize ww xs k = Z at *
        go_wp2_with fail
        have hS : ∀ w', Ge (wr.alloc (.cells #[.int .i64 X, .int .i64 Y, .int .i64 Z] 81)) w' → (w'.cell? ⟨wr.heap.size, 0, none⟩ = some (.int .i64 X) ∧ w'.cell? ⟨wr.heap.size, 1, none⟩ = some (.int .i64 Y) ∧ w'.cell? ⟨wr.heap.size, 2, none⟩ = some (.int .i64 Z) ∧ Ge wr w') := fun w' g => ⟨g.keep (by (repeat (first | assumption | with_reducible exact Ge.refl _ | with_reducible refine cv_drew ?_ | with_reducible refine cv_alloc ?_ | with_reducible refine cv_set ?_ | (with_reducible apply cv_some; assumption) | with_reducible refine cell_drew ?_ | with_reducible refine cell_drewN ?_ | ((with_reducible refine cell_new ?_ ?_); (focus (simp; done)); rfl) | with_reducible refine cell_alloc ?_ | with_reducible refine cell_same2 ?_ | ((with_reducible refine cell_set2 ?_ ?_); focus (first | (simp; done) | (intro hE; simp at hE; done) | (intro hE; simp at hE; omega))) | with_reducible refine Ge.drew ?_ | with_reducible refine Ge.drewN ?_ _ | with_reducible refine Ge.alloc ?_ _ | ((with_reducible refine Ge.setCell ?_ ?_ _); rotate_left; focus (first | (simp; done) | omega | (simp; omega))) | with_reducible refine Ge.trans ?_ (by assumption) | with_reducible refine Ge.keep (by assumption) ?_))), g.keep (by (repeat (first | assumption | with_reducible exact Ge.refl _ | with_reducible refine cv_drew ?_ | with_reducible refine cv_alloc ?_ | with_reducible refine cv_set ?_ | (with_reducible apply cv_some; assumption) | with_reducible refine cell_drew ?_ | with_reducible refine cell_drewN ?_ | ((with_reducible refine cell_new ?_ ?_); (focus (simp; done)); rfl) | with_reducible refine cell_alloc ?_ | with_reducible refine cell_same2 ?_ | ((with_reducible refine cell_set2 ?_ ?_); focus (first | (simp; done) | (intro hE; simp at hE; done) | (intro hE; simp at hE; omega))) | with_reducible refine Ge.drew ?_ | with_reducible refine Ge.drewN ?_ _ | with_reducible refine Ge.alloc ?_ _ | ((with_reducible refine Ge.setCell ?_ ?_ _); rotate_left; focus (first | (simp; done) | omega | (simp; omega))) | with_reducible refine Ge.trans ?_ (by assumption) | with_reducible refine Ge.keep (by assumption) ?_))), g.keep (by (repeat (first | assumption | with_reducible exact Ge.refl _ | with_reducible refine cv_drew ?_ | with_reducible refine cv_alloc ?_ | with_reducible refine cv_set ?_ | (with_reducible apply cv_some; assumption) | with_reducible refine cell_drew ?_ | with_reducible refine cell_drewN ?_ | ((with_reducible refine cell_new ?_ ?_); (focus (simp; done)); rfl) | with_reducible refine cell_alloc ?_ | with_reducible refine cell_same2 ?_ | ((with_reducible refine cell_set2 ?_ ?_); focus (first | (simp; done) | (intro hE; simp at hE; done) | (intro hE; simp at hE; omega))) | with_reducible refine Ge.drew ?_ | with_reducible refine Ge.drewN ?_ _ | with_reducible refine Ge.alloc ?_ _ | ((with_reducible refine Ge.setCell ?_ ?_ _); rotate_left; focus (first | (simp; done) | omega | (simp; omega))) | with_reducible refine Ge.trans ?_ (by assumption) | with_reducible refine Ge.keep (by assumption) ?_))), Ge.trans (by (repeat (first | assumption | with_reducible exact Ge.refl _ | with_reducible refine cv_drew ?_ | with_reducible refine cv_alloc ?_ | with_reducible refine cv_set ?_ | (with_reducible apply cv_some; assumption) | with_reducible refine cell_drew ?_ | with_reducible refine cell_drewN ?_ | ((with_reducible refine cell_new ?_ ?_); (focus (simp; done)); rfl) | with_reducible refine cell_alloc ?_ | with_reducible refine cell_same2 ?_ | ((with_reducible refine cell_set2 ?_ ?_); focus (first | (simp; done) | (intro hE; simp at hE; done) | (intro hE; simp at hE; omega))) | with_reducible refine Ge.drew ?_ | with_reducible refine Ge.drewN ?_ _ | with_reducible refine Ge.alloc ?_ _ | ((with_reducible refine Ge.setCell ?_ ?_ _); rotate_left; focus (first | (simp; done) | omega | (simp; omega))) | with_reducible refine Ge.trans ?_ (by assumption) | with_reducible refine Ge.keep (by assumption) ?_))) g⟩
        go_region_held3 (fun w' => w'.cell? ⟨wr.heap.size, 0, none⟩ = some (.int .i64 X) ∧ w'.cell? ⟨wr.heap.size, 1, none⟩ = some (.int .i64 Y) ∧ w'.cell? ⟨wr.heap.size, 2, none⟩ = some (.int .i64 Z) ∧ Ge wr w') (first | ((with_reducible refine hS _ ?_); (repeat (first | assumption | with_reducible exact Ge.refl _ | with_reducible refine cv_drew ?_ | with_reducible refine cv_alloc ?_ | with_reducible refine cv_set ?_ | (with_reducible apply cv_some; assumption) | with_reducible refine cell_drew ?_ | with_reducible refine cell_drewN ?_ | ((with_reducible refine cell_new ?_ ?_); (focus (simp; done)); rfl) | with_reducible refine cell_alloc ?_ | with_reducible refine cell_same2 ?_ | ((with_reducible refine cell_set2 ?_ ?_); focus (first | (simp; done) | (intro hE; simp at hE; done) | (intro hE; simp at hE; omega))) | with_reducible refine Ge.drew ?_ | with_reducible refine Ge.drewN ?_ _ | with_reducible refine Ge.alloc ?_ _ | ((with_reducible refine Ge.setCell ?_ ?_ _); rotate_left; focus (first | (simp; done) | omega | (simp; omega))) | with_reducible refine Ge.trans ?_ (by assumption) | with_reducible refine Ge.keep (by assumption) ?_)); done) | fail) (first | (go_at_call 32; ((with_reducible refine (iFormatInt _ _ (by first | exact IA.out.1 | exact IB.out.1 | exact IW.out.1) (by first | exact IA.out.2 | exact IB.out.2 | exact IW.out.2)).mono ?_); rintro e w' ⟨rfl, rfl⟩)) | fail)
        rename_i hHeldX
        obtain ⟨q0, q1, q2, G7⟩ := hHeldX
        clear hS
        go_wp2_with fail
        go_roundw
        case rel => exact ⟨k + 1, by omega, by go_num, congrArg _ HS.out, by (repeat (first | with_reducible exact Ge.refl _ | assumption | with_reducible refine Ge.drew ?_ | with_reducible refine Ge.drewN ?_ _ | with_reducible refine Ge.alloc ?_ _ | (with_reducible refine Ge.setCell ?_ (by first | (simp; done) | omega | (simp; omega)) _) | with_reducible refine Ge.trans ?_ (by assumption)))⟩
        case measure => simp [intOf]; omega
      · have hkn : k = m := by omega
        subst hkn
        go_wp2_with fail
        go_ret
        exact ⟨ret_str (by rw [HF.out]), by (repeat (first | with_reducible exact Ge.refl _ | assumption | with_reducible refine Ge.drew ?_ | with_reducible refine Ge.drewN ?_ _ | with_reducible refine Ge.alloc ?_ _ | (with_reducible refine Ge.setCell ?_ (by first | (simp; done) | omega | (simp; omega)) _) | with_reducible refine Ge.trans ?_ (by assumption)))⟩

end Go.Proofs.Ytfhhgonoddedlaa
