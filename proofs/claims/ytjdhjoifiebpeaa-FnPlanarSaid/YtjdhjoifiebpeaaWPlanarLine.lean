/- PlanarLine of both sides. No condition. -/
import Derived.Test.YtjdhjoifiebpeaaWReason
import Derived.Test.YtjdhjoifiebpeaaWSpaced
namespace Go.Proofs.Ytjdhjoifiebpeaa
set_option maxRecDepth 100000
open Go.ChangeShapes Go.WideShapes Go.ChangeAt Go.RowKit Go.Joins

noncomputable def planTxt (n : Nat) (R : List (List Int)) : List UInt8 :=
  if wmB R = true then
    match reasonL (entM R) (pairsM n (n / 2)) with
    | none => [112, 108, 97, 110, 97, 114]
    | some x => [110, 111, 116, 32, 112, 108, 97, 110, 97, 114, 32] ++ spTxt x.1 ++ [32, 116, 111, 32] ++ spTxt x.2
  else []
theorem planTxt_f {n : Nat} {R : List (List Int)} (h : wmB R = false) : (⟨#[]⟩ : ByteArray) = bstr (planTxt n R) := by unfold planTxt; rw [h]; rfl
theorem planTxt_n {n : Nat} {R : List (List Int)} (h : wmB R = true) (hr : reasonL (entM R) (pairsM n (n / 2)) = none) : (⟨#[112, 108, 97, 110, 97, 114]⟩ : ByteArray) = bstr (planTxt n R) := by unfold planTxt; rw [h, hr]; rfl
theorem planTxt_s {n : Nat} {R : List (List Int)} {x : List Int × List Int} (h : wmB R = true) (hr : reasonL (entM R) (pairsM n (n / 2)) = some x) :
    (⟨#[110, 111, 116, 32, 112, 108, 97, 110, 97, 114, 32]⟩ : ByteArray) ++ bstr (spTxt x.1) ++ ⟨#[32, 116, 111, 32]⟩ ++ bstr (spTxt x.2) = bstr (planTxt n R) := by
  unfold planTxt; rw [h, hr, if_pos rfl]
  rw [show (⟨#[110, 111, 116, 32, 112, 108, 97, 110, 97, 114, 32]⟩ : ByteArray) = bstr [110, 111, 116, 32, 112, 108, 97, 110, 97, 114, 32] from rfl, show (⟨#[32, 116, 111, 32]⟩ : ByteArray) = bstr [32, 116, 111, 32] from rfl]
  rw [bstr_append, bstr_append, bstr_append]
theorem reasonL_mem {M : Int → Int → Int} {S : List (List Int × List Int)} {x : List Int × List Int} (h : reasonL M S = some x) : x ∈ S ∧ circD M x.1 x.2 < 0 := by
  induction S with
  | nil => simp [reasonL] at h
  | cons y r ih =>
    unfold reasonL at h
    split at h
    · simp at h; subst h; exact ⟨by simp, by assumption⟩
    · exact ⟨List.mem_cons_of_mem _ (ih h).1, (ih h).2⟩
theorem spTxt_le {l : List Int} (h : l.length ≤ 2) : (bstr (spTxt l)).size ≤ 46 := by
  rw [bstr_size]
  have := join_le [32] (l.map fmtInt) 22 (fun x hx => by
    obtain ⟨y, _, rfl⟩ := List.mem_map.1 hx
    exact fmtInt_length y)
  rw [List.length_map, show ([32] : List UInt8).length = 1 from rfl] at this
  unfold spTxt
  omega

set_option maxHeartbeats 3200000 in
theorem iPlanarLine (vm : Value) (n : Nat) (R : List (List Int)) (w : World) (hv : SlMI w vm n R) (hn : R.length = n) (hm : n ≤ 1048576) (hr : ∀ i, i < n → (rowL R i).length ≤ 1048576) :
    Calls Try.prog 8 #[vm] w fun e w' => e = .returned (.string (bstr (planTxt n R))) ∧ Ge w w' := by
  have q27 : ∀ (w : World) (a : Option Addr) (n c n' c' : Nat), (binOp .eql 25 (.slice a n c) (.slice none n' c')).run Try.prog w = .ok (.bool a.isNone) w := fun w a n c n' c' => Lib.run_eql_slice_nil w _ _ a n c n' c' Try.underlying25
  have HW := Lib.hid (iIsWeightMatrix vm n R w hv hn hm hr)
  cases c : wmB R with
  | false =>
    rw [c] at HW
    have HF := Lib.hid (planTxt_f (n := n) c)
    obtain ⟨pv, cv', rfl, _⟩ := hv
    clear c hr hn
    go_enter Try.func8, Try.ntmps8
    go_wp2_with (go_at_call 6; ((with_reducible refine (HW.out).mono ?_); rintro e w0 ⟨rfl, rfl⟩))
    go_ret
    exact ⟨ret_str HF.out, Ge.refl _⟩
  | true =>
    rw [c] at HW
    have HP := Lib.hid (iPlanarReason n R vm w hv hn (wmP_of c))
    have hn5 : n ≤ 5 := by rw [← hn]; exact (wmP_of c).2.1.1
    obtain ⟨pv, cv', rfl, _⟩ := hv
    cases hRe : reasonL (entM R) (pairsM n (n / 2)) with
    | none =>
      rw [hRe] at HP
      have HF := Lib.hid (planTxt_n c hRe)
      clear c hr hn hRe
      go_enter Try.func8, Try.ntmps8
      go_wp2_with (first
        | ((go_at_call 6; ((with_reducible refine (HW.out).mono ?_); rintro e w0 ⟨rfl, rfl⟩)))
        | ((go_at_call 5; ((with_reducible refine (HP.out).mono ?_); rintro e w1 ⟨hx, g1⟩)); obtain rfl := hx))
      go_ret
      exact ⟨ret_str HF.out, g1⟩
    | some x =>
      rw [hRe] at HP
      have HF := Lib.hid (planTxt_s c hRe)
      obtain ⟨h1, h2, h3, h4, h5, h6⟩ := pairsM_ok n (n / 2) x (reasonL_mem hRe).1
      obtain ⟨m, hm1⟩ : ∃ m, x.1.length = m := ⟨_, rfl⟩
      have hm2 : m ≤ 2 := by omega
      rw [hm1] at h1
      have l1 := spTxt_le (l := x.1) (by omega)
      have l2 := spTxt_le (l := x.2) (by omega)
      have HX := Lib.hid (fun (w' : World) (u : Value) (h : PairV w' u x) => h.cells hm1 h1.symm)
      have HS1 := Lib.hid (fun (v : Value) (w' : World) (h : w'.ownsRow 0 3 1 v m (icells x.1)) => iSpaced v x.1 m w' (SlI.of_owns (base := 0) (e := 3) (by rw [hm1]; exact h)) hm1 (by omega) (fun y hy => by have := h4 y hy; unfold below at this; omega))
      have HS2 := Lib.hid (fun (v : Value) (w' : World) (h : w'.ownsRow 0 3 1 v m (icells x.2)) => iSpaced v x.2 m w' (SlI.of_owns (base := 0) (e := 3) (by rw [← h1]; exact h)) h1.symm (by omega) (fun y hy => by have := h5 y hy; unfold below at this; omega))
      clear c hr hn hRe h4 h5 h6 h1 h2 h3 hm1
      generalize spTxt x.1 = T1 at *
      generalize spTxt x.2 = T2 at *
      generalize planTxt n R = L at *
      have z1 : ¬ (9223372036854775807 < 11 + (bstr T1).size) := by omega
      have z2 : ¬ (9223372036854775807 < 11 + (bstr T1).size + 4) := by omega
      have z3 : ¬ (9223372036854775807 < 11 + (bstr T1).size + 4 + (bstr T2).size) := by omega
      go_enter Try.func8, Try.ntmps8
      go_wp2_with (first
        | ((go_at_call 6; ((with_reducible refine (HW.out).mono ?_); rintro e w0 ⟨rfl, rfl⟩)))
        | ((go_at_call 5; ((with_reducible refine (HP.out).mono ?_); rintro e w1 ⟨hx, g1⟩)); obtain ⟨u, rfl, hpx⟩ := hx; obtain ⟨g, a, ca, b, cb, rfl, y0, y1, r0, r1⟩ := HX.out _ _ hpx; have R0 := Lib.hid r0; have R1 := Lib.hid r1; clear hpx r0 r1))
      have hS : ∀ w', Ge w1 w' → (w'.cell? ⟨g, 0, none⟩ = some (.slice (some a) m ca) ∧ w'.cell? ⟨g, 1, none⟩ = some (.slice (some b) m cb) ∧ Ge w1 w') := fun w' g => ⟨g.keep (by (repeat (first | assumption | with_reducible exact Ge.refl _ | with_reducible refine cv_drew ?_ | with_reducible refine cv_alloc ?_ | with_reducible refine cv_set ?_ | (with_reducible apply cv_some; assumption) | with_reducible refine cell_drew ?_ | with_reducible refine cell_drewN ?_ | ((with_reducible refine cell_new ?_ ?_); (focus (simp; done)); rfl) | with_reducible refine cell_alloc ?_ | with_reducible refine cell_same2 ?_ | ((with_reducible refine cell_set2 ?_ ?_); focus (first | (simp; done) | (intro hE; simp at hE; done) | (intro hE; simp at hE; omega))) | with_reducible refine Ge.drew ?_ | with_reducible refine Ge.drewN ?_ _ | with_reducible refine Ge.alloc ?_ _ | ((with_reducible refine Ge.setCell ?_ ?_ _); rotate_left; focus (first | (simp; done) | omega | (simp; omega))) | with_reducible refine Ge.trans ?_ (by assumption) | with_reducible refine Ge.keep (by assumption) ?_))), g.keep (by (repeat (first | assumption | with_reducible exact Ge.refl _ | with_reducible refine cv_drew ?_ | with_reducible refine cv_alloc ?_ | with_reducible refine cv_set ?_ | (with_reducible apply cv_some; assumption) | with_reducible refine cell_drew ?_ | with_reducible refine cell_drewN ?_ | ((with_reducible refine cell_new ?_ ?_); (focus (simp; done)); rfl) | with_reducible refine cell_alloc ?_ | with_reducible refine cell_same2 ?_ | ((with_reducible refine cell_set2 ?_ ?_); focus (first | (simp; done) | (intro hE; simp at hE; done) | (intro hE; simp at hE; omega))) | with_reducible refine Ge.drew ?_ | with_reducible refine Ge.drewN ?_ _ | with_reducible refine Ge.alloc ?_ _ | ((with_reducible refine Ge.setCell ?_ ?_ _); rotate_left; focus (first | (simp; done) | omega | (simp; omega))) | with_reducible refine Ge.trans ?_ (by assumption) | with_reducible refine Ge.keep (by assumption) ?_))), Ge.trans (by (repeat (first | assumption | with_reducible exact Ge.refl _ | with_reducible refine cv_drew ?_ | with_reducible refine cv_alloc ?_ | with_reducible refine cv_set ?_ | (with_reducible apply cv_some; assumption) | with_reducible refine cell_drew ?_ | with_reducible refine cell_drewN ?_ | ((with_reducible refine cell_new ?_ ?_); (focus (simp; done)); rfl) | with_reducible refine cell_alloc ?_ | with_reducible refine cell_same2 ?_ | ((with_reducible refine cell_set2 ?_ ?_); focus (first | (simp; done) | (intro hE; simp at hE; done) | (intro hE; simp at hE; omega))) | with_reducible refine Ge.drew ?_ | with_reducible refine Ge.drewN ?_ _ | with_reducible refine Ge.alloc ?_ _ | ((with_reducible refine Ge.setCell ?_ ?_ _); rotate_left; focus (first | (simp; done) | omega | (simp; omega))) | with_reducible refine Ge.trans ?_ (by assumption) | with_reducible refine Ge.keep (by assumption) ?_))) g⟩
      go_region_held3 (fun w' => w'.cell? ⟨g, 0, none⟩ = some (.slice (some a) m ca) ∧ w'.cell? ⟨g, 1, none⟩ = some (.slice (some b) m cb) ∧ Ge w1 w') (first | ((with_reducible refine hS _ ?_); (repeat (first | assumption | with_reducible exact Ge.refl _ | with_reducible refine cv_drew ?_ | with_reducible refine cv_alloc ?_ | with_reducible refine cv_set ?_ | (with_reducible apply cv_some; assumption) | with_reducible refine cell_drew ?_ | with_reducible refine cell_drewN ?_ | ((with_reducible refine cell_new ?_ ?_); (focus (simp; done)); rfl) | with_reducible refine cell_alloc ?_ | with_reducible refine cell_same2 ?_ | ((with_reducible refine cell_set2 ?_ ?_); focus (first | (simp; done) | (intro hE; simp at hE; done) | (intro hE; simp at hE; omega))) | with_reducible refine Ge.drew ?_ | with_reducible refine Ge.drewN ?_ _ | with_reducible refine Ge.alloc ?_ _ | ((with_reducible refine Ge.setCell ?_ ?_ _); rotate_left; focus (first | (simp; done) | omega | (simp; omega))) | with_reducible refine Ge.trans ?_ (by assumption) | with_reducible refine Ge.keep (by assumption) ?_)); done) | fail) (first | (go_at_call 14; ((with_reducible refine (HS1.out _ _ (‹_ ∧ _ ∧ Ge w1 _›.2.2.owns R0.out)).mono ?_); rintro e w' ⟨rfl, hb⟩); have hz := Ge.size hb; (try simp at hz)) | (go_at_call 14; ((with_reducible refine (HS2.out _ _ (‹_ ∧ _ ∧ Ge w1 _›.2.2.owns R1.out)).mono ?_); rintro e w' ⟨rfl, hb⟩); have hz := Ge.size hb; (try simp at hz)) | fail)
      rename_i hHeldX
      obtain ⟨q0, q1, G7⟩ := hHeldX
      clear hS
      go_wp2_with fail
      go_ret
      exact ⟨ret_str HF.out, Ge.trans g1 G7⟩

end Go.Proofs.Ytjdhjoifiebpeaa
