/- Minors of weight matrices: circular, MinorMatrix of impl; l09Negative, l09Det of the reference. No condition. -/
import Derived.Test.YtjdhjoifiebpeaaWCPairs
import Derived.Test.YtjdhjoifiebpeaaWWm
namespace Go.Proofs.Ytjdhjoifiebpeaa
set_option maxRecDepth 100000
open Go.ChangeShapes Go.WideShapes Go.ChangeAt Go.RowKit Go.Joins

theorem SlMI.slMM {w : World} {v : Value} {n : Nat} {R : List (List Int)} (h : SlMI w v n R) (hl : ∀ i, i < n → (rowL R i).length = n) : SlMM w v n (entM R) := by
  obtain ⟨p, cap, rfl, hc⟩ := h
  refine ⟨p, cap, rfl, fun i hi => ?_⟩
  obtain ⟨b, o, pr, cr, hp, hx, hs⟩ := hc i hi
  rw [hl i hi] at hx hs
  obtain ⟨p2, c2, he, hrow⟩ := hs.openN (hl i hi)
  simp only [Value.slice.injEq] at he
  obtain ⟨rfl, _, rfl⟩ := he
  refine ⟨b, o, pr, cr, hp, hx, fun j hj => ?_⟩
  rw [ent_nat]
  exact hrow j hj
theorem OwnL.slMM {w : World} {base : Nat} {v : Value} {n : Nat} {L : List (List Int)} (h : OwnL w base v L) (hn : L.length = n) (hl : ∀ i, i < n → (rowL L i).length = n) : SlMM w v n (entM L) := by
  obtain ⟨p, cap, rfl, hc⟩ := h.rows hn
  refine ⟨p, cap, rfl, fun i hi => ?_⟩
  obtain ⟨b, o, q, cq, hp, hx, hs⟩ := hc i hi
  have hs2 := SlI.of_owns hs
  rw [hl i hi] at hx hs2
  obtain ⟨p2, c2, he, hrow⟩ := hs2.openN (hl i hi)
  simp only [Value.slice.injEq] at he
  obtain ⟨rfl, _, rfl⟩ := he
  refine ⟨b, o, _, cq, hp, hx, fun j hj => ?_⟩
  rw [ent_nat]
  exact hrow j hj

def negR (M : Int → Int → Int) (a : Int) (q : List Int) (j : Nat) : List Int := (q.take j).map (fun b => -M a b)
def negL (M : Int → Int → Int) (p q : List Int) (i : Nat) : List (List Int) := (p.take i).map (fun a => negR M a q q.length)
theorem negR_succ (M : Int → Int → Int) (a : Int) {q : List Int} {j : Nat} (h : j < q.length) : negR M a q (j + 1) = negR M a q j ++ [-M a (nth q j)] := by
  unfold negR
  rw [List.take_succ_eq_append_getElem h, nth_eq q j h, List.map_append]
  rfl
theorem negL_succ (M : Int → Int → Int) {p : List Int} (q : List Int) {i : Nat} (h : i < p.length) : negL M p q (i + 1) = negL M p q i ++ [negR M (nth p i) q q.length] := by
  unfold negL
  rw [List.take_succ_eq_append_getElem h, nth_eq p i h, List.map_append]
  rfl
theorem negR_len (M : Int → Int → Int) (a : Int) (q : List Int) (j : Nat) (h : j ≤ q.length) : (negR M a q j).length = j := by simp [negR]; omega
theorem negL_len (M : Int → Int → Int) (p q : List Int) (i : Nat) (h : i ≤ p.length) : (negL M p q i).length = i := by simp [negL]; omega
theorem negL_row (M : Int → Int → Int) (p q : List Int) {i : Nat} (h : i < p.length) : rowL (negL M p q p.length) i = negR M (nth p i) q q.length := by
  rw [rowL_eq (by rw [negL_len _ _ _ _ (Nat.le_refl _)]; exact h)]
  simp [negL, nth_eq p i h]
theorem negE (M : Int → Int → Int) (p q : List Int) (i j : Nat) (hi : i < p.length) (hj : j < q.length) : entM (negL M p q p.length) i j = -M (nth p i) (nth q j) := by
  rw [ent_nat, negL_row M p q hi, nth_eq _ _ (by rw [negR_len _ _ _ _ (Nat.le_refl _)]; exact hj)]
  simp [negR, nth_eq q j hj]
theorem negE_bd {M : Int → Int → Int} (hM : ∀ a b, absB (M a b) 2000) (p q : List Int) (i j : Int) : absB (entM (negL M p q p.length) i j) 2000 := by
  by_cases h : i.toNat < p.length ∧ j.toNat < q.length
  · have h1 := negE M p q i.toNat j.toNat h.1 h.2
    have h2 := hM (nth p i.toNat) (nth q j.toNat)
    have h3 : entM (negL M p q p.length) i j = entM (negL M p q p.length) (i.toNat : Int) (j.toNat : Int) := rfl
    rw [h3, h1]
    unfold absB at *
    omega
  · have h3 : entM (negL M p q p.length) i j = 0 := by
      have h4 : entM (negL M p q p.length) i j = nth (rowL (negL M p q p.length) i.toNat) j.toNat := rfl
      rw [h4]
      by_cases hi : i.toNat < p.length
      · rw [negL_row M p q hi]
        unfold nth
        rw [List.getD_eq_getElem?_getD, List.getElem?_eq_none (by rw [negR_len _ _ _ _ (Nat.le_refl _)]; omega)]; rfl
      · have : rowL (negL M p q p.length) i.toNat = [] := by
          unfold rowL
          rw [List.getD_eq_getElem?_getD, List.getElem?_eq_none (by rw [negL_len _ _ _ _ (Nat.le_refl _)]; omega)]; rfl
        rw [this]; simp [nth]
    rw [h3]
    exact ⟨by omega, by omega⟩
theorem circ_neg (M : Int → Int → Int) {p q : List Int} {m : Nat} (hp : p.length = m) (hq : q.length = m) (h1 : 1 ≤ m) (h2 : m ≤ 2) : detF (entM (negL M p q p.length)) (without m []) (without m []) = circD M p q := by
  have hm : m = 1 ∨ m = 2 := by omega
  rcases hm with rfl | rfl
  · obtain ⟨a, rfl⟩ := List.length_eq_one_iff.1 hp
    obtain ⟨c, rfl⟩ := List.length_eq_one_iff.1 hq
    have e := negE M [a] [c] 0 0 (by simp) (by simp)
    have w1 : without 1 [] = [0] := by decide
    change entM (negL M [a] [c] 1) 0 0 = -M a c at e
    rw [w1]
    simp [detF, sumTo, circD, e, nth, sgn]
  · obtain ⟨a, b, rfl⟩ : ∃ a b, p = [a, b] := by match p, hp with | [a, b], _ => exact ⟨a, b, rfl⟩
    obtain ⟨c, d, rfl⟩ : ∃ c d, q = [c, d] := by match q, hq with | [c, d], _ => exact ⟨c, d, rfl⟩
    have e00 := negE M [a, b] [c, d] 0 0 (by simp) (by simp)
    have e01 := negE M [a, b] [c, d] 0 1 (by simp) (by simp)
    have e10 := negE M [a, b] [c, d] 1 0 (by simp) (by simp)
    have e11 := negE M [a, b] [c, d] 1 1 (by simp) (by simp)
    have w1 : without 2 [] = [0, 1] := by decide
    change entM (negL M [a, b] [c, d] 2) 0 0 = -M a c at e00
    change entM (negL M [a, b] [c, d] 2) 0 1 = -M a d at e01
    change entM (negL M [a, b] [c, d] 2) 1 0 = -M b c at e10
    change entM (negL M [a, b] [c, d] 2) 1 1 = -M b d at e11
    rw [w1]
    simp [detF, sumTo, circD, e00, e01, e10, e11, nth, sgn]
    rw [Int.neg_mul_neg, Int.mul_neg, Int.neg_mul]

set_option maxHeartbeats 1600000 in
theorem iCircular (N m : Nat) (M : Int → Int → Int) (hM : ∀ a b, absB (M a b) 2000) (p q : List Int) (ap aq : Addr) (cp cq : Nat) (vm : Value) (w : World) (hv : SlMM w vm N M) (hp : SlI w (.slice (some ap) m cp) p) (hq : SlI w (.slice (some aq) m cq) q) (hcp : m ≤ cp)
    (hlp : p.length = m) (hlq : q.length = m) (hm1 : 1 ≤ m) (hm : m ≤ 2) (hbp : ∀ x ∈ p, below N x) (hbq : ∀ x ∈ q, below N x) :
    Calls Try.prog 16 #[vm, .slice (some ap) m cp, .slice (some aq) m cq] w fun e w' => e = .returned (.int .i64 (circD M p q)) ∧ Ge w w' := by
  have hbd := detF_bd hM p q (by omega)
  rw [hlp] at hbd
  have hB2 : detB m ≤ 100000000 := by
    have : m = 1 ∨ m = 2 := by omega
    rcases this with rfl | rfl <;> decide
  have HD := Lib.hid (iDet N M hM p q vm (.slice (some ap) m cp) (.slice (some aq) m cq) w hv hp hq (fun p' n' c' e => by simp at e; omega) (by omega) (by omega) hbp hbq)
  have hC : circD M p q = if m % 2 = 1 then -detF M p q else detF M p q := by unfold circD; rw [hlp]
  clear hv hp hq hbp hbq
  generalize detF M p q = D at *
  unfold absB at hbd
  have w1 : IntKind.i64.wrap (-D) = -D := IntWalk.i64_in _ (by omega)
  have hm' : m = 1 ∨ m = 2 := by omega
  rcases hm' with rfl | rfl
  · have hC2 : Hid (circD M p q = -D) := hC
    clear hC
    go_enter Try.func16, Try.ntmps16
    go_wp2_with (go_at_call 24; ((with_reducible refine (HD.out).mono ?_); rintro e w' ⟨rfl, g⟩))
    go_ret
    exact ⟨ret_int hC2.out.symm, g⟩
  · have hC2 : Hid (circD M p q = D) := hC
    clear hC
    go_enter Try.func16, Try.ntmps16
    go_wp2_with (go_at_call 24; ((with_reducible refine (HD.out).mono ?_); rintro e w' ⟨rfl, g⟩))
    go_ret
    exact ⟨ret_int hC2.out.symm, g⟩

set_option maxHeartbeats 1600000 in
theorem iMinorMatrix (N m : Nat) (R : List (List Int)) (p q : List Int) (ap aq : Addr) (cp cq : Nat) (vm : Value) (w : World) (hv : SlMI w vm N R) (hN : R.length = N) (hR : wmP R) (hp : w.ownsRow 0 3 1 (.slice (some ap) m cp) m (icells p)) (hq : w.ownsRow 0 3 1 (.slice (some aq) m cq) m (icells q))
    (hlp : p.length = m) (hlq : q.length = m) (hm1 : 1 ≤ m) (hm : m ≤ 2) (hbp : ∀ x ∈ p, below N x) (hbq : ∀ x ∈ q, below N x) (hci : circB N p q = true) :
    Calls Try.prog 9 #[vm, .slice (some ap) m cp, .slice (some aq) m cq] w fun e w' => e = .returned (.tuple #[.int .i64 (circD (entM R) p q), .bool true]) ∧ Ge w w' := by
  have hN1 : 1 ≤ N := by rw [← hN]; exact hR.1
  have hN5 : N ≤ 5 := by rw [← hN]; exact hR.2.1.1
  have hl : ∀ i, i < N → (rowL R i).length = N := fun i hi => by rw [← hN]; exact (hR.2.1.2 i (by omega)).1
  have hM : ∀ a b, absB (entM R a b) 2000 := fun a b => by have := ent_bd hR.2.1 a b; unfold absB at *; omega
  have HW := Lib.hid (iIsWeightMatrix vm N R w hv hN (by omega) (fun i hi => by rw [hl i hi]; omega))
  rw [wmB_true hR] at HW
  have hp' := (SlI.of_owns (base := 0) (e := 3) (v := .slice (some ap) m cp) (l := p) (by rw [hlp]; exact hp))
  have hq' := (SlI.of_owns (base := 0) (e := 3) (v := .slice (some aq) m cq) (l := q) (by rw [hlq]; exact hq))
  have HCi := Lib.hid (iIsCircular N m p q ap aq cp cq w hN1 hN5 hp' hq' hlp hlq hm1 hm)
  rw [hci] at HCi
  have hcp := owns_cap hp _ _ _ rfl
  have HC := Lib.hid (fun w' (g : Ge w w') => iCircular N m (entM R) hM p q ap aq cp cq vm w' ((hv.slMM hl).ge g) (SlI.ge hp' g) (SlI.ge hq' g) hcp hlp hlq hm1 hm hbp hbq)
  obtain ⟨pv, cv', rfl, _⟩ := hv
  clear hR hp hq hp' hq' hbp hbq hci hl hM
  go_enter Try.func9, Try.ntmps9
  go_wp2_with (first
    | ((go_at_call 6; ((with_reducible refine (HW.out).mono ?_); rintro e w0 ⟨rfl, rfl⟩)))
    | ((go_at_call 15; ((with_reducible refine (HCi.out).mono ?_); rintro e w1 ⟨rfl, g1⟩)))
    | ((go_at_call 16; ((with_reducible refine (HC.out _ g1).mono ?_); rintro e w2 ⟨rfl, g2⟩))))
  exact bodyPost_ret (v := .tuple #[.int .i64 (circD (entM R) p q), .bool true]) (by simp [results, Try.results9, go_sem, *]) rfl ⟨rfl, Ge.trans g1 g2⟩

theorem without_nil (k : Nat) : without (k + 1) [] = without k [] ++ [(k : Int)] := without_out (by simp)
theorem without_nil_len (k : Nat) : (without k []).length = k := by
  induction k with
  | zero => rfl
  | succ k ih => rw [without_nil, List.length_append, ih]; rfl
theorem without_nil_below (k : Nat) : ∀ x ∈ without k [], below k x := by
  induction k with
  | zero => intro x hx; simp [without] at hx
  | succ k ih =>
    intro x hx
    rw [without_nil] at hx
    rcases List.mem_append.1 hx with h | h
    · have := ih x h
      unfold below at *
      omega
    · simp at h
      subst h
      unfold below
      omega
end Go.Proofs.Ytjdhjoifiebpeaa
