/- Plain law: the potentials by forests are twice the potentials by minors. No program in sight. -/
import Derived.Test.YtipiiimemmkdgaaPlChance
namespace Go.Proofs.Ytipiiimemmkdgaa

open Go.RowKit

theorem isW_symm (xs : List Int) (a b : Int) (k : Nat) : isW xs a b k ↔ isW xs b a k := by unfold isW; rw [Int.min_comm, Int.max_comm]
theorem wfind_symm (xs : List Int) (a b : Int) : ∀ m, wfind xs a b m = wfind xs b a m
  | 0 => rfl
  | m + 1 => by
    simp only [wfind, wfind_symm xs a b m]
    by_cases h : isW xs a b m
    · rw [if_pos h, if_pos ((isW_symm xs a b m).1 h)]
    · rw [if_neg h, if_neg (fun k => h ((isW_symm xs a b m).2 k))]
theorem wbet_symm (xs : List Int) (m : Nat) (a b : Int) : wbet xs m a b = wbet xs m b a := by unfold wbet; rw [wfind_symm]
theorem lapZ_symm (xs : List Int) (m : Nat) (a b : Int) : lapZ xs m a b = lapZ xs m b a := by
  unfold lapZ
  by_cases h : a = b
  · rw [h]
  · rw [if_neg h, if_neg (fun k => h k.symm), wbet_symm]
/-- One wire more. -/
theorem wbet_snoc {N : Int} {xs : List Int} {m : Nat} (h : ∀ k, k < m + 1 → goodW N xs k) (a b : Int) : wbet xs (m + 1) a b = wbet xs m a b + (if isW xs a b m then ww xs m else 0) := by
  unfold wbet
  cases e : wfind xs a b m with
  | some k =>
    obtain ⟨hk, hw⟩ := wfind_lt e
    have e2 : wfind xs a b (m + 1) = some k := by simp only [wfind, e]
    rw [e2]
    have h2 : ¬ isW xs a b m := fun h2 => by
      have h3 := (prs_pair xs (m + 1) N h).2 m (by omega) k hk
      obtain ⟨p1, p2⟩ := hw
      obtain ⟨p3, p4⟩ := h2
      rw [p1, p2, p3, p4] at h3
      unfold ltP at h3
      omega
    rw [if_neg h2]; simp
  | none =>
    by_cases h2 : isW xs a b m
    · have e2 : wfind xs a b (m + 1) = some m := by simp only [wfind, e, if_pos h2]
      rw [e2, if_pos h2]; simp
    · have e2 : wfind xs a b (m + 1) = none := by simp only [wfind, e, if_neg h2]
      rw [e2, if_neg h2]; simp
theorem ind_sum (xs : List Int) (m : Nat) (v : Int) (hv : 0 ≤ v) (hA : 0 ≤ wa xs m) (hB : wa xs m < wb xs m) : ∀ k : Nat, sumTo (fun (u : Nat) => if isW xs v u m then ww xs m else 0) k = if (wa xs m = v ∧ wb xs m < k) ∨ (wb xs m = v ∧ wa xs m < k) then ww xs m else 0
  | 0 => by rw [if_neg (by omega)]; rfl
  | k + 1 => by
    simp only [sumTo, ind_sum xs m v hv hA hB k]
    by_cases c : isW xs v (k : Int) m
    · rw [if_pos c]
      obtain ⟨c1, c2⟩ := c
      rw [if_neg (by omega), if_pos (by omega)]; omega
    · rw [if_neg c]
      unfold isW at c
      by_cases d : (wa xs m = v ∧ wb xs m < k) ∨ (wb xs m = v ∧ wa xs m < k)
      · rw [if_pos d, if_pos (by omega)]; omega
      · rw [if_neg d, if_neg (by omega)]; omega
theorem sumTo_add (f g : Nat → Int) : ∀ k, sumTo (fun u => f u + g u) k = sumTo f k + sumTo g k
  | 0 => rfl
  | k + 1 => by simp only [sumTo, sumTo_add f g k]; omega
theorem sumTo_congr {f g : Nat → Int} : ∀ {k : Nat}, (∀ u, u < k → f u = g u) → sumTo f k = sumTo g k
  | 0, _ => rfl
  | k + 1, h => by simp only [sumTo]; rw [sumTo_congr (k := k) (fun u hu => h u (by omega)), h k (by omega)]
theorem wat_sum {n : Nat} {xs : List Int} {v : Int} (h0 : 0 ≤ v) (h1 : v < n) : ∀ {m : Nat}, (∀ k, k < m → goodW n xs k) → sumTo (fun (u : Nat) => wbet xs m v u) n = wat xs v m
  | 0, _ => by
    show _ = (0 : Int)
    have : ∀ k, sumTo (fun (u : Nat) => wbet xs 0 v u) k = 0 := fun k => by
      induction k with
      | zero => rfl
      | succ k ih => simp only [sumTo, ih]; rfl
    exact this n
  | m + 1, h => by
    obtain ⟨q0, q1, q2, _, _⟩ := (h m (by omega)).1
    have e1 : sumTo (fun (u : Nat) => wbet xs (m + 1) v u) n = sumTo (fun (u : Nat) => wbet xs m v u + (if isW xs v u m then ww xs m else 0)) n := sumTo_congr (fun u _ => wbet_snoc h v u)
    rw [e1, sumTo_add, wat_sum h0 h1 (m := m) (fun k hk => h k (by omega)), ind_sum xs m v h0 (by omega) (by omega)]
    simp only [wat]
    by_cases d : wa xs m = v ∨ wb xs m = v
    · rw [if_pos d, if_pos (by omega)]
    · rw [if_neg d, if_neg (by omega)]
theorem lap_sum {N : Int} {xs : List Int} {m : Nat} (h : ∀ k, k < m → goodW N xs k) (v : Int) (h0 : 0 ≤ v) : ∀ k : Nat, sumTo (fun (u : Nat) => lapZ xs m v u) k = (if v < k then wat xs v m else 0) - sumTo (fun (u : Nat) => wbet xs m v u) k
  | 0 => by rw [if_neg (by omega)]; rfl
  | k + 1 => by
    simp only [sumTo, lap_sum h v h0 k]
    unfold lapZ
    by_cases e : v = (k : Int)
    · rw [if_pos e, if_neg (by omega), if_pos (by omega), e, wbet_none (wfind_self h _)]; omega
    · rw [if_neg e]
      by_cases d : v < (k : Int)
      · rw [if_pos d, if_pos (by omega)]; omega
      · rw [if_neg d, if_neg (by omega)]; omega
theorem lap_row {n : Nat} {xs : List Int} {m : Nat} {v : Int} (h : ∀ k, k < m → goodW n xs k) (h0 : 0 ≤ v) (h1 : v < n) : sumTo (fun (u : Nat) => lapZ xs m v u) n = 0 := by
  rw [lap_sum h v h0, if_pos h1, wat_sum h0 h1 h]; omega

def idxZ (v b : Int) : Int := if v > b then v - 1 else v
/-- The potential of a node by minors. -/
noncomputable def potV (n m : Nat) (xs : List Int) (a b v : Int) : Int := if v = b then 0 else if (idxZ a b + idxZ v b) % 2 = 0 then minorV n m xs [min a b, max a b] [min v b, max v b] else -(minorV n m xs [min a b, max a b] [min v b, max v b])
theorem potV_0 {n m : Nat} {xs : List Int} {a b v : Int} (h : v = b) : potV n m xs a b v = 0 := if_pos h
theorem potV_e {n m : Nat} {xs : List Int} {a b v : Int} (h : ¬ v = b) (h2 : (idxZ a b + idxZ v b) % 2 = 0) : potV n m xs a b v = minorV n m xs [min a b, max a b] [min v b, max v b] := by unfold potV; rw [if_neg h, if_pos h2]
theorem potV_o {n m : Nat} {xs : List Int} {a b v : Int} (h : ¬ v = b) (h2 : ¬ (idxZ a b + idxZ v b) % 2 = 0) : potV n m xs a b v = -(minorV n m xs [min a b, max a b] [min v b, max v b]) := by unfold potV; rw [if_neg h, if_neg h2]
/-- The forests, none if the nodes are one. -/
def forZ (n m : Nat) (xs : List Int) (a b : Int) : Int := if a = b then 0 else forT n m xs a b
theorem without_mm (n : Nat) (a b : Int) : without n [min a b, max a b] = without n [a, b] := by
  unfold without
  congr 1
  funext x
  congr 2
  simp only [List.mem_cons, List.not_mem_nil, or_false, eq_iff_iff]
  omega
theorem pot_3012 (M : Int → Int → Int) (hs : ∀ a b, M a b = M b a) (r0 : M 0 0 = -(M 0 1 + M 0 2)) (r1 : M 1 1 = -(M 0 1 + M 1 2)) (r2 : M 2 2 = -(M 0 2 + M 1 2)) : detF M [2] [2] + detF M [0] [0] - detF M [1] [1] = 2 * (-detF M [2] [0]) := by
  have h10 := hs 1 0
  have h20 := hs 2 0
  have h21 := hs 2 1
  clear hs
  simp only [detF, sumTo, sgn, nth, List.length, List.getD_cons_zero, h20, r0, r1, r2]
  generalize M 0 1 = x01 at *
  generalize M 0 2 = x02 at *
  generalize M 1 2 = x12 at *
  clear h10 h20 h21 r0 r1 r2
  grind

theorem pot_3021 (M : Int → Int → Int) (hs : ∀ a b, M a b = M b a) (r0 : M 0 0 = -(M 0 1 + M 0 2)) (r1 : M 1 1 = -(M 0 1 + M 1 2)) (r2 : M 2 2 = -(M 0 2 + M 1 2)) : detF M [1] [1] + detF M [0] [0] - detF M [2] [2] = 2 * (-detF M [1] [0]) := by
  have h10 := hs 1 0
  have h20 := hs 2 0
  have h21 := hs 2 1
  clear hs
  simp only [detF, sumTo, sgn, nth, List.length, List.getD_cons_zero, h10, r0, r1, r2]
  generalize M 0 1 = x01 at *
  generalize M 0 2 = x02 at *
  generalize M 1 2 = x12 at *
  clear h10 h20 h21 r0 r1 r2
  grind

theorem pot_3102 (M : Int → Int → Int) (hs : ∀ a b, M a b = M b a) (r0 : M 0 0 = -(M 0 1 + M 0 2)) (r1 : M 1 1 = -(M 0 1 + M 1 2)) (r2 : M 2 2 = -(M 0 2 + M 1 2)) : detF M [2] [2] + detF M [1] [1] - detF M [0] [0] = 2 * (-detF M [2] [1]) := by
  have h10 := hs 1 0
  have h20 := hs 2 0
  have h21 := hs 2 1
  clear hs
  simp only [detF, sumTo, sgn, nth, List.length, List.getD_cons_zero, h21, r0, r1, r2]
  generalize M 0 1 = x01 at *
  generalize M 0 2 = x02 at *
  generalize M 1 2 = x12 at *
  clear h10 h20 h21 r0 r1 r2
  grind

theorem pot_3120 (M : Int → Int → Int) (hs : ∀ a b, M a b = M b a) (r0 : M 0 0 = -(M 0 1 + M 0 2)) (r1 : M 1 1 = -(M 0 1 + M 1 2)) (r2 : M 2 2 = -(M 0 2 + M 1 2)) : detF M [0] [0] + detF M [1] [1] - detF M [2] [2] = 2 * (-detF M [0] [1]) := by
  have h10 := hs 1 0
  have h20 := hs 2 0
  have h21 := hs 2 1
  clear hs
  simp only [detF, sumTo, sgn, nth, List.length, List.getD_cons_zero, r0, r1, r2]
  generalize M 0 1 = x01 at *
  generalize M 0 2 = x02 at *
  generalize M 1 2 = x12 at *
  clear h10 h20 h21 r0 r1 r2
  grind

theorem pot_3201 (M : Int → Int → Int) (hs : ∀ a b, M a b = M b a) (r0 : M 0 0 = -(M 0 1 + M 0 2)) (r1 : M 1 1 = -(M 0 1 + M 1 2)) (r2 : M 2 2 = -(M 0 2 + M 1 2)) : detF M [1] [1] + detF M [2] [2] - detF M [0] [0] = 2 * (-detF M [1] [2]) := by
  have h10 := hs 1 0
  have h20 := hs 2 0
  have h21 := hs 2 1
  clear hs
  simp only [detF, sumTo, sgn, nth, List.length, List.getD_cons_zero, r0, r1, r2]
  generalize M 0 1 = x01 at *
  generalize M 0 2 = x02 at *
  generalize M 1 2 = x12 at *
  clear h10 h20 h21 r0 r1 r2
  grind

theorem pot_3210 (M : Int → Int → Int) (hs : ∀ a b, M a b = M b a) (r0 : M 0 0 = -(M 0 1 + M 0 2)) (r1 : M 1 1 = -(M 0 1 + M 1 2)) (r2 : M 2 2 = -(M 0 2 + M 1 2)) : detF M [0] [0] + detF M [2] [2] - detF M [1] [1] = 2 * (-detF M [0] [2]) := by
  have h10 := hs 1 0
  have h20 := hs 2 0
  have h21 := hs 2 1
  clear hs
  simp only [detF, sumTo, sgn, nth, List.length, List.getD_cons_zero, r0, r1, r2]
  generalize M 0 1 = x01 at *
  generalize M 0 2 = x02 at *
  generalize M 1 2 = x12 at *
  clear h10 h20 h21 r0 r1 r2
  grind

theorem pot_4012 (M : Int → Int → Int) (hs : ∀ a b, M a b = M b a) (r0 : M 0 0 = -(M 0 1 + M 0 2 + M 0 3)) (r1 : M 1 1 = -(M 0 1 + M 1 2 + M 1 3)) (r2 : M 2 2 = -(M 0 2 + M 1 2 + M 2 3)) (r3 : M 3 3 = -(M 0 3 + M 1 3 + M 2 3)) : detF M [2, 3] [2, 3] + detF M [0, 3] [0, 3] - detF M [1, 3] [1, 3] = 2 * (-detF M [2, 3] [0, 3]) := by
  have h10 := hs 1 0
  have h20 := hs 2 0
  have h21 := hs 2 1
  have h30 := hs 3 0
  have h31 := hs 3 1
  have h32 := hs 3 2
  clear hs
  simp only [detF, sumTo, sgn, nth, List.length, List.getD_cons_zero, List.getD_cons_succ, List.eraseIdx, h20, h30, h31, h32, r0, r1, r2, r3]
  generalize M 0 1 = x01 at *
  generalize M 0 2 = x02 at *
  generalize M 1 2 = x12 at *
  generalize M 0 3 = x03 at *
  generalize M 1 3 = x13 at *
  generalize M 2 3 = x23 at *
  clear h10 h20 h21 h30 h31 h32 r0 r1 r2 r3
  grind

theorem pot_4013 (M : Int → Int → Int) (hs : ∀ a b, M a b = M b a) (r0 : M 0 0 = -(M 0 1 + M 0 2 + M 0 3)) (r1 : M 1 1 = -(M 0 1 + M 1 2 + M 1 3)) (r2 : M 2 2 = -(M 0 2 + M 1 2 + M 2 3)) (r3 : M 3 3 = -(M 0 3 + M 1 3 + M 2 3)) : detF M [2, 3] [2, 3] + detF M [0, 2] [0, 2] - detF M [1, 2] [1, 2] = 2 * (detF M [2, 3] [0, 2]) := by
  have h10 := hs 1 0
  have h20 := hs 2 0
  have h21 := hs 2 1
  have h30 := hs 3 0
  have h31 := hs 3 1
  have h32 := hs 3 2
  clear hs
  simp only [detF, sumTo, sgn, nth, List.length, List.getD_cons_zero, List.getD_cons_succ, List.eraseIdx, h20, h21, h30, h32, r0, r1, r2, r3]
  generalize M 0 1 = x01 at *
  generalize M 0 2 = x02 at *
  generalize M 1 2 = x12 at *
  generalize M 0 3 = x03 at *
  generalize M 1 3 = x13 at *
  generalize M 2 3 = x23 at *
  clear h10 h20 h21 h30 h31 h32 r0 r1 r2 r3
  grind

theorem pot_4021 (M : Int → Int → Int) (hs : ∀ a b, M a b = M b a) (r0 : M 0 0 = -(M 0 1 + M 0 2 + M 0 3)) (r1 : M 1 1 = -(M 0 1 + M 1 2 + M 1 3)) (r2 : M 2 2 = -(M 0 2 + M 1 2 + M 2 3)) (r3 : M 3 3 = -(M 0 3 + M 1 3 + M 2 3)) : detF M [1, 3] [1, 3] + detF M [0, 3] [0, 3] - detF M [2, 3] [2, 3] = 2 * (-detF M [1, 3] [0, 3]) := by
  have h10 := hs 1 0
  have h20 := hs 2 0
  have h21 := hs 2 1
  have h30 := hs 3 0
  have h31 := hs 3 1
  have h32 := hs 3 2
  clear hs
  simp only [detF, sumTo, sgn, nth, List.length, List.getD_cons_zero, List.getD_cons_succ, List.eraseIdx, h10, h30, h31, h32, r0, r1, r2, r3]
  generalize M 0 1 = x01 at *
  generalize M 0 2 = x02 at *
  generalize M 1 2 = x12 at *
  generalize M 0 3 = x03 at *
  generalize M 1 3 = x13 at *
  generalize M 2 3 = x23 at *
  clear h10 h20 h21 h30 h31 h32 r0 r1 r2 r3
  grind

theorem pot_4023 (M : Int → Int → Int) (hs : ∀ a b, M a b = M b a) (r0 : M 0 0 = -(M 0 1 + M 0 2 + M 0 3)) (r1 : M 1 1 = -(M 0 1 + M 1 2 + M 1 3)) (r2 : M 2 2 = -(M 0 2 + M 1 2 + M 2 3)) (r3 : M 3 3 = -(M 0 3 + M 1 3 + M 2 3)) : detF M [1, 3] [1, 3] + detF M [0, 1] [0, 1] - detF M [1, 2] [1, 2] = 2 * (detF M [1, 3] [0, 1]) := by
  have h10 := hs 1 0
  have h20 := hs 2 0
  have h21 := hs 2 1
  have h30 := hs 3 0
  have h31 := hs 3 1
  have h32 := hs 3 2
  clear hs
  simp only [detF, sumTo, sgn, nth, List.length, List.getD_cons_zero, List.getD_cons_succ, List.eraseIdx, h10, h21, h30, h31, r0, r1, r2, r3]
  generalize M 0 1 = x01 at *
  generalize M 0 2 = x02 at *
  generalize M 1 2 = x12 at *
  generalize M 0 3 = x03 at *
  generalize M 1 3 = x13 at *
  generalize M 2 3 = x23 at *
  clear h10 h20 h21 h30 h31 h32 r0 r1 r2 r3
  grind

theorem pot_4031 (M : Int → Int → Int) (hs : ∀ a b, M a b = M b a) (r0 : M 0 0 = -(M 0 1 + M 0 2 + M 0 3)) (r1 : M 1 1 = -(M 0 1 + M 1 2 + M 1 3)) (r2 : M 2 2 = -(M 0 2 + M 1 2 + M 2 3)) (r3 : M 3 3 = -(M 0 3 + M 1 3 + M 2 3)) : detF M [1, 2] [1, 2] + detF M [0, 2] [0, 2] - detF M [2, 3] [2, 3] = 2 * (-detF M [1, 2] [0, 2]) := by
  have h10 := hs 1 0
  have h20 := hs 2 0
  have h21 := hs 2 1
  have h30 := hs 3 0
  have h31 := hs 3 1
  have h32 := hs 3 2
  clear hs
  simp only [detF, sumTo, sgn, nth, List.length, List.getD_cons_zero, List.getD_cons_succ, List.eraseIdx, h10, h20, h21, h32, r0, r1, r2, r3]
  generalize M 0 1 = x01 at *
  generalize M 0 2 = x02 at *
  generalize M 1 2 = x12 at *
  generalize M 0 3 = x03 at *
  generalize M 1 3 = x13 at *
  generalize M 2 3 = x23 at *
  clear h10 h20 h21 h30 h31 h32 r0 r1 r2 r3
  grind

theorem pot_4032 (M : Int → Int → Int) (hs : ∀ a b, M a b = M b a) (r0 : M 0 0 = -(M 0 1 + M 0 2 + M 0 3)) (r1 : M 1 1 = -(M 0 1 + M 1 2 + M 1 3)) (r2 : M 2 2 = -(M 0 2 + M 1 2 + M 2 3)) (r3 : M 3 3 = -(M 0 3 + M 1 3 + M 2 3)) : detF M [1, 2] [1, 2] + detF M [0, 1] [0, 1] - detF M [1, 3] [1, 3] = 2 * (detF M [1, 2] [0, 1]) := by
  have h10 := hs 1 0
  have h20 := hs 2 0
  have h21 := hs 2 1
  have h30 := hs 3 0
  have h31 := hs 3 1
  have h32 := hs 3 2
  clear hs
  simp only [detF, sumTo, sgn, nth, List.length, List.getD_cons_zero, List.getD_cons_succ, List.eraseIdx, h10, h20, h21, h31, r0, r1, r2, r3]
  generalize M 0 1 = x01 at *
  generalize M 0 2 = x02 at *
  generalize M 1 2 = x12 at *
  generalize M 0 3 = x03 at *
  generalize M 1 3 = x13 at *
  generalize M 2 3 = x23 at *
  clear h10 h20 h21 h30 h31 h32 r0 r1 r2 r3
  grind

theorem pot_4102 (M : Int → Int → Int) (hs : ∀ a b, M a b = M b a) (r0 : M 0 0 = -(M 0 1 + M 0 2 + M 0 3)) (r1 : M 1 1 = -(M 0 1 + M 1 2 + M 1 3)) (r2 : M 2 2 = -(M 0 2 + M 1 2 + M 2 3)) (r3 : M 3 3 = -(M 0 3 + M 1 3 + M 2 3)) : detF M [2, 3] [2, 3] + detF M [1, 3] [1, 3] - detF M [0, 3] [0, 3] = 2 * (-detF M [2, 3] [1, 3]) := by
  have h10 := hs 1 0
  have h20 := hs 2 0
  have h21 := hs 2 1
  have h30 := hs 3 0
  have h31 := hs 3 1
  have h32 := hs 3 2
  clear hs
  simp only [detF, sumTo, sgn, nth, List.length, List.getD_cons_zero, List.getD_cons_succ, List.eraseIdx, h21, h30, h31, h32, r0, r1, r2, r3]
  generalize M 0 1 = x01 at *
  generalize M 0 2 = x02 at *
  generalize M 1 2 = x12 at *
  generalize M 0 3 = x03 at *
  generalize M 1 3 = x13 at *
  generalize M 2 3 = x23 at *
  clear h10 h20 h21 h30 h31 h32 r0 r1 r2 r3
  grind

theorem pot_4103 (M : Int → Int → Int) (hs : ∀ a b, M a b = M b a) (r0 : M 0 0 = -(M 0 1 + M 0 2 + M 0 3)) (r1 : M 1 1 = -(M 0 1 + M 1 2 + M 1 3)) (r2 : M 2 2 = -(M 0 2 + M 1 2 + M 2 3)) (r3 : M 3 3 = -(M 0 3 + M 1 3 + M 2 3)) : detF M [2, 3] [2, 3] + detF M [1, 2] [1, 2] - detF M [0, 2] [0, 2] = 2 * (detF M [2, 3] [1, 2]) := by
  have h10 := hs 1 0
  have h20 := hs 2 0
  have h21 := hs 2 1
  have h30 := hs 3 0
  have h31 := hs 3 1
  have h32 := hs 3 2
  clear hs
  simp only [detF, sumTo, sgn, nth, List.length, List.getD_cons_zero, List.getD_cons_succ, List.eraseIdx, h20, h21, h31, h32, r0, r1, r2, r3]
  generalize M 0 1 = x01 at *
  generalize M 0 2 = x02 at *
  generalize M 1 2 = x12 at *
  generalize M 0 3 = x03 at *
  generalize M 1 3 = x13 at *
  generalize M 2 3 = x23 at *
  clear h10 h20 h21 h30 h31 h32 r0 r1 r2 r3
  grind

theorem pot_4120 (M : Int → Int → Int) (hs : ∀ a b, M a b = M b a) (r0 : M 0 0 = -(M 0 1 + M 0 2 + M 0 3)) (r1 : M 1 1 = -(M 0 1 + M 1 2 + M 1 3)) (r2 : M 2 2 = -(M 0 2 + M 1 2 + M 2 3)) (r3 : M 3 3 = -(M 0 3 + M 1 3 + M 2 3)) : detF M [0, 3] [0, 3] + detF M [1, 3] [1, 3] - detF M [2, 3] [2, 3] = 2 * (-detF M [0, 3] [1, 3]) := by
  have h10 := hs 1 0
  have h20 := hs 2 0
  have h21 := hs 2 1
  have h30 := hs 3 0
  have h31 := hs 3 1
  have h32 := hs 3 2
  clear hs
  simp only [detF, sumTo, sgn, nth, List.length, List.getD_cons_zero, List.getD_cons_succ, List.eraseIdx, h30, h31, h32, r0, r1, r2, r3]
  generalize M 0 1 = x01 at *
  generalize M 0 2 = x02 at *
  generalize M 1 2 = x12 at *
  generalize M 0 3 = x03 at *
  generalize M 1 3 = x13 at *
  generalize M 2 3 = x23 at *
  clear h10 h20 h21 h30 h31 h32 r0 r1 r2 r3
  grind

theorem pot_4123 (M : Int → Int → Int) (hs : ∀ a b, M a b = M b a) (r0 : M 0 0 = -(M 0 1 + M 0 2 + M 0 3)) (r1 : M 1 1 = -(M 0 1 + M 1 2 + M 1 3)) (r2 : M 2 2 = -(M 0 2 + M 1 2 + M 2 3)) (r3 : M 3 3 = -(M 0 3 + M 1 3 + M 2 3)) : detF M [0, 3] [0, 3] + detF M [0, 1] [0, 1] - detF M [0, 2] [0, 2] = 2 * (-detF M [0, 3] [0, 1]) := by
  have h10 := hs 1 0
  have h20 := hs 2 0
  have h21 := hs 2 1
  have h30 := hs 3 0
  have h31 := hs 3 1
  have h32 := hs 3 2
  clear hs
  simp only [detF, sumTo, sgn, nth, List.length, List.getD_cons_zero, List.getD_cons_succ, List.eraseIdx, h10, h20, h30, h31, r0, r1, r2, r3]
  generalize M 0 1 = x01 at *
  generalize M 0 2 = x02 at *
  generalize M 1 2 = x12 at *
  generalize M 0 3 = x03 at *
  generalize M 1 3 = x13 at *
  generalize M 2 3 = x23 at *
  clear h10 h20 h21 h30 h31 h32 r0 r1 r2 r3
  grind

theorem pot_4130 (M : Int → Int → Int) (hs : ∀ a b, M a b = M b a) (r0 : M 0 0 = -(M 0 1 + M 0 2 + M 0 3)) (r1 : M 1 1 = -(M 0 1 + M 1 2 + M 1 3)) (r2 : M 2 2 = -(M 0 2 + M 1 2 + M 2 3)) (r3 : M 3 3 = -(M 0 3 + M 1 3 + M 2 3)) : detF M [0, 2] [0, 2] + detF M [1, 2] [1, 2] - detF M [2, 3] [2, 3] = 2 * (-detF M [0, 2] [1, 2]) := by
  have h10 := hs 1 0
  have h20 := hs 2 0
  have h21 := hs 2 1
  have h30 := hs 3 0
  have h31 := hs 3 1
  have h32 := hs 3 2
  clear hs
  simp only [detF, sumTo, sgn, nth, List.length, List.getD_cons_zero, List.getD_cons_succ, List.eraseIdx, h20, h21, h32, r0, r1, r2, r3]
  generalize M 0 1 = x01 at *
  generalize M 0 2 = x02 at *
  generalize M 1 2 = x12 at *
  generalize M 0 3 = x03 at *
  generalize M 1 3 = x13 at *
  generalize M 2 3 = x23 at *
  clear h10 h20 h21 h30 h31 h32 r0 r1 r2 r3
  grind

theorem pot_4132 (M : Int → Int → Int) (hs : ∀ a b, M a b = M b a) (r0 : M 0 0 = -(M 0 1 + M 0 2 + M 0 3)) (r1 : M 1 1 = -(M 0 1 + M 1 2 + M 1 3)) (r2 : M 2 2 = -(M 0 2 + M 1 2 + M 2 3)) (r3 : M 3 3 = -(M 0 3 + M 1 3 + M 2 3)) : detF M [0, 2] [0, 2] + detF M [0, 1] [0, 1] - detF M [0, 3] [0, 3] = 2 * (-detF M [0, 2] [0, 1]) := by
  have h10 := hs 1 0
  have h20 := hs 2 0
  have h21 := hs 2 1
  have h30 := hs 3 0
  have h31 := hs 3 1
  have h32 := hs 3 2
  clear hs
  simp only [detF, sumTo, sgn, nth, List.length, List.getD_cons_zero, List.getD_cons_succ, List.eraseIdx, h10, h20, h21, h30, r0, r1, r2, r3]
  generalize M 0 1 = x01 at *
  generalize M 0 2 = x02 at *
  generalize M 1 2 = x12 at *
  generalize M 0 3 = x03 at *
  generalize M 1 3 = x13 at *
  generalize M 2 3 = x23 at *
  clear h10 h20 h21 h30 h31 h32 r0 r1 r2 r3
  grind

theorem pot_4201 (M : Int → Int → Int) (hs : ∀ a b, M a b = M b a) (r0 : M 0 0 = -(M 0 1 + M 0 2 + M 0 3)) (r1 : M 1 1 = -(M 0 1 + M 1 2 + M 1 3)) (r2 : M 2 2 = -(M 0 2 + M 1 2 + M 2 3)) (r3 : M 3 3 = -(M 0 3 + M 1 3 + M 2 3)) : detF M [1, 3] [1, 3] + detF M [2, 3] [2, 3] - detF M [0, 3] [0, 3] = 2 * (-detF M [1, 3] [2, 3]) := by
  have h10 := hs 1 0
  have h20 := hs 2 0
  have h21 := hs 2 1
  have h30 := hs 3 0
  have h31 := hs 3 1
  have h32 := hs 3 2
  clear hs
  simp only [detF, sumTo, sgn, nth, List.length, List.getD_cons_zero, List.getD_cons_succ, List.eraseIdx, h30, h31, h32, r0, r1, r2, r3]
  generalize M 0 1 = x01 at *
  generalize M 0 2 = x02 at *
  generalize M 1 2 = x12 at *
  generalize M 0 3 = x03 at *
  generalize M 1 3 = x13 at *
  generalize M 2 3 = x23 at *
  clear h10 h20 h21 h30 h31 h32 r0 r1 r2 r3
  grind

theorem pot_4203 (M : Int → Int → Int) (hs : ∀ a b, M a b = M b a) (r0 : M 0 0 = -(M 0 1 + M 0 2 + M 0 3)) (r1 : M 1 1 = -(M 0 1 + M 1 2 + M 1 3)) (r2 : M 2 2 = -(M 0 2 + M 1 2 + M 2 3)) (r3 : M 3 3 = -(M 0 3 + M 1 3 + M 2 3)) : detF M [1, 3] [1, 3] + detF M [1, 2] [1, 2] - detF M [0, 1] [0, 1] = 2 * (-detF M [1, 3] [1, 2]) := by
  have h10 := hs 1 0
  have h20 := hs 2 0
  have h21 := hs 2 1
  have h30 := hs 3 0
  have h31 := hs 3 1
  have h32 := hs 3 2
  clear hs
  simp only [detF, sumTo, sgn, nth, List.length, List.getD_cons_zero, List.getD_cons_succ, List.eraseIdx, h10, h21, h31, h32, r0, r1, r2, r3]
  generalize M 0 1 = x01 at *
  generalize M 0 2 = x02 at *
  generalize M 1 2 = x12 at *
  generalize M 0 3 = x03 at *
  generalize M 1 3 = x13 at *
  generalize M 2 3 = x23 at *
  clear h10 h20 h21 h30 h31 h32 r0 r1 r2 r3
  grind

theorem pot_4210 (M : Int → Int → Int) (hs : ∀ a b, M a b = M b a) (r0 : M 0 0 = -(M 0 1 + M 0 2 + M 0 3)) (r1 : M 1 1 = -(M 0 1 + M 1 2 + M 1 3)) (r2 : M 2 2 = -(M 0 2 + M 1 2 + M 2 3)) (r3 : M 3 3 = -(M 0 3 + M 1 3 + M 2 3)) : detF M [0, 3] [0, 3] + detF M [2, 3] [2, 3] - detF M [1, 3] [1, 3] = 2 * (-detF M [0, 3] [2, 3]) := by
  have h10 := hs 1 0
  have h20 := hs 2 0
  have h21 := hs 2 1
  have h30 := hs 3 0
  have h31 := hs 3 1
  have h32 := hs 3 2
  clear hs
  simp only [detF, sumTo, sgn, nth, List.length, List.getD_cons_zero, List.getD_cons_succ, List.eraseIdx, h30, h31, h32, r0, r1, r2, r3]
  generalize M 0 1 = x01 at *
  generalize M 0 2 = x02 at *
  generalize M 1 2 = x12 at *
  generalize M 0 3 = x03 at *
  generalize M 1 3 = x13 at *
  generalize M 2 3 = x23 at *
  clear h10 h20 h21 h30 h31 h32 r0 r1 r2 r3
  grind

theorem pot_4213 (M : Int → Int → Int) (hs : ∀ a b, M a b = M b a) (r0 : M 0 0 = -(M 0 1 + M 0 2 + M 0 3)) (r1 : M 1 1 = -(M 0 1 + M 1 2 + M 1 3)) (r2 : M 2 2 = -(M 0 2 + M 1 2 + M 2 3)) (r3 : M 3 3 = -(M 0 3 + M 1 3 + M 2 3)) : detF M [0, 3] [0, 3] + detF M [0, 2] [0, 2] - detF M [0, 1] [0, 1] = 2 * (-detF M [0, 3] [0, 2]) := by
  have h10 := hs 1 0
  have h20 := hs 2 0
  have h21 := hs 2 1
  have h30 := hs 3 0
  have h31 := hs 3 1
  have h32 := hs 3 2
  clear hs
  simp only [detF, sumTo, sgn, nth, List.length, List.getD_cons_zero, List.getD_cons_succ, List.eraseIdx, h10, h20, h30, h32, r0, r1, r2, r3]
  generalize M 0 1 = x01 at *
  generalize M 0 2 = x02 at *
  generalize M 1 2 = x12 at *
  generalize M 0 3 = x03 at *
  generalize M 1 3 = x13 at *
  generalize M 2 3 = x23 at *
  clear h10 h20 h21 h30 h31 h32 r0 r1 r2 r3
  grind

theorem pot_4230 (M : Int → Int → Int) (hs : ∀ a b, M a b = M b a) (r0 : M 0 0 = -(M 0 1 + M 0 2 + M 0 3)) (r1 : M 1 1 = -(M 0 1 + M 1 2 + M 1 3)) (r2 : M 2 2 = -(M 0 2 + M 1 2 + M 2 3)) (r3 : M 3 3 = -(M 0 3 + M 1 3 + M 2 3)) : detF M [0, 1] [0, 1] + detF M [1, 2] [1, 2] - detF M [1, 3] [1, 3] = 2 * (detF M [0, 1] [1, 2]) := by
  have h10 := hs 1 0
  have h20 := hs 2 0
  have h21 := hs 2 1
  have h30 := hs 3 0
  have h31 := hs 3 1
  have h32 := hs 3 2
  clear hs
  simp only [detF, sumTo, sgn, nth, List.length, List.getD_cons_zero, List.getD_cons_succ, List.eraseIdx, h10, h21, h31, r0, r1, r2, r3]
  generalize M 0 1 = x01 at *
  generalize M 0 2 = x02 at *
  generalize M 1 2 = x12 at *
  generalize M 0 3 = x03 at *
  generalize M 1 3 = x13 at *
  generalize M 2 3 = x23 at *
  clear h10 h20 h21 h30 h31 h32 r0 r1 r2 r3
  grind

theorem pot_4231 (M : Int → Int → Int) (hs : ∀ a b, M a b = M b a) (r0 : M 0 0 = -(M 0 1 + M 0 2 + M 0 3)) (r1 : M 1 1 = -(M 0 1 + M 1 2 + M 1 3)) (r2 : M 2 2 = -(M 0 2 + M 1 2 + M 2 3)) (r3 : M 3 3 = -(M 0 3 + M 1 3 + M 2 3)) : detF M [0, 1] [0, 1] + detF M [0, 2] [0, 2] - detF M [0, 3] [0, 3] = 2 * (-detF M [0, 1] [0, 2]) := by
  have h10 := hs 1 0
  have h20 := hs 2 0
  have h21 := hs 2 1
  have h30 := hs 3 0
  have h31 := hs 3 1
  have h32 := hs 3 2
  clear hs
  simp only [detF, sumTo, sgn, nth, List.length, List.getD_cons_zero, List.getD_cons_succ, List.eraseIdx, h10, h20, h30, r0, r1, r2, r3]
  generalize M 0 1 = x01 at *
  generalize M 0 2 = x02 at *
  generalize M 1 2 = x12 at *
  generalize M 0 3 = x03 at *
  generalize M 1 3 = x13 at *
  generalize M 2 3 = x23 at *
  clear h10 h20 h21 h30 h31 h32 r0 r1 r2 r3
  grind

theorem pot_4301 (M : Int → Int → Int) (hs : ∀ a b, M a b = M b a) (r0 : M 0 0 = -(M 0 1 + M 0 2 + M 0 3)) (r1 : M 1 1 = -(M 0 1 + M 1 2 + M 1 3)) (r2 : M 2 2 = -(M 0 2 + M 1 2 + M 2 3)) (r3 : M 3 3 = -(M 0 3 + M 1 3 + M 2 3)) : detF M [1, 2] [1, 2] + detF M [2, 3] [2, 3] - detF M [0, 2] [0, 2] = 2 * (detF M [1, 2] [2, 3]) := by
  have h10 := hs 1 0
  have h20 := hs 2 0
  have h21 := hs 2 1
  have h30 := hs 3 0
  have h31 := hs 3 1
  have h32 := hs 3 2
  clear hs
  simp only [detF, sumTo, sgn, nth, List.length, List.getD_cons_zero, List.getD_cons_succ, List.eraseIdx, h20, h21, h32, r0, r1, r2, r3]
  generalize M 0 1 = x01 at *
  generalize M 0 2 = x02 at *
  generalize M 1 2 = x12 at *
  generalize M 0 3 = x03 at *
  generalize M 1 3 = x13 at *
  generalize M 2 3 = x23 at *
  clear h10 h20 h21 h30 h31 h32 r0 r1 r2 r3
  grind

theorem pot_4302 (M : Int → Int → Int) (hs : ∀ a b, M a b = M b a) (r0 : M 0 0 = -(M 0 1 + M 0 2 + M 0 3)) (r1 : M 1 1 = -(M 0 1 + M 1 2 + M 1 3)) (r2 : M 2 2 = -(M 0 2 + M 1 2 + M 2 3)) (r3 : M 3 3 = -(M 0 3 + M 1 3 + M 2 3)) : detF M [1, 2] [1, 2] + detF M [1, 3] [1, 3] - detF M [0, 1] [0, 1] = 2 * (-detF M [1, 2] [1, 3]) := by
  have h10 := hs 1 0
  have h20 := hs 2 0
  have h21 := hs 2 1
  have h30 := hs 3 0
  have h31 := hs 3 1
  have h32 := hs 3 2
  clear hs
  simp only [detF, sumTo, sgn, nth, List.length, List.getD_cons_zero, List.getD_cons_succ, List.eraseIdx, h10, h21, h31, r0, r1, r2, r3]
  generalize M 0 1 = x01 at *
  generalize M 0 2 = x02 at *
  generalize M 1 2 = x12 at *
  generalize M 0 3 = x03 at *
  generalize M 1 3 = x13 at *
  generalize M 2 3 = x23 at *
  clear h10 h20 h21 h30 h31 h32 r0 r1 r2 r3
  grind

theorem pot_4310 (M : Int → Int → Int) (hs : ∀ a b, M a b = M b a) (r0 : M 0 0 = -(M 0 1 + M 0 2 + M 0 3)) (r1 : M 1 1 = -(M 0 1 + M 1 2 + M 1 3)) (r2 : M 2 2 = -(M 0 2 + M 1 2 + M 2 3)) (r3 : M 3 3 = -(M 0 3 + M 1 3 + M 2 3)) : detF M [0, 2] [0, 2] + detF M [2, 3] [2, 3] - detF M [1, 2] [1, 2] = 2 * (detF M [0, 2] [2, 3]) := by
  have h10 := hs 1 0
  have h20 := hs 2 0
  have h21 := hs 2 1
  have h30 := hs 3 0
  have h31 := hs 3 1
  have h32 := hs 3 2
  clear hs
  simp only [detF, sumTo, sgn, nth, List.length, List.getD_cons_zero, List.getD_cons_succ, List.eraseIdx, h20, h21, h32, r0, r1, r2, r3]
  generalize M 0 1 = x01 at *
  generalize M 0 2 = x02 at *
  generalize M 1 2 = x12 at *
  generalize M 0 3 = x03 at *
  generalize M 1 3 = x13 at *
  generalize M 2 3 = x23 at *
  clear h10 h20 h21 h30 h31 h32 r0 r1 r2 r3
  grind

theorem pot_4312 (M : Int → Int → Int) (hs : ∀ a b, M a b = M b a) (r0 : M 0 0 = -(M 0 1 + M 0 2 + M 0 3)) (r1 : M 1 1 = -(M 0 1 + M 1 2 + M 1 3)) (r2 : M 2 2 = -(M 0 2 + M 1 2 + M 2 3)) (r3 : M 3 3 = -(M 0 3 + M 1 3 + M 2 3)) : detF M [0, 2] [0, 2] + detF M [0, 3] [0, 3] - detF M [0, 1] [0, 1] = 2 * (-detF M [0, 2] [0, 3]) := by
  have h10 := hs 1 0
  have h20 := hs 2 0
  have h21 := hs 2 1
  have h30 := hs 3 0
  have h31 := hs 3 1
  have h32 := hs 3 2
  clear hs
  simp only [detF, sumTo, sgn, nth, List.length, List.getD_cons_zero, List.getD_cons_succ, List.eraseIdx, h10, h20, h30, r0, r1, r2, r3]
  generalize M 0 1 = x01 at *
  generalize M 0 2 = x02 at *
  generalize M 1 2 = x12 at *
  generalize M 0 3 = x03 at *
  generalize M 1 3 = x13 at *
  generalize M 2 3 = x23 at *
  clear h10 h20 h21 h30 h31 h32 r0 r1 r2 r3
  grind

theorem pot_4320 (M : Int → Int → Int) (hs : ∀ a b, M a b = M b a) (r0 : M 0 0 = -(M 0 1 + M 0 2 + M 0 3)) (r1 : M 1 1 = -(M 0 1 + M 1 2 + M 1 3)) (r2 : M 2 2 = -(M 0 2 + M 1 2 + M 2 3)) (r3 : M 3 3 = -(M 0 3 + M 1 3 + M 2 3)) : detF M [0, 1] [0, 1] + detF M [1, 3] [1, 3] - detF M [1, 2] [1, 2] = 2 * (detF M [0, 1] [1, 3]) := by
  have h10 := hs 1 0
  have h20 := hs 2 0
  have h21 := hs 2 1
  have h30 := hs 3 0
  have h31 := hs 3 1
  have h32 := hs 3 2
  clear hs
  simp only [detF, sumTo, sgn, nth, List.length, List.getD_cons_zero, List.getD_cons_succ, List.eraseIdx, h10, h21, h31, r0, r1, r2, r3]
  generalize M 0 1 = x01 at *
  generalize M 0 2 = x02 at *
  generalize M 1 2 = x12 at *
  generalize M 0 3 = x03 at *
  generalize M 1 3 = x13 at *
  generalize M 2 3 = x23 at *
  clear h10 h20 h21 h30 h31 h32 r0 r1 r2 r3
  grind

theorem pot_4321 (M : Int → Int → Int) (hs : ∀ a b, M a b = M b a) (r0 : M 0 0 = -(M 0 1 + M 0 2 + M 0 3)) (r1 : M 1 1 = -(M 0 1 + M 1 2 + M 1 3)) (r2 : M 2 2 = -(M 0 2 + M 1 2 + M 2 3)) (r3 : M 3 3 = -(M 0 3 + M 1 3 + M 2 3)) : detF M [0, 1] [0, 1] + detF M [0, 3] [0, 3] - detF M [0, 2] [0, 2] = 2 * (-detF M [0, 1] [0, 3]) := by
  have h10 := hs 1 0
  have h20 := hs 2 0
  have h21 := hs 2 1
  have h30 := hs 3 0
  have h31 := hs 3 1
  have h32 := hs 3 2
  clear hs
  simp only [detF, sumTo, sgn, nth, List.length, List.getD_cons_zero, List.getD_cons_succ, List.eraseIdx, h10, h20, h30, r0, r1, r2, r3]
  generalize M 0 1 = x01 at *
  generalize M 0 2 = x02 at *
  generalize M 1 2 = x12 at *
  generalize M 0 3 = x03 at *
  generalize M 1 3 = x13 at *
  generalize M 2 3 = x23 at *
  clear h10 h20 h21 h30 h31 h32 r0 r1 r2 r3
  grind

theorem pot_5012 (M : Int → Int → Int) (hs : ∀ a b, M a b = M b a) (r0 : M 0 0 = -(M 0 1 + M 0 2 + M 0 3 + M 0 4)) (r1 : M 1 1 = -(M 0 1 + M 1 2 + M 1 3 + M 1 4)) (r2 : M 2 2 = -(M 0 2 + M 1 2 + M 2 3 + M 2 4)) (r3 : M 3 3 = -(M 0 3 + M 1 3 + M 2 3 + M 3 4)) (r4 : M 4 4 = -(M 0 4 + M 1 4 + M 2 4 + M 3 4)) : detF M [2, 3, 4] [2, 3, 4] + detF M [0, 3, 4] [0, 3, 4] - detF M [1, 3, 4] [1, 3, 4] = 2 * (-detF M [2, 3, 4] [0, 3, 4]) := by
  have h10 := hs 1 0
  have h20 := hs 2 0
  have h21 := hs 2 1
  have h30 := hs 3 0
  have h31 := hs 3 1
  have h32 := hs 3 2
  have h40 := hs 4 0
  have h41 := hs 4 1
  have h42 := hs 4 2
  have h43 := hs 4 3
  clear hs
  simp only [detF, sumTo, sgn, nth, List.length, List.getD_cons_zero, List.getD_cons_succ, List.eraseIdx, h20, h30, h31, h32, h40, h41, h42, h43, r0, r1, r2, r3, r4]
  generalize M 0 1 = x01 at *
  generalize M 0 2 = x02 at *
  generalize M 1 2 = x12 at *
  generalize M 0 3 = x03 at *
  generalize M 1 3 = x13 at *
  generalize M 2 3 = x23 at *
  generalize M 0 4 = x04 at *
  generalize M 1 4 = x14 at *
  generalize M 2 4 = x24 at *
  generalize M 3 4 = x34 at *
  clear h10 h20 h21 h30 h31 h32 h40 h41 h42 h43 r0 r1 r2 r3 r4
  grind

theorem pot_5013 (M : Int → Int → Int) (hs : ∀ a b, M a b = M b a) (r0 : M 0 0 = -(M 0 1 + M 0 2 + M 0 3 + M 0 4)) (r1 : M 1 1 = -(M 0 1 + M 1 2 + M 1 3 + M 1 4)) (r2 : M 2 2 = -(M 0 2 + M 1 2 + M 2 3 + M 2 4)) (r3 : M 3 3 = -(M 0 3 + M 1 3 + M 2 3 + M 3 4)) (r4 : M 4 4 = -(M 0 4 + M 1 4 + M 2 4 + M 3 4)) : detF M [2, 3, 4] [2, 3, 4] + detF M [0, 2, 4] [0, 2, 4] - detF M [1, 2, 4] [1, 2, 4] = 2 * (detF M [2, 3, 4] [0, 2, 4]) := by
  have h10 := hs 1 0
  have h20 := hs 2 0
  have h21 := hs 2 1
  have h30 := hs 3 0
  have h31 := hs 3 1
  have h32 := hs 3 2
  have h40 := hs 4 0
  have h41 := hs 4 1
  have h42 := hs 4 2
  have h43 := hs 4 3
  clear hs
  simp only [detF, sumTo, sgn, nth, List.length, List.getD_cons_zero, List.getD_cons_succ, List.eraseIdx, h20, h21, h30, h32, h40, h41, h42, h43, r0, r1, r2, r3, r4]
  generalize M 0 1 = x01 at *
  generalize M 0 2 = x02 at *
  generalize M 1 2 = x12 at *
  generalize M 0 3 = x03 at *
  generalize M 1 3 = x13 at *
  generalize M 2 3 = x23 at *
  generalize M 0 4 = x04 at *
  generalize M 1 4 = x14 at *
  generalize M 2 4 = x24 at *
  generalize M 3 4 = x34 at *
  clear h10 h20 h21 h30 h31 h32 h40 h41 h42 h43 r0 r1 r2 r3 r4
  grind

theorem pot_5014 (M : Int → Int → Int) (hs : ∀ a b, M a b = M b a) (r0 : M 0 0 = -(M 0 1 + M 0 2 + M 0 3 + M 0 4)) (r1 : M 1 1 = -(M 0 1 + M 1 2 + M 1 3 + M 1 4)) (r2 : M 2 2 = -(M 0 2 + M 1 2 + M 2 3 + M 2 4)) (r3 : M 3 3 = -(M 0 3 + M 1 3 + M 2 3 + M 3 4)) (r4 : M 4 4 = -(M 0 4 + M 1 4 + M 2 4 + M 3 4)) : detF M [2, 3, 4] [2, 3, 4] + detF M [0, 2, 3] [0, 2, 3] - detF M [1, 2, 3] [1, 2, 3] = 2 * (-detF M [2, 3, 4] [0, 2, 3]) := by
  have h10 := hs 1 0
  have h20 := hs 2 0
  have h21 := hs 2 1
  have h30 := hs 3 0
  have h31 := hs 3 1
  have h32 := hs 3 2
  have h40 := hs 4 0
  have h41 := hs 4 1
  have h42 := hs 4 2
  have h43 := hs 4 3
  clear hs
  simp only [detF, sumTo, sgn, nth, List.length, List.getD_cons_zero, List.getD_cons_succ, List.eraseIdx, h20, h21, h30, h31, h32, h40, h42, h43, r0, r1, r2, r3, r4]
  generalize M 0 1 = x01 at *
  generalize M 0 2 = x02 at *
  generalize M 1 2 = x12 at *
  generalize M 0 3 = x03 at *
  generalize M 1 3 = x13 at *
  generalize M 2 3 = x23 at *
  generalize M 0 4 = x04 at *
  generalize M 1 4 = x14 at *
  generalize M 2 4 = x24 at *
  generalize M 3 4 = x34 at *
  clear h10 h20 h21 h30 h31 h32 h40 h41 h42 h43 r0 r1 r2 r3 r4
  grind

theorem pot_5021 (M : Int → Int → Int) (hs : ∀ a b, M a b = M b a) (r0 : M 0 0 = -(M 0 1 + M 0 2 + M 0 3 + M 0 4)) (r1 : M 1 1 = -(M 0 1 + M 1 2 + M 1 3 + M 1 4)) (r2 : M 2 2 = -(M 0 2 + M 1 2 + M 2 3 + M 2 4)) (r3 : M 3 3 = -(M 0 3 + M 1 3 + M 2 3 + M 3 4)) (r4 : M 4 4 = -(M 0 4 + M 1 4 + M 2 4 + M 3 4)) : detF M [1, 3, 4] [1, 3, 4] + detF M [0, 3, 4] [0, 3, 4] - detF M [2, 3, 4] [2, 3, 4] = 2 * (-detF M [1, 3, 4] [0, 3, 4]) := by
  have h10 := hs 1 0
  have h20 := hs 2 0
  have h21 := hs 2 1
  have h30 := hs 3 0
  have h31 := hs 3 1
  have h32 := hs 3 2
  have h40 := hs 4 0
  have h41 := hs 4 1
  have h42 := hs 4 2
  have h43 := hs 4 3
  clear hs
  simp only [detF, sumTo, sgn, nth, List.length, List.getD_cons_zero, List.getD_cons_succ, List.eraseIdx, h10, h30, h31, h32, h40, h41, h42, h43, r0, r1, r2, r3, r4]
  generalize M 0 1 = x01 at *
  generalize M 0 2 = x02 at *
  generalize M 1 2 = x12 at *
  generalize M 0 3 = x03 at *
  generalize M 1 3 = x13 at *
  generalize M 2 3 = x23 at *
  generalize M 0 4 = x04 at *
  generalize M 1 4 = x14 at *
  generalize M 2 4 = x24 at *
  generalize M 3 4 = x34 at *
  clear h10 h20 h21 h30 h31 h32 h40 h41 h42 h43 r0 r1 r2 r3 r4
  grind

theorem pot_5023 (M : Int → Int → Int) (hs : ∀ a b, M a b = M b a) (r0 : M 0 0 = -(M 0 1 + M 0 2 + M 0 3 + M 0 4)) (r1 : M 1 1 = -(M 0 1 + M 1 2 + M 1 3 + M 1 4)) (r2 : M 2 2 = -(M 0 2 + M 1 2 + M 2 3 + M 2 4)) (r3 : M 3 3 = -(M 0 3 + M 1 3 + M 2 3 + M 3 4)) (r4 : M 4 4 = -(M 0 4 + M 1 4 + M 2 4 + M 3 4)) : detF M [1, 3, 4] [1, 3, 4] + detF M [0, 1, 4] [0, 1, 4] - detF M [1, 2, 4] [1, 2, 4] = 2 * (detF M [1, 3, 4] [0, 1, 4]) := by
  have h10 := hs 1 0
  have h20 := hs 2 0
  have h21 := hs 2 1
  have h30 := hs 3 0
  have h31 := hs 3 1
  have h32 := hs 3 2
  have h40 := hs 4 0
  have h41 := hs 4 1
  have h42 := hs 4 2
  have h43 := hs 4 3
  clear hs
  simp only [detF, sumTo, sgn, nth, List.length, List.getD_cons_zero, List.getD_cons_succ, List.eraseIdx, h10, h21, h30, h31, h40, h41, h42, h43, r0, r1, r2, r3, r4]
  generalize M 0 1 = x01 at *
  generalize M 0 2 = x02 at *
  generalize M 1 2 = x12 at *
  generalize M 0 3 = x03 at *
  generalize M 1 3 = x13 at *
  generalize M 2 3 = x23 at *
  generalize M 0 4 = x04 at *
  generalize M 1 4 = x14 at *
  generalize M 2 4 = x24 at *
  generalize M 3 4 = x34 at *
  clear h10 h20 h21 h30 h31 h32 h40 h41 h42 h43 r0 r1 r2 r3 r4
  grind

theorem pot_5024 (M : Int → Int → Int) (hs : ∀ a b, M a b = M b a) (r0 : M 0 0 = -(M 0 1 + M 0 2 + M 0 3 + M 0 4)) (r1 : M 1 1 = -(M 0 1 + M 1 2 + M 1 3 + M 1 4)) (r2 : M 2 2 = -(M 0 2 + M 1 2 + M 2 3 + M 2 4)) (r3 : M 3 3 = -(M 0 3 + M 1 3 + M 2 3 + M 3 4)) (r4 : M 4 4 = -(M 0 4 + M 1 4 + M 2 4 + M 3 4)) : detF M [1, 3, 4] [1, 3, 4] + detF M [0, 1, 3] [0, 1, 3] - detF M [1, 2, 3] [1, 2, 3] = 2 * (-detF M [1, 3, 4] [0, 1, 3]) := by
  have h10 := hs 1 0
  have h20 := hs 2 0
  have h21 := hs 2 1
  have h30 := hs 3 0
  have h31 := hs 3 1
  have h32 := hs 3 2
  have h40 := hs 4 0
  have h41 := hs 4 1
  have h42 := hs 4 2
  have h43 := hs 4 3
  clear hs
  simp only [detF, sumTo, sgn, nth, List.length, List.getD_cons_zero, List.getD_cons_succ, List.eraseIdx, h10, h21, h30, h31, h32, h40, h41, h43, r0, r1, r2, r3, r4]
  generalize M 0 1 = x01 at *
  generalize M 0 2 = x02 at *
  generalize M 1 2 = x12 at *
  generalize M 0 3 = x03 at *
  generalize M 1 3 = x13 at *
  generalize M 2 3 = x23 at *
  generalize M 0 4 = x04 at *
  generalize M 1 4 = x14 at *
  generalize M 2 4 = x24 at *
  generalize M 3 4 = x34 at *
  clear h10 h20 h21 h30 h31 h32 h40 h41 h42 h43 r0 r1 r2 r3 r4
  grind

theorem pot_5031 (M : Int → Int → Int) (hs : ∀ a b, M a b = M b a) (r0 : M 0 0 = -(M 0 1 + M 0 2 + M 0 3 + M 0 4)) (r1 : M 1 1 = -(M 0 1 + M 1 2 + M 1 3 + M 1 4)) (r2 : M 2 2 = -(M 0 2 + M 1 2 + M 2 3 + M 2 4)) (r3 : M 3 3 = -(M 0 3 + M 1 3 + M 2 3 + M 3 4)) (r4 : M 4 4 = -(M 0 4 + M 1 4 + M 2 4 + M 3 4)) : detF M [1, 2, 4] [1, 2, 4] + detF M [0, 2, 4] [0, 2, 4] - detF M [2, 3, 4] [2, 3, 4] = 2 * (-detF M [1, 2, 4] [0, 2, 4]) := by
  have h10 := hs 1 0
  have h20 := hs 2 0
  have h21 := hs 2 1
  have h30 := hs 3 0
  have h31 := hs 3 1
  have h32 := hs 3 2
  have h40 := hs 4 0
  have h41 := hs 4 1
  have h42 := hs 4 2
  have h43 := hs 4 3
  clear hs
  simp only [detF, sumTo, sgn, nth, List.length, List.getD_cons_zero, List.getD_cons_succ, List.eraseIdx, h10, h20, h21, h32, h40, h41, h42, h43, r0, r1, r2, r3, r4]
  generalize M 0 1 = x01 at *
  generalize M 0 2 = x02 at *
  generalize M 1 2 = x12 at *
  generalize M 0 3 = x03 at *
  generalize M 1 3 = x13 at *
  generalize M 2 3 = x23 at *
  generalize M 0 4 = x04 at *
  generalize M 1 4 = x14 at *
  generalize M 2 4 = x24 at *
  generalize M 3 4 = x34 at *
  clear h10 h20 h21 h30 h31 h32 h40 h41 h42 h43 r0 r1 r2 r3 r4
  grind

theorem pot_5032 (M : Int → Int → Int) (hs : ∀ a b, M a b = M b a) (r0 : M 0 0 = -(M 0 1 + M 0 2 + M 0 3 + M 0 4)) (r1 : M 1 1 = -(M 0 1 + M 1 2 + M 1 3 + M 1 4)) (r2 : M 2 2 = -(M 0 2 + M 1 2 + M 2 3 + M 2 4)) (r3 : M 3 3 = -(M 0 3 + M 1 3 + M 2 3 + M 3 4)) (r4 : M 4 4 = -(M 0 4 + M 1 4 + M 2 4 + M 3 4)) : detF M [1, 2, 4] [1, 2, 4] + detF M [0, 1, 4] [0, 1, 4] - detF M [1, 3, 4] [1, 3, 4] = 2 * (detF M [1, 2, 4] [0, 1, 4]) := by
  have h10 := hs 1 0
  have h20 := hs 2 0
  have h21 := hs 2 1
  have h30 := hs 3 0
  have h31 := hs 3 1
  have h32 := hs 3 2
  have h40 := hs 4 0
  have h41 := hs 4 1
  have h42 := hs 4 2
  have h43 := hs 4 3
  clear hs
  simp only [detF, sumTo, sgn, nth, List.length, List.getD_cons_zero, List.getD_cons_succ, List.eraseIdx, h10, h20, h21, h31, h40, h41, h42, h43, r0, r1, r2, r3, r4]
  generalize M 0 1 = x01 at *
  generalize M 0 2 = x02 at *
  generalize M 1 2 = x12 at *
  generalize M 0 3 = x03 at *
  generalize M 1 3 = x13 at *
  generalize M 2 3 = x23 at *
  generalize M 0 4 = x04 at *
  generalize M 1 4 = x14 at *
  generalize M 2 4 = x24 at *
  generalize M 3 4 = x34 at *
  clear h10 h20 h21 h30 h31 h32 h40 h41 h42 h43 r0 r1 r2 r3 r4
  grind

theorem pot_5034 (M : Int → Int → Int) (hs : ∀ a b, M a b = M b a) (r0 : M 0 0 = -(M 0 1 + M 0 2 + M 0 3 + M 0 4)) (r1 : M 1 1 = -(M 0 1 + M 1 2 + M 1 3 + M 1 4)) (r2 : M 2 2 = -(M 0 2 + M 1 2 + M 2 3 + M 2 4)) (r3 : M 3 3 = -(M 0 3 + M 1 3 + M 2 3 + M 3 4)) (r4 : M 4 4 = -(M 0 4 + M 1 4 + M 2 4 + M 3 4)) : detF M [1, 2, 4] [1, 2, 4] + detF M [0, 1, 2] [0, 1, 2] - detF M [1, 2, 3] [1, 2, 3] = 2 * (-detF M [1, 2, 4] [0, 1, 2]) := by
  have h10 := hs 1 0
  have h20 := hs 2 0
  have h21 := hs 2 1
  have h30 := hs 3 0
  have h31 := hs 3 1
  have h32 := hs 3 2
  have h40 := hs 4 0
  have h41 := hs 4 1
  have h42 := hs 4 2
  have h43 := hs 4 3
  clear hs
  simp only [detF, sumTo, sgn, nth, List.length, List.getD_cons_zero, List.getD_cons_succ, List.eraseIdx, h10, h20, h21, h31, h32, h40, h41, h42, r0, r1, r2, r3, r4]
  generalize M 0 1 = x01 at *
  generalize M 0 2 = x02 at *
  generalize M 1 2 = x12 at *
  generalize M 0 3 = x03 at *
  generalize M 1 3 = x13 at *
  generalize M 2 3 = x23 at *
  generalize M 0 4 = x04 at *
  generalize M 1 4 = x14 at *
  generalize M 2 4 = x24 at *
  generalize M 3 4 = x34 at *
  clear h10 h20 h21 h30 h31 h32 h40 h41 h42 h43 r0 r1 r2 r3 r4
  grind

theorem pot_5041 (M : Int → Int → Int) (hs : ∀ a b, M a b = M b a) (r0 : M 0 0 = -(M 0 1 + M 0 2 + M 0 3 + M 0 4)) (r1 : M 1 1 = -(M 0 1 + M 1 2 + M 1 3 + M 1 4)) (r2 : M 2 2 = -(M 0 2 + M 1 2 + M 2 3 + M 2 4)) (r3 : M 3 3 = -(M 0 3 + M 1 3 + M 2 3 + M 3 4)) (r4 : M 4 4 = -(M 0 4 + M 1 4 + M 2 4 + M 3 4)) : detF M [1, 2, 3] [1, 2, 3] + detF M [0, 2, 3] [0, 2, 3] - detF M [2, 3, 4] [2, 3, 4] = 2 * (-detF M [1, 2, 3] [0, 2, 3]) := by
  have h10 := hs 1 0
  have h20 := hs 2 0
  have h21 := hs 2 1
  have h30 := hs 3 0
  have h31 := hs 3 1
  have h32 := hs 3 2
  have h40 := hs 4 0
  have h41 := hs 4 1
  have h42 := hs 4 2
  have h43 := hs 4 3
  clear hs
  simp only [detF, sumTo, sgn, nth, List.length, List.getD_cons_zero, List.getD_cons_succ, List.eraseIdx, h10, h20, h21, h30, h31, h32, h42, h43, r0, r1, r2, r3, r4]
  generalize M 0 1 = x01 at *
  generalize M 0 2 = x02 at *
  generalize M 1 2 = x12 at *
  generalize M 0 3 = x03 at *
  generalize M 1 3 = x13 at *
  generalize M 2 3 = x23 at *
  generalize M 0 4 = x04 at *
  generalize M 1 4 = x14 at *
  generalize M 2 4 = x24 at *
  generalize M 3 4 = x34 at *
  clear h10 h20 h21 h30 h31 h32 h40 h41 h42 h43 r0 r1 r2 r3 r4
  grind

theorem pot_5042 (M : Int → Int → Int) (hs : ∀ a b, M a b = M b a) (r0 : M 0 0 = -(M 0 1 + M 0 2 + M 0 3 + M 0 4)) (r1 : M 1 1 = -(M 0 1 + M 1 2 + M 1 3 + M 1 4)) (r2 : M 2 2 = -(M 0 2 + M 1 2 + M 2 3 + M 2 4)) (r3 : M 3 3 = -(M 0 3 + M 1 3 + M 2 3 + M 3 4)) (r4 : M 4 4 = -(M 0 4 + M 1 4 + M 2 4 + M 3 4)) : detF M [1, 2, 3] [1, 2, 3] + detF M [0, 1, 3] [0, 1, 3] - detF M [1, 3, 4] [1, 3, 4] = 2 * (detF M [1, 2, 3] [0, 1, 3]) := by
  have h10 := hs 1 0
  have h20 := hs 2 0
  have h21 := hs 2 1
  have h30 := hs 3 0
  have h31 := hs 3 1
  have h32 := hs 3 2
  have h40 := hs 4 0
  have h41 := hs 4 1
  have h42 := hs 4 2
  have h43 := hs 4 3
  clear hs
  simp only [detF, sumTo, sgn, nth, List.length, List.getD_cons_zero, List.getD_cons_succ, List.eraseIdx, h10, h20, h21, h30, h31, h32, h41, h43, r0, r1, r2, r3, r4]
  generalize M 0 1 = x01 at *
  generalize M 0 2 = x02 at *
  generalize M 1 2 = x12 at *
  generalize M 0 3 = x03 at *
  generalize M 1 3 = x13 at *
  generalize M 2 3 = x23 at *
  generalize M 0 4 = x04 at *
  generalize M 1 4 = x14 at *
  generalize M 2 4 = x24 at *
  generalize M 3 4 = x34 at *
  clear h10 h20 h21 h30 h31 h32 h40 h41 h42 h43 r0 r1 r2 r3 r4
  grind

theorem pot_5043 (M : Int → Int → Int) (hs : ∀ a b, M a b = M b a) (r0 : M 0 0 = -(M 0 1 + M 0 2 + M 0 3 + M 0 4)) (r1 : M 1 1 = -(M 0 1 + M 1 2 + M 1 3 + M 1 4)) (r2 : M 2 2 = -(M 0 2 + M 1 2 + M 2 3 + M 2 4)) (r3 : M 3 3 = -(M 0 3 + M 1 3 + M 2 3 + M 3 4)) (r4 : M 4 4 = -(M 0 4 + M 1 4 + M 2 4 + M 3 4)) : detF M [1, 2, 3] [1, 2, 3] + detF M [0, 1, 2] [0, 1, 2] - detF M [1, 2, 4] [1, 2, 4] = 2 * (-detF M [1, 2, 3] [0, 1, 2]) := by
  have h10 := hs 1 0
  have h20 := hs 2 0
  have h21 := hs 2 1
  have h30 := hs 3 0
  have h31 := hs 3 1
  have h32 := hs 3 2
  have h40 := hs 4 0
  have h41 := hs 4 1
  have h42 := hs 4 2
  have h43 := hs 4 3
  clear hs
  simp only [detF, sumTo, sgn, nth, List.length, List.getD_cons_zero, List.getD_cons_succ, List.eraseIdx, h10, h20, h21, h30, h31, h32, h41, h42, r0, r1, r2, r3, r4]
  generalize M 0 1 = x01 at *
  generalize M 0 2 = x02 at *
  generalize M 1 2 = x12 at *
  generalize M 0 3 = x03 at *
  generalize M 1 3 = x13 at *
  generalize M 2 3 = x23 at *
  generalize M 0 4 = x04 at *
  generalize M 1 4 = x14 at *
  generalize M 2 4 = x24 at *
  generalize M 3 4 = x34 at *
  clear h10 h20 h21 h30 h31 h32 h40 h41 h42 h43 r0 r1 r2 r3 r4
  grind

theorem pot_5102 (M : Int → Int → Int) (hs : ∀ a b, M a b = M b a) (r0 : M 0 0 = -(M 0 1 + M 0 2 + M 0 3 + M 0 4)) (r1 : M 1 1 = -(M 0 1 + M 1 2 + M 1 3 + M 1 4)) (r2 : M 2 2 = -(M 0 2 + M 1 2 + M 2 3 + M 2 4)) (r3 : M 3 3 = -(M 0 3 + M 1 3 + M 2 3 + M 3 4)) (r4 : M 4 4 = -(M 0 4 + M 1 4 + M 2 4 + M 3 4)) : detF M [2, 3, 4] [2, 3, 4] + detF M [1, 3, 4] [1, 3, 4] - detF M [0, 3, 4] [0, 3, 4] = 2 * (-detF M [2, 3, 4] [1, 3, 4]) := by
  have h10 := hs 1 0
  have h20 := hs 2 0
  have h21 := hs 2 1
  have h30 := hs 3 0
  have h31 := hs 3 1
  have h32 := hs 3 2
  have h40 := hs 4 0
  have h41 := hs 4 1
  have h42 := hs 4 2
  have h43 := hs 4 3
  clear hs
  simp only [detF, sumTo, sgn, nth, List.length, List.getD_cons_zero, List.getD_cons_succ, List.eraseIdx, h21, h30, h31, h32, h40, h41, h42, h43, r0, r1, r2, r3, r4]
  generalize M 0 1 = x01 at *
  generalize M 0 2 = x02 at *
  generalize M 1 2 = x12 at *
  generalize M 0 3 = x03 at *
  generalize M 1 3 = x13 at *
  generalize M 2 3 = x23 at *
  generalize M 0 4 = x04 at *
  generalize M 1 4 = x14 at *
  generalize M 2 4 = x24 at *
  generalize M 3 4 = x34 at *
  clear h10 h20 h21 h30 h31 h32 h40 h41 h42 h43 r0 r1 r2 r3 r4
  grind

theorem pot_5103 (M : Int → Int → Int) (hs : ∀ a b, M a b = M b a) (r0 : M 0 0 = -(M 0 1 + M 0 2 + M 0 3 + M 0 4)) (r1 : M 1 1 = -(M 0 1 + M 1 2 + M 1 3 + M 1 4)) (r2 : M 2 2 = -(M 0 2 + M 1 2 + M 2 3 + M 2 4)) (r3 : M 3 3 = -(M 0 3 + M 1 3 + M 2 3 + M 3 4)) (r4 : M 4 4 = -(M 0 4 + M 1 4 + M 2 4 + M 3 4)) : detF M [2, 3, 4] [2, 3, 4] + detF M [1, 2, 4] [1, 2, 4] - detF M [0, 2, 4] [0, 2, 4] = 2 * (detF M [2, 3, 4] [1, 2, 4]) := by
  have h10 := hs 1 0
  have h20 := hs 2 0
  have h21 := hs 2 1
  have h30 := hs 3 0
  have h31 := hs 3 1
  have h32 := hs 3 2
  have h40 := hs 4 0
  have h41 := hs 4 1
  have h42 := hs 4 2
  have h43 := hs 4 3
  clear hs
  simp only [detF, sumTo, sgn, nth, List.length, List.getD_cons_zero, List.getD_cons_succ, List.eraseIdx, h20, h21, h31, h32, h40, h41, h42, h43, r0, r1, r2, r3, r4]
  generalize M 0 1 = x01 at *
  generalize M 0 2 = x02 at *
  generalize M 1 2 = x12 at *
  generalize M 0 3 = x03 at *
  generalize M 1 3 = x13 at *
  generalize M 2 3 = x23 at *
  generalize M 0 4 = x04 at *
  generalize M 1 4 = x14 at *
  generalize M 2 4 = x24 at *
  generalize M 3 4 = x34 at *
  clear h10 h20 h21 h30 h31 h32 h40 h41 h42 h43 r0 r1 r2 r3 r4
  grind

theorem pot_5104 (M : Int → Int → Int) (hs : ∀ a b, M a b = M b a) (r0 : M 0 0 = -(M 0 1 + M 0 2 + M 0 3 + M 0 4)) (r1 : M 1 1 = -(M 0 1 + M 1 2 + M 1 3 + M 1 4)) (r2 : M 2 2 = -(M 0 2 + M 1 2 + M 2 3 + M 2 4)) (r3 : M 3 3 = -(M 0 3 + M 1 3 + M 2 3 + M 3 4)) (r4 : M 4 4 = -(M 0 4 + M 1 4 + M 2 4 + M 3 4)) : detF M [2, 3, 4] [2, 3, 4] + detF M [1, 2, 3] [1, 2, 3] - detF M [0, 2, 3] [0, 2, 3] = 2 * (-detF M [2, 3, 4] [1, 2, 3]) := by
  have h10 := hs 1 0
  have h20 := hs 2 0
  have h21 := hs 2 1
  have h30 := hs 3 0
  have h31 := hs 3 1
  have h32 := hs 3 2
  have h40 := hs 4 0
  have h41 := hs 4 1
  have h42 := hs 4 2
  have h43 := hs 4 3
  clear hs
  simp only [detF, sumTo, sgn, nth, List.length, List.getD_cons_zero, List.getD_cons_succ, List.eraseIdx, h20, h21, h30, h31, h32, h41, h42, h43, r0, r1, r2, r3, r4]
  generalize M 0 1 = x01 at *
  generalize M 0 2 = x02 at *
  generalize M 1 2 = x12 at *
  generalize M 0 3 = x03 at *
  generalize M 1 3 = x13 at *
  generalize M 2 3 = x23 at *
  generalize M 0 4 = x04 at *
  generalize M 1 4 = x14 at *
  generalize M 2 4 = x24 at *
  generalize M 3 4 = x34 at *
  clear h10 h20 h21 h30 h31 h32 h40 h41 h42 h43 r0 r1 r2 r3 r4
  grind

theorem pot_5120 (M : Int → Int → Int) (hs : ∀ a b, M a b = M b a) (r0 : M 0 0 = -(M 0 1 + M 0 2 + M 0 3 + M 0 4)) (r1 : M 1 1 = -(M 0 1 + M 1 2 + M 1 3 + M 1 4)) (r2 : M 2 2 = -(M 0 2 + M 1 2 + M 2 3 + M 2 4)) (r3 : M 3 3 = -(M 0 3 + M 1 3 + M 2 3 + M 3 4)) (r4 : M 4 4 = -(M 0 4 + M 1 4 + M 2 4 + M 3 4)) : detF M [0, 3, 4] [0, 3, 4] + detF M [1, 3, 4] [1, 3, 4] - detF M [2, 3, 4] [2, 3, 4] = 2 * (-detF M [0, 3, 4] [1, 3, 4]) := by
  have h10 := hs 1 0
  have h20 := hs 2 0
  have h21 := hs 2 1
  have h30 := hs 3 0
  have h31 := hs 3 1
  have h32 := hs 3 2
  have h40 := hs 4 0
  have h41 := hs 4 1
  have h42 := hs 4 2
  have h43 := hs 4 3
  clear hs
  simp only [detF, sumTo, sgn, nth, List.length, List.getD_cons_zero, List.getD_cons_succ, List.eraseIdx, h30, h31, h32, h40, h41, h42, h43, r0, r1, r2, r3, r4]
  generalize M 0 1 = x01 at *
  generalize M 0 2 = x02 at *
  generalize M 1 2 = x12 at *
  generalize M 0 3 = x03 at *
  generalize M 1 3 = x13 at *
  generalize M 2 3 = x23 at *
  generalize M 0 4 = x04 at *
  generalize M 1 4 = x14 at *
  generalize M 2 4 = x24 at *
  generalize M 3 4 = x34 at *
  clear h10 h20 h21 h30 h31 h32 h40 h41 h42 h43 r0 r1 r2 r3 r4
  grind

theorem pot_5123 (M : Int → Int → Int) (hs : ∀ a b, M a b = M b a) (r0 : M 0 0 = -(M 0 1 + M 0 2 + M 0 3 + M 0 4)) (r1 : M 1 1 = -(M 0 1 + M 1 2 + M 1 3 + M 1 4)) (r2 : M 2 2 = -(M 0 2 + M 1 2 + M 2 3 + M 2 4)) (r3 : M 3 3 = -(M 0 3 + M 1 3 + M 2 3 + M 3 4)) (r4 : M 4 4 = -(M 0 4 + M 1 4 + M 2 4 + M 3 4)) : detF M [0, 3, 4] [0, 3, 4] + detF M [0, 1, 4] [0, 1, 4] - detF M [0, 2, 4] [0, 2, 4] = 2 * (-detF M [0, 3, 4] [0, 1, 4]) := by
  have h10 := hs 1 0
  have h20 := hs 2 0
  have h21 := hs 2 1
  have h30 := hs 3 0
  have h31 := hs 3 1
  have h32 := hs 3 2
  have h40 := hs 4 0
  have h41 := hs 4 1
  have h42 := hs 4 2
  have h43 := hs 4 3
  clear hs
  simp only [detF, sumTo, sgn, nth, List.length, List.getD_cons_zero, List.getD_cons_succ, List.eraseIdx, h10, h20, h30, h31, h40, h41, h42, h43, r0, r1, r2, r3, r4]
  generalize M 0 1 = x01 at *
  generalize M 0 2 = x02 at *
  generalize M 1 2 = x12 at *
  generalize M 0 3 = x03 at *
  generalize M 1 3 = x13 at *
  generalize M 2 3 = x23 at *
  generalize M 0 4 = x04 at *
  generalize M 1 4 = x14 at *
  generalize M 2 4 = x24 at *
  generalize M 3 4 = x34 at *
  clear h10 h20 h21 h30 h31 h32 h40 h41 h42 h43 r0 r1 r2 r3 r4
  grind

theorem pot_5124 (M : Int → Int → Int) (hs : ∀ a b, M a b = M b a) (r0 : M 0 0 = -(M 0 1 + M 0 2 + M 0 3 + M 0 4)) (r1 : M 1 1 = -(M 0 1 + M 1 2 + M 1 3 + M 1 4)) (r2 : M 2 2 = -(M 0 2 + M 1 2 + M 2 3 + M 2 4)) (r3 : M 3 3 = -(M 0 3 + M 1 3 + M 2 3 + M 3 4)) (r4 : M 4 4 = -(M 0 4 + M 1 4 + M 2 4 + M 3 4)) : detF M [0, 3, 4] [0, 3, 4] + detF M [0, 1, 3] [0, 1, 3] - detF M [0, 2, 3] [0, 2, 3] = 2 * (detF M [0, 3, 4] [0, 1, 3]) := by
  have h10 := hs 1 0
  have h20 := hs 2 0
  have h21 := hs 2 1
  have h30 := hs 3 0
  have h31 := hs 3 1
  have h32 := hs 3 2
  have h40 := hs 4 0
  have h41 := hs 4 1
  have h42 := hs 4 2
  have h43 := hs 4 3
  clear hs
  simp only [detF, sumTo, sgn, nth, List.length, List.getD_cons_zero, List.getD_cons_succ, List.eraseIdx, h10, h20, h30, h31, h32, h40, h41, h43, r0, r1, r2, r3, r4]
  generalize M 0 1 = x01 at *
  generalize M 0 2 = x02 at *
  generalize M 1 2 = x12 at *
  generalize M 0 3 = x03 at *
  generalize M 1 3 = x13 at *
  generalize M 2 3 = x23 at *
  generalize M 0 4 = x04 at *
  generalize M 1 4 = x14 at *
  generalize M 2 4 = x24 at *
  generalize M 3 4 = x34 at *
  clear h10 h20 h21 h30 h31 h32 h40 h41 h42 h43 r0 r1 r2 r3 r4
  grind

theorem pot_5130 (M : Int → Int → Int) (hs : ∀ a b, M a b = M b a) (r0 : M 0 0 = -(M 0 1 + M 0 2 + M 0 3 + M 0 4)) (r1 : M 1 1 = -(M 0 1 + M 1 2 + M 1 3 + M 1 4)) (r2 : M 2 2 = -(M 0 2 + M 1 2 + M 2 3 + M 2 4)) (r3 : M 3 3 = -(M 0 3 + M 1 3 + M 2 3 + M 3 4)) (r4 : M 4 4 = -(M 0 4 + M 1 4 + M 2 4 + M 3 4)) : detF M [0, 2, 4] [0, 2, 4] + detF M [1, 2, 4] [1, 2, 4] - detF M [2, 3, 4] [2, 3, 4] = 2 * (-detF M [0, 2, 4] [1, 2, 4]) := by
  have h10 := hs 1 0
  have h20 := hs 2 0
  have h21 := hs 2 1
  have h30 := hs 3 0
  have h31 := hs 3 1
  have h32 := hs 3 2
  have h40 := hs 4 0
  have h41 := hs 4 1
  have h42 := hs 4 2
  have h43 := hs 4 3
  clear hs
  simp only [detF, sumTo, sgn, nth, List.length, List.getD_cons_zero, List.getD_cons_succ, List.eraseIdx, h20, h21, h32, h40, h41, h42, h43, r0, r1, r2, r3, r4]
  generalize M 0 1 = x01 at *
  generalize M 0 2 = x02 at *
  generalize M 1 2 = x12 at *
  generalize M 0 3 = x03 at *
  generalize M 1 3 = x13 at *
  generalize M 2 3 = x23 at *
  generalize M 0 4 = x04 at *
  generalize M 1 4 = x14 at *
  generalize M 2 4 = x24 at *
  generalize M 3 4 = x34 at *
  clear h10 h20 h21 h30 h31 h32 h40 h41 h42 h43 r0 r1 r2 r3 r4
  grind

theorem pot_5132 (M : Int → Int → Int) (hs : ∀ a b, M a b = M b a) (r0 : M 0 0 = -(M 0 1 + M 0 2 + M 0 3 + M 0 4)) (r1 : M 1 1 = -(M 0 1 + M 1 2 + M 1 3 + M 1 4)) (r2 : M 2 2 = -(M 0 2 + M 1 2 + M 2 3 + M 2 4)) (r3 : M 3 3 = -(M 0 3 + M 1 3 + M 2 3 + M 3 4)) (r4 : M 4 4 = -(M 0 4 + M 1 4 + M 2 4 + M 3 4)) : detF M [0, 2, 4] [0, 2, 4] + detF M [0, 1, 4] [0, 1, 4] - detF M [0, 3, 4] [0, 3, 4] = 2 * (-detF M [0, 2, 4] [0, 1, 4]) := by
  have h10 := hs 1 0
  have h20 := hs 2 0
  have h21 := hs 2 1
  have h30 := hs 3 0
  have h31 := hs 3 1
  have h32 := hs 3 2
  have h40 := hs 4 0
  have h41 := hs 4 1
  have h42 := hs 4 2
  have h43 := hs 4 3
  clear hs
  simp only [detF, sumTo, sgn, nth, List.length, List.getD_cons_zero, List.getD_cons_succ, List.eraseIdx, h10, h20, h21, h30, h40, h41, h42, h43, r0, r1, r2, r3, r4]
  generalize M 0 1 = x01 at *
  generalize M 0 2 = x02 at *
  generalize M 1 2 = x12 at *
  generalize M 0 3 = x03 at *
  generalize M 1 3 = x13 at *
  generalize M 2 3 = x23 at *
  generalize M 0 4 = x04 at *
  generalize M 1 4 = x14 at *
  generalize M 2 4 = x24 at *
  generalize M 3 4 = x34 at *
  clear h10 h20 h21 h30 h31 h32 h40 h41 h42 h43 r0 r1 r2 r3 r4
  grind

theorem pot_5134 (M : Int → Int → Int) (hs : ∀ a b, M a b = M b a) (r0 : M 0 0 = -(M 0 1 + M 0 2 + M 0 3 + M 0 4)) (r1 : M 1 1 = -(M 0 1 + M 1 2 + M 1 3 + M 1 4)) (r2 : M 2 2 = -(M 0 2 + M 1 2 + M 2 3 + M 2 4)) (r3 : M 3 3 = -(M 0 3 + M 1 3 + M 2 3 + M 3 4)) (r4 : M 4 4 = -(M 0 4 + M 1 4 + M 2 4 + M 3 4)) : detF M [0, 2, 4] [0, 2, 4] + detF M [0, 1, 2] [0, 1, 2] - detF M [0, 2, 3] [0, 2, 3] = 2 * (detF M [0, 2, 4] [0, 1, 2]) := by
  have h10 := hs 1 0
  have h20 := hs 2 0
  have h21 := hs 2 1
  have h30 := hs 3 0
  have h31 := hs 3 1
  have h32 := hs 3 2
  have h40 := hs 4 0
  have h41 := hs 4 1
  have h42 := hs 4 2
  have h43 := hs 4 3
  clear hs
  simp only [detF, sumTo, sgn, nth, List.length, List.getD_cons_zero, List.getD_cons_succ, List.eraseIdx, h10, h20, h21, h30, h32, h40, h41, h42, r0, r1, r2, r3, r4]
  generalize M 0 1 = x01 at *
  generalize M 0 2 = x02 at *
  generalize M 1 2 = x12 at *
  generalize M 0 3 = x03 at *
  generalize M 1 3 = x13 at *
  generalize M 2 3 = x23 at *
  generalize M 0 4 = x04 at *
  generalize M 1 4 = x14 at *
  generalize M 2 4 = x24 at *
  generalize M 3 4 = x34 at *
  clear h10 h20 h21 h30 h31 h32 h40 h41 h42 h43 r0 r1 r2 r3 r4
  grind

theorem pot_5140 (M : Int → Int → Int) (hs : ∀ a b, M a b = M b a) (r0 : M 0 0 = -(M 0 1 + M 0 2 + M 0 3 + M 0 4)) (r1 : M 1 1 = -(M 0 1 + M 1 2 + M 1 3 + M 1 4)) (r2 : M 2 2 = -(M 0 2 + M 1 2 + M 2 3 + M 2 4)) (r3 : M 3 3 = -(M 0 3 + M 1 3 + M 2 3 + M 3 4)) (r4 : M 4 4 = -(M 0 4 + M 1 4 + M 2 4 + M 3 4)) : detF M [0, 2, 3] [0, 2, 3] + detF M [1, 2, 3] [1, 2, 3] - detF M [2, 3, 4] [2, 3, 4] = 2 * (-detF M [0, 2, 3] [1, 2, 3]) := by
  have h10 := hs 1 0
  have h20 := hs 2 0
  have h21 := hs 2 1
  have h30 := hs 3 0
  have h31 := hs 3 1
  have h32 := hs 3 2
  have h40 := hs 4 0
  have h41 := hs 4 1
  have h42 := hs 4 2
  have h43 := hs 4 3
  clear hs
  simp only [detF, sumTo, sgn, nth, List.length, List.getD_cons_zero, List.getD_cons_succ, List.eraseIdx, h20, h21, h30, h31, h32, h42, h43, r0, r1, r2, r3, r4]
  generalize M 0 1 = x01 at *
  generalize M 0 2 = x02 at *
  generalize M 1 2 = x12 at *
  generalize M 0 3 = x03 at *
  generalize M 1 3 = x13 at *
  generalize M 2 3 = x23 at *
  generalize M 0 4 = x04 at *
  generalize M 1 4 = x14 at *
  generalize M 2 4 = x24 at *
  generalize M 3 4 = x34 at *
  clear h10 h20 h21 h30 h31 h32 h40 h41 h42 h43 r0 r1 r2 r3 r4
  grind

theorem pot_5142 (M : Int → Int → Int) (hs : ∀ a b, M a b = M b a) (r0 : M 0 0 = -(M 0 1 + M 0 2 + M 0 3 + M 0 4)) (r1 : M 1 1 = -(M 0 1 + M 1 2 + M 1 3 + M 1 4)) (r2 : M 2 2 = -(M 0 2 + M 1 2 + M 2 3 + M 2 4)) (r3 : M 3 3 = -(M 0 3 + M 1 3 + M 2 3 + M 3 4)) (r4 : M 4 4 = -(M 0 4 + M 1 4 + M 2 4 + M 3 4)) : detF M [0, 2, 3] [0, 2, 3] + detF M [0, 1, 3] [0, 1, 3] - detF M [0, 3, 4] [0, 3, 4] = 2 * (-detF M [0, 2, 3] [0, 1, 3]) := by
  have h10 := hs 1 0
  have h20 := hs 2 0
  have h21 := hs 2 1
  have h30 := hs 3 0
  have h31 := hs 3 1
  have h32 := hs 3 2
  have h40 := hs 4 0
  have h41 := hs 4 1
  have h42 := hs 4 2
  have h43 := hs 4 3
  clear hs
  simp only [detF, sumTo, sgn, nth, List.length, List.getD_cons_zero, List.getD_cons_succ, List.eraseIdx, h10, h20, h21, h30, h31, h32, h40, h43, r0, r1, r2, r3, r4]
  generalize M 0 1 = x01 at *
  generalize M 0 2 = x02 at *
  generalize M 1 2 = x12 at *
  generalize M 0 3 = x03 at *
  generalize M 1 3 = x13 at *
  generalize M 2 3 = x23 at *
  generalize M 0 4 = x04 at *
  generalize M 1 4 = x14 at *
  generalize M 2 4 = x24 at *
  generalize M 3 4 = x34 at *
  clear h10 h20 h21 h30 h31 h32 h40 h41 h42 h43 r0 r1 r2 r3 r4
  grind

theorem pot_5143 (M : Int → Int → Int) (hs : ∀ a b, M a b = M b a) (r0 : M 0 0 = -(M 0 1 + M 0 2 + M 0 3 + M 0 4)) (r1 : M 1 1 = -(M 0 1 + M 1 2 + M 1 3 + M 1 4)) (r2 : M 2 2 = -(M 0 2 + M 1 2 + M 2 3 + M 2 4)) (r3 : M 3 3 = -(M 0 3 + M 1 3 + M 2 3 + M 3 4)) (r4 : M 4 4 = -(M 0 4 + M 1 4 + M 2 4 + M 3 4)) : detF M [0, 2, 3] [0, 2, 3] + detF M [0, 1, 2] [0, 1, 2] - detF M [0, 2, 4] [0, 2, 4] = 2 * (detF M [0, 2, 3] [0, 1, 2]) := by
  have h10 := hs 1 0
  have h20 := hs 2 0
  have h21 := hs 2 1
  have h30 := hs 3 0
  have h31 := hs 3 1
  have h32 := hs 3 2
  have h40 := hs 4 0
  have h41 := hs 4 1
  have h42 := hs 4 2
  have h43 := hs 4 3
  clear hs
  simp only [detF, sumTo, sgn, nth, List.length, List.getD_cons_zero, List.getD_cons_succ, List.eraseIdx, h10, h20, h21, h30, h31, h32, h40, h42, r0, r1, r2, r3, r4]
  generalize M 0 1 = x01 at *
  generalize M 0 2 = x02 at *
  generalize M 1 2 = x12 at *
  generalize M 0 3 = x03 at *
  generalize M 1 3 = x13 at *
  generalize M 2 3 = x23 at *
  generalize M 0 4 = x04 at *
  generalize M 1 4 = x14 at *
  generalize M 2 4 = x24 at *
  generalize M 3 4 = x34 at *
  clear h10 h20 h21 h30 h31 h32 h40 h41 h42 h43 r0 r1 r2 r3 r4
  grind

theorem pot_5201 (M : Int → Int → Int) (hs : ∀ a b, M a b = M b a) (r0 : M 0 0 = -(M 0 1 + M 0 2 + M 0 3 + M 0 4)) (r1 : M 1 1 = -(M 0 1 + M 1 2 + M 1 3 + M 1 4)) (r2 : M 2 2 = -(M 0 2 + M 1 2 + M 2 3 + M 2 4)) (r3 : M 3 3 = -(M 0 3 + M 1 3 + M 2 3 + M 3 4)) (r4 : M 4 4 = -(M 0 4 + M 1 4 + M 2 4 + M 3 4)) : detF M [1, 3, 4] [1, 3, 4] + detF M [2, 3, 4] [2, 3, 4] - detF M [0, 3, 4] [0, 3, 4] = 2 * (-detF M [1, 3, 4] [2, 3, 4]) := by
  have h10 := hs 1 0
  have h20 := hs 2 0
  have h21 := hs 2 1
  have h30 := hs 3 0
  have h31 := hs 3 1
  have h32 := hs 3 2
  have h40 := hs 4 0
  have h41 := hs 4 1
  have h42 := hs 4 2
  have h43 := hs 4 3
  clear hs
  simp only [detF, sumTo, sgn, nth, List.length, List.getD_cons_zero, List.getD_cons_succ, List.eraseIdx, h30, h31, h32, h40, h41, h42, h43, r0, r1, r2, r3, r4]
  generalize M 0 1 = x01 at *
  generalize M 0 2 = x02 at *
  generalize M 1 2 = x12 at *
  generalize M 0 3 = x03 at *
  generalize M 1 3 = x13 at *
  generalize M 2 3 = x23 at *
  generalize M 0 4 = x04 at *
  generalize M 1 4 = x14 at *
  generalize M 2 4 = x24 at *
  generalize M 3 4 = x34 at *
  clear h10 h20 h21 h30 h31 h32 h40 h41 h42 h43 r0 r1 r2 r3 r4
  grind

theorem pot_5203 (M : Int → Int → Int) (hs : ∀ a b, M a b = M b a) (r0 : M 0 0 = -(M 0 1 + M 0 2 + M 0 3 + M 0 4)) (r1 : M 1 1 = -(M 0 1 + M 1 2 + M 1 3 + M 1 4)) (r2 : M 2 2 = -(M 0 2 + M 1 2 + M 2 3 + M 2 4)) (r3 : M 3 3 = -(M 0 3 + M 1 3 + M 2 3 + M 3 4)) (r4 : M 4 4 = -(M 0 4 + M 1 4 + M 2 4 + M 3 4)) : detF M [1, 3, 4] [1, 3, 4] + detF M [1, 2, 4] [1, 2, 4] - detF M [0, 1, 4] [0, 1, 4] = 2 * (-detF M [1, 3, 4] [1, 2, 4]) := by
  have h10 := hs 1 0
  have h20 := hs 2 0
  have h21 := hs 2 1
  have h30 := hs 3 0
  have h31 := hs 3 1
  have h32 := hs 3 2
  have h40 := hs 4 0
  have h41 := hs 4 1
  have h42 := hs 4 2
  have h43 := hs 4 3
  clear hs
  simp only [detF, sumTo, sgn, nth, List.length, List.getD_cons_zero, List.getD_cons_succ, List.eraseIdx, h10, h21, h31, h32, h40, h41, h42, h43, r0, r1, r2, r3, r4]
  generalize M 0 1 = x01 at *
  generalize M 0 2 = x02 at *
  generalize M 1 2 = x12 at *
  generalize M 0 3 = x03 at *
  generalize M 1 3 = x13 at *
  generalize M 2 3 = x23 at *
  generalize M 0 4 = x04 at *
  generalize M 1 4 = x14 at *
  generalize M 2 4 = x24 at *
  generalize M 3 4 = x34 at *
  clear h10 h20 h21 h30 h31 h32 h40 h41 h42 h43 r0 r1 r2 r3 r4
  grind

theorem pot_5204 (M : Int → Int → Int) (hs : ∀ a b, M a b = M b a) (r0 : M 0 0 = -(M 0 1 + M 0 2 + M 0 3 + M 0 4)) (r1 : M 1 1 = -(M 0 1 + M 1 2 + M 1 3 + M 1 4)) (r2 : M 2 2 = -(M 0 2 + M 1 2 + M 2 3 + M 2 4)) (r3 : M 3 3 = -(M 0 3 + M 1 3 + M 2 3 + M 3 4)) (r4 : M 4 4 = -(M 0 4 + M 1 4 + M 2 4 + M 3 4)) : detF M [1, 3, 4] [1, 3, 4] + detF M [1, 2, 3] [1, 2, 3] - detF M [0, 1, 3] [0, 1, 3] = 2 * (detF M [1, 3, 4] [1, 2, 3]) := by
  have h10 := hs 1 0
  have h20 := hs 2 0
  have h21 := hs 2 1
  have h30 := hs 3 0
  have h31 := hs 3 1
  have h32 := hs 3 2
  have h40 := hs 4 0
  have h41 := hs 4 1
  have h42 := hs 4 2
  have h43 := hs 4 3
  clear hs
  simp only [detF, sumTo, sgn, nth, List.length, List.getD_cons_zero, List.getD_cons_succ, List.eraseIdx, h10, h21, h30, h31, h32, h41, h42, h43, r0, r1, r2, r3, r4]
  generalize M 0 1 = x01 at *
  generalize M 0 2 = x02 at *
  generalize M 1 2 = x12 at *
  generalize M 0 3 = x03 at *
  generalize M 1 3 = x13 at *
  generalize M 2 3 = x23 at *
  generalize M 0 4 = x04 at *
  generalize M 1 4 = x14 at *
  generalize M 2 4 = x24 at *
  generalize M 3 4 = x34 at *
  clear h10 h20 h21 h30 h31 h32 h40 h41 h42 h43 r0 r1 r2 r3 r4
  grind

theorem pot_5210 (M : Int → Int → Int) (hs : ∀ a b, M a b = M b a) (r0 : M 0 0 = -(M 0 1 + M 0 2 + M 0 3 + M 0 4)) (r1 : M 1 1 = -(M 0 1 + M 1 2 + M 1 3 + M 1 4)) (r2 : M 2 2 = -(M 0 2 + M 1 2 + M 2 3 + M 2 4)) (r3 : M 3 3 = -(M 0 3 + M 1 3 + M 2 3 + M 3 4)) (r4 : M 4 4 = -(M 0 4 + M 1 4 + M 2 4 + M 3 4)) : detF M [0, 3, 4] [0, 3, 4] + detF M [2, 3, 4] [2, 3, 4] - detF M [1, 3, 4] [1, 3, 4] = 2 * (-detF M [0, 3, 4] [2, 3, 4]) := by
  have h10 := hs 1 0
  have h20 := hs 2 0
  have h21 := hs 2 1
  have h30 := hs 3 0
  have h31 := hs 3 1
  have h32 := hs 3 2
  have h40 := hs 4 0
  have h41 := hs 4 1
  have h42 := hs 4 2
  have h43 := hs 4 3
  clear hs
  simp only [detF, sumTo, sgn, nth, List.length, List.getD_cons_zero, List.getD_cons_succ, List.eraseIdx, h30, h31, h32, h40, h41, h42, h43, r0, r1, r2, r3, r4]
  generalize M 0 1 = x01 at *
  generalize M 0 2 = x02 at *
  generalize M 1 2 = x12 at *
  generalize M 0 3 = x03 at *
  generalize M 1 3 = x13 at *
  generalize M 2 3 = x23 at *
  generalize M 0 4 = x04 at *
  generalize M 1 4 = x14 at *
  generalize M 2 4 = x24 at *
  generalize M 3 4 = x34 at *
  clear h10 h20 h21 h30 h31 h32 h40 h41 h42 h43 r0 r1 r2 r3 r4
  grind

theorem pot_5213 (M : Int → Int → Int) (hs : ∀ a b, M a b = M b a) (r0 : M 0 0 = -(M 0 1 + M 0 2 + M 0 3 + M 0 4)) (r1 : M 1 1 = -(M 0 1 + M 1 2 + M 1 3 + M 1 4)) (r2 : M 2 2 = -(M 0 2 + M 1 2 + M 2 3 + M 2 4)) (r3 : M 3 3 = -(M 0 3 + M 1 3 + M 2 3 + M 3 4)) (r4 : M 4 4 = -(M 0 4 + M 1 4 + M 2 4 + M 3 4)) : detF M [0, 3, 4] [0, 3, 4] + detF M [0, 2, 4] [0, 2, 4] - detF M [0, 1, 4] [0, 1, 4] = 2 * (-detF M [0, 3, 4] [0, 2, 4]) := by
  have h10 := hs 1 0
  have h20 := hs 2 0
  have h21 := hs 2 1
  have h30 := hs 3 0
  have h31 := hs 3 1
  have h32 := hs 3 2
  have h40 := hs 4 0
  have h41 := hs 4 1
  have h42 := hs 4 2
  have h43 := hs 4 3
  clear hs
  simp only [detF, sumTo, sgn, nth, List.length, List.getD_cons_zero, List.getD_cons_succ, List.eraseIdx, h10, h20, h30, h32, h40, h41, h42, h43, r0, r1, r2, r3, r4]
  generalize M 0 1 = x01 at *
  generalize M 0 2 = x02 at *
  generalize M 1 2 = x12 at *
  generalize M 0 3 = x03 at *
  generalize M 1 3 = x13 at *
  generalize M 2 3 = x23 at *
  generalize M 0 4 = x04 at *
  generalize M 1 4 = x14 at *
  generalize M 2 4 = x24 at *
  generalize M 3 4 = x34 at *
  clear h10 h20 h21 h30 h31 h32 h40 h41 h42 h43 r0 r1 r2 r3 r4
  grind

theorem pot_5214 (M : Int → Int → Int) (hs : ∀ a b, M a b = M b a) (r0 : M 0 0 = -(M 0 1 + M 0 2 + M 0 3 + M 0 4)) (r1 : M 1 1 = -(M 0 1 + M 1 2 + M 1 3 + M 1 4)) (r2 : M 2 2 = -(M 0 2 + M 1 2 + M 2 3 + M 2 4)) (r3 : M 3 3 = -(M 0 3 + M 1 3 + M 2 3 + M 3 4)) (r4 : M 4 4 = -(M 0 4 + M 1 4 + M 2 4 + M 3 4)) : detF M [0, 3, 4] [0, 3, 4] + detF M [0, 2, 3] [0, 2, 3] - detF M [0, 1, 3] [0, 1, 3] = 2 * (detF M [0, 3, 4] [0, 2, 3]) := by
  have h10 := hs 1 0
  have h20 := hs 2 0
  have h21 := hs 2 1
  have h30 := hs 3 0
  have h31 := hs 3 1
  have h32 := hs 3 2
  have h40 := hs 4 0
  have h41 := hs 4 1
  have h42 := hs 4 2
  have h43 := hs 4 3
  clear hs
  simp only [detF, sumTo, sgn, nth, List.length, List.getD_cons_zero, List.getD_cons_succ, List.eraseIdx, h10, h20, h30, h31, h32, h40, h42, h43, r0, r1, r2, r3, r4]
  generalize M 0 1 = x01 at *
  generalize M 0 2 = x02 at *
  generalize M 1 2 = x12 at *
  generalize M 0 3 = x03 at *
  generalize M 1 3 = x13 at *
  generalize M 2 3 = x23 at *
  generalize M 0 4 = x04 at *
  generalize M 1 4 = x14 at *
  generalize M 2 4 = x24 at *
  generalize M 3 4 = x34 at *
  clear h10 h20 h21 h30 h31 h32 h40 h41 h42 h43 r0 r1 r2 r3 r4
  grind

theorem pot_5230 (M : Int → Int → Int) (hs : ∀ a b, M a b = M b a) (r0 : M 0 0 = -(M 0 1 + M 0 2 + M 0 3 + M 0 4)) (r1 : M 1 1 = -(M 0 1 + M 1 2 + M 1 3 + M 1 4)) (r2 : M 2 2 = -(M 0 2 + M 1 2 + M 2 3 + M 2 4)) (r3 : M 3 3 = -(M 0 3 + M 1 3 + M 2 3 + M 3 4)) (r4 : M 4 4 = -(M 0 4 + M 1 4 + M 2 4 + M 3 4)) : detF M [0, 1, 4] [0, 1, 4] + detF M [1, 2, 4] [1, 2, 4] - detF M [1, 3, 4] [1, 3, 4] = 2 * (detF M [0, 1, 4] [1, 2, 4]) := by
  have h10 := hs 1 0
  have h20 := hs 2 0
  have h21 := hs 2 1
  have h30 := hs 3 0
  have h31 := hs 3 1
  have h32 := hs 3 2
  have h40 := hs 4 0
  have h41 := hs 4 1
  have h42 := hs 4 2
  have h43 := hs 4 3
  clear hs
  simp only [detF, sumTo, sgn, nth, List.length, List.getD_cons_zero, List.getD_cons_succ, List.eraseIdx, h10, h21, h31, h40, h41, h42, h43, r0, r1, r2, r3, r4]
  generalize M 0 1 = x01 at *
  generalize M 0 2 = x02 at *
  generalize M 1 2 = x12 at *
  generalize M 0 3 = x03 at *
  generalize M 1 3 = x13 at *
  generalize M 2 3 = x23 at *
  generalize M 0 4 = x04 at *
  generalize M 1 4 = x14 at *
  generalize M 2 4 = x24 at *
  generalize M 3 4 = x34 at *
  clear h10 h20 h21 h30 h31 h32 h40 h41 h42 h43 r0 r1 r2 r3 r4
  grind

theorem pot_5231 (M : Int → Int → Int) (hs : ∀ a b, M a b = M b a) (r0 : M 0 0 = -(M 0 1 + M 0 2 + M 0 3 + M 0 4)) (r1 : M 1 1 = -(M 0 1 + M 1 2 + M 1 3 + M 1 4)) (r2 : M 2 2 = -(M 0 2 + M 1 2 + M 2 3 + M 2 4)) (r3 : M 3 3 = -(M 0 3 + M 1 3 + M 2 3 + M 3 4)) (r4 : M 4 4 = -(M 0 4 + M 1 4 + M 2 4 + M 3 4)) : detF M [0, 1, 4] [0, 1, 4] + detF M [0, 2, 4] [0, 2, 4] - detF M [0, 3, 4] [0, 3, 4] = 2 * (-detF M [0, 1, 4] [0, 2, 4]) := by
  have h10 := hs 1 0
  have h20 := hs 2 0
  have h21 := hs 2 1
  have h30 := hs 3 0
  have h31 := hs 3 1
  have h32 := hs 3 2
  have h40 := hs 4 0
  have h41 := hs 4 1
  have h42 := hs 4 2
  have h43 := hs 4 3
  clear hs
  simp only [detF, sumTo, sgn, nth, List.length, List.getD_cons_zero, List.getD_cons_succ, List.eraseIdx, h10, h20, h30, h40, h41, h42, h43, r0, r1, r2, r3, r4]
  generalize M 0 1 = x01 at *
  generalize M 0 2 = x02 at *
  generalize M 1 2 = x12 at *
  generalize M 0 3 = x03 at *
  generalize M 1 3 = x13 at *
  generalize M 2 3 = x23 at *
  generalize M 0 4 = x04 at *
  generalize M 1 4 = x14 at *
  generalize M 2 4 = x24 at *
  generalize M 3 4 = x34 at *
  clear h10 h20 h21 h30 h31 h32 h40 h41 h42 h43 r0 r1 r2 r3 r4
  grind

theorem pot_5234 (M : Int → Int → Int) (hs : ∀ a b, M a b = M b a) (r0 : M 0 0 = -(M 0 1 + M 0 2 + M 0 3 + M 0 4)) (r1 : M 1 1 = -(M 0 1 + M 1 2 + M 1 3 + M 1 4)) (r2 : M 2 2 = -(M 0 2 + M 1 2 + M 2 3 + M 2 4)) (r3 : M 3 3 = -(M 0 3 + M 1 3 + M 2 3 + M 3 4)) (r4 : M 4 4 = -(M 0 4 + M 1 4 + M 2 4 + M 3 4)) : detF M [0, 1, 4] [0, 1, 4] + detF M [0, 1, 2] [0, 1, 2] - detF M [0, 1, 3] [0, 1, 3] = 2 * (-detF M [0, 1, 4] [0, 1, 2]) := by
  have h10 := hs 1 0
  have h20 := hs 2 0
  have h21 := hs 2 1
  have h30 := hs 3 0
  have h31 := hs 3 1
  have h32 := hs 3 2
  have h40 := hs 4 0
  have h41 := hs 4 1
  have h42 := hs 4 2
  have h43 := hs 4 3
  clear hs
  simp only [detF, sumTo, sgn, nth, List.length, List.getD_cons_zero, List.getD_cons_succ, List.eraseIdx, h10, h20, h21, h30, h31, h40, h41, h42, r0, r1, r2, r3, r4]
  generalize M 0 1 = x01 at *
  generalize M 0 2 = x02 at *
  generalize M 1 2 = x12 at *
  generalize M 0 3 = x03 at *
  generalize M 1 3 = x13 at *
  generalize M 2 3 = x23 at *
  generalize M 0 4 = x04 at *
  generalize M 1 4 = x14 at *
  generalize M 2 4 = x24 at *
  generalize M 3 4 = x34 at *
  clear h10 h20 h21 h30 h31 h32 h40 h41 h42 h43 r0 r1 r2 r3 r4
  grind

theorem pot_5240 (M : Int → Int → Int) (hs : ∀ a b, M a b = M b a) (r0 : M 0 0 = -(M 0 1 + M 0 2 + M 0 3 + M 0 4)) (r1 : M 1 1 = -(M 0 1 + M 1 2 + M 1 3 + M 1 4)) (r2 : M 2 2 = -(M 0 2 + M 1 2 + M 2 3 + M 2 4)) (r3 : M 3 3 = -(M 0 3 + M 1 3 + M 2 3 + M 3 4)) (r4 : M 4 4 = -(M 0 4 + M 1 4 + M 2 4 + M 3 4)) : detF M [0, 1, 3] [0, 1, 3] + detF M [1, 2, 3] [1, 2, 3] - detF M [1, 3, 4] [1, 3, 4] = 2 * (detF M [0, 1, 3] [1, 2, 3]) := by
  have h10 := hs 1 0
  have h20 := hs 2 0
  have h21 := hs 2 1
  have h30 := hs 3 0
  have h31 := hs 3 1
  have h32 := hs 3 2
  have h40 := hs 4 0
  have h41 := hs 4 1
  have h42 := hs 4 2
  have h43 := hs 4 3
  clear hs
  simp only [detF, sumTo, sgn, nth, List.length, List.getD_cons_zero, List.getD_cons_succ, List.eraseIdx, h10, h21, h30, h31, h32, h41, h43, r0, r1, r2, r3, r4]
  generalize M 0 1 = x01 at *
  generalize M 0 2 = x02 at *
  generalize M 1 2 = x12 at *
  generalize M 0 3 = x03 at *
  generalize M 1 3 = x13 at *
  generalize M 2 3 = x23 at *
  generalize M 0 4 = x04 at *
  generalize M 1 4 = x14 at *
  generalize M 2 4 = x24 at *
  generalize M 3 4 = x34 at *
  clear h10 h20 h21 h30 h31 h32 h40 h41 h42 h43 r0 r1 r2 r3 r4
  grind

theorem pot_5241 (M : Int → Int → Int) (hs : ∀ a b, M a b = M b a) (r0 : M 0 0 = -(M 0 1 + M 0 2 + M 0 3 + M 0 4)) (r1 : M 1 1 = -(M 0 1 + M 1 2 + M 1 3 + M 1 4)) (r2 : M 2 2 = -(M 0 2 + M 1 2 + M 2 3 + M 2 4)) (r3 : M 3 3 = -(M 0 3 + M 1 3 + M 2 3 + M 3 4)) (r4 : M 4 4 = -(M 0 4 + M 1 4 + M 2 4 + M 3 4)) : detF M [0, 1, 3] [0, 1, 3] + detF M [0, 2, 3] [0, 2, 3] - detF M [0, 3, 4] [0, 3, 4] = 2 * (-detF M [0, 1, 3] [0, 2, 3]) := by
  have h10 := hs 1 0
  have h20 := hs 2 0
  have h21 := hs 2 1
  have h30 := hs 3 0
  have h31 := hs 3 1
  have h32 := hs 3 2
  have h40 := hs 4 0
  have h41 := hs 4 1
  have h42 := hs 4 2
  have h43 := hs 4 3
  clear hs
  simp only [detF, sumTo, sgn, nth, List.length, List.getD_cons_zero, List.getD_cons_succ, List.eraseIdx, h10, h20, h30, h31, h32, h40, h43, r0, r1, r2, r3, r4]
  generalize M 0 1 = x01 at *
  generalize M 0 2 = x02 at *
  generalize M 1 2 = x12 at *
  generalize M 0 3 = x03 at *
  generalize M 1 3 = x13 at *
  generalize M 2 3 = x23 at *
  generalize M 0 4 = x04 at *
  generalize M 1 4 = x14 at *
  generalize M 2 4 = x24 at *
  generalize M 3 4 = x34 at *
  clear h10 h20 h21 h30 h31 h32 h40 h41 h42 h43 r0 r1 r2 r3 r4
  grind

theorem pot_5243 (M : Int → Int → Int) (hs : ∀ a b, M a b = M b a) (r0 : M 0 0 = -(M 0 1 + M 0 2 + M 0 3 + M 0 4)) (r1 : M 1 1 = -(M 0 1 + M 1 2 + M 1 3 + M 1 4)) (r2 : M 2 2 = -(M 0 2 + M 1 2 + M 2 3 + M 2 4)) (r3 : M 3 3 = -(M 0 3 + M 1 3 + M 2 3 + M 3 4)) (r4 : M 4 4 = -(M 0 4 + M 1 4 + M 2 4 + M 3 4)) : detF M [0, 1, 3] [0, 1, 3] + detF M [0, 1, 2] [0, 1, 2] - detF M [0, 1, 4] [0, 1, 4] = 2 * (-detF M [0, 1, 3] [0, 1, 2]) := by
  have h10 := hs 1 0
  have h20 := hs 2 0
  have h21 := hs 2 1
  have h30 := hs 3 0
  have h31 := hs 3 1
  have h32 := hs 3 2
  have h40 := hs 4 0
  have h41 := hs 4 1
  have h42 := hs 4 2
  have h43 := hs 4 3
  clear hs
  simp only [detF, sumTo, sgn, nth, List.length, List.getD_cons_zero, List.getD_cons_succ, List.eraseIdx, h10, h20, h21, h30, h31, h32, h40, h41, r0, r1, r2, r3, r4]
  generalize M 0 1 = x01 at *
  generalize M 0 2 = x02 at *
  generalize M 1 2 = x12 at *
  generalize M 0 3 = x03 at *
  generalize M 1 3 = x13 at *
  generalize M 2 3 = x23 at *
  generalize M 0 4 = x04 at *
  generalize M 1 4 = x14 at *
  generalize M 2 4 = x24 at *
  generalize M 3 4 = x34 at *
  clear h10 h20 h21 h30 h31 h32 h40 h41 h42 h43 r0 r1 r2 r3 r4
  grind

theorem pot_5301 (M : Int → Int → Int) (hs : ∀ a b, M a b = M b a) (r0 : M 0 0 = -(M 0 1 + M 0 2 + M 0 3 + M 0 4)) (r1 : M 1 1 = -(M 0 1 + M 1 2 + M 1 3 + M 1 4)) (r2 : M 2 2 = -(M 0 2 + M 1 2 + M 2 3 + M 2 4)) (r3 : M 3 3 = -(M 0 3 + M 1 3 + M 2 3 + M 3 4)) (r4 : M 4 4 = -(M 0 4 + M 1 4 + M 2 4 + M 3 4)) : detF M [1, 2, 4] [1, 2, 4] + detF M [2, 3, 4] [2, 3, 4] - detF M [0, 2, 4] [0, 2, 4] = 2 * (detF M [1, 2, 4] [2, 3, 4]) := by
  have h10 := hs 1 0
  have h20 := hs 2 0
  have h21 := hs 2 1
  have h30 := hs 3 0
  have h31 := hs 3 1
  have h32 := hs 3 2
  have h40 := hs 4 0
  have h41 := hs 4 1
  have h42 := hs 4 2
  have h43 := hs 4 3
  clear hs
  simp only [detF, sumTo, sgn, nth, List.length, List.getD_cons_zero, List.getD_cons_succ, List.eraseIdx, h20, h21, h32, h40, h41, h42, h43, r0, r1, r2, r3, r4]
  generalize M 0 1 = x01 at *
  generalize M 0 2 = x02 at *
  generalize M 1 2 = x12 at *
  generalize M 0 3 = x03 at *
  generalize M 1 3 = x13 at *
  generalize M 2 3 = x23 at *
  generalize M 0 4 = x04 at *
  generalize M 1 4 = x14 at *
  generalize M 2 4 = x24 at *
  generalize M 3 4 = x34 at *
  clear h10 h20 h21 h30 h31 h32 h40 h41 h42 h43 r0 r1 r2 r3 r4
  grind

theorem pot_5302 (M : Int → Int → Int) (hs : ∀ a b, M a b = M b a) (r0 : M 0 0 = -(M 0 1 + M 0 2 + M 0 3 + M 0 4)) (r1 : M 1 1 = -(M 0 1 + M 1 2 + M 1 3 + M 1 4)) (r2 : M 2 2 = -(M 0 2 + M 1 2 + M 2 3 + M 2 4)) (r3 : M 3 3 = -(M 0 3 + M 1 3 + M 2 3 + M 3 4)) (r4 : M 4 4 = -(M 0 4 + M 1 4 + M 2 4 + M 3 4)) : detF M [1, 2, 4] [1, 2, 4] + detF M [1, 3, 4] [1, 3, 4] - detF M [0, 1, 4] [0, 1, 4] = 2 * (-detF M [1, 2, 4] [1, 3, 4]) := by
  have h10 := hs 1 0
  have h20 := hs 2 0
  have h21 := hs 2 1
  have h30 := hs 3 0
  have h31 := hs 3 1
  have h32 := hs 3 2
  have h40 := hs 4 0
  have h41 := hs 4 1
  have h42 := hs 4 2
  have h43 := hs 4 3
  clear hs
  simp only [detF, sumTo, sgn, nth, List.length, List.getD_cons_zero, List.getD_cons_succ, List.eraseIdx, h10, h21, h31, h40, h41, h42, h43, r0, r1, r2, r3, r4]
  generalize M 0 1 = x01 at *
  generalize M 0 2 = x02 at *
  generalize M 1 2 = x12 at *
  generalize M 0 3 = x03 at *
  generalize M 1 3 = x13 at *
  generalize M 2 3 = x23 at *
  generalize M 0 4 = x04 at *
  generalize M 1 4 = x14 at *
  generalize M 2 4 = x24 at *
  generalize M 3 4 = x34 at *
  clear h10 h20 h21 h30 h31 h32 h40 h41 h42 h43 r0 r1 r2 r3 r4
  grind

theorem pot_5304 (M : Int → Int → Int) (hs : ∀ a b, M a b = M b a) (r0 : M 0 0 = -(M 0 1 + M 0 2 + M 0 3 + M 0 4)) (r1 : M 1 1 = -(M 0 1 + M 1 2 + M 1 3 + M 1 4)) (r2 : M 2 2 = -(M 0 2 + M 1 2 + M 2 3 + M 2 4)) (r3 : M 3 3 = -(M 0 3 + M 1 3 + M 2 3 + M 3 4)) (r4 : M 4 4 = -(M 0 4 + M 1 4 + M 2 4 + M 3 4)) : detF M [1, 2, 4] [1, 2, 4] + detF M [1, 2, 3] [1, 2, 3] - detF M [0, 1, 2] [0, 1, 2] = 2 * (-detF M [1, 2, 4] [1, 2, 3]) := by
  have h10 := hs 1 0
  have h20 := hs 2 0
  have h21 := hs 2 1
  have h30 := hs 3 0
  have h31 := hs 3 1
  have h32 := hs 3 2
  have h40 := hs 4 0
  have h41 := hs 4 1
  have h42 := hs 4 2
  have h43 := hs 4 3
  clear hs
  simp only [detF, sumTo, sgn, nth, List.length, List.getD_cons_zero, List.getD_cons_succ, List.eraseIdx, h10, h20, h21, h31, h32, h41, h42, h43, r0, r1, r2, r3, r4]
  generalize M 0 1 = x01 at *
  generalize M 0 2 = x02 at *
  generalize M 1 2 = x12 at *
  generalize M 0 3 = x03 at *
  generalize M 1 3 = x13 at *
  generalize M 2 3 = x23 at *
  generalize M 0 4 = x04 at *
  generalize M 1 4 = x14 at *
  generalize M 2 4 = x24 at *
  generalize M 3 4 = x34 at *
  clear h10 h20 h21 h30 h31 h32 h40 h41 h42 h43 r0 r1 r2 r3 r4
  grind

theorem pot_5310 (M : Int → Int → Int) (hs : ∀ a b, M a b = M b a) (r0 : M 0 0 = -(M 0 1 + M 0 2 + M 0 3 + M 0 4)) (r1 : M 1 1 = -(M 0 1 + M 1 2 + M 1 3 + M 1 4)) (r2 : M 2 2 = -(M 0 2 + M 1 2 + M 2 3 + M 2 4)) (r3 : M 3 3 = -(M 0 3 + M 1 3 + M 2 3 + M 3 4)) (r4 : M 4 4 = -(M 0 4 + M 1 4 + M 2 4 + M 3 4)) : detF M [0, 2, 4] [0, 2, 4] + detF M [2, 3, 4] [2, 3, 4] - detF M [1, 2, 4] [1, 2, 4] = 2 * (detF M [0, 2, 4] [2, 3, 4]) := by
  have h10 := hs 1 0
  have h20 := hs 2 0
  have h21 := hs 2 1
  have h30 := hs 3 0
  have h31 := hs 3 1
  have h32 := hs 3 2
  have h40 := hs 4 0
  have h41 := hs 4 1
  have h42 := hs 4 2
  have h43 := hs 4 3
  clear hs
  simp only [detF, sumTo, sgn, nth, List.length, List.getD_cons_zero, List.getD_cons_succ, List.eraseIdx, h20, h21, h32, h40, h41, h42, h43, r0, r1, r2, r3, r4]
  generalize M 0 1 = x01 at *
  generalize M 0 2 = x02 at *
  generalize M 1 2 = x12 at *
  generalize M 0 3 = x03 at *
  generalize M 1 3 = x13 at *
  generalize M 2 3 = x23 at *
  generalize M 0 4 = x04 at *
  generalize M 1 4 = x14 at *
  generalize M 2 4 = x24 at *
  generalize M 3 4 = x34 at *
  clear h10 h20 h21 h30 h31 h32 h40 h41 h42 h43 r0 r1 r2 r3 r4
  grind

theorem pot_5312 (M : Int → Int → Int) (hs : ∀ a b, M a b = M b a) (r0 : M 0 0 = -(M 0 1 + M 0 2 + M 0 3 + M 0 4)) (r1 : M 1 1 = -(M 0 1 + M 1 2 + M 1 3 + M 1 4)) (r2 : M 2 2 = -(M 0 2 + M 1 2 + M 2 3 + M 2 4)) (r3 : M 3 3 = -(M 0 3 + M 1 3 + M 2 3 + M 3 4)) (r4 : M 4 4 = -(M 0 4 + M 1 4 + M 2 4 + M 3 4)) : detF M [0, 2, 4] [0, 2, 4] + detF M [0, 3, 4] [0, 3, 4] - detF M [0, 1, 4] [0, 1, 4] = 2 * (-detF M [0, 2, 4] [0, 3, 4]) := by
  have h10 := hs 1 0
  have h20 := hs 2 0
  have h21 := hs 2 1
  have h30 := hs 3 0
  have h31 := hs 3 1
  have h32 := hs 3 2
  have h40 := hs 4 0
  have h41 := hs 4 1
  have h42 := hs 4 2
  have h43 := hs 4 3
  clear hs
  simp only [detF, sumTo, sgn, nth, List.length, List.getD_cons_zero, List.getD_cons_succ, List.eraseIdx, h10, h20, h30, h40, h41, h42, h43, r0, r1, r2, r3, r4]
  generalize M 0 1 = x01 at *
  generalize M 0 2 = x02 at *
  generalize M 1 2 = x12 at *
  generalize M 0 3 = x03 at *
  generalize M 1 3 = x13 at *
  generalize M 2 3 = x23 at *
  generalize M 0 4 = x04 at *
  generalize M 1 4 = x14 at *
  generalize M 2 4 = x24 at *
  generalize M 3 4 = x34 at *
  clear h10 h20 h21 h30 h31 h32 h40 h41 h42 h43 r0 r1 r2 r3 r4
  grind

theorem pot_5314 (M : Int → Int → Int) (hs : ∀ a b, M a b = M b a) (r0 : M 0 0 = -(M 0 1 + M 0 2 + M 0 3 + M 0 4)) (r1 : M 1 1 = -(M 0 1 + M 1 2 + M 1 3 + M 1 4)) (r2 : M 2 2 = -(M 0 2 + M 1 2 + M 2 3 + M 2 4)) (r3 : M 3 3 = -(M 0 3 + M 1 3 + M 2 3 + M 3 4)) (r4 : M 4 4 = -(M 0 4 + M 1 4 + M 2 4 + M 3 4)) : detF M [0, 2, 4] [0, 2, 4] + detF M [0, 2, 3] [0, 2, 3] - detF M [0, 1, 2] [0, 1, 2] = 2 * (-detF M [0, 2, 4] [0, 2, 3]) := by
  have h10 := hs 1 0
  have h20 := hs 2 0
  have h21 := hs 2 1
  have h30 := hs 3 0
  have h31 := hs 3 1
  have h32 := hs 3 2
  have h40 := hs 4 0
  have h41 := hs 4 1
  have h42 := hs 4 2
  have h43 := hs 4 3
  clear hs
  simp only [detF, sumTo, sgn, nth, List.length, List.getD_cons_zero, List.getD_cons_succ, List.eraseIdx, h10, h20, h21, h30, h32, h40, h42, h43, r0, r1, r2, r3, r4]
  generalize M 0 1 = x01 at *
  generalize M 0 2 = x02 at *
  generalize M 1 2 = x12 at *
  generalize M 0 3 = x03 at *
  generalize M 1 3 = x13 at *
  generalize M 2 3 = x23 at *
  generalize M 0 4 = x04 at *
  generalize M 1 4 = x14 at *
  generalize M 2 4 = x24 at *
  generalize M 3 4 = x34 at *
  clear h10 h20 h21 h30 h31 h32 h40 h41 h42 h43 r0 r1 r2 r3 r4
  grind

theorem pot_5320 (M : Int → Int → Int) (hs : ∀ a b, M a b = M b a) (r0 : M 0 0 = -(M 0 1 + M 0 2 + M 0 3 + M 0 4)) (r1 : M 1 1 = -(M 0 1 + M 1 2 + M 1 3 + M 1 4)) (r2 : M 2 2 = -(M 0 2 + M 1 2 + M 2 3 + M 2 4)) (r3 : M 3 3 = -(M 0 3 + M 1 3 + M 2 3 + M 3 4)) (r4 : M 4 4 = -(M 0 4 + M 1 4 + M 2 4 + M 3 4)) : detF M [0, 1, 4] [0, 1, 4] + detF M [1, 3, 4] [1, 3, 4] - detF M [1, 2, 4] [1, 2, 4] = 2 * (detF M [0, 1, 4] [1, 3, 4]) := by
  have h10 := hs 1 0
  have h20 := hs 2 0
  have h21 := hs 2 1
  have h30 := hs 3 0
  have h31 := hs 3 1
  have h32 := hs 3 2
  have h40 := hs 4 0
  have h41 := hs 4 1
  have h42 := hs 4 2
  have h43 := hs 4 3
  clear hs
  simp only [detF, sumTo, sgn, nth, List.length, List.getD_cons_zero, List.getD_cons_succ, List.eraseIdx, h10, h21, h31, h40, h41, h42, h43, r0, r1, r2, r3, r4]
  generalize M 0 1 = x01 at *
  generalize M 0 2 = x02 at *
  generalize M 1 2 = x12 at *
  generalize M 0 3 = x03 at *
  generalize M 1 3 = x13 at *
  generalize M 2 3 = x23 at *
  generalize M 0 4 = x04 at *
  generalize M 1 4 = x14 at *
  generalize M 2 4 = x24 at *
  generalize M 3 4 = x34 at *
  clear h10 h20 h21 h30 h31 h32 h40 h41 h42 h43 r0 r1 r2 r3 r4
  grind

theorem pot_5321 (M : Int → Int → Int) (hs : ∀ a b, M a b = M b a) (r0 : M 0 0 = -(M 0 1 + M 0 2 + M 0 3 + M 0 4)) (r1 : M 1 1 = -(M 0 1 + M 1 2 + M 1 3 + M 1 4)) (r2 : M 2 2 = -(M 0 2 + M 1 2 + M 2 3 + M 2 4)) (r3 : M 3 3 = -(M 0 3 + M 1 3 + M 2 3 + M 3 4)) (r4 : M 4 4 = -(M 0 4 + M 1 4 + M 2 4 + M 3 4)) : detF M [0, 1, 4] [0, 1, 4] + detF M [0, 3, 4] [0, 3, 4] - detF M [0, 2, 4] [0, 2, 4] = 2 * (-detF M [0, 1, 4] [0, 3, 4]) := by
  have h10 := hs 1 0
  have h20 := hs 2 0
  have h21 := hs 2 1
  have h30 := hs 3 0
  have h31 := hs 3 1
  have h32 := hs 3 2
  have h40 := hs 4 0
  have h41 := hs 4 1
  have h42 := hs 4 2
  have h43 := hs 4 3
  clear hs
  simp only [detF, sumTo, sgn, nth, List.length, List.getD_cons_zero, List.getD_cons_succ, List.eraseIdx, h10, h20, h30, h40, h41, h42, h43, r0, r1, r2, r3, r4]
  generalize M 0 1 = x01 at *
  generalize M 0 2 = x02 at *
  generalize M 1 2 = x12 at *
  generalize M 0 3 = x03 at *
  generalize M 1 3 = x13 at *
  generalize M 2 3 = x23 at *
  generalize M 0 4 = x04 at *
  generalize M 1 4 = x14 at *
  generalize M 2 4 = x24 at *
  generalize M 3 4 = x34 at *
  clear h10 h20 h21 h30 h31 h32 h40 h41 h42 h43 r0 r1 r2 r3 r4
  grind

theorem pot_5324 (M : Int → Int → Int) (hs : ∀ a b, M a b = M b a) (r0 : M 0 0 = -(M 0 1 + M 0 2 + M 0 3 + M 0 4)) (r1 : M 1 1 = -(M 0 1 + M 1 2 + M 1 3 + M 1 4)) (r2 : M 2 2 = -(M 0 2 + M 1 2 + M 2 3 + M 2 4)) (r3 : M 3 3 = -(M 0 3 + M 1 3 + M 2 3 + M 3 4)) (r4 : M 4 4 = -(M 0 4 + M 1 4 + M 2 4 + M 3 4)) : detF M [0, 1, 4] [0, 1, 4] + detF M [0, 1, 3] [0, 1, 3] - detF M [0, 1, 2] [0, 1, 2] = 2 * (-detF M [0, 1, 4] [0, 1, 3]) := by
  have h10 := hs 1 0
  have h20 := hs 2 0
  have h21 := hs 2 1
  have h30 := hs 3 0
  have h31 := hs 3 1
  have h32 := hs 3 2
  have h40 := hs 4 0
  have h41 := hs 4 1
  have h42 := hs 4 2
  have h43 := hs 4 3
  clear hs
  simp only [detF, sumTo, sgn, nth, List.length, List.getD_cons_zero, List.getD_cons_succ, List.eraseIdx, h10, h20, h21, h30, h31, h40, h41, h43, r0, r1, r2, r3, r4]
  generalize M 0 1 = x01 at *
  generalize M 0 2 = x02 at *
  generalize M 1 2 = x12 at *
  generalize M 0 3 = x03 at *
  generalize M 1 3 = x13 at *
  generalize M 2 3 = x23 at *
  generalize M 0 4 = x04 at *
  generalize M 1 4 = x14 at *
  generalize M 2 4 = x24 at *
  generalize M 3 4 = x34 at *
  clear h10 h20 h21 h30 h31 h32 h40 h41 h42 h43 r0 r1 r2 r3 r4
  grind

theorem pot_5340 (M : Int → Int → Int) (hs : ∀ a b, M a b = M b a) (r0 : M 0 0 = -(M 0 1 + M 0 2 + M 0 3 + M 0 4)) (r1 : M 1 1 = -(M 0 1 + M 1 2 + M 1 3 + M 1 4)) (r2 : M 2 2 = -(M 0 2 + M 1 2 + M 2 3 + M 2 4)) (r3 : M 3 3 = -(M 0 3 + M 1 3 + M 2 3 + M 3 4)) (r4 : M 4 4 = -(M 0 4 + M 1 4 + M 2 4 + M 3 4)) : detF M [0, 1, 2] [0, 1, 2] + detF M [1, 2, 3] [1, 2, 3] - detF M [1, 2, 4] [1, 2, 4] = 2 * (-detF M [0, 1, 2] [1, 2, 3]) := by
  have h10 := hs 1 0
  have h20 := hs 2 0
  have h21 := hs 2 1
  have h30 := hs 3 0
  have h31 := hs 3 1
  have h32 := hs 3 2
  have h40 := hs 4 0
  have h41 := hs 4 1
  have h42 := hs 4 2
  have h43 := hs 4 3
  clear hs
  simp only [detF, sumTo, sgn, nth, List.length, List.getD_cons_zero, List.getD_cons_succ, List.eraseIdx, h10, h20, h21, h31, h32, h41, h42, r0, r1, r2, r3, r4]
  generalize M 0 1 = x01 at *
  generalize M 0 2 = x02 at *
  generalize M 1 2 = x12 at *
  generalize M 0 3 = x03 at *
  generalize M 1 3 = x13 at *
  generalize M 2 3 = x23 at *
  generalize M 0 4 = x04 at *
  generalize M 1 4 = x14 at *
  generalize M 2 4 = x24 at *
  generalize M 3 4 = x34 at *
  clear h10 h20 h21 h30 h31 h32 h40 h41 h42 h43 r0 r1 r2 r3 r4
  grind

theorem pot_5341 (M : Int → Int → Int) (hs : ∀ a b, M a b = M b a) (r0 : M 0 0 = -(M 0 1 + M 0 2 + M 0 3 + M 0 4)) (r1 : M 1 1 = -(M 0 1 + M 1 2 + M 1 3 + M 1 4)) (r2 : M 2 2 = -(M 0 2 + M 1 2 + M 2 3 + M 2 4)) (r3 : M 3 3 = -(M 0 3 + M 1 3 + M 2 3 + M 3 4)) (r4 : M 4 4 = -(M 0 4 + M 1 4 + M 2 4 + M 3 4)) : detF M [0, 1, 2] [0, 1, 2] + detF M [0, 2, 3] [0, 2, 3] - detF M [0, 2, 4] [0, 2, 4] = 2 * (detF M [0, 1, 2] [0, 2, 3]) := by
  have h10 := hs 1 0
  have h20 := hs 2 0
  have h21 := hs 2 1
  have h30 := hs 3 0
  have h31 := hs 3 1
  have h32 := hs 3 2
  have h40 := hs 4 0
  have h41 := hs 4 1
  have h42 := hs 4 2
  have h43 := hs 4 3
  clear hs
  simp only [detF, sumTo, sgn, nth, List.length, List.getD_cons_zero, List.getD_cons_succ, List.eraseIdx, h10, h20, h21, h30, h32, h40, h42, r0, r1, r2, r3, r4]
  generalize M 0 1 = x01 at *
  generalize M 0 2 = x02 at *
  generalize M 1 2 = x12 at *
  generalize M 0 3 = x03 at *
  generalize M 1 3 = x13 at *
  generalize M 2 3 = x23 at *
  generalize M 0 4 = x04 at *
  generalize M 1 4 = x14 at *
  generalize M 2 4 = x24 at *
  generalize M 3 4 = x34 at *
  clear h10 h20 h21 h30 h31 h32 h40 h41 h42 h43 r0 r1 r2 r3 r4
  grind

theorem pot_5342 (M : Int → Int → Int) (hs : ∀ a b, M a b = M b a) (r0 : M 0 0 = -(M 0 1 + M 0 2 + M 0 3 + M 0 4)) (r1 : M 1 1 = -(M 0 1 + M 1 2 + M 1 3 + M 1 4)) (r2 : M 2 2 = -(M 0 2 + M 1 2 + M 2 3 + M 2 4)) (r3 : M 3 3 = -(M 0 3 + M 1 3 + M 2 3 + M 3 4)) (r4 : M 4 4 = -(M 0 4 + M 1 4 + M 2 4 + M 3 4)) : detF M [0, 1, 2] [0, 1, 2] + detF M [0, 1, 3] [0, 1, 3] - detF M [0, 1, 4] [0, 1, 4] = 2 * (-detF M [0, 1, 2] [0, 1, 3]) := by
  have h10 := hs 1 0
  have h20 := hs 2 0
  have h21 := hs 2 1
  have h30 := hs 3 0
  have h31 := hs 3 1
  have h32 := hs 3 2
  have h40 := hs 4 0
  have h41 := hs 4 1
  have h42 := hs 4 2
  have h43 := hs 4 3
  clear hs
  simp only [detF, sumTo, sgn, nth, List.length, List.getD_cons_zero, List.getD_cons_succ, List.eraseIdx, h10, h20, h21, h30, h31, h40, h41, r0, r1, r2, r3, r4]
  generalize M 0 1 = x01 at *
  generalize M 0 2 = x02 at *
  generalize M 1 2 = x12 at *
  generalize M 0 3 = x03 at *
  generalize M 1 3 = x13 at *
  generalize M 2 3 = x23 at *
  generalize M 0 4 = x04 at *
  generalize M 1 4 = x14 at *
  generalize M 2 4 = x24 at *
  generalize M 3 4 = x34 at *
  clear h10 h20 h21 h30 h31 h32 h40 h41 h42 h43 r0 r1 r2 r3 r4
  grind

theorem pot_5401 (M : Int → Int → Int) (hs : ∀ a b, M a b = M b a) (r0 : M 0 0 = -(M 0 1 + M 0 2 + M 0 3 + M 0 4)) (r1 : M 1 1 = -(M 0 1 + M 1 2 + M 1 3 + M 1 4)) (r2 : M 2 2 = -(M 0 2 + M 1 2 + M 2 3 + M 2 4)) (r3 : M 3 3 = -(M 0 3 + M 1 3 + M 2 3 + M 3 4)) (r4 : M 4 4 = -(M 0 4 + M 1 4 + M 2 4 + M 3 4)) : detF M [1, 2, 3] [1, 2, 3] + detF M [2, 3, 4] [2, 3, 4] - detF M [0, 2, 3] [0, 2, 3] = 2 * (-detF M [1, 2, 3] [2, 3, 4]) := by
  have h10 := hs 1 0
  have h20 := hs 2 0
  have h21 := hs 2 1
  have h30 := hs 3 0
  have h31 := hs 3 1
  have h32 := hs 3 2
  have h40 := hs 4 0
  have h41 := hs 4 1
  have h42 := hs 4 2
  have h43 := hs 4 3
  clear hs
  simp only [detF, sumTo, sgn, nth, List.length, List.getD_cons_zero, List.getD_cons_succ, List.eraseIdx, h20, h21, h30, h31, h32, h42, h43, r0, r1, r2, r3, r4]
  generalize M 0 1 = x01 at *
  generalize M 0 2 = x02 at *
  generalize M 1 2 = x12 at *
  generalize M 0 3 = x03 at *
  generalize M 1 3 = x13 at *
  generalize M 2 3 = x23 at *
  generalize M 0 4 = x04 at *
  generalize M 1 4 = x14 at *
  generalize M 2 4 = x24 at *
  generalize M 3 4 = x34 at *
  clear h10 h20 h21 h30 h31 h32 h40 h41 h42 h43 r0 r1 r2 r3 r4
  grind

theorem pot_5402 (M : Int → Int → Int) (hs : ∀ a b, M a b = M b a) (r0 : M 0 0 = -(M 0 1 + M 0 2 + M 0 3 + M 0 4)) (r1 : M 1 1 = -(M 0 1 + M 1 2 + M 1 3 + M 1 4)) (r2 : M 2 2 = -(M 0 2 + M 1 2 + M 2 3 + M 2 4)) (r3 : M 3 3 = -(M 0 3 + M 1 3 + M 2 3 + M 3 4)) (r4 : M 4 4 = -(M 0 4 + M 1 4 + M 2 4 + M 3 4)) : detF M [1, 2, 3] [1, 2, 3] + detF M [1, 3, 4] [1, 3, 4] - detF M [0, 1, 3] [0, 1, 3] = 2 * (detF M [1, 2, 3] [1, 3, 4]) := by
  have h10 := hs 1 0
  have h20 := hs 2 0
  have h21 := hs 2 1
  have h30 := hs 3 0
  have h31 := hs 3 1
  have h32 := hs 3 2
  have h40 := hs 4 0
  have h41 := hs 4 1
  have h42 := hs 4 2
  have h43 := hs 4 3
  clear hs
  simp only [detF, sumTo, sgn, nth, List.length, List.getD_cons_zero, List.getD_cons_succ, List.eraseIdx, h10, h21, h30, h31, h32, h41, h43, r0, r1, r2, r3, r4]
  generalize M 0 1 = x01 at *
  generalize M 0 2 = x02 at *
  generalize M 1 2 = x12 at *
  generalize M 0 3 = x03 at *
  generalize M 1 3 = x13 at *
  generalize M 2 3 = x23 at *
  generalize M 0 4 = x04 at *
  generalize M 1 4 = x14 at *
  generalize M 2 4 = x24 at *
  generalize M 3 4 = x34 at *
  clear h10 h20 h21 h30 h31 h32 h40 h41 h42 h43 r0 r1 r2 r3 r4
  grind

theorem pot_5403 (M : Int → Int → Int) (hs : ∀ a b, M a b = M b a) (r0 : M 0 0 = -(M 0 1 + M 0 2 + M 0 3 + M 0 4)) (r1 : M 1 1 = -(M 0 1 + M 1 2 + M 1 3 + M 1 4)) (r2 : M 2 2 = -(M 0 2 + M 1 2 + M 2 3 + M 2 4)) (r3 : M 3 3 = -(M 0 3 + M 1 3 + M 2 3 + M 3 4)) (r4 : M 4 4 = -(M 0 4 + M 1 4 + M 2 4 + M 3 4)) : detF M [1, 2, 3] [1, 2, 3] + detF M [1, 2, 4] [1, 2, 4] - detF M [0, 1, 2] [0, 1, 2] = 2 * (-detF M [1, 2, 3] [1, 2, 4]) := by
  have h10 := hs 1 0
  have h20 := hs 2 0
  have h21 := hs 2 1
  have h30 := hs 3 0
  have h31 := hs 3 1
  have h32 := hs 3 2
  have h40 := hs 4 0
  have h41 := hs 4 1
  have h42 := hs 4 2
  have h43 := hs 4 3
  clear hs
  simp only [detF, sumTo, sgn, nth, List.length, List.getD_cons_zero, List.getD_cons_succ, List.eraseIdx, h10, h20, h21, h31, h32, h41, h42, r0, r1, r2, r3, r4]
  generalize M 0 1 = x01 at *
  generalize M 0 2 = x02 at *
  generalize M 1 2 = x12 at *
  generalize M 0 3 = x03 at *
  generalize M 1 3 = x13 at *
  generalize M 2 3 = x23 at *
  generalize M 0 4 = x04 at *
  generalize M 1 4 = x14 at *
  generalize M 2 4 = x24 at *
  generalize M 3 4 = x34 at *
  clear h10 h20 h21 h30 h31 h32 h40 h41 h42 h43 r0 r1 r2 r3 r4
  grind

theorem pot_5410 (M : Int → Int → Int) (hs : ∀ a b, M a b = M b a) (r0 : M 0 0 = -(M 0 1 + M 0 2 + M 0 3 + M 0 4)) (r1 : M 1 1 = -(M 0 1 + M 1 2 + M 1 3 + M 1 4)) (r2 : M 2 2 = -(M 0 2 + M 1 2 + M 2 3 + M 2 4)) (r3 : M 3 3 = -(M 0 3 + M 1 3 + M 2 3 + M 3 4)) (r4 : M 4 4 = -(M 0 4 + M 1 4 + M 2 4 + M 3 4)) : detF M [0, 2, 3] [0, 2, 3] + detF M [2, 3, 4] [2, 3, 4] - detF M [1, 2, 3] [1, 2, 3] = 2 * (-detF M [0, 2, 3] [2, 3, 4]) := by
  have h10 := hs 1 0
  have h20 := hs 2 0
  have h21 := hs 2 1
  have h30 := hs 3 0
  have h31 := hs 3 1
  have h32 := hs 3 2
  have h40 := hs 4 0
  have h41 := hs 4 1
  have h42 := hs 4 2
  have h43 := hs 4 3
  clear hs
  simp only [detF, sumTo, sgn, nth, List.length, List.getD_cons_zero, List.getD_cons_succ, List.eraseIdx, h20, h21, h30, h31, h32, h42, h43, r0, r1, r2, r3, r4]
  generalize M 0 1 = x01 at *
  generalize M 0 2 = x02 at *
  generalize M 1 2 = x12 at *
  generalize M 0 3 = x03 at *
  generalize M 1 3 = x13 at *
  generalize M 2 3 = x23 at *
  generalize M 0 4 = x04 at *
  generalize M 1 4 = x14 at *
  generalize M 2 4 = x24 at *
  generalize M 3 4 = x34 at *
  clear h10 h20 h21 h30 h31 h32 h40 h41 h42 h43 r0 r1 r2 r3 r4
  grind

theorem pot_5412 (M : Int → Int → Int) (hs : ∀ a b, M a b = M b a) (r0 : M 0 0 = -(M 0 1 + M 0 2 + M 0 3 + M 0 4)) (r1 : M 1 1 = -(M 0 1 + M 1 2 + M 1 3 + M 1 4)) (r2 : M 2 2 = -(M 0 2 + M 1 2 + M 2 3 + M 2 4)) (r3 : M 3 3 = -(M 0 3 + M 1 3 + M 2 3 + M 3 4)) (r4 : M 4 4 = -(M 0 4 + M 1 4 + M 2 4 + M 3 4)) : detF M [0, 2, 3] [0, 2, 3] + detF M [0, 3, 4] [0, 3, 4] - detF M [0, 1, 3] [0, 1, 3] = 2 * (detF M [0, 2, 3] [0, 3, 4]) := by
  have h10 := hs 1 0
  have h20 := hs 2 0
  have h21 := hs 2 1
  have h30 := hs 3 0
  have h31 := hs 3 1
  have h32 := hs 3 2
  have h40 := hs 4 0
  have h41 := hs 4 1
  have h42 := hs 4 2
  have h43 := hs 4 3
  clear hs
  simp only [detF, sumTo, sgn, nth, List.length, List.getD_cons_zero, List.getD_cons_succ, List.eraseIdx, h10, h20, h30, h31, h32, h40, h43, r0, r1, r2, r3, r4]
  generalize M 0 1 = x01 at *
  generalize M 0 2 = x02 at *
  generalize M 1 2 = x12 at *
  generalize M 0 3 = x03 at *
  generalize M 1 3 = x13 at *
  generalize M 2 3 = x23 at *
  generalize M 0 4 = x04 at *
  generalize M 1 4 = x14 at *
  generalize M 2 4 = x24 at *
  generalize M 3 4 = x34 at *
  clear h10 h20 h21 h30 h31 h32 h40 h41 h42 h43 r0 r1 r2 r3 r4
  grind

theorem pot_5413 (M : Int → Int → Int) (hs : ∀ a b, M a b = M b a) (r0 : M 0 0 = -(M 0 1 + M 0 2 + M 0 3 + M 0 4)) (r1 : M 1 1 = -(M 0 1 + M 1 2 + M 1 3 + M 1 4)) (r2 : M 2 2 = -(M 0 2 + M 1 2 + M 2 3 + M 2 4)) (r3 : M 3 3 = -(M 0 3 + M 1 3 + M 2 3 + M 3 4)) (r4 : M 4 4 = -(M 0 4 + M 1 4 + M 2 4 + M 3 4)) : detF M [0, 2, 3] [0, 2, 3] + detF M [0, 2, 4] [0, 2, 4] - detF M [0, 1, 2] [0, 1, 2] = 2 * (-detF M [0, 2, 3] [0, 2, 4]) := by
  have h10 := hs 1 0
  have h20 := hs 2 0
  have h21 := hs 2 1
  have h30 := hs 3 0
  have h31 := hs 3 1
  have h32 := hs 3 2
  have h40 := hs 4 0
  have h41 := hs 4 1
  have h42 := hs 4 2
  have h43 := hs 4 3
  clear hs
  simp only [detF, sumTo, sgn, nth, List.length, List.getD_cons_zero, List.getD_cons_succ, List.eraseIdx, h10, h20, h21, h30, h32, h40, h42, r0, r1, r2, r3, r4]
  generalize M 0 1 = x01 at *
  generalize M 0 2 = x02 at *
  generalize M 1 2 = x12 at *
  generalize M 0 3 = x03 at *
  generalize M 1 3 = x13 at *
  generalize M 2 3 = x23 at *
  generalize M 0 4 = x04 at *
  generalize M 1 4 = x14 at *
  generalize M 2 4 = x24 at *
  generalize M 3 4 = x34 at *
  clear h10 h20 h21 h30 h31 h32 h40 h41 h42 h43 r0 r1 r2 r3 r4
  grind

theorem pot_5420 (M : Int → Int → Int) (hs : ∀ a b, M a b = M b a) (r0 : M 0 0 = -(M 0 1 + M 0 2 + M 0 3 + M 0 4)) (r1 : M 1 1 = -(M 0 1 + M 1 2 + M 1 3 + M 1 4)) (r2 : M 2 2 = -(M 0 2 + M 1 2 + M 2 3 + M 2 4)) (r3 : M 3 3 = -(M 0 3 + M 1 3 + M 2 3 + M 3 4)) (r4 : M 4 4 = -(M 0 4 + M 1 4 + M 2 4 + M 3 4)) : detF M [0, 1, 3] [0, 1, 3] + detF M [1, 3, 4] [1, 3, 4] - detF M [1, 2, 3] [1, 2, 3] = 2 * (-detF M [0, 1, 3] [1, 3, 4]) := by
  have h10 := hs 1 0
  have h20 := hs 2 0
  have h21 := hs 2 1
  have h30 := hs 3 0
  have h31 := hs 3 1
  have h32 := hs 3 2
  have h40 := hs 4 0
  have h41 := hs 4 1
  have h42 := hs 4 2
  have h43 := hs 4 3
  clear hs
  simp only [detF, sumTo, sgn, nth, List.length, List.getD_cons_zero, List.getD_cons_succ, List.eraseIdx, h10, h21, h30, h31, h32, h41, h43, r0, r1, r2, r3, r4]
  generalize M 0 1 = x01 at *
  generalize M 0 2 = x02 at *
  generalize M 1 2 = x12 at *
  generalize M 0 3 = x03 at *
  generalize M 1 3 = x13 at *
  generalize M 2 3 = x23 at *
  generalize M 0 4 = x04 at *
  generalize M 1 4 = x14 at *
  generalize M 2 4 = x24 at *
  generalize M 3 4 = x34 at *
  clear h10 h20 h21 h30 h31 h32 h40 h41 h42 h43 r0 r1 r2 r3 r4
  grind

theorem pot_5421 (M : Int → Int → Int) (hs : ∀ a b, M a b = M b a) (r0 : M 0 0 = -(M 0 1 + M 0 2 + M 0 3 + M 0 4)) (r1 : M 1 1 = -(M 0 1 + M 1 2 + M 1 3 + M 1 4)) (r2 : M 2 2 = -(M 0 2 + M 1 2 + M 2 3 + M 2 4)) (r3 : M 3 3 = -(M 0 3 + M 1 3 + M 2 3 + M 3 4)) (r4 : M 4 4 = -(M 0 4 + M 1 4 + M 2 4 + M 3 4)) : detF M [0, 1, 3] [0, 1, 3] + detF M [0, 3, 4] [0, 3, 4] - detF M [0, 2, 3] [0, 2, 3] = 2 * (detF M [0, 1, 3] [0, 3, 4]) := by
  have h10 := hs 1 0
  have h20 := hs 2 0
  have h21 := hs 2 1
  have h30 := hs 3 0
  have h31 := hs 3 1
  have h32 := hs 3 2
  have h40 := hs 4 0
  have h41 := hs 4 1
  have h42 := hs 4 2
  have h43 := hs 4 3
  clear hs
  simp only [detF, sumTo, sgn, nth, List.length, List.getD_cons_zero, List.getD_cons_succ, List.eraseIdx, h10, h20, h30, h31, h32, h40, h43, r0, r1, r2, r3, r4]
  generalize M 0 1 = x01 at *
  generalize M 0 2 = x02 at *
  generalize M 1 2 = x12 at *
  generalize M 0 3 = x03 at *
  generalize M 1 3 = x13 at *
  generalize M 2 3 = x23 at *
  generalize M 0 4 = x04 at *
  generalize M 1 4 = x14 at *
  generalize M 2 4 = x24 at *
  generalize M 3 4 = x34 at *
  clear h10 h20 h21 h30 h31 h32 h40 h41 h42 h43 r0 r1 r2 r3 r4
  grind

theorem pot_5423 (M : Int → Int → Int) (hs : ∀ a b, M a b = M b a) (r0 : M 0 0 = -(M 0 1 + M 0 2 + M 0 3 + M 0 4)) (r1 : M 1 1 = -(M 0 1 + M 1 2 + M 1 3 + M 1 4)) (r2 : M 2 2 = -(M 0 2 + M 1 2 + M 2 3 + M 2 4)) (r3 : M 3 3 = -(M 0 3 + M 1 3 + M 2 3 + M 3 4)) (r4 : M 4 4 = -(M 0 4 + M 1 4 + M 2 4 + M 3 4)) : detF M [0, 1, 3] [0, 1, 3] + detF M [0, 1, 4] [0, 1, 4] - detF M [0, 1, 2] [0, 1, 2] = 2 * (-detF M [0, 1, 3] [0, 1, 4]) := by
  have h10 := hs 1 0
  have h20 := hs 2 0
  have h21 := hs 2 1
  have h30 := hs 3 0
  have h31 := hs 3 1
  have h32 := hs 3 2
  have h40 := hs 4 0
  have h41 := hs 4 1
  have h42 := hs 4 2
  have h43 := hs 4 3
  clear hs
  simp only [detF, sumTo, sgn, nth, List.length, List.getD_cons_zero, List.getD_cons_succ, List.eraseIdx, h10, h20, h21, h30, h31, h40, h41, r0, r1, r2, r3, r4]
  generalize M 0 1 = x01 at *
  generalize M 0 2 = x02 at *
  generalize M 1 2 = x12 at *
  generalize M 0 3 = x03 at *
  generalize M 1 3 = x13 at *
  generalize M 2 3 = x23 at *
  generalize M 0 4 = x04 at *
  generalize M 1 4 = x14 at *
  generalize M 2 4 = x24 at *
  generalize M 3 4 = x34 at *
  clear h10 h20 h21 h30 h31 h32 h40 h41 h42 h43 r0 r1 r2 r3 r4
  grind

theorem pot_5430 (M : Int → Int → Int) (hs : ∀ a b, M a b = M b a) (r0 : M 0 0 = -(M 0 1 + M 0 2 + M 0 3 + M 0 4)) (r1 : M 1 1 = -(M 0 1 + M 1 2 + M 1 3 + M 1 4)) (r2 : M 2 2 = -(M 0 2 + M 1 2 + M 2 3 + M 2 4)) (r3 : M 3 3 = -(M 0 3 + M 1 3 + M 2 3 + M 3 4)) (r4 : M 4 4 = -(M 0 4 + M 1 4 + M 2 4 + M 3 4)) : detF M [0, 1, 2] [0, 1, 2] + detF M [1, 2, 4] [1, 2, 4] - detF M [1, 2, 3] [1, 2, 3] = 2 * (-detF M [0, 1, 2] [1, 2, 4]) := by
  have h10 := hs 1 0
  have h20 := hs 2 0
  have h21 := hs 2 1
  have h30 := hs 3 0
  have h31 := hs 3 1
  have h32 := hs 3 2
  have h40 := hs 4 0
  have h41 := hs 4 1
  have h42 := hs 4 2
  have h43 := hs 4 3
  clear hs
  simp only [detF, sumTo, sgn, nth, List.length, List.getD_cons_zero, List.getD_cons_succ, List.eraseIdx, h10, h20, h21, h31, h32, h41, h42, r0, r1, r2, r3, r4]
  generalize M 0 1 = x01 at *
  generalize M 0 2 = x02 at *
  generalize M 1 2 = x12 at *
  generalize M 0 3 = x03 at *
  generalize M 1 3 = x13 at *
  generalize M 2 3 = x23 at *
  generalize M 0 4 = x04 at *
  generalize M 1 4 = x14 at *
  generalize M 2 4 = x24 at *
  generalize M 3 4 = x34 at *
  clear h10 h20 h21 h30 h31 h32 h40 h41 h42 h43 r0 r1 r2 r3 r4
  grind

theorem pot_5431 (M : Int → Int → Int) (hs : ∀ a b, M a b = M b a) (r0 : M 0 0 = -(M 0 1 + M 0 2 + M 0 3 + M 0 4)) (r1 : M 1 1 = -(M 0 1 + M 1 2 + M 1 3 + M 1 4)) (r2 : M 2 2 = -(M 0 2 + M 1 2 + M 2 3 + M 2 4)) (r3 : M 3 3 = -(M 0 3 + M 1 3 + M 2 3 + M 3 4)) (r4 : M 4 4 = -(M 0 4 + M 1 4 + M 2 4 + M 3 4)) : detF M [0, 1, 2] [0, 1, 2] + detF M [0, 2, 4] [0, 2, 4] - detF M [0, 2, 3] [0, 2, 3] = 2 * (detF M [0, 1, 2] [0, 2, 4]) := by
  have h10 := hs 1 0
  have h20 := hs 2 0
  have h21 := hs 2 1
  have h30 := hs 3 0
  have h31 := hs 3 1
  have h32 := hs 3 2
  have h40 := hs 4 0
  have h41 := hs 4 1
  have h42 := hs 4 2
  have h43 := hs 4 3
  clear hs
  simp only [detF, sumTo, sgn, nth, List.length, List.getD_cons_zero, List.getD_cons_succ, List.eraseIdx, h10, h20, h21, h30, h32, h40, h42, r0, r1, r2, r3, r4]
  generalize M 0 1 = x01 at *
  generalize M 0 2 = x02 at *
  generalize M 1 2 = x12 at *
  generalize M 0 3 = x03 at *
  generalize M 1 3 = x13 at *
  generalize M 2 3 = x23 at *
  generalize M 0 4 = x04 at *
  generalize M 1 4 = x14 at *
  generalize M 2 4 = x24 at *
  generalize M 3 4 = x34 at *
  clear h10 h20 h21 h30 h31 h32 h40 h41 h42 h43 r0 r1 r2 r3 r4
  grind

theorem pot_5432 (M : Int → Int → Int) (hs : ∀ a b, M a b = M b a) (r0 : M 0 0 = -(M 0 1 + M 0 2 + M 0 3 + M 0 4)) (r1 : M 1 1 = -(M 0 1 + M 1 2 + M 1 3 + M 1 4)) (r2 : M 2 2 = -(M 0 2 + M 1 2 + M 2 3 + M 2 4)) (r3 : M 3 3 = -(M 0 3 + M 1 3 + M 2 3 + M 3 4)) (r4 : M 4 4 = -(M 0 4 + M 1 4 + M 2 4 + M 3 4)) : detF M [0, 1, 2] [0, 1, 2] + detF M [0, 1, 4] [0, 1, 4] - detF M [0, 1, 3] [0, 1, 3] = 2 * (-detF M [0, 1, 2] [0, 1, 4]) := by
  have h10 := hs 1 0
  have h20 := hs 2 0
  have h21 := hs 2 1
  have h30 := hs 3 0
  have h31 := hs 3 1
  have h32 := hs 3 2
  have h40 := hs 4 0
  have h41 := hs 4 1
  have h42 := hs 4 2
  have h43 := hs 4 3
  clear hs
  simp only [detF, sumTo, sgn, nth, List.length, List.getD_cons_zero, List.getD_cons_succ, List.eraseIdx, h10, h20, h21, h30, h31, h40, h41, r0, r1, r2, r3, r4]
  generalize M 0 1 = x01 at *
  generalize M 0 2 = x02 at *
  generalize M 1 2 = x12 at *
  generalize M 0 3 = x03 at *
  generalize M 1 3 = x13 at *
  generalize M 2 3 = x23 at *
  generalize M 0 4 = x04 at *
  generalize M 1 4 = x14 at *
  generalize M 2 4 = x24 at *
  generalize M 3 4 = x34 at *
  clear h10 h20 h21 h30 h31 h32 h40 h41 h42 h43 r0 r1 r2 r3 r4
  grind

theorem pot_n3 {m : Nat} {xs : List Int} (hK : ∀ k, k < m → goodW ((3 : Nat) : Int) xs k) {a b v : Int} (ha : 0 ≤ a ∧ a < 3) (hb : 0 ≤ b ∧ b < 3) (hv : 0 ≤ v ∧ v < 3) (hab : ¬ a = b) (hva : ¬ v = a) (hvb : ¬ v = b) : forT 3 m xs a b + forT 3 m xs v b - forT 3 m xs a v = 2 * potV 3 m xs a b v := by
  have hs := lapZ_symm xs m
  have q0 : 0 + lapZ xs m 0 0 + lapZ xs m 0 1 + lapZ xs m 0 2 = 0 := lap_row (n := 3) (m := m) (xs := xs) (v := 0) hK (by omega) (by decide)
  have q1 : 0 + lapZ xs m 1 0 + lapZ xs m 1 1 + lapZ xs m 1 2 = 0 := lap_row (n := 3) (m := m) (xs := xs) (v := 1) hK (by omega) (by decide)
  have q2 : 0 + lapZ xs m 2 0 + lapZ xs m 2 1 + lapZ xs m 2 2 = 0 := lap_row (n := 3) (m := m) (xs := xs) (v := 2) hK (by omega) (by decide)
  have h10 := hs 1 0
  have h20 := hs 2 0
  have h21 := hs 2 1
  have r0 : lapZ xs m 0 0 = -(lapZ xs m 0 1 + lapZ xs m 0 2) := by omega
  have r1 : lapZ xs m 1 1 = -(lapZ xs m 0 1 + lapZ xs m 1 2) := by omega
  have r2 : lapZ xs m 2 2 = -(lapZ xs m 0 2 + lapZ xs m 1 2) := by omega
  obtain rfl | rfl | rfl : a = 0 ∨ a = 1 ∨ a = 2 := by omega
  · obtain rfl | rfl | rfl : b = 0 ∨ b = 1 ∨ b = 2 := by omega
    · exact absurd rfl hab
    · obtain rfl | rfl | rfl : v = 0 ∨ v = 1 ∨ v = 2 := by omega
      · exact absurd rfl hva
      · exact absurd rfl hvb
      · rw [potV_o (by decide) (by decide)]
        exact pot_3012 (lapZ xs m) hs r0 r1 r2
    · obtain rfl | rfl | rfl : v = 0 ∨ v = 1 ∨ v = 2 := by omega
      · exact absurd rfl hva
      · rw [potV_o (by decide) (by decide)]
        exact pot_3021 (lapZ xs m) hs r0 r1 r2
      · exact absurd rfl hvb
  · obtain rfl | rfl | rfl : b = 0 ∨ b = 1 ∨ b = 2 := by omega
    · obtain rfl | rfl | rfl : v = 0 ∨ v = 1 ∨ v = 2 := by omega
      · exact absurd rfl hvb
      · exact absurd rfl hva
      · rw [potV_o (by decide) (by decide)]
        exact pot_3102 (lapZ xs m) hs r0 r1 r2
    · exact absurd rfl hab
    · obtain rfl | rfl | rfl : v = 0 ∨ v = 1 ∨ v = 2 := by omega
      · rw [potV_o (by decide) (by decide)]
        exact pot_3120 (lapZ xs m) hs r0 r1 r2
      · exact absurd rfl hva
      · exact absurd rfl hvb
  · obtain rfl | rfl | rfl : b = 0 ∨ b = 1 ∨ b = 2 := by omega
    · obtain rfl | rfl | rfl : v = 0 ∨ v = 1 ∨ v = 2 := by omega
      · exact absurd rfl hvb
      · rw [potV_o (by decide) (by decide)]
        exact pot_3201 (lapZ xs m) hs r0 r1 r2
      · exact absurd rfl hva
    · obtain rfl | rfl | rfl : v = 0 ∨ v = 1 ∨ v = 2 := by omega
      · rw [potV_o (by decide) (by decide)]
        exact pot_3210 (lapZ xs m) hs r0 r1 r2
      · exact absurd rfl hvb
      · exact absurd rfl hva
    · exact absurd rfl hab
theorem pot_n4 {m : Nat} {xs : List Int} (hK : ∀ k, k < m → goodW ((4 : Nat) : Int) xs k) {a b v : Int} (ha : 0 ≤ a ∧ a < 4) (hb : 0 ≤ b ∧ b < 4) (hv : 0 ≤ v ∧ v < 4) (hab : ¬ a = b) (hva : ¬ v = a) (hvb : ¬ v = b) : forT 4 m xs a b + forT 4 m xs v b - forT 4 m xs a v = 2 * potV 4 m xs a b v := by
  have hs := lapZ_symm xs m
  have q0 : 0 + lapZ xs m 0 0 + lapZ xs m 0 1 + lapZ xs m 0 2 + lapZ xs m 0 3 = 0 := lap_row (n := 4) (m := m) (xs := xs) (v := 0) hK (by omega) (by decide)
  have q1 : 0 + lapZ xs m 1 0 + lapZ xs m 1 1 + lapZ xs m 1 2 + lapZ xs m 1 3 = 0 := lap_row (n := 4) (m := m) (xs := xs) (v := 1) hK (by omega) (by decide)
  have q2 : 0 + lapZ xs m 2 0 + lapZ xs m 2 1 + lapZ xs m 2 2 + lapZ xs m 2 3 = 0 := lap_row (n := 4) (m := m) (xs := xs) (v := 2) hK (by omega) (by decide)
  have q3 : 0 + lapZ xs m 3 0 + lapZ xs m 3 1 + lapZ xs m 3 2 + lapZ xs m 3 3 = 0 := lap_row (n := 4) (m := m) (xs := xs) (v := 3) hK (by omega) (by decide)
  have h10 := hs 1 0
  have h20 := hs 2 0
  have h21 := hs 2 1
  have h30 := hs 3 0
  have h31 := hs 3 1
  have h32 := hs 3 2
  have r0 : lapZ xs m 0 0 = -(lapZ xs m 0 1 + lapZ xs m 0 2 + lapZ xs m 0 3) := by omega
  have r1 : lapZ xs m 1 1 = -(lapZ xs m 0 1 + lapZ xs m 1 2 + lapZ xs m 1 3) := by omega
  have r2 : lapZ xs m 2 2 = -(lapZ xs m 0 2 + lapZ xs m 1 2 + lapZ xs m 2 3) := by omega
  have r3 : lapZ xs m 3 3 = -(lapZ xs m 0 3 + lapZ xs m 1 3 + lapZ xs m 2 3) := by omega
  obtain rfl | rfl | rfl | rfl : a = 0 ∨ a = 1 ∨ a = 2 ∨ a = 3 := by omega
  · obtain rfl | rfl | rfl | rfl : b = 0 ∨ b = 1 ∨ b = 2 ∨ b = 3 := by omega
    · exact absurd rfl hab
    · obtain rfl | rfl | rfl | rfl : v = 0 ∨ v = 1 ∨ v = 2 ∨ v = 3 := by omega
      · exact absurd rfl hva
      · exact absurd rfl hvb
      · rw [potV_o (by decide) (by decide)]
        exact pot_4012 (lapZ xs m) hs r0 r1 r2 r3
      · rw [potV_e (by decide) (by decide)]
        exact pot_4013 (lapZ xs m) hs r0 r1 r2 r3
    · obtain rfl | rfl | rfl | rfl : v = 0 ∨ v = 1 ∨ v = 2 ∨ v = 3 := by omega
      · exact absurd rfl hva
      · rw [potV_o (by decide) (by decide)]
        exact pot_4021 (lapZ xs m) hs r0 r1 r2 r3
      · exact absurd rfl hvb
      · rw [potV_e (by decide) (by decide)]
        exact pot_4023 (lapZ xs m) hs r0 r1 r2 r3
    · obtain rfl | rfl | rfl | rfl : v = 0 ∨ v = 1 ∨ v = 2 ∨ v = 3 := by omega
      · exact absurd rfl hva
      · rw [potV_o (by decide) (by decide)]
        exact pot_4031 (lapZ xs m) hs r0 r1 r2 r3
      · rw [potV_e (by decide) (by decide)]
        exact pot_4032 (lapZ xs m) hs r0 r1 r2 r3
      · exact absurd rfl hvb
  · obtain rfl | rfl | rfl | rfl : b = 0 ∨ b = 1 ∨ b = 2 ∨ b = 3 := by omega
    · obtain rfl | rfl | rfl | rfl : v = 0 ∨ v = 1 ∨ v = 2 ∨ v = 3 := by omega
      · exact absurd rfl hvb
      · exact absurd rfl hva
      · rw [potV_o (by decide) (by decide)]
        exact pot_4102 (lapZ xs m) hs r0 r1 r2 r3
      · rw [potV_e (by decide) (by decide)]
        exact pot_4103 (lapZ xs m) hs r0 r1 r2 r3
    · exact absurd rfl hab
    · obtain rfl | rfl | rfl | rfl : v = 0 ∨ v = 1 ∨ v = 2 ∨ v = 3 := by omega
      · rw [potV_o (by decide) (by decide)]
        exact pot_4120 (lapZ xs m) hs r0 r1 r2 r3
      · exact absurd rfl hva
      · exact absurd rfl hvb
      · rw [potV_o (by decide) (by decide)]
        exact pot_4123 (lapZ xs m) hs r0 r1 r2 r3
    · obtain rfl | rfl | rfl | rfl : v = 0 ∨ v = 1 ∨ v = 2 ∨ v = 3 := by omega
      · rw [potV_o (by decide) (by decide)]
        exact pot_4130 (lapZ xs m) hs r0 r1 r2 r3
      · exact absurd rfl hva
      · rw [potV_o (by decide) (by decide)]
        exact pot_4132 (lapZ xs m) hs r0 r1 r2 r3
      · exact absurd rfl hvb
  · obtain rfl | rfl | rfl | rfl : b = 0 ∨ b = 1 ∨ b = 2 ∨ b = 3 := by omega
    · obtain rfl | rfl | rfl | rfl : v = 0 ∨ v = 1 ∨ v = 2 ∨ v = 3 := by omega
      · exact absurd rfl hvb
      · rw [potV_o (by decide) (by decide)]
        exact pot_4201 (lapZ xs m) hs r0 r1 r2 r3
      · exact absurd rfl hva
      · rw [potV_o (by decide) (by decide)]
        exact pot_4203 (lapZ xs m) hs r0 r1 r2 r3
    · obtain rfl | rfl | rfl | rfl : v = 0 ∨ v = 1 ∨ v = 2 ∨ v = 3 := by omega
      · rw [potV_o (by decide) (by decide)]
        exact pot_4210 (lapZ xs m) hs r0 r1 r2 r3
      · exact absurd rfl hvb
      · exact absurd rfl hva
      · rw [potV_o (by decide) (by decide)]
        exact pot_4213 (lapZ xs m) hs r0 r1 r2 r3
    · exact absurd rfl hab
    · obtain rfl | rfl | rfl | rfl : v = 0 ∨ v = 1 ∨ v = 2 ∨ v = 3 := by omega
      · rw [potV_e (by decide) (by decide)]
        exact pot_4230 (lapZ xs m) hs r0 r1 r2 r3
      · rw [potV_o (by decide) (by decide)]
        exact pot_4231 (lapZ xs m) hs r0 r1 r2 r3
      · exact absurd rfl hva
      · exact absurd rfl hvb
  · obtain rfl | rfl | rfl | rfl : b = 0 ∨ b = 1 ∨ b = 2 ∨ b = 3 := by omega
    · obtain rfl | rfl | rfl | rfl : v = 0 ∨ v = 1 ∨ v = 2 ∨ v = 3 := by omega
      · exact absurd rfl hvb
      · rw [potV_e (by decide) (by decide)]
        exact pot_4301 (lapZ xs m) hs r0 r1 r2 r3
      · rw [potV_o (by decide) (by decide)]
        exact pot_4302 (lapZ xs m) hs r0 r1 r2 r3
      · exact absurd rfl hva
    · obtain rfl | rfl | rfl | rfl : v = 0 ∨ v = 1 ∨ v = 2 ∨ v = 3 := by omega
      · rw [potV_e (by decide) (by decide)]
        exact pot_4310 (lapZ xs m) hs r0 r1 r2 r3
      · exact absurd rfl hvb
      · rw [potV_o (by decide) (by decide)]
        exact pot_4312 (lapZ xs m) hs r0 r1 r2 r3
      · exact absurd rfl hva
    · obtain rfl | rfl | rfl | rfl : v = 0 ∨ v = 1 ∨ v = 2 ∨ v = 3 := by omega
      · rw [potV_e (by decide) (by decide)]
        exact pot_4320 (lapZ xs m) hs r0 r1 r2 r3
      · rw [potV_o (by decide) (by decide)]
        exact pot_4321 (lapZ xs m) hs r0 r1 r2 r3
      · exact absurd rfl hvb
      · exact absurd rfl hva
    · exact absurd rfl hab
theorem pot_n5 {m : Nat} {xs : List Int} (hK : ∀ k, k < m → goodW ((5 : Nat) : Int) xs k) {a b v : Int} (ha : 0 ≤ a ∧ a < 5) (hb : 0 ≤ b ∧ b < 5) (hv : 0 ≤ v ∧ v < 5) (hab : ¬ a = b) (hva : ¬ v = a) (hvb : ¬ v = b) : forT 5 m xs a b + forT 5 m xs v b - forT 5 m xs a v = 2 * potV 5 m xs a b v := by
  have hs := lapZ_symm xs m
  have q0 : 0 + lapZ xs m 0 0 + lapZ xs m 0 1 + lapZ xs m 0 2 + lapZ xs m 0 3 + lapZ xs m 0 4 = 0 := lap_row (n := 5) (m := m) (xs := xs) (v := 0) hK (by omega) (by decide)
  have q1 : 0 + lapZ xs m 1 0 + lapZ xs m 1 1 + lapZ xs m 1 2 + lapZ xs m 1 3 + lapZ xs m 1 4 = 0 := lap_row (n := 5) (m := m) (xs := xs) (v := 1) hK (by omega) (by decide)
  have q2 : 0 + lapZ xs m 2 0 + lapZ xs m 2 1 + lapZ xs m 2 2 + lapZ xs m 2 3 + lapZ xs m 2 4 = 0 := lap_row (n := 5) (m := m) (xs := xs) (v := 2) hK (by omega) (by decide)
  have q3 : 0 + lapZ xs m 3 0 + lapZ xs m 3 1 + lapZ xs m 3 2 + lapZ xs m 3 3 + lapZ xs m 3 4 = 0 := lap_row (n := 5) (m := m) (xs := xs) (v := 3) hK (by omega) (by decide)
  have q4 : 0 + lapZ xs m 4 0 + lapZ xs m 4 1 + lapZ xs m 4 2 + lapZ xs m 4 3 + lapZ xs m 4 4 = 0 := lap_row (n := 5) (m := m) (xs := xs) (v := 4) hK (by omega) (by decide)
  have h10 := hs 1 0
  have h20 := hs 2 0
  have h21 := hs 2 1
  have h30 := hs 3 0
  have h31 := hs 3 1
  have h32 := hs 3 2
  have h40 := hs 4 0
  have h41 := hs 4 1
  have h42 := hs 4 2
  have h43 := hs 4 3
  have r0 : lapZ xs m 0 0 = -(lapZ xs m 0 1 + lapZ xs m 0 2 + lapZ xs m 0 3 + lapZ xs m 0 4) := by omega
  have r1 : lapZ xs m 1 1 = -(lapZ xs m 0 1 + lapZ xs m 1 2 + lapZ xs m 1 3 + lapZ xs m 1 4) := by omega
  have r2 : lapZ xs m 2 2 = -(lapZ xs m 0 2 + lapZ xs m 1 2 + lapZ xs m 2 3 + lapZ xs m 2 4) := by omega
  have r3 : lapZ xs m 3 3 = -(lapZ xs m 0 3 + lapZ xs m 1 3 + lapZ xs m 2 3 + lapZ xs m 3 4) := by omega
  have r4 : lapZ xs m 4 4 = -(lapZ xs m 0 4 + lapZ xs m 1 4 + lapZ xs m 2 4 + lapZ xs m 3 4) := by omega
  obtain rfl | rfl | rfl | rfl | rfl : a = 0 ∨ a = 1 ∨ a = 2 ∨ a = 3 ∨ a = 4 := by omega
  · obtain rfl | rfl | rfl | rfl | rfl : b = 0 ∨ b = 1 ∨ b = 2 ∨ b = 3 ∨ b = 4 := by omega
    · exact absurd rfl hab
    · obtain rfl | rfl | rfl | rfl | rfl : v = 0 ∨ v = 1 ∨ v = 2 ∨ v = 3 ∨ v = 4 := by omega
      · exact absurd rfl hva
      · exact absurd rfl hvb
      · rw [potV_o (by decide) (by decide)]
        exact pot_5012 (lapZ xs m) hs r0 r1 r2 r3 r4
      · rw [potV_e (by decide) (by decide)]
        exact pot_5013 (lapZ xs m) hs r0 r1 r2 r3 r4
      · rw [potV_o (by decide) (by decide)]
        exact pot_5014 (lapZ xs m) hs r0 r1 r2 r3 r4
    · obtain rfl | rfl | rfl | rfl | rfl : v = 0 ∨ v = 1 ∨ v = 2 ∨ v = 3 ∨ v = 4 := by omega
      · exact absurd rfl hva
      · rw [potV_o (by decide) (by decide)]
        exact pot_5021 (lapZ xs m) hs r0 r1 r2 r3 r4
      · exact absurd rfl hvb
      · rw [potV_e (by decide) (by decide)]
        exact pot_5023 (lapZ xs m) hs r0 r1 r2 r3 r4
      · rw [potV_o (by decide) (by decide)]
        exact pot_5024 (lapZ xs m) hs r0 r1 r2 r3 r4
    · obtain rfl | rfl | rfl | rfl | rfl : v = 0 ∨ v = 1 ∨ v = 2 ∨ v = 3 ∨ v = 4 := by omega
      · exact absurd rfl hva
      · rw [potV_o (by decide) (by decide)]
        exact pot_5031 (lapZ xs m) hs r0 r1 r2 r3 r4
      · rw [potV_e (by decide) (by decide)]
        exact pot_5032 (lapZ xs m) hs r0 r1 r2 r3 r4
      · exact absurd rfl hvb
      · rw [potV_o (by decide) (by decide)]
        exact pot_5034 (lapZ xs m) hs r0 r1 r2 r3 r4
    · obtain rfl | rfl | rfl | rfl | rfl : v = 0 ∨ v = 1 ∨ v = 2 ∨ v = 3 ∨ v = 4 := by omega
      · exact absurd rfl hva
      · rw [potV_o (by decide) (by decide)]
        exact pot_5041 (lapZ xs m) hs r0 r1 r2 r3 r4
      · rw [potV_e (by decide) (by decide)]
        exact pot_5042 (lapZ xs m) hs r0 r1 r2 r3 r4
      · rw [potV_o (by decide) (by decide)]
        exact pot_5043 (lapZ xs m) hs r0 r1 r2 r3 r4
      · exact absurd rfl hvb
  · obtain rfl | rfl | rfl | rfl | rfl : b = 0 ∨ b = 1 ∨ b = 2 ∨ b = 3 ∨ b = 4 := by omega
    · obtain rfl | rfl | rfl | rfl | rfl : v = 0 ∨ v = 1 ∨ v = 2 ∨ v = 3 ∨ v = 4 := by omega
      · exact absurd rfl hvb
      · exact absurd rfl hva
      · rw [potV_o (by decide) (by decide)]
        exact pot_5102 (lapZ xs m) hs r0 r1 r2 r3 r4
      · rw [potV_e (by decide) (by decide)]
        exact pot_5103 (lapZ xs m) hs r0 r1 r2 r3 r4
      · rw [potV_o (by decide) (by decide)]
        exact pot_5104 (lapZ xs m) hs r0 r1 r2 r3 r4
    · exact absurd rfl hab
    · obtain rfl | rfl | rfl | rfl | rfl : v = 0 ∨ v = 1 ∨ v = 2 ∨ v = 3 ∨ v = 4 := by omega
      · rw [potV_o (by decide) (by decide)]
        exact pot_5120 (lapZ xs m) hs r0 r1 r2 r3 r4
      · exact absurd rfl hva
      · exact absurd rfl hvb
      · rw [potV_o (by decide) (by decide)]
        exact pot_5123 (lapZ xs m) hs r0 r1 r2 r3 r4
      · rw [potV_e (by decide) (by decide)]
        exact pot_5124 (lapZ xs m) hs r0 r1 r2 r3 r4
    · obtain rfl | rfl | rfl | rfl | rfl : v = 0 ∨ v = 1 ∨ v = 2 ∨ v = 3 ∨ v = 4 := by omega
      · rw [potV_o (by decide) (by decide)]
        exact pot_5130 (lapZ xs m) hs r0 r1 r2 r3 r4
      · exact absurd rfl hva
      · rw [potV_o (by decide) (by decide)]
        exact pot_5132 (lapZ xs m) hs r0 r1 r2 r3 r4
      · exact absurd rfl hvb
      · rw [potV_e (by decide) (by decide)]
        exact pot_5134 (lapZ xs m) hs r0 r1 r2 r3 r4
    · obtain rfl | rfl | rfl | rfl | rfl : v = 0 ∨ v = 1 ∨ v = 2 ∨ v = 3 ∨ v = 4 := by omega
      · rw [potV_o (by decide) (by decide)]
        exact pot_5140 (lapZ xs m) hs r0 r1 r2 r3 r4
      · exact absurd rfl hva
      · rw [potV_o (by decide) (by decide)]
        exact pot_5142 (lapZ xs m) hs r0 r1 r2 r3 r4
      · rw [potV_e (by decide) (by decide)]
        exact pot_5143 (lapZ xs m) hs r0 r1 r2 r3 r4
      · exact absurd rfl hvb
  · obtain rfl | rfl | rfl | rfl | rfl : b = 0 ∨ b = 1 ∨ b = 2 ∨ b = 3 ∨ b = 4 := by omega
    · obtain rfl | rfl | rfl | rfl | rfl : v = 0 ∨ v = 1 ∨ v = 2 ∨ v = 3 ∨ v = 4 := by omega
      · exact absurd rfl hvb
      · rw [potV_o (by decide) (by decide)]
        exact pot_5201 (lapZ xs m) hs r0 r1 r2 r3 r4
      · exact absurd rfl hva
      · rw [potV_o (by decide) (by decide)]
        exact pot_5203 (lapZ xs m) hs r0 r1 r2 r3 r4
      · rw [potV_e (by decide) (by decide)]
        exact pot_5204 (lapZ xs m) hs r0 r1 r2 r3 r4
    · obtain rfl | rfl | rfl | rfl | rfl : v = 0 ∨ v = 1 ∨ v = 2 ∨ v = 3 ∨ v = 4 := by omega
      · rw [potV_o (by decide) (by decide)]
        exact pot_5210 (lapZ xs m) hs r0 r1 r2 r3 r4
      · exact absurd rfl hvb
      · exact absurd rfl hva
      · rw [potV_o (by decide) (by decide)]
        exact pot_5213 (lapZ xs m) hs r0 r1 r2 r3 r4
      · rw [potV_e (by decide) (by decide)]
        exact pot_5214 (lapZ xs m) hs r0 r1 r2 r3 r4
    · exact absurd rfl hab
    · obtain rfl | rfl | rfl | rfl | rfl : v = 0 ∨ v = 1 ∨ v = 2 ∨ v = 3 ∨ v = 4 := by omega
      · rw [potV_e (by decide) (by decide)]
        exact pot_5230 (lapZ xs m) hs r0 r1 r2 r3 r4
      · rw [potV_o (by decide) (by decide)]
        exact pot_5231 (lapZ xs m) hs r0 r1 r2 r3 r4
      · exact absurd rfl hva
      · exact absurd rfl hvb
      · rw [potV_o (by decide) (by decide)]
        exact pot_5234 (lapZ xs m) hs r0 r1 r2 r3 r4
    · obtain rfl | rfl | rfl | rfl | rfl : v = 0 ∨ v = 1 ∨ v = 2 ∨ v = 3 ∨ v = 4 := by omega
      · rw [potV_e (by decide) (by decide)]
        exact pot_5240 (lapZ xs m) hs r0 r1 r2 r3 r4
      · rw [potV_o (by decide) (by decide)]
        exact pot_5241 (lapZ xs m) hs r0 r1 r2 r3 r4
      · exact absurd rfl hva
      · rw [potV_o (by decide) (by decide)]
        exact pot_5243 (lapZ xs m) hs r0 r1 r2 r3 r4
      · exact absurd rfl hvb
  · obtain rfl | rfl | rfl | rfl | rfl : b = 0 ∨ b = 1 ∨ b = 2 ∨ b = 3 ∨ b = 4 := by omega
    · obtain rfl | rfl | rfl | rfl | rfl : v = 0 ∨ v = 1 ∨ v = 2 ∨ v = 3 ∨ v = 4 := by omega
      · exact absurd rfl hvb
      · rw [potV_e (by decide) (by decide)]
        exact pot_5301 (lapZ xs m) hs r0 r1 r2 r3 r4
      · rw [potV_o (by decide) (by decide)]
        exact pot_5302 (lapZ xs m) hs r0 r1 r2 r3 r4
      · exact absurd rfl hva
      · rw [potV_o (by decide) (by decide)]
        exact pot_5304 (lapZ xs m) hs r0 r1 r2 r3 r4
    · obtain rfl | rfl | rfl | rfl | rfl : v = 0 ∨ v = 1 ∨ v = 2 ∨ v = 3 ∨ v = 4 := by omega
      · rw [potV_e (by decide) (by decide)]
        exact pot_5310 (lapZ xs m) hs r0 r1 r2 r3 r4
      · exact absurd rfl hvb
      · rw [potV_o (by decide) (by decide)]
        exact pot_5312 (lapZ xs m) hs r0 r1 r2 r3 r4
      · exact absurd rfl hva
      · rw [potV_o (by decide) (by decide)]
        exact pot_5314 (lapZ xs m) hs r0 r1 r2 r3 r4
    · obtain rfl | rfl | rfl | rfl | rfl : v = 0 ∨ v = 1 ∨ v = 2 ∨ v = 3 ∨ v = 4 := by omega
      · rw [potV_e (by decide) (by decide)]
        exact pot_5320 (lapZ xs m) hs r0 r1 r2 r3 r4
      · rw [potV_o (by decide) (by decide)]
        exact pot_5321 (lapZ xs m) hs r0 r1 r2 r3 r4
      · exact absurd rfl hvb
      · exact absurd rfl hva
      · rw [potV_o (by decide) (by decide)]
        exact pot_5324 (lapZ xs m) hs r0 r1 r2 r3 r4
    · exact absurd rfl hab
    · obtain rfl | rfl | rfl | rfl | rfl : v = 0 ∨ v = 1 ∨ v = 2 ∨ v = 3 ∨ v = 4 := by omega
      · rw [potV_o (by decide) (by decide)]
        exact pot_5340 (lapZ xs m) hs r0 r1 r2 r3 r4
      · rw [potV_e (by decide) (by decide)]
        exact pot_5341 (lapZ xs m) hs r0 r1 r2 r3 r4
      · rw [potV_o (by decide) (by decide)]
        exact pot_5342 (lapZ xs m) hs r0 r1 r2 r3 r4
      · exact absurd rfl hva
      · exact absurd rfl hvb
  · obtain rfl | rfl | rfl | rfl | rfl : b = 0 ∨ b = 1 ∨ b = 2 ∨ b = 3 ∨ b = 4 := by omega
    · obtain rfl | rfl | rfl | rfl | rfl : v = 0 ∨ v = 1 ∨ v = 2 ∨ v = 3 ∨ v = 4 := by omega
      · exact absurd rfl hvb
      · rw [potV_o (by decide) (by decide)]
        exact pot_5401 (lapZ xs m) hs r0 r1 r2 r3 r4
      · rw [potV_e (by decide) (by decide)]
        exact pot_5402 (lapZ xs m) hs r0 r1 r2 r3 r4
      · rw [potV_o (by decide) (by decide)]
        exact pot_5403 (lapZ xs m) hs r0 r1 r2 r3 r4
      · exact absurd rfl hva
    · obtain rfl | rfl | rfl | rfl | rfl : v = 0 ∨ v = 1 ∨ v = 2 ∨ v = 3 ∨ v = 4 := by omega
      · rw [potV_o (by decide) (by decide)]
        exact pot_5410 (lapZ xs m) hs r0 r1 r2 r3 r4
      · exact absurd rfl hvb
      · rw [potV_e (by decide) (by decide)]
        exact pot_5412 (lapZ xs m) hs r0 r1 r2 r3 r4
      · rw [potV_o (by decide) (by decide)]
        exact pot_5413 (lapZ xs m) hs r0 r1 r2 r3 r4
      · exact absurd rfl hva
    · obtain rfl | rfl | rfl | rfl | rfl : v = 0 ∨ v = 1 ∨ v = 2 ∨ v = 3 ∨ v = 4 := by omega
      · rw [potV_o (by decide) (by decide)]
        exact pot_5420 (lapZ xs m) hs r0 r1 r2 r3 r4
      · rw [potV_e (by decide) (by decide)]
        exact pot_5421 (lapZ xs m) hs r0 r1 r2 r3 r4
      · exact absurd rfl hvb
      · rw [potV_o (by decide) (by decide)]
        exact pot_5423 (lapZ xs m) hs r0 r1 r2 r3 r4
      · exact absurd rfl hva
    · obtain rfl | rfl | rfl | rfl | rfl : v = 0 ∨ v = 1 ∨ v = 2 ∨ v = 3 ∨ v = 4 := by omega
      · rw [potV_o (by decide) (by decide)]
        exact pot_5430 (lapZ xs m) hs r0 r1 r2 r3 r4
      · rw [potV_e (by decide) (by decide)]
        exact pot_5431 (lapZ xs m) hs r0 r1 r2 r3 r4
      · rw [potV_o (by decide) (by decide)]
        exact pot_5432 (lapZ xs m) hs r0 r1 r2 r3 r4
      · exact absurd rfl hvb
      · exact absurd rfl hva
    · exact absurd rfl hab
theorem pot_id {n m : Nat} {xs : List Int} (hn : n ≤ 5) (hK : ∀ k, k < m → goodW n xs k) {a b v : Int} (ha : 0 ≤ a ∧ a < n) (hb : 0 ≤ b ∧ b < n) (hv : 0 ≤ v ∧ v < n) (hab : ¬ a = b) : forZ n m xs a b + forZ n m xs v b - forZ n m xs a v = 2 * potV n m xs a b v := by
  by_cases hvb : v = b
  · rw [potV_0 hvb, hvb]
    have : forZ n m xs b b = 0 := if_pos rfl
    omega
  by_cases hva : v = a
  · subst hva
    have e0 : forZ n m xs v v = 0 := if_pos rfl
    have e1 : forZ n m xs v b = forT n m xs v b := if_neg hab
    rw [potV_e hvb (by omega), e0, e1]
    unfold minorV
    rw [without_mm]
    unfold forT minorV
    omega
  have f1 : forZ n m xs a b = forT n m xs a b := if_neg hab
  have f2 : forZ n m xs v b = forT n m xs v b := if_neg hvb
  have f3 : forZ n m xs a v = forT n m xs a v := if_neg (fun h => hva h.symm)
  rw [f1, f2, f3]
  obtain rfl | rfl | rfl : n = 3 ∨ n = 4 ∨ n = 5 := by omega
  · exact pot_n3 hK ha hb hv hab hva hvb
  · exact pot_n4 hK ha hb hv hab hva hvb
  · exact pot_n5 hK ha hb hv hab hva hvb
theorem forZ_V {N E S : Int} {n m : Nat} {xs : List Int} {a b : Int} (hN : N = n) (h : netB N E S m xs = true) (ha : 0 ≤ a ∧ a < N) (hb : 0 ≤ b ∧ b < N) : forV N E S m xs a b = forZ n m xs a b := by
  subst hN
  unfold forZ
  by_cases e : a = b
  · rw [if_pos e, forV_f (fun h => h.2.2.2 e)]
  · rw [if_neg e, forV_t h ha hb e]; rfl
end Go.Proofs.Ytipiiimemmkdgaa
