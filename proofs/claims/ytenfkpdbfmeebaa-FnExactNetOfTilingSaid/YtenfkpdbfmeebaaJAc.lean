/- Plain law: bounds of determinants of up to five rows. No program in sight. l04Det of the reference, up to five rows. No condition. Plain law: chances of walks out of tree sums. No program in sight. Plain law: the potentials by forests are twice the potentials by minors. No program in sight. Plain Lean: decimal texts of integers as lists of bytes. No program in sight. The contracts of FormatInt, in the program and in the reference. -/
import Derived.Test.YtenfkpdbfmeebaaPlLap
import Derived.Test.YtenfkpdbfmeebaaWDetS
import Derived.Test.YtenfkpdbfmeebaaPlRatio
import Derived.Test.YtenfkpdbfmeebaaWBase
namespace Go.Proofs.Ytenfkpdbfmeebaa

open Go.RowKit

def detE (k : Nat) : Int := (4000 : Int) ^ k
theorem detE_pos (k : Nat) : 0 ≤ detE k := Int.pow_nonneg (by decide)
theorem detE_succ (k : Nat) : detE (k + 1) = 4000 * detE k := by unfold detE; rw [Int.pow_succ, Int.mul_comm]
theorem term_bdE {M : Int → Int → Int} (hM : ∀ a b, absB (M a b) 800) (j : Nat) (r c d B : Int) (hB : 0 ≤ B) (hd : absB d B) : absB (sgn j * M r c * d) (800 * B) := by
  have h1 : absB (sgn j * M r c) 800 := by
    have := hM r c
    unfold sgn absB at *
    split <;> omega
  exact absB_mul (by decide) h1 hd hB
theorem detF_bdE {M : Int → Int → Int} (hM : ∀ a b, absB (M a b) 800) : ∀ (rows cols : List Int), cols.length ≤ 5 → absB (detF M rows cols) (detE rows.length)
  | [], cols, _ => by simp [detF, detE, absB]
  | r :: rs, cols, h => by
    have h1 := sumTo_bd (f := fun j => sgn j * M r (nth cols j) * detF M rs (cols.eraseIdx j)) (B := 800 * detE rs.length) (k := cols.length) (Int.mul_nonneg (by decide) (detE_pos _))
      (fun j _ => term_bdE hM j r _ _ _ (detE_pos _) (detF_bdE hM rs (cols.eraseIdx j) (Nat.le_trans (List.length_eraseIdx_le _ _) h)))
    have h2 : (cols.length : Int) * (800 * detE rs.length) ≤ 5 * (800 * detE rs.length) := Int.mul_le_mul_of_nonneg_right (by omega) (Int.mul_nonneg (by decide) (detE_pos _))
    have h3 := detE_succ rs.length
    simp only [detF, List.length_cons, absB] at *
    omega
theorem detPart_bdE {M : Int → Int → Int} (hM : ∀ a b, absB (M a b) 800) (r : Int) (rs cols : List Int) (h : cols.length ≤ 5) {j : Nat} (hj : j ≤ cols.length) : absB (detPart M r rs cols j) (detE (rs.length + 1)) := by
  have h1 := sumTo_bd (f := fun j => sgn j * M r (nth cols j) * detF M rs (cols.eraseIdx j)) (B := 800 * detE rs.length) (k := j) (Int.mul_nonneg (by decide) (detE_pos _))
    (fun j _ => term_bdE hM j r _ _ _ (detE_pos _) (detF_bdE hM rs (cols.eraseIdx j) (Nat.le_trans (List.length_eraseIdx_le _ _) h)))
  have h2 : (j : Int) * (800 * detE rs.length) ≤ 5 * (800 * detE rs.length) := Int.mul_le_mul_of_nonneg_right (by omega) (Int.mul_nonneg (by decide) (detE_pos _))
  have h3 := detE_succ rs.length
  simp only [detPart, absB] at *
  omega
theorem detE_le {k : Nat} (h : k ≤ 5) : detE k ≤ 1024000000000000000 := by
  have : k = 0 ∨ k = 1 ∨ k = 2 ∨ k = 3 ∨ k = 4 ∨ k = 5 := by omega
  rcases this with rfl | rfl | rfl | rfl | rfl | rfl <;> decide
end Go.Proofs.Ytenfkpdbfmeebaa

namespace Go.Proofs.Ytenfkpdbfmeebaa
set_option maxRecDepth 100000
open Go.ChangeShapes Go.WideShapes Go.ChangeAt Go.RowKit Go.Joins

end Go.Proofs.Ytenfkpdbfmeebaa

namespace Go.Proofs.Ytenfkpdbfmeebaa

open Go.RowKit

noncomputable def grdR (c : Bool) (r : Rt) : Rt := if c = true then r else ⟨0, 0⟩
theorem grdR_t (r : Rt) : grdR true r = r := rfl
theorem grdR_f (r : Rt) : grdR false r = ⟨0, 0⟩ := rfl
/-- a and b are two nodes of a valid network. -/
noncomputable def difB (N E S : Int) (m : Nat) (xs : List Int) (a b : Int) : Bool := netB N E S m xs && (decide (0 ≤ a ∧ a < N) && (decide (0 ≤ b ∧ b < N) && !decide (a = b)))
theorem dif_f0 {N E S : Int} {m : Nat} {xs : List Int} {a b : Int} (h : netB N E S m xs = false) : difB N E S m xs a b = false := by simp [difB, h]
theorem dif_f1 {N E S : Int} {m : Nat} {xs : List Int} {a b : Int} (h : ¬ (0 ≤ a ∧ a < N)) : difB N E S m xs a b = false := by simp [difB, h]
theorem dif_f2 {N E S : Int} {m : Nat} {xs : List Int} {a b : Int} (h : ¬ (0 ≤ b ∧ b < N)) : difB N E S m xs a b = false := by simp [difB, h]
theorem dif_f3 {N E S : Int} {m : Nat} {xs : List Int} {a b : Int} (h : a = b) : difB N E S m xs a b = false := by simp [difB, h]
theorem dif_t {N E S : Int} {m : Nat} {xs : List Int} {a b : Int} (h : netB N E S m xs = true) (h1 : 0 ≤ a ∧ a < N) (h2 : 0 ≤ b ∧ b < N) (h3 : ¬ a = b) : difB N E S m xs a b = true := by simp [difB, h, h1, h2, h3]
theorem dif_of {N E S : Int} {m : Nat} {xs : List Int} {a b : Int} (h : difB N E S m xs a b = true) : netB N E S m xs = true ∧ (0 ≤ a ∧ a < N) ∧ (0 ≤ b ∧ b < N) ∧ ¬ a = b := by simpa [difB] using h

theorem without_lt2 {k : Nat} {l : List Int} {x y : Int} (hx : x ∈ l) (hy : y ∈ l) (hxy : ¬ x = y) (h0 : 0 ≤ x ∧ x < k) (h1 : 0 ≤ y ∧ y < k) : (without k l).length + 2 ≤ k := by
  induction k with
  | zero => omega
  | succ k ih =>
    by_cases e : x = k
    · rw [without_in (by rw [← e]; exact hx)]
      have := without_lt hy (k := k) (by omega) (by omega)
      omega
    · by_cases e2 : y = k
      · rw [without_in (by rw [← e2]; exact hy)]
        have := without_lt hx (k := k) (by omega) (by omega)
        omega
      · have h2 := ih (by omega) (by omega)
        by_cases c : (k : Int) ∈ l
        · rw [without_in c]; omega
        · rw [without_out c]; simp; omega
theorem detB_le3 {k : Nat} (h : k ≤ 3) : detB k ≤ 1000000000000 := by
  have e : k = 0 ∨ k = 1 ∨ k = 2 ∨ k = 3 := by omega
  rcases e with rfl | rfl | rfl | rfl <;> decide
/-- An open walk's facts of a valid network. -/
theorem net_wires {N E S : Int} {m : Nat} {xs : List Int} (h : netB N E S m xs = true) : (1 ≤ N ∧ N ≤ 5) ∧ m ≤ 10 ∧ (∀ k, k < m → goodW N xs k) := by
  obtain ⟨⟨n1, n2⟩, _, _, hK, _⟩ := netP_of h
  obtain ⟨n, rfl⟩ : ∃ n : Nat, N = (n : Int) := ⟨N.toNat, by omega⟩
  exact ⟨⟨n1, n2⟩, prs_len (N := n) (by omega) hK, hK⟩
theorem treeV_bd (N E S : Int) (m : Nat) (xs : List Int) : -10000000000000000 ≤ treeV N E S m xs ∧ treeV N E S m xs ≤ 10000000000000000 := by
  cases h : netB N E S m xs with
  | false => rw [treeV_f h]; omega
  | true =>
    rw [treeV_t h]
    obtain ⟨⟨n1, n2⟩, h10, hK⟩ := net_wires h
    obtain ⟨n, rfl⟩ : ∃ n : Nat, N = (n : Int) := ⟨N.toNat, by omega⟩
    rw [show ((n : Int)).toNat = n by omega]
    refine minor_bd (n := n) hK h10 (by omega) _ _ ?_
    have := without_lt (k := n) (l := [0]) (x := 0) (by simp) (by omega) (by omega)
    omega
theorem forV_bd (N E S : Int) (m : Nat) (xs : List Int) (a b : Int) : -1000000000000 ≤ forV N E S m xs a b ∧ forV N E S m xs a b ≤ 1000000000000 := by
  by_cases h : netB N E S m xs = true ∧ (0 ≤ a ∧ a < N) ∧ (0 ≤ b ∧ b < N) ∧ ¬ a = b
  · rw [forV_t h.1 h.2.1 h.2.2.1 h.2.2.2]
    obtain ⟨⟨n1, n2⟩, h10, hK⟩ := net_wires h.1
    obtain ⟨n, rfl⟩ : ∃ n : Nat, N = (n : Int) := ⟨N.toNat, by omega⟩
    rw [show ((n : Int)).toNat = n by omega]
    have h0 := without_lt2 (k := n) (l := [a, b]) (x := a) (y := b) (by simp) (by simp) h.2.2.2 h.2.1 h.2.2.1
    have h1 := detF_bd (lapZ_bd hK h10) (without n [a, b]) (without n [a, b]) (Nat.le_trans (without_len n _) (by omega))
    have h2 := detB_le3 (k := (without n [a, b]).length) (by omega)
    unfold absB at h1
    unfold forT minorV
    omega
  · rw [forV_f h]; omega
theorem mul_bd {u f A B : Int} (h0 : 0 ≤ u) (h1 : u ≤ A) (h2 : -B ≤ f) (h3 : f ≤ B) (hB : 0 ≤ B) : -(A * B) ≤ u * f ∧ u * f ≤ A * B := by
  have := absB_mul (x := u) (y := f) (A := A) (B := B) (by omega) (by unfold absB; omega) (by unfold absB; omega) hB
  unfold absB at this
  omega
theorem wf_bd {N E S : Int} {m : Nat} {xs : List Int} {u : Int} (h0 : 0 ≤ u) (h1 : u ≤ 20000) (a b : Int) : -20000000000000000 ≤ u * forV N E S m xs a b ∧ u * forV N E S m xs a b ≤ 20000000000000000 := by
  obtain ⟨f0, f1⟩ := forV_bd N E S m xs a b
  have := mul_bd h0 h1 f0 f1 (by omega)
  omega
/-- The weights of all nodes. -/
def wtAll (xs : List Int) : Nat → Int
  | 0 => 0
  | k + 1 => wtAll xs k + 2 * ww xs k
theorem wtAll_bd {N : Int} {xs : List Int} : ∀ {m : Nat}, (∀ k, k < m → goodW N xs k) → 0 ≤ wtAll xs m ∧ wtAll xs m ≤ 400 * m
  | 0, _ => by simp [wtAll]
  | m + 1, h => by
    have h1 := wtAll_bd (m := m) (fun k hk => h k (by omega))
    obtain ⟨_, _, _, q1, q2⟩ := (h m (by omega)).1
    simp only [wtAll]
    omega
/-- The weights at the first k nodes. -/
def watS (xs : List Int) (m : Nat) : Nat → Int
  | 0 => 0
  | k + 1 => watS xs m k + wat xs k m
theorem watS_bd {N : Int} {xs : List Int} {m : Nat} (h : ∀ k, k < m → goodW N xs k) : ∀ k : Nat, 0 ≤ watS xs m k ∧ watS xs m k ≤ 200 * m * k
  | 0 => by simp [watS]
  | k + 1 => by
    have h1 := watS_bd h k
    have h2 := wat_bd (k : Int) h
    simp only [watS]
    have e : 200 * (m : Int) * ((k + 1 : Nat) : Int) = 200 * m * k + 200 * m := by
      rw [show ((k + 1 : Nat) : Int) = (k : Int) + 1 by omega, Int.mul_add, Int.mul_one]
    omega
theorem watS_step (xs : List Int) (m : Nat) (hA : 0 ≤ wa xs m) (hB : 0 ≤ wb xs m) (hne : wa xs m ≠ wb xs m) : ∀ k : Nat, watS xs (m + 1) k = watS xs m k + ((if wa xs m < k then ww xs m else 0) + (if wb xs m < k then ww xs m else 0))
  | 0 => by
    rw [if_neg (by omega), if_neg (by omega)]; simp [watS]
  | k + 1 => by
    have ih := watS_step xs m hA hB hne k
    simp only [watS, wat]
    rw [ih]
    repeat' split
    all_goals omega
theorem watS_zero (xs : List Int) : ∀ k : Nat, watS xs 0 k = 0
  | 0 => rfl
  | k + 1 => by simp [watS, watS_zero xs k, wat]
theorem watS_all {n : Nat} {xs : List Int} : ∀ {m : Nat}, (∀ k, k < m → goodW n xs k) → watS xs m n = wtAll xs m
  | 0, _ => watS_zero xs n
  | m + 1, h => by
    obtain ⟨q0, q1, q2, _, _⟩ := (h m (by omega)).1
    rw [watS_step xs m (by omega) (by omega) (by omega) n, watS_all (m := m) (fun k hk => h k (by omega)), if_pos (by omega), if_pos (by omega)]
    simp only [wtAll]
    omega
/-- The sum of a hitting time over the first k nodes. -/
noncomputable def hitS (N E S : Int) (m : Nat) (xs : List Int) (a b : Int) : Nat → Int
  | 0 => 0
  | k + 1 => hitS N E S m xs a b k + wat xs k m * (forV N E S m xs a b + forV N E S m xs k b - forV N E S m xs a k)
theorem hitS_bd {N E S : Int} {m : Nat} {xs : List Int} {a b : Int} (h : ∀ k, k < m → goodW N xs k) (hm : m ≤ 10) : ∀ k : Nat, -(6000000000000000 * (k : Int)) ≤ hitS N E S m xs a b k ∧ hitS N E S m xs a b k ≤ 6000000000000000 * k
  | 0 => by simp [hitS]
  | k + 1 => by
    have ih := hitS_bd (E := E) (S := S) (a := a) (b := b) h hm k
    have h2 := wat_bd (k : Int) h
    have f1 := forV_bd N E S m xs a b
    have f2 := forV_bd N E S m xs k b
    have f3 := forV_bd N E S m xs a k
    have h3 := mul_bd (u := wat xs k m) (f := forV N E S m xs a b + forV N E S m xs k b - forV N E S m xs a k) (A := 2000) (B := 3000000000000) (by omega) (by omega) (by omega) (by omega) (by omega)
    simp only [hitS]
    omega
noncomputable def escR (N E S : Int) (m : Nat) (xs : List Int) (a b : Int) : Rt := grdR (difB N E S m xs a b) (ratioOf (treeV N E S m xs) (wat xs a m * forV N E S m xs a b))
noncomputable def wireB (N E S : Int) (m : Nat) (xs : List Int) (k : Int) : Bool := netB N E S m xs && decide (0 ≤ k ∧ k < m)
noncomputable def trcR (N E S : Int) (m : Nat) (xs : List Int) (k : Int) : Rt := grdR (wireB N E S m xs k) (ratioOf (ww xs k.toNat * forV N E S m xs (wa xs k.toNat) (wb xs k.toNat)) (treeV N E S m xs))
theorem esc_f {N E S : Int} {m : Nat} {xs : List Int} {a b : Int} (h : difB N E S m xs a b = false) : escR N E S m xs a b = ⟨0, 0⟩ := by unfold escR; rw [h]; rfl
theorem esc_t {N E S : Int} {m : Nat} {xs : List Int} {a b : Int} (h : difB N E S m xs a b = true) : escR N E S m xs a b = ratioOf (treeV N E S m xs) (wat xs a m * forV N E S m xs a b) := by unfold escR; rw [h]; rfl
theorem wire_f0 {N E S : Int} {m : Nat} {xs : List Int} {k : Int} (h : netB N E S m xs = false) : wireB N E S m xs k = false := by simp [wireB, h]
theorem wire_f1 {N E S : Int} {m : Nat} {xs : List Int} {k : Int} (h : ¬ (0 ≤ k ∧ k < m)) : wireB N E S m xs k = false := by simp [wireB, h]
theorem wire_t {N E S : Int} {m : Nat} {xs : List Int} {k : Int} (h : netB N E S m xs = true) (h1 : 0 ≤ k ∧ k < m) : wireB N E S m xs k = true := by simp [wireB, h, h1]
theorem wire_of {N E S : Int} {m : Nat} {xs : List Int} {k : Int} (h : wireB N E S m xs k = true) : netB N E S m xs = true ∧ 0 ≤ k ∧ k < m := by simpa [wireB] using h
theorem trc_f {N E S : Int} {m : Nat} {xs : List Int} {k : Int} (h : wireB N E S m xs k = false) : trcR N E S m xs k = ⟨0, 0⟩ := by unfold trcR; rw [h]; rfl
theorem trc_t {N E S : Int} {m : Nat} {xs : List Int} {k : Nat} (h : wireB N E S m xs k = true) : trcR N E S m xs k = ratioOf (ww xs k * forV N E S m xs (wa xs k) (wb xs k)) (treeV N E S m xs) := by unfold trcR; rw [h]; rfl
end Go.Proofs.Ytenfkpdbfmeebaa

namespace Go.Proofs.Ytenfkpdbfmeebaa

open Go.RowKit

theorem isW_symm (xs : List Int) (a b : Int) (k : Nat) : isW xs a b k ↔ isW xs b a k := by unfold isW; rw [Int.min_comm, Int.max_comm]
theorem wfind_symm (xs : List Int) (a b : Int) : ∀ m, wfind xs a b m = wfind xs b a m
  | 0 => rfl
  | m + 1 => by
    simp only [wfind, wfind_symm xs a b m]
    by_cases h : isW xs a b m
    · rw [if_pos h, if_pos ((isW_symm xs a b m).1 h)]
    · rw [if_neg h, if_neg (fun k => h ((isW_symm xs a b m).2 k))]
theorem wbet_symm (xs : List Int) (m : Nat) (a b : Int) : wbet xs m a b = wbet xs m b a := by unfold wbet; rw [wfind_symm]
theorem lapZ_symm (xs : List Int) (m : Nat) (a b : Int) : lapZ xs m a b = lapZ xs m b a := by
  unfold lapZ
  by_cases h : a = b
  · rw [h]
  · rw [if_neg h, if_neg (fun k => h k.symm), wbet_symm]
/-- One wire more. -/
theorem wbet_snoc {N : Int} {xs : List Int} {m : Nat} (h : ∀ k, k < m + 1 → goodW N xs k) (a b : Int) : wbet xs (m + 1) a b = wbet xs m a b + (if isW xs a b m then ww xs m else 0) := by
  unfold wbet
  cases e : wfind xs a b m with
  | some k =>
    obtain ⟨hk, hw⟩ := wfind_lt e
    have e2 : wfind xs a b (m + 1) = some k := by simp only [wfind, e]
    rw [e2]
    have h2 : ¬ isW xs a b m := fun h2 => by
      have h3 := (prs_pair xs (m + 1) N h).2 m (by omega) k hk
      obtain ⟨p1, p2⟩ := hw
      obtain ⟨p3, p4⟩ := h2
      rw [p1, p2, p3, p4] at h3
      unfold ltP at h3
      omega
    rw [if_neg h2]; simp
  | none =>
    by_cases h2 : isW xs a b m
    · have e2 : wfind xs a b (m + 1) = some m := by simp only [wfind, e, if_pos h2]
      rw [e2, if_pos h2]; simp
    · have e2 : wfind xs a b (m + 1) = none := by simp only [wfind, e, if_neg h2]
      rw [e2, if_neg h2]; simp
theorem ind_sum (xs : List Int) (m : Nat) (v : Int) (hv : 0 ≤ v) (hA : 0 ≤ wa xs m) (hB : wa xs m < wb xs m) : ∀ k : Nat, sumTo (fun (u : Nat) => if isW xs v u m then ww xs m else 0) k = if (wa xs m = v ∧ wb xs m < k) ∨ (wb xs m = v ∧ wa xs m < k) then ww xs m else 0
  | 0 => by rw [if_neg (by omega)]; rfl
  | k + 1 => by
    simp only [sumTo, ind_sum xs m v hv hA hB k]
    by_cases c : isW xs v (k : Int) m
    · rw [if_pos c]
      obtain ⟨c1, c2⟩ := c
      rw [if_neg (by omega), if_pos (by omega)]; omega
    · rw [if_neg c]
      unfold isW at c
      by_cases d : (wa xs m = v ∧ wb xs m < k) ∨ (wb xs m = v ∧ wa xs m < k)
      · rw [if_pos d, if_pos (by omega)]; omega
      · rw [if_neg d, if_neg (by omega)]; omega
theorem sumTo_add (f g : Nat → Int) : ∀ k, sumTo (fun u => f u + g u) k = sumTo f k + sumTo g k
  | 0 => rfl
  | k + 1 => by simp only [sumTo, sumTo_add f g k]; omega
theorem sumTo_congr {f g : Nat → Int} : ∀ {k : Nat}, (∀ u, u < k → f u = g u) → sumTo f k = sumTo g k
  | 0, _ => rfl
  | k + 1, h => by simp only [sumTo]; rw [sumTo_congr (k := k) (fun u hu => h u (by omega)), h k (by omega)]
theorem wat_sum {n : Nat} {xs : List Int} {v : Int} (h0 : 0 ≤ v) (h1 : v < n) : ∀ {m : Nat}, (∀ k, k < m → goodW n xs k) → sumTo (fun (u : Nat) => wbet xs m v u) n = wat xs v m
  | 0, _ => by
    show _ = (0 : Int)
    have : ∀ k, sumTo (fun (u : Nat) => wbet xs 0 v u) k = 0 := fun k => by
      induction k with
      | zero => rfl
      | succ k ih => simp only [sumTo, ih]; rfl
    exact this n
  | m + 1, h => by
    obtain ⟨q0, q1, q2, _, _⟩ := (h m (by omega)).1
    have e1 : sumTo (fun (u : Nat) => wbet xs (m + 1) v u) n = sumTo (fun (u : Nat) => wbet xs m v u + (if isW xs v u m then ww xs m else 0)) n := sumTo_congr (fun u _ => wbet_snoc h v u)
    rw [e1, sumTo_add, wat_sum h0 h1 (m := m) (fun k hk => h k (by omega)), ind_sum xs m v h0 (by omega) (by omega)]
    simp only [wat]
    by_cases d : wa xs m = v ∨ wb xs m = v
    · rw [if_pos d, if_pos (by omega)]
    · rw [if_neg d, if_neg (by omega)]
theorem lap_sum {N : Int} {xs : List Int} {m : Nat} (h : ∀ k, k < m → goodW N xs k) (v : Int) (h0 : 0 ≤ v) : ∀ k : Nat, sumTo (fun (u : Nat) => lapZ xs m v u) k = (if v < k then wat xs v m else 0) - sumTo (fun (u : Nat) => wbet xs m v u) k
  | 0 => by rw [if_neg (by omega)]; rfl
  | k + 1 => by
    simp only [sumTo, lap_sum h v h0 k]
    unfold lapZ
    by_cases e : v = (k : Int)
    · rw [if_pos e, if_neg (by omega), if_pos (by omega), e, wbet_none (wfind_self h _)]; omega
    · rw [if_neg e]
      by_cases d : v < (k : Int)
      · rw [if_pos d, if_pos (by omega)]; omega
      · rw [if_neg d, if_neg (by omega)]; omega
theorem lap_row {n : Nat} {xs : List Int} {m : Nat} {v : Int} (h : ∀ k, k < m → goodW n xs k) (h0 : 0 ≤ v) (h1 : v < n) : sumTo (fun (u : Nat) => lapZ xs m v u) n = 0 := by
  rw [lap_sum h v h0, if_pos h1, wat_sum h0 h1 h]; omega

def idxZ (v b : Int) : Int := if v > b then v - 1 else v
/-- The potential of a node by minors. -/
noncomputable def potV (n m : Nat) (xs : List Int) (a b v : Int) : Int := if v = b then 0 else if (idxZ a b + idxZ v b) % 2 = 0 then minorV n m xs [min a b, max a b] [min v b, max v b] else -(minorV n m xs [min a b, max a b] [min v b, max v b])
theorem potV_0 {n m : Nat} {xs : List Int} {a b v : Int} (h : v = b) : potV n m xs a b v = 0 := if_pos h
theorem potV_e {n m : Nat} {xs : List Int} {a b v : Int} (h : ¬ v = b) (h2 : (idxZ a b + idxZ v b) % 2 = 0) : potV n m xs a b v = minorV n m xs [min a b, max a b] [min v b, max v b] := by unfold potV; rw [if_neg h, if_pos h2]
theorem potV_o {n m : Nat} {xs : List Int} {a b v : Int} (h : ¬ v = b) (h2 : ¬ (idxZ a b + idxZ v b) % 2 = 0) : potV n m xs a b v = -(minorV n m xs [min a b, max a b] [min v b, max v b]) := by unfold potV; rw [if_neg h, if_neg h2]
/-- The forests, none if the nodes are one. -/
def forZ (n m : Nat) (xs : List Int) (a b : Int) : Int := if a = b then 0 else forT n m xs a b
theorem without_mm (n : Nat) (a b : Int) : without n [min a b, max a b] = without n [a, b] := by
  unfold without
  congr 1
  funext x
  congr 2
  simp only [List.mem_cons, List.not_mem_nil, or_false, eq_iff_iff]
  omega
theorem pot_3012 (M : Int → Int → Int) (hs : ∀ a b, M a b = M b a) (r0 : M 0 0 = -(M 0 1 + M 0 2)) (r1 : M 1 1 = -(M 0 1 + M 1 2)) (r2 : M 2 2 = -(M 0 2 + M 1 2)) : detF M [2] [2] + detF M [0] [0] - detF M [1] [1] = 2 * (-detF M [2] [0]) := by
  have h10 := hs 1 0
  have h20 := hs 2 0
  have h21 := hs 2 1
  clear hs
  simp only [detF, sumTo, sgn, nth, List.length, List.getD_cons_zero, h20, r0, r1, r2]
  generalize M 0 1 = x01 at *
  generalize M 0 2 = x02 at *
  generalize M 1 2 = x12 at *
  clear h10 h20 h21 r0 r1 r2
  grind

theorem pot_3021 (M : Int → Int → Int) (hs : ∀ a b, M a b = M b a) (r0 : M 0 0 = -(M 0 1 + M 0 2)) (r1 : M 1 1 = -(M 0 1 + M 1 2)) (r2 : M 2 2 = -(M 0 2 + M 1 2)) : detF M [1] [1] + detF M [0] [0] - detF M [2] [2] = 2 * (-detF M [1] [0]) := by
  have h10 := hs 1 0
  have h20 := hs 2 0
  have h21 := hs 2 1
  clear hs
  simp only [detF, sumTo, sgn, nth, List.length, List.getD_cons_zero, h10, r0, r1, r2]
  generalize M 0 1 = x01 at *
  generalize M 0 2 = x02 at *
  generalize M 1 2 = x12 at *
  clear h10 h20 h21 r0 r1 r2
  grind

theorem pot_3102 (M : Int → Int → Int) (hs : ∀ a b, M a b = M b a) (r0 : M 0 0 = -(M 0 1 + M 0 2)) (r1 : M 1 1 = -(M 0 1 + M 1 2)) (r2 : M 2 2 = -(M 0 2 + M 1 2)) : detF M [2] [2] + detF M [1] [1] - detF M [0] [0] = 2 * (-detF M [2] [1]) := by
  have h10 := hs 1 0
  have h20 := hs 2 0
  have h21 := hs 2 1
  clear hs
  simp only [detF, sumTo, sgn, nth, List.length, List.getD_cons_zero, h21, r0, r1, r2]
  generalize M 0 1 = x01 at *
  generalize M 0 2 = x02 at *
  generalize M 1 2 = x12 at *
  clear h10 h20 h21 r0 r1 r2
  grind

theorem pot_3120 (M : Int → Int → Int) (hs : ∀ a b, M a b = M b a) (r0 : M 0 0 = -(M 0 1 + M 0 2)) (r1 : M 1 1 = -(M 0 1 + M 1 2)) (r2 : M 2 2 = -(M 0 2 + M 1 2)) : detF M [0] [0] + detF M [1] [1] - detF M [2] [2] = 2 * (-detF M [0] [1]) := by
  have h10 := hs 1 0
  have h20 := hs 2 0
  have h21 := hs 2 1
  clear hs
  simp only [detF, sumTo, sgn, nth, List.length, List.getD_cons_zero, r0, r1, r2]
  generalize M 0 1 = x01 at *
  generalize M 0 2 = x02 at *
  generalize M 1 2 = x12 at *
  clear h10 h20 h21 r0 r1 r2
  grind

theorem pot_3201 (M : Int → Int → Int) (hs : ∀ a b, M a b = M b a) (r0 : M 0 0 = -(M 0 1 + M 0 2)) (r1 : M 1 1 = -(M 0 1 + M 1 2)) (r2 : M 2 2 = -(M 0 2 + M 1 2)) : detF M [1] [1] + detF M [2] [2] - detF M [0] [0] = 2 * (-detF M [1] [2]) := by
  have h10 := hs 1 0
  have h20 := hs 2 0
  have h21 := hs 2 1
  clear hs
  simp only [detF, sumTo, sgn, nth, List.length, List.getD_cons_zero, r0, r1, r2]
  generalize M 0 1 = x01 at *
  generalize M 0 2 = x02 at *
  generalize M 1 2 = x12 at *
  clear h10 h20 h21 r0 r1 r2
  grind

theorem pot_3210 (M : Int → Int → Int) (hs : ∀ a b, M a b = M b a) (r0 : M 0 0 = -(M 0 1 + M 0 2)) (r1 : M 1 1 = -(M 0 1 + M 1 2)) (r2 : M 2 2 = -(M 0 2 + M 1 2)) : detF M [0] [0] + detF M [2] [2] - detF M [1] [1] = 2 * (-detF M [0] [2]) := by
  have h10 := hs 1 0
  have h20 := hs 2 0
  have h21 := hs 2 1
  clear hs
  simp only [detF, sumTo, sgn, nth, List.length, List.getD_cons_zero, r0, r1, r2]
  generalize M 0 1 = x01 at *
  generalize M 0 2 = x02 at *
  generalize M 1 2 = x12 at *
  clear h10 h20 h21 r0 r1 r2
  grind

theorem pot_4012 (M : Int → Int → Int) (hs : ∀ a b, M a b = M b a) (r0 : M 0 0 = -(M 0 1 + M 0 2 + M 0 3)) (r1 : M 1 1 = -(M 0 1 + M 1 2 + M 1 3)) (r2 : M 2 2 = -(M 0 2 + M 1 2 + M 2 3)) (r3 : M 3 3 = -(M 0 3 + M 1 3 + M 2 3)) : detF M [2, 3] [2, 3] + detF M [0, 3] [0, 3] - detF M [1, 3] [1, 3] = 2 * (-detF M [2, 3] [0, 3]) := by
  have h10 := hs 1 0
  have h20 := hs 2 0
  have h21 := hs 2 1
  have h30 := hs 3 0
  have h31 := hs 3 1
  have h32 := hs 3 2
  clear hs
  simp only [detF, sumTo, sgn, nth, List.length, List.getD_cons_zero, List.getD_cons_succ, List.eraseIdx, h20, h30, h31, h32, r0, r1, r2, r3]
  generalize M 0 1 = x01 at *
  generalize M 0 2 = x02 at *
  generalize M 1 2 = x12 at *
  generalize M 0 3 = x03 at *
  generalize M 1 3 = x13 at *
  generalize M 2 3 = x23 at *
  clear h10 h20 h21 h30 h31 h32 r0 r1 r2 r3
  grind

theorem pot_4013 (M : Int → Int → Int) (hs : ∀ a b, M a b = M b a) (r0 : M 0 0 = -(M 0 1 + M 0 2 + M 0 3)) (r1 : M 1 1 = -(M 0 1 + M 1 2 + M 1 3)) (r2 : M 2 2 = -(M 0 2 + M 1 2 + M 2 3)) (r3 : M 3 3 = -(M 0 3 + M 1 3 + M 2 3)) : detF M [2, 3] [2, 3] + detF M [0, 2] [0, 2] - detF M [1, 2] [1, 2] = 2 * (detF M [2, 3] [0, 2]) := by
  have h10 := hs 1 0
  have h20 := hs 2 0
  have h21 := hs 2 1
  have h30 := hs 3 0
  have h31 := hs 3 1
  have h32 := hs 3 2
  clear hs
  simp only [detF, sumTo, sgn, nth, List.length, List.getD_cons_zero, List.getD_cons_succ, List.eraseIdx, h20, h21, h30, h32, r0, r1, r2, r3]
  generalize M 0 1 = x01 at *
  generalize M 0 2 = x02 at *
  generalize M 1 2 = x12 at *
  generalize M 0 3 = x03 at *
  generalize M 1 3 = x13 at *
  generalize M 2 3 = x23 at *
  clear h10 h20 h21 h30 h31 h32 r0 r1 r2 r3
  grind

theorem pot_4021 (M : Int → Int → Int) (hs : ∀ a b, M a b = M b a) (r0 : M 0 0 = -(M 0 1 + M 0 2 + M 0 3)) (r1 : M 1 1 = -(M 0 1 + M 1 2 + M 1 3)) (r2 : M 2 2 = -(M 0 2 + M 1 2 + M 2 3)) (r3 : M 3 3 = -(M 0 3 + M 1 3 + M 2 3)) : detF M [1, 3] [1, 3] + detF M [0, 3] [0, 3] - detF M [2, 3] [2, 3] = 2 * (-detF M [1, 3] [0, 3]) := by
  have h10 := hs 1 0
  have h20 := hs 2 0
  have h21 := hs 2 1
  have h30 := hs 3 0
  have h31 := hs 3 1
  have h32 := hs 3 2
  clear hs
  simp only [detF, sumTo, sgn, nth, List.length, List.getD_cons_zero, List.getD_cons_succ, List.eraseIdx, h10, h30, h31, h32, r0, r1, r2, r3]
  generalize M 0 1 = x01 at *
  generalize M 0 2 = x02 at *
  generalize M 1 2 = x12 at *
  generalize M 0 3 = x03 at *
  generalize M 1 3 = x13 at *
  generalize M 2 3 = x23 at *
  clear h10 h20 h21 h30 h31 h32 r0 r1 r2 r3
  grind

theorem pot_4023 (M : Int → Int → Int) (hs : ∀ a b, M a b = M b a) (r0 : M 0 0 = -(M 0 1 + M 0 2 + M 0 3)) (r1 : M 1 1 = -(M 0 1 + M 1 2 + M 1 3)) (r2 : M 2 2 = -(M 0 2 + M 1 2 + M 2 3)) (r3 : M 3 3 = -(M 0 3 + M 1 3 + M 2 3)) : detF M [1, 3] [1, 3] + detF M [0, 1] [0, 1] - detF M [1, 2] [1, 2] = 2 * (detF M [1, 3] [0, 1]) := by
  have h10 := hs 1 0
  have h20 := hs 2 0
  have h21 := hs 2 1
  have h30 := hs 3 0
  have h31 := hs 3 1
  have h32 := hs 3 2
  clear hs
  simp only [detF, sumTo, sgn, nth, List.length, List.getD_cons_zero, List.getD_cons_succ, List.eraseIdx, h10, h21, h30, h31, r0, r1, r2, r3]
  generalize M 0 1 = x01 at *
  generalize M 0 2 = x02 at *
  generalize M 1 2 = x12 at *
  generalize M 0 3 = x03 at *
  generalize M 1 3 = x13 at *
  generalize M 2 3 = x23 at *
  clear h10 h20 h21 h30 h31 h32 r0 r1 r2 r3
  grind

theorem pot_4031 (M : Int → Int → Int) (hs : ∀ a b, M a b = M b a) (r0 : M 0 0 = -(M 0 1 + M 0 2 + M 0 3)) (r1 : M 1 1 = -(M 0 1 + M 1 2 + M 1 3)) (r2 : M 2 2 = -(M 0 2 + M 1 2 + M 2 3)) (r3 : M 3 3 = -(M 0 3 + M 1 3 + M 2 3)) : detF M [1, 2] [1, 2] + detF M [0, 2] [0, 2] - detF M [2, 3] [2, 3] = 2 * (-detF M [1, 2] [0, 2]) := by
  have h10 := hs 1 0
  have h20 := hs 2 0
  have h21 := hs 2 1
  have h30 := hs 3 0
  have h31 := hs 3 1
  have h32 := hs 3 2
  clear hs
  simp only [detF, sumTo, sgn, nth, List.length, List.getD_cons_zero, List.getD_cons_succ, List.eraseIdx, h10, h20, h21, h32, r0, r1, r2, r3]
  generalize M 0 1 = x01 at *
  generalize M 0 2 = x02 at *
  generalize M 1 2 = x12 at *
  generalize M 0 3 = x03 at *
  generalize M 1 3 = x13 at *
  generalize M 2 3 = x23 at *
  clear h10 h20 h21 h30 h31 h32 r0 r1 r2 r3
  grind

theorem pot_4032 (M : Int → Int → Int) (hs : ∀ a b, M a b = M b a) (r0 : M 0 0 = -(M 0 1 + M 0 2 + M 0 3)) (r1 : M 1 1 = -(M 0 1 + M 1 2 + M 1 3)) (r2 : M 2 2 = -(M 0 2 + M 1 2 + M 2 3)) (r3 : M 3 3 = -(M 0 3 + M 1 3 + M 2 3)) : detF M [1, 2] [1, 2] + detF M [0, 1] [0, 1] - detF M [1, 3] [1, 3] = 2 * (detF M [1, 2] [0, 1]) := by
  have h10 := hs 1 0
  have h20 := hs 2 0
  have h21 := hs 2 1
  have h30 := hs 3 0
  have h31 := hs 3 1
  have h32 := hs 3 2
  clear hs
  simp only [detF, sumTo, sgn, nth, List.length, List.getD_cons_zero, List.getD_cons_succ, List.eraseIdx, h10, h20, h21, h31, r0, r1, r2, r3]
  generalize M 0 1 = x01 at *
  generalize M 0 2 = x02 at *
  generalize M 1 2 = x12 at *
  generalize M 0 3 = x03 at *
  generalize M 1 3 = x13 at *
  generalize M 2 3 = x23 at *
  clear h10 h20 h21 h30 h31 h32 r0 r1 r2 r3
  grind

theorem pot_4102 (M : Int → Int → Int) (hs : ∀ a b, M a b = M b a) (r0 : M 0 0 = -(M 0 1 + M 0 2 + M 0 3)) (r1 : M 1 1 = -(M 0 1 + M 1 2 + M 1 3)) (r2 : M 2 2 = -(M 0 2 + M 1 2 + M 2 3)) (r3 : M 3 3 = -(M 0 3 + M 1 3 + M 2 3)) : detF M [2, 3] [2, 3] + detF M [1, 3] [1, 3] - detF M [0, 3] [0, 3] = 2 * (-detF M [2, 3] [1, 3]) := by
  have h10 := hs 1 0
  have h20 := hs 2 0
  have h21 := hs 2 1
  have h30 := hs 3 0
  have h31 := hs 3 1
  have h32 := hs 3 2
  clear hs
  simp only [detF, sumTo, sgn, nth, List.length, List.getD_cons_zero, List.getD_cons_succ, List.eraseIdx, h21, h30, h31, h32, r0, r1, r2, r3]
  generalize M 0 1 = x01 at *
  generalize M 0 2 = x02 at *
  generalize M 1 2 = x12 at *
  generalize M 0 3 = x03 at *
  generalize M 1 3 = x13 at *
  generalize M 2 3 = x23 at *
  clear h10 h20 h21 h30 h31 h32 r0 r1 r2 r3
  grind

theorem pot_4103 (M : Int → Int → Int) (hs : ∀ a b, M a b = M b a) (r0 : M 0 0 = -(M 0 1 + M 0 2 + M 0 3)) (r1 : M 1 1 = -(M 0 1 + M 1 2 + M 1 3)) (r2 : M 2 2 = -(M 0 2 + M 1 2 + M 2 3)) (r3 : M 3 3 = -(M 0 3 + M 1 3 + M 2 3)) : detF M [2, 3] [2, 3] + detF M [1, 2] [1, 2] - detF M [0, 2] [0, 2] = 2 * (detF M [2, 3] [1, 2]) := by
  have h10 := hs 1 0
  have h20 := hs 2 0
  have h21 := hs 2 1
  have h30 := hs 3 0
  have h31 := hs 3 1
  have h32 := hs 3 2
  clear hs
  simp only [detF, sumTo, sgn, nth, List.length, List.getD_cons_zero, List.getD_cons_succ, List.eraseIdx, h20, h21, h31, h32, r0, r1, r2, r3]
  generalize M 0 1 = x01 at *
  generalize M 0 2 = x02 at *
  generalize M 1 2 = x12 at *
  generalize M 0 3 = x03 at *
  generalize M 1 3 = x13 at *
  generalize M 2 3 = x23 at *
  clear h10 h20 h21 h30 h31 h32 r0 r1 r2 r3
  grind

theorem pot_4120 (M : Int → Int → Int) (hs : ∀ a b, M a b = M b a) (r0 : M 0 0 = -(M 0 1 + M 0 2 + M 0 3)) (r1 : M 1 1 = -(M 0 1 + M 1 2 + M 1 3)) (r2 : M 2 2 = -(M 0 2 + M 1 2 + M 2 3)) (r3 : M 3 3 = -(M 0 3 + M 1 3 + M 2 3)) : detF M [0, 3] [0, 3] + detF M [1, 3] [1, 3] - detF M [2, 3] [2, 3] = 2 * (-detF M [0, 3] [1, 3]) := by
  have h10 := hs 1 0
  have h20 := hs 2 0
  have h21 := hs 2 1
  have h30 := hs 3 0
  have h31 := hs 3 1
  have h32 := hs 3 2
  clear hs
  simp only [detF, sumTo, sgn, nth, List.length, List.getD_cons_zero, List.getD_cons_succ, List.eraseIdx, h30, h31, h32, r0, r1, r2, r3]
  generalize M 0 1 = x01 at *
  generalize M 0 2 = x02 at *
  generalize M 1 2 = x12 at *
  generalize M 0 3 = x03 at *
  generalize M 1 3 = x13 at *
  generalize M 2 3 = x23 at *
  clear h10 h20 h21 h30 h31 h32 r0 r1 r2 r3
  grind

theorem pot_4123 (M : Int → Int → Int) (hs : ∀ a b, M a b = M b a) (r0 : M 0 0 = -(M 0 1 + M 0 2 + M 0 3)) (r1 : M 1 1 = -(M 0 1 + M 1 2 + M 1 3)) (r2 : M 2 2 = -(M 0 2 + M 1 2 + M 2 3)) (r3 : M 3 3 = -(M 0 3 + M 1 3 + M 2 3)) : detF M [0, 3] [0, 3] + detF M [0, 1] [0, 1] - detF M [0, 2] [0, 2] = 2 * (-detF M [0, 3] [0, 1]) := by
  have h10 := hs 1 0
  have h20 := hs 2 0
  have h21 := hs 2 1
  have h30 := hs 3 0
  have h31 := hs 3 1
  have h32 := hs 3 2
  clear hs
  simp only [detF, sumTo, sgn, nth, List.length, List.getD_cons_zero, List.getD_cons_succ, List.eraseIdx, h10, h20, h30, h31, r0, r1, r2, r3]
  generalize M 0 1 = x01 at *
  generalize M 0 2 = x02 at *
  generalize M 1 2 = x12 at *
  generalize M 0 3 = x03 at *
  generalize M 1 3 = x13 at *
  generalize M 2 3 = x23 at *
  clear h10 h20 h21 h30 h31 h32 r0 r1 r2 r3
  grind

theorem pot_4130 (M : Int → Int → Int) (hs : ∀ a b, M a b = M b a) (r0 : M 0 0 = -(M 0 1 + M 0 2 + M 0 3)) (r1 : M 1 1 = -(M 0 1 + M 1 2 + M 1 3)) (r2 : M 2 2 = -(M 0 2 + M 1 2 + M 2 3)) (r3 : M 3 3 = -(M 0 3 + M 1 3 + M 2 3)) : detF M [0, 2] [0, 2] + detF M [1, 2] [1, 2] - detF M [2, 3] [2, 3] = 2 * (-detF M [0, 2] [1, 2]) := by
  have h10 := hs 1 0
  have h20 := hs 2 0
  have h21 := hs 2 1
  have h30 := hs 3 0
  have h31 := hs 3 1
  have h32 := hs 3 2
  clear hs
  simp only [detF, sumTo, sgn, nth, List.length, List.getD_cons_zero, List.getD_cons_succ, List.eraseIdx, h20, h21, h32, r0, r1, r2, r3]
  generalize M 0 1 = x01 at *
  generalize M 0 2 = x02 at *
  generalize M 1 2 = x12 at *
  generalize M 0 3 = x03 at *
  generalize M 1 3 = x13 at *
  generalize M 2 3 = x23 at *
  clear h10 h20 h21 h30 h31 h32 r0 r1 r2 r3
  grind

theorem pot_4132 (M : Int → Int → Int) (hs : ∀ a b, M a b = M b a) (r0 : M 0 0 = -(M 0 1 + M 0 2 + M 0 3)) (r1 : M 1 1 = -(M 0 1 + M 1 2 + M 1 3)) (r2 : M 2 2 = -(M 0 2 + M 1 2 + M 2 3)) (r3 : M 3 3 = -(M 0 3 + M 1 3 + M 2 3)) : detF M [0, 2] [0, 2] + detF M [0, 1] [0, 1] - detF M [0, 3] [0, 3] = 2 * (-detF M [0, 2] [0, 1]) := by
  have h10 := hs 1 0
  have h20 := hs 2 0
  have h21 := hs 2 1
  have h30 := hs 3 0
  have h31 := hs 3 1
  have h32 := hs 3 2
  clear hs
  simp only [detF, sumTo, sgn, nth, List.length, List.getD_cons_zero, List.getD_cons_succ, List.eraseIdx, h10, h20, h21, h30, r0, r1, r2, r3]
  generalize M 0 1 = x01 at *
  generalize M 0 2 = x02 at *
  generalize M 1 2 = x12 at *
  generalize M 0 3 = x03 at *
  generalize M 1 3 = x13 at *
  generalize M 2 3 = x23 at *
  clear h10 h20 h21 h30 h31 h32 r0 r1 r2 r3
  grind

theorem pot_4201 (M : Int → Int → Int) (hs : ∀ a b, M a b = M b a) (r0 : M 0 0 = -(M 0 1 + M 0 2 + M 0 3)) (r1 : M 1 1 = -(M 0 1 + M 1 2 + M 1 3)) (r2 : M 2 2 = -(M 0 2 + M 1 2 + M 2 3)) (r3 : M 3 3 = -(M 0 3 + M 1 3 + M 2 3)) : detF M [1, 3] [1, 3] + detF M [2, 3] [2, 3] - detF M [0, 3] [0, 3] = 2 * (-detF M [1, 3] [2, 3]) := by
  have h10 := hs 1 0
  have h20 := hs 2 0
  have h21 := hs 2 1
  have h30 := hs 3 0
  have h31 := hs 3 1
  have h32 := hs 3 2
  clear hs
  simp only [detF, sumTo, sgn, nth, List.length, List.getD_cons_zero, List.getD_cons_succ, List.eraseIdx, h30, h31, h32, r0, r1, r2, r3]
  generalize M 0 1 = x01 at *
  generalize M 0 2 = x02 at *
  generalize M 1 2 = x12 at *
  generalize M 0 3 = x03 at *
  generalize M 1 3 = x13 at *
  generalize M 2 3 = x23 at *
  clear h10 h20 h21 h30 h31 h32 r0 r1 r2 r3
  grind

theorem pot_4203 (M : Int → Int → Int) (hs : ∀ a b, M a b = M b a) (r0 : M 0 0 = -(M 0 1 + M 0 2 + M 0 3)) (r1 : M 1 1 = -(M 0 1 + M 1 2 + M 1 3)) (r2 : M 2 2 = -(M 0 2 + M 1 2 + M 2 3)) (r3 : M 3 3 = -(M 0 3 + M 1 3 + M 2 3)) : detF M [1, 3] [1, 3] + detF M [1, 2] [1, 2] - detF M [0, 1] [0, 1] = 2 * (-detF M [1, 3] [1, 2]) := by
  have h10 := hs 1 0
  have h20 := hs 2 0
  have h21 := hs 2 1
  have h30 := hs 3 0
  have h31 := hs 3 1
  have h32 := hs 3 2
  clear hs
  simp only [detF, sumTo, sgn, nth, List.length, List.getD_cons_zero, List.getD_cons_succ, List.eraseIdx, h10, h21, h31, h32, r0, r1, r2, r3]
  generalize M 0 1 = x01 at *
  generalize M 0 2 = x02 at *
  generalize M 1 2 = x12 at *
  generalize M 0 3 = x03 at *
  generalize M 1 3 = x13 at *
  generalize M 2 3 = x23 at *
  clear h10 h20 h21 h30 h31 h32 r0 r1 r2 r3
  grind

theorem pot_4210 (M : Int → Int → Int) (hs : ∀ a b, M a b = M b a) (r0 : M 0 0 = -(M 0 1 + M 0 2 + M 0 3)) (r1 : M 1 1 = -(M 0 1 + M 1 2 + M 1 3)) (r2 : M 2 2 = -(M 0 2 + M 1 2 + M 2 3)) (r3 : M 3 3 = -(M 0 3 + M 1 3 + M 2 3)) : detF M [0, 3] [0, 3] + detF M [2, 3] [2, 3] - detF M [1, 3] [1, 3] = 2 * (-detF M [0, 3] [2, 3]) := by
  have h10 := hs 1 0
  have h20 := hs 2 0
  have h21 := hs 2 1
  have h30 := hs 3 0
  have h31 := hs 3 1
  have h32 := hs 3 2
  clear hs
  simp only [detF, sumTo, sgn, nth, List.length, List.getD_cons_zero, List.getD_cons_succ, List.eraseIdx, h30, h31, h32, r0, r1, r2, r3]
  generalize M 0 1 = x01 at *
  generalize M 0 2 = x02 at *
  generalize M 1 2 = x12 at *
  generalize M 0 3 = x03 at *
  generalize M 1 3 = x13 at *
  generalize M 2 3 = x23 at *
  clear h10 h20 h21 h30 h31 h32 r0 r1 r2 r3
  grind

theorem pot_4213 (M : Int → Int → Int) (hs : ∀ a b, M a b = M b a) (r0 : M 0 0 = -(M 0 1 + M 0 2 + M 0 3)) (r1 : M 1 1 = -(M 0 1 + M 1 2 + M 1 3)) (r2 : M 2 2 = -(M 0 2 + M 1 2 + M 2 3)) (r3 : M 3 3 = -(M 0 3 + M 1 3 + M 2 3)) : detF M [0, 3] [0, 3] + detF M [0, 2] [0, 2] - detF M [0, 1] [0, 1] = 2 * (-detF M [0, 3] [0, 2]) := by
  have h10 := hs 1 0
  have h20 := hs 2 0
  have h21 := hs 2 1
  have h30 := hs 3 0
  have h31 := hs 3 1
  have h32 := hs 3 2
  clear hs
  simp only [detF, sumTo, sgn, nth, List.length, List.getD_cons_zero, List.getD_cons_succ, List.eraseIdx, h10, h20, h30, h32, r0, r1, r2, r3]
  generalize M 0 1 = x01 at *
  generalize M 0 2 = x02 at *
  generalize M 1 2 = x12 at *
  generalize M 0 3 = x03 at *
  generalize M 1 3 = x13 at *
  generalize M 2 3 = x23 at *
  clear h10 h20 h21 h30 h31 h32 r0 r1 r2 r3
  grind

theorem pot_4230 (M : Int → Int → Int) (hs : ∀ a b, M a b = M b a) (r0 : M 0 0 = -(M 0 1 + M 0 2 + M 0 3)) (r1 : M 1 1 = -(M 0 1 + M 1 2 + M 1 3)) (r2 : M 2 2 = -(M 0 2 + M 1 2 + M 2 3)) (r3 : M 3 3 = -(M 0 3 + M 1 3 + M 2 3)) : detF M [0, 1] [0, 1] + detF M [1, 2] [1, 2] - detF M [1, 3] [1, 3] = 2 * (detF M [0, 1] [1, 2]) := by
  have h10 := hs 1 0
  have h20 := hs 2 0
  have h21 := hs 2 1
  have h30 := hs 3 0
  have h31 := hs 3 1
  have h32 := hs 3 2
  clear hs
  simp only [detF, sumTo, sgn, nth, List.length, List.getD_cons_zero, List.getD_cons_succ, List.eraseIdx, h10, h21, h31, r0, r1, r2, r3]
  generalize M 0 1 = x01 at *
  generalize M 0 2 = x02 at *
  generalize M 1 2 = x12 at *
  generalize M 0 3 = x03 at *
  generalize M 1 3 = x13 at *
  generalize M 2 3 = x23 at *
  clear h10 h20 h21 h30 h31 h32 r0 r1 r2 r3
  grind

theorem pot_4231 (M : Int → Int → Int) (hs : ∀ a b, M a b = M b a) (r0 : M 0 0 = -(M 0 1 + M 0 2 + M 0 3)) (r1 : M 1 1 = -(M 0 1 + M 1 2 + M 1 3)) (r2 : M 2 2 = -(M 0 2 + M 1 2 + M 2 3)) (r3 : M 3 3 = -(M 0 3 + M 1 3 + M 2 3)) : detF M [0, 1] [0, 1] + detF M [0, 2] [0, 2] - detF M [0, 3] [0, 3] = 2 * (-detF M [0, 1] [0, 2]) := by
  have h10 := hs 1 0
  have h20 := hs 2 0
  have h21 := hs 2 1
  have h30 := hs 3 0
  have h31 := hs 3 1
  have h32 := hs 3 2
  clear hs
  simp only [detF, sumTo, sgn, nth, List.length, List.getD_cons_zero, List.getD_cons_succ, List.eraseIdx, h10, h20, h30, r0, r1, r2, r3]
  generalize M 0 1 = x01 at *
  generalize M 0 2 = x02 at *
  generalize M 1 2 = x12 at *
  generalize M 0 3 = x03 at *
  generalize M 1 3 = x13 at *
  generalize M 2 3 = x23 at *
  clear h10 h20 h21 h30 h31 h32 r0 r1 r2 r3
  grind

theorem pot_4301 (M : Int → Int → Int) (hs : ∀ a b, M a b = M b a) (r0 : M 0 0 = -(M 0 1 + M 0 2 + M 0 3)) (r1 : M 1 1 = -(M 0 1 + M 1 2 + M 1 3)) (r2 : M 2 2 = -(M 0 2 + M 1 2 + M 2 3)) (r3 : M 3 3 = -(M 0 3 + M 1 3 + M 2 3)) : detF M [1, 2] [1, 2] + detF M [2, 3] [2, 3] - detF M [0, 2] [0, 2] = 2 * (detF M [1, 2] [2, 3]) := by
  have h10 := hs 1 0
  have h20 := hs 2 0
  have h21 := hs 2 1
  have h30 := hs 3 0
  have h31 := hs 3 1
  have h32 := hs 3 2
  clear hs
  simp only [detF, sumTo, sgn, nth, List.length, List.getD_cons_zero, List.getD_cons_succ, List.eraseIdx, h20, h21, h32, r0, r1, r2, r3]
  generalize M 0 1 = x01 at *
  generalize M 0 2 = x02 at *
  generalize M 1 2 = x12 at *
  generalize M 0 3 = x03 at *
  generalize M 1 3 = x13 at *
  generalize M 2 3 = x23 at *
  clear h10 h20 h21 h30 h31 h32 r0 r1 r2 r3
  grind

theorem pot_4302 (M : Int → Int → Int) (hs : ∀ a b, M a b = M b a) (r0 : M 0 0 = -(M 0 1 + M 0 2 + M 0 3)) (r1 : M 1 1 = -(M 0 1 + M 1 2 + M 1 3)) (r2 : M 2 2 = -(M 0 2 + M 1 2 + M 2 3)) (r3 : M 3 3 = -(M 0 3 + M 1 3 + M 2 3)) : detF M [1, 2] [1, 2] + detF M [1, 3] [1, 3] - detF M [0, 1] [0, 1] = 2 * (-detF M [1, 2] [1, 3]) := by
  have h10 := hs 1 0
  have h20 := hs 2 0
  have h21 := hs 2 1
  have h30 := hs 3 0
  have h31 := hs 3 1
  have h32 := hs 3 2
  clear hs
  simp only [detF, sumTo, sgn, nth, List.length, List.getD_cons_zero, List.getD_cons_succ, List.eraseIdx, h10, h21, h31, r0, r1, r2, r3]
  generalize M 0 1 = x01 at *
  generalize M 0 2 = x02 at *
  generalize M 1 2 = x12 at *
  generalize M 0 3 = x03 at *
  generalize M 1 3 = x13 at *
  generalize M 2 3 = x23 at *
  clear h10 h20 h21 h30 h31 h32 r0 r1 r2 r3
  grind

theorem pot_4310 (M : Int → Int → Int) (hs : ∀ a b, M a b = M b a) (r0 : M 0 0 = -(M 0 1 + M 0 2 + M 0 3)) (r1 : M 1 1 = -(M 0 1 + M 1 2 + M 1 3)) (r2 : M 2 2 = -(M 0 2 + M 1 2 + M 2 3)) (r3 : M 3 3 = -(M 0 3 + M 1 3 + M 2 3)) : detF M [0, 2] [0, 2] + detF M [2, 3] [2, 3] - detF M [1, 2] [1, 2] = 2 * (detF M [0, 2] [2, 3]) := by
  have h10 := hs 1 0
  have h20 := hs 2 0
  have h21 := hs 2 1
  have h30 := hs 3 0
  have h31 := hs 3 1
  have h32 := hs 3 2
  clear hs
  simp only [detF, sumTo, sgn, nth, List.length, List.getD_cons_zero, List.getD_cons_succ, List.eraseIdx, h20, h21, h32, r0, r1, r2, r3]
  generalize M 0 1 = x01 at *
  generalize M 0 2 = x02 at *
  generalize M 1 2 = x12 at *
  generalize M 0 3 = x03 at *
  generalize M 1 3 = x13 at *
  generalize M 2 3 = x23 at *
  clear h10 h20 h21 h30 h31 h32 r0 r1 r2 r3
  grind

theorem pot_4312 (M : Int → Int → Int) (hs : ∀ a b, M a b = M b a) (r0 : M 0 0 = -(M 0 1 + M 0 2 + M 0 3)) (r1 : M 1 1 = -(M 0 1 + M 1 2 + M 1 3)) (r2 : M 2 2 = -(M 0 2 + M 1 2 + M 2 3)) (r3 : M 3 3 = -(M 0 3 + M 1 3 + M 2 3)) : detF M [0, 2] [0, 2] + detF M [0, 3] [0, 3] - detF M [0, 1] [0, 1] = 2 * (-detF M [0, 2] [0, 3]) := by
  have h10 := hs 1 0
  have h20 := hs 2 0
  have h21 := hs 2 1
  have h30 := hs 3 0
  have h31 := hs 3 1
  have h32 := hs 3 2
  clear hs
  simp only [detF, sumTo, sgn, nth, List.length, List.getD_cons_zero, List.getD_cons_succ, List.eraseIdx, h10, h20, h30, r0, r1, r2, r3]
  generalize M 0 1 = x01 at *
  generalize M 0 2 = x02 at *
  generalize M 1 2 = x12 at *
  generalize M 0 3 = x03 at *
  generalize M 1 3 = x13 at *
  generalize M 2 3 = x23 at *
  clear h10 h20 h21 h30 h31 h32 r0 r1 r2 r3
  grind

theorem pot_4320 (M : Int → Int → Int) (hs : ∀ a b, M a b = M b a) (r0 : M 0 0 = -(M 0 1 + M 0 2 + M 0 3)) (r1 : M 1 1 = -(M 0 1 + M 1 2 + M 1 3)) (r2 : M 2 2 = -(M 0 2 + M 1 2 + M 2 3)) (r3 : M 3 3 = -(M 0 3 + M 1 3 + M 2 3)) : detF M [0, 1] [0, 1] + detF M [1, 3] [1, 3] - detF M [1, 2] [1, 2] = 2 * (detF M [0, 1] [1, 3]) := by
  have h10 := hs 1 0
  have h20 := hs 2 0
  have h21 := hs 2 1
  have h30 := hs 3 0
  have h31 := hs 3 1
  have h32 := hs 3 2
  clear hs
  simp only [detF, sumTo, sgn, nth, List.length, List.getD_cons_zero, List.getD_cons_succ, List.eraseIdx, h10, h21, h31, r0, r1, r2, r3]
  generalize M 0 1 = x01 at *
  generalize M 0 2 = x02 at *
  generalize M 1 2 = x12 at *
  generalize M 0 3 = x03 at *
  generalize M 1 3 = x13 at *
  generalize M 2 3 = x23 at *
  clear h10 h20 h21 h30 h31 h32 r0 r1 r2 r3
  grind

theorem pot_4321 (M : Int → Int → Int) (hs : ∀ a b, M a b = M b a) (r0 : M 0 0 = -(M 0 1 + M 0 2 + M 0 3)) (r1 : M 1 1 = -(M 0 1 + M 1 2 + M 1 3)) (r2 : M 2 2 = -(M 0 2 + M 1 2 + M 2 3)) (r3 : M 3 3 = -(M 0 3 + M 1 3 + M 2 3)) : detF M [0, 1] [0, 1] + detF M [0, 3] [0, 3] - detF M [0, 2] [0, 2] = 2 * (-detF M [0, 1] [0, 3]) := by
  have h10 := hs 1 0
  have h20 := hs 2 0
  have h21 := hs 2 1
  have h30 := hs 3 0
  have h31 := hs 3 1
  have h32 := hs 3 2
  clear hs
  simp only [detF, sumTo, sgn, nth, List.length, List.getD_cons_zero, List.getD_cons_succ, List.eraseIdx, h10, h20, h30, r0, r1, r2, r3]
  generalize M 0 1 = x01 at *
  generalize M 0 2 = x02 at *
  generalize M 1 2 = x12 at *
  generalize M 0 3 = x03 at *
  generalize M 1 3 = x13 at *
  generalize M 2 3 = x23 at *
  clear h10 h20 h21 h30 h31 h32 r0 r1 r2 r3
  grind

theorem pot_5012 (M : Int → Int → Int) (hs : ∀ a b, M a b = M b a) (r0 : M 0 0 = -(M 0 1 + M 0 2 + M 0 3 + M 0 4)) (r1 : M 1 1 = -(M 0 1 + M 1 2 + M 1 3 + M 1 4)) (r2 : M 2 2 = -(M 0 2 + M 1 2 + M 2 3 + M 2 4)) (r3 : M 3 3 = -(M 0 3 + M 1 3 + M 2 3 + M 3 4)) (r4 : M 4 4 = -(M 0 4 + M 1 4 + M 2 4 + M 3 4)) : detF M [2, 3, 4] [2, 3, 4] + detF M [0, 3, 4] [0, 3, 4] - detF M [1, 3, 4] [1, 3, 4] = 2 * (-detF M [2, 3, 4] [0, 3, 4]) := by
  have h10 := hs 1 0
  have h20 := hs 2 0
  have h21 := hs 2 1
  have h30 := hs 3 0
  have h31 := hs 3 1
  have h32 := hs 3 2
  have h40 := hs 4 0
  have h41 := hs 4 1
  have h42 := hs 4 2
  have h43 := hs 4 3
  clear hs
  simp only [detF, sumTo, sgn, nth, List.length, List.getD_cons_zero, List.getD_cons_succ, List.eraseIdx, h20, h30, h31, h32, h40, h41, h42, h43, r0, r1, r2, r3, r4]
  generalize M 0 1 = x01 at *
  generalize M 0 2 = x02 at *
  generalize M 1 2 = x12 at *
  generalize M 0 3 = x03 at *
  generalize M 1 3 = x13 at *
  generalize M 2 3 = x23 at *
  generalize M 0 4 = x04 at *
  generalize M 1 4 = x14 at *
  generalize M 2 4 = x24 at *
  generalize M 3 4 = x34 at *
  clear h10 h20 h21 h30 h31 h32 h40 h41 h42 h43 r0 r1 r2 r3 r4
  grind

theorem pot_5013 (M : Int → Int → Int) (hs : ∀ a b, M a b = M b a) (r0 : M 0 0 = -(M 0 1 + M 0 2 + M 0 3 + M 0 4)) (r1 : M 1 1 = -(M 0 1 + M 1 2 + M 1 3 + M 1 4)) (r2 : M 2 2 = -(M 0 2 + M 1 2 + M 2 3 + M 2 4)) (r3 : M 3 3 = -(M 0 3 + M 1 3 + M 2 3 + M 3 4)) (r4 : M 4 4 = -(M 0 4 + M 1 4 + M 2 4 + M 3 4)) : detF M [2, 3, 4] [2, 3, 4] + detF M [0, 2, 4] [0, 2, 4] - detF M [1, 2, 4] [1, 2, 4] = 2 * (detF M [2, 3, 4] [0, 2, 4]) := by
  have h10 := hs 1 0
  have h20 := hs 2 0
  have h21 := hs 2 1
  have h30 := hs 3 0
  have h31 := hs 3 1
  have h32 := hs 3 2
  have h40 := hs 4 0
  have h41 := hs 4 1
  have h42 := hs 4 2
  have h43 := hs 4 3
  clear hs
  simp only [detF, sumTo, sgn, nth, List.length, List.getD_cons_zero, List.getD_cons_succ, List.eraseIdx, h20, h21, h30, h32, h40, h41, h42, h43, r0, r1, r2, r3, r4]
  generalize M 0 1 = x01 at *
  generalize M 0 2 = x02 at *
  generalize M 1 2 = x12 at *
  generalize M 0 3 = x03 at *
  generalize M 1 3 = x13 at *
  generalize M 2 3 = x23 at *
  generalize M 0 4 = x04 at *
  generalize M 1 4 = x14 at *
  generalize M 2 4 = x24 at *
  generalize M 3 4 = x34 at *
  clear h10 h20 h21 h30 h31 h32 h40 h41 h42 h43 r0 r1 r2 r3 r4
  grind

theorem pot_5014 (M : Int → Int → Int) (hs : ∀ a b, M a b = M b a) (r0 : M 0 0 = -(M 0 1 + M 0 2 + M 0 3 + M 0 4)) (r1 : M 1 1 = -(M 0 1 + M 1 2 + M 1 3 + M 1 4)) (r2 : M 2 2 = -(M 0 2 + M 1 2 + M 2 3 + M 2 4)) (r3 : M 3 3 = -(M 0 3 + M 1 3 + M 2 3 + M 3 4)) (r4 : M 4 4 = -(M 0 4 + M 1 4 + M 2 4 + M 3 4)) : detF M [2, 3, 4] [2, 3, 4] + detF M [0, 2, 3] [0, 2, 3] - detF M [1, 2, 3] [1, 2, 3] = 2 * (-detF M [2, 3, 4] [0, 2, 3]) := by
  have h10 := hs 1 0
  have h20 := hs 2 0
  have h21 := hs 2 1
  have h30 := hs 3 0
  have h31 := hs 3 1
  have h32 := hs 3 2
  have h40 := hs 4 0
  have h41 := hs 4 1
  have h42 := hs 4 2
  have h43 := hs 4 3
  clear hs
  simp only [detF, sumTo, sgn, nth, List.length, List.getD_cons_zero, List.getD_cons_succ, List.eraseIdx, h20, h21, h30, h31, h32, h40, h42, h43, r0, r1, r2, r3, r4]
  generalize M 0 1 = x01 at *
  generalize M 0 2 = x02 at *
  generalize M 1 2 = x12 at *
  generalize M 0 3 = x03 at *
  generalize M 1 3 = x13 at *
  generalize M 2 3 = x23 at *
  generalize M 0 4 = x04 at *
  generalize M 1 4 = x14 at *
  generalize M 2 4 = x24 at *
  generalize M 3 4 = x34 at *
  clear h10 h20 h21 h30 h31 h32 h40 h41 h42 h43 r0 r1 r2 r3 r4
  grind

theorem pot_5021 (M : Int → Int → Int) (hs : ∀ a b, M a b = M b a) (r0 : M 0 0 = -(M 0 1 + M 0 2 + M 0 3 + M 0 4)) (r1 : M 1 1 = -(M 0 1 + M 1 2 + M 1 3 + M 1 4)) (r2 : M 2 2 = -(M 0 2 + M 1 2 + M 2 3 + M 2 4)) (r3 : M 3 3 = -(M 0 3 + M 1 3 + M 2 3 + M 3 4)) (r4 : M 4 4 = -(M 0 4 + M 1 4 + M 2 4 + M 3 4)) : detF M [1, 3, 4] [1, 3, 4] + detF M [0, 3, 4] [0, 3, 4] - detF M [2, 3, 4] [2, 3, 4] = 2 * (-detF M [1, 3, 4] [0, 3, 4]) := by
  have h10 := hs 1 0
  have h20 := hs 2 0
  have h21 := hs 2 1
  have h30 := hs 3 0
  have h31 := hs 3 1
  have h32 := hs 3 2
  have h40 := hs 4 0
  have h41 := hs 4 1
  have h42 := hs 4 2
  have h43 := hs 4 3
  clear hs
  simp only [detF, sumTo, sgn, nth, List.length, List.getD_cons_zero, List.getD_cons_succ, List.eraseIdx, h10, h30, h31, h32, h40, h41, h42, h43, r0, r1, r2, r3, r4]
  generalize M 0 1 = x01 at *
  generalize M 0 2 = x02 at *
  generalize M 1 2 = x12 at *
  generalize M 0 3 = x03 at *
  generalize M 1 3 = x13 at *
  generalize M 2 3 = x23 at *
  generalize M 0 4 = x04 at *
  generalize M 1 4 = x14 at *
  generalize M 2 4 = x24 at *
  generalize M 3 4 = x34 at *
  clear h10 h20 h21 h30 h31 h32 h40 h41 h42 h43 r0 r1 r2 r3 r4
  grind

theorem pot_5023 (M : Int → Int → Int) (hs : ∀ a b, M a b = M b a) (r0 : M 0 0 = -(M 0 1 + M 0 2 + M 0 3 + M 0 4)) (r1 : M 1 1 = -(M 0 1 + M 1 2 + M 1 3 + M 1 4)) (r2 : M 2 2 = -(M 0 2 + M 1 2 + M 2 3 + M 2 4)) (r3 : M 3 3 = -(M 0 3 + M 1 3 + M 2 3 + M 3 4)) (r4 : M 4 4 = -(M 0 4 + M 1 4 + M 2 4 + M 3 4)) : detF M [1, 3, 4] [1, 3, 4] + detF M [0, 1, 4] [0, 1, 4] - detF M [1, 2, 4] [1, 2, 4] = 2 * (detF M [1, 3, 4] [0, 1, 4]) := by
  have h10 := hs 1 0
  have h20 := hs 2 0
  have h21 := hs 2 1
  have h30 := hs 3 0
  have h31 := hs 3 1
  have h32 := hs 3 2
  have h40 := hs 4 0
  have h41 := hs 4 1
  have h42 := hs 4 2
  have h43 := hs 4 3
  clear hs
  simp only [detF, sumTo, sgn, nth, List.length, List.getD_cons_zero, List.getD_cons_succ, List.eraseIdx, h10, h21, h30, h31, h40, h41, h42, h43, r0, r1, r2, r3, r4]
  generalize M 0 1 = x01 at *
  generalize M 0 2 = x02 at *
  generalize M 1 2 = x12 at *
  generalize M 0 3 = x03 at *
  generalize M 1 3 = x13 at *
  generalize M 2 3 = x23 at *
  generalize M 0 4 = x04 at *
  generalize M 1 4 = x14 at *
  generalize M 2 4 = x24 at *
  generalize M 3 4 = x34 at *
  clear h10 h20 h21 h30 h31 h32 h40 h41 h42 h43 r0 r1 r2 r3 r4
  grind

theorem pot_5024 (M : Int → Int → Int) (hs : ∀ a b, M a b = M b a) (r0 : M 0 0 = -(M 0 1 + M 0 2 + M 0 3 + M 0 4)) (r1 : M 1 1 = -(M 0 1 + M 1 2 + M 1 3 + M 1 4)) (r2 : M 2 2 = -(M 0 2 + M 1 2 + M 2 3 + M 2 4)) (r3 : M 3 3 = -(M 0 3 + M 1 3 + M 2 3 + M 3 4)) (r4 : M 4 4 = -(M 0 4 + M 1 4 + M 2 4 + M 3 4)) : detF M [1, 3, 4] [1, 3, 4] + detF M [0, 1, 3] [0, 1, 3] - detF M [1, 2, 3] [1, 2, 3] = 2 * (-detF M [1, 3, 4] [0, 1, 3]) := by
  have h10 := hs 1 0
  have h20 := hs 2 0
  have h21 := hs 2 1
  have h30 := hs 3 0
  have h31 := hs 3 1
  have h32 := hs 3 2
  have h40 := hs 4 0
  have h41 := hs 4 1
  have h42 := hs 4 2
  have h43 := hs 4 3
  clear hs
  simp only [detF, sumTo, sgn, nth, List.length, List.getD_cons_zero, List.getD_cons_succ, List.eraseIdx, h10, h21, h30, h31, h32, h40, h41, h43, r0, r1, r2, r3, r4]
  generalize M 0 1 = x01 at *
  generalize M 0 2 = x02 at *
  generalize M 1 2 = x12 at *
  generalize M 0 3 = x03 at *
  generalize M 1 3 = x13 at *
  generalize M 2 3 = x23 at *
  generalize M 0 4 = x04 at *
  generalize M 1 4 = x14 at *
  generalize M 2 4 = x24 at *
  generalize M 3 4 = x34 at *
  clear h10 h20 h21 h30 h31 h32 h40 h41 h42 h43 r0 r1 r2 r3 r4
  grind

theorem pot_5031 (M : Int → Int → Int) (hs : ∀ a b, M a b = M b a) (r0 : M 0 0 = -(M 0 1 + M 0 2 + M 0 3 + M 0 4)) (r1 : M 1 1 = -(M 0 1 + M 1 2 + M 1 3 + M 1 4)) (r2 : M 2 2 = -(M 0 2 + M 1 2 + M 2 3 + M 2 4)) (r3 : M 3 3 = -(M 0 3 + M 1 3 + M 2 3 + M 3 4)) (r4 : M 4 4 = -(M 0 4 + M 1 4 + M 2 4 + M 3 4)) : detF M [1, 2, 4] [1, 2, 4] + detF M [0, 2, 4] [0, 2, 4] - detF M [2, 3, 4] [2, 3, 4] = 2 * (-detF M [1, 2, 4] [0, 2, 4]) := by
  have h10 := hs 1 0
  have h20 := hs 2 0
  have h21 := hs 2 1
  have h30 := hs 3 0
  have h31 := hs 3 1
  have h32 := hs 3 2
  have h40 := hs 4 0
  have h41 := hs 4 1
  have h42 := hs 4 2
  have h43 := hs 4 3
  clear hs
  simp only [detF, sumTo, sgn, nth, List.length, List.getD_cons_zero, List.getD_cons_succ, List.eraseIdx, h10, h20, h21, h32, h40, h41, h42, h43, r0, r1, r2, r3, r4]
  generalize M 0 1 = x01 at *
  generalize M 0 2 = x02 at *
  generalize M 1 2 = x12 at *
  generalize M 0 3 = x03 at *
  generalize M 1 3 = x13 at *
  generalize M 2 3 = x23 at *
  generalize M 0 4 = x04 at *
  generalize M 1 4 = x14 at *
  generalize M 2 4 = x24 at *
  generalize M 3 4 = x34 at *
  clear h10 h20 h21 h30 h31 h32 h40 h41 h42 h43 r0 r1 r2 r3 r4
  grind

theorem pot_5032 (M : Int → Int → Int) (hs : ∀ a b, M a b = M b a) (r0 : M 0 0 = -(M 0 1 + M 0 2 + M 0 3 + M 0 4)) (r1 : M 1 1 = -(M 0 1 + M 1 2 + M 1 3 + M 1 4)) (r2 : M 2 2 = -(M 0 2 + M 1 2 + M 2 3 + M 2 4)) (r3 : M 3 3 = -(M 0 3 + M 1 3 + M 2 3 + M 3 4)) (r4 : M 4 4 = -(M 0 4 + M 1 4 + M 2 4 + M 3 4)) : detF M [1, 2, 4] [1, 2, 4] + detF M [0, 1, 4] [0, 1, 4] - detF M [1, 3, 4] [1, 3, 4] = 2 * (detF M [1, 2, 4] [0, 1, 4]) := by
  have h10 := hs 1 0
  have h20 := hs 2 0
  have h21 := hs 2 1
  have h30 := hs 3 0
  have h31 := hs 3 1
  have h32 := hs 3 2
  have h40 := hs 4 0
  have h41 := hs 4 1
  have h42 := hs 4 2
  have h43 := hs 4 3
  clear hs
  simp only [detF, sumTo, sgn, nth, List.length, List.getD_cons_zero, List.getD_cons_succ, List.eraseIdx, h10, h20, h21, h31, h40, h41, h42, h43, r0, r1, r2, r3, r4]
  generalize M 0 1 = x01 at *
  generalize M 0 2 = x02 at *
  generalize M 1 2 = x12 at *
  generalize M 0 3 = x03 at *
  generalize M 1 3 = x13 at *
  generalize M 2 3 = x23 at *
  generalize M 0 4 = x04 at *
  generalize M 1 4 = x14 at *
  generalize M 2 4 = x24 at *
  generalize M 3 4 = x34 at *
  clear h10 h20 h21 h30 h31 h32 h40 h41 h42 h43 r0 r1 r2 r3 r4
  grind

theorem pot_5034 (M : Int → Int → Int) (hs : ∀ a b, M a b = M b a) (r0 : M 0 0 = -(M 0 1 + M 0 2 + M 0 3 + M 0 4)) (r1 : M 1 1 = -(M 0 1 + M 1 2 + M 1 3 + M 1 4)) (r2 : M 2 2 = -(M 0 2 + M 1 2 + M 2 3 + M 2 4)) (r3 : M 3 3 = -(M 0 3 + M 1 3 + M 2 3 + M 3 4)) (r4 : M 4 4 = -(M 0 4 + M 1 4 + M 2 4 + M 3 4)) : detF M [1, 2, 4] [1, 2, 4] + detF M [0, 1, 2] [0, 1, 2] - detF M [1, 2, 3] [1, 2, 3] = 2 * (-detF M [1, 2, 4] [0, 1, 2]) := by
  have h10 := hs 1 0
  have h20 := hs 2 0
  have h21 := hs 2 1
  have h30 := hs 3 0
  have h31 := hs 3 1
  have h32 := hs 3 2
  have h40 := hs 4 0
  have h41 := hs 4 1
  have h42 := hs 4 2
  have h43 := hs 4 3
  clear hs
  simp only [detF, sumTo, sgn, nth, List.length, List.getD_cons_zero, List.getD_cons_succ, List.eraseIdx, h10, h20, h21, h31, h32, h40, h41, h42, r0, r1, r2, r3, r4]
  generalize M 0 1 = x01 at *
  generalize M 0 2 = x02 at *
  generalize M 1 2 = x12 at *
  generalize M 0 3 = x03 at *
  generalize M 1 3 = x13 at *
  generalize M 2 3 = x23 at *
  generalize M 0 4 = x04 at *
  generalize M 1 4 = x14 at *
  generalize M 2 4 = x24 at *
  generalize M 3 4 = x34 at *
  clear h10 h20 h21 h30 h31 h32 h40 h41 h42 h43 r0 r1 r2 r3 r4
  grind

theorem pot_5041 (M : Int → Int → Int) (hs : ∀ a b, M a b = M b a) (r0 : M 0 0 = -(M 0 1 + M 0 2 + M 0 3 + M 0 4)) (r1 : M 1 1 = -(M 0 1 + M 1 2 + M 1 3 + M 1 4)) (r2 : M 2 2 = -(M 0 2 + M 1 2 + M 2 3 + M 2 4)) (r3 : M 3 3 = -(M 0 3 + M 1 3 + M 2 3 + M 3 4)) (r4 : M 4 4 = -(M 0 4 + M 1 4 + M 2 4 + M 3 4)) : detF M [1, 2, 3] [1, 2, 3] + detF M [0, 2, 3] [0, 2, 3] - detF M [2, 3, 4] [2, 3, 4] = 2 * (-detF M [1, 2, 3] [0, 2, 3]) := by
  have h10 := hs 1 0
  have h20 := hs 2 0
  have h21 := hs 2 1
  have h30 := hs 3 0
  have h31 := hs 3 1
  have h32 := hs 3 2
  have h40 := hs 4 0
  have h41 := hs 4 1
  have h42 := hs 4 2
  have h43 := hs 4 3
  clear hs
  simp only [detF, sumTo, sgn, nth, List.length, List.getD_cons_zero, List.getD_cons_succ, List.eraseIdx, h10, h20, h21, h30, h31, h32, h42, h43, r0, r1, r2, r3, r4]
  generalize M 0 1 = x01 at *
  generalize M 0 2 = x02 at *
  generalize M 1 2 = x12 at *
  generalize M 0 3 = x03 at *
  generalize M 1 3 = x13 at *
  generalize M 2 3 = x23 at *
  generalize M 0 4 = x04 at *
  generalize M 1 4 = x14 at *
  generalize M 2 4 = x24 at *
  generalize M 3 4 = x34 at *
  clear h10 h20 h21 h30 h31 h32 h40 h41 h42 h43 r0 r1 r2 r3 r4
  grind

theorem pot_5042 (M : Int → Int → Int) (hs : ∀ a b, M a b = M b a) (r0 : M 0 0 = -(M 0 1 + M 0 2 + M 0 3 + M 0 4)) (r1 : M 1 1 = -(M 0 1 + M 1 2 + M 1 3 + M 1 4)) (r2 : M 2 2 = -(M 0 2 + M 1 2 + M 2 3 + M 2 4)) (r3 : M 3 3 = -(M 0 3 + M 1 3 + M 2 3 + M 3 4)) (r4 : M 4 4 = -(M 0 4 + M 1 4 + M 2 4 + M 3 4)) : detF M [1, 2, 3] [1, 2, 3] + detF M [0, 1, 3] [0, 1, 3] - detF M [1, 3, 4] [1, 3, 4] = 2 * (detF M [1, 2, 3] [0, 1, 3]) := by
  have h10 := hs 1 0
  have h20 := hs 2 0
  have h21 := hs 2 1
  have h30 := hs 3 0
  have h31 := hs 3 1
  have h32 := hs 3 2
  have h40 := hs 4 0
  have h41 := hs 4 1
  have h42 := hs 4 2
  have h43 := hs 4 3
  clear hs
  simp only [detF, sumTo, sgn, nth, List.length, List.getD_cons_zero, List.getD_cons_succ, List.eraseIdx, h10, h20, h21, h30, h31, h32, h41, h43, r0, r1, r2, r3, r4]
  generalize M 0 1 = x01 at *
  generalize M 0 2 = x02 at *
  generalize M 1 2 = x12 at *
  generalize M 0 3 = x03 at *
  generalize M 1 3 = x13 at *
  generalize M 2 3 = x23 at *
  generalize M 0 4 = x04 at *
  generalize M 1 4 = x14 at *
  generalize M 2 4 = x24 at *
  generalize M 3 4 = x34 at *
  clear h10 h20 h21 h30 h31 h32 h40 h41 h42 h43 r0 r1 r2 r3 r4
  grind

theorem pot_5043 (M : Int → Int → Int) (hs : ∀ a b, M a b = M b a) (r0 : M 0 0 = -(M 0 1 + M 0 2 + M 0 3 + M 0 4)) (r1 : M 1 1 = -(M 0 1 + M 1 2 + M 1 3 + M 1 4)) (r2 : M 2 2 = -(M 0 2 + M 1 2 + M 2 3 + M 2 4)) (r3 : M 3 3 = -(M 0 3 + M 1 3 + M 2 3 + M 3 4)) (r4 : M 4 4 = -(M 0 4 + M 1 4 + M 2 4 + M 3 4)) : detF M [1, 2, 3] [1, 2, 3] + detF M [0, 1, 2] [0, 1, 2] - detF M [1, 2, 4] [1, 2, 4] = 2 * (-detF M [1, 2, 3] [0, 1, 2]) := by
  have h10 := hs 1 0
  have h20 := hs 2 0
  have h21 := hs 2 1
  have h30 := hs 3 0
  have h31 := hs 3 1
  have h32 := hs 3 2
  have h40 := hs 4 0
  have h41 := hs 4 1
  have h42 := hs 4 2
  have h43 := hs 4 3
  clear hs
  simp only [detF, sumTo, sgn, nth, List.length, List.getD_cons_zero, List.getD_cons_succ, List.eraseIdx, h10, h20, h21, h30, h31, h32, h41, h42, r0, r1, r2, r3, r4]
  generalize M 0 1 = x01 at *
  generalize M 0 2 = x02 at *
  generalize M 1 2 = x12 at *
  generalize M 0 3 = x03 at *
  generalize M 1 3 = x13 at *
  generalize M 2 3 = x23 at *
  generalize M 0 4 = x04 at *
  generalize M 1 4 = x14 at *
  generalize M 2 4 = x24 at *
  generalize M 3 4 = x34 at *
  clear h10 h20 h21 h30 h31 h32 h40 h41 h42 h43 r0 r1 r2 r3 r4
  grind

theorem pot_5102 (M : Int → Int → Int) (hs : ∀ a b, M a b = M b a) (r0 : M 0 0 = -(M 0 1 + M 0 2 + M 0 3 + M 0 4)) (r1 : M 1 1 = -(M 0 1 + M 1 2 + M 1 3 + M 1 4)) (r2 : M 2 2 = -(M 0 2 + M 1 2 + M 2 3 + M 2 4)) (r3 : M 3 3 = -(M 0 3 + M 1 3 + M 2 3 + M 3 4)) (r4 : M 4 4 = -(M 0 4 + M 1 4 + M 2 4 + M 3 4)) : detF M [2, 3, 4] [2, 3, 4] + detF M [1, 3, 4] [1, 3, 4] - detF M [0, 3, 4] [0, 3, 4] = 2 * (-detF M [2, 3, 4] [1, 3, 4]) := by
  have h10 := hs 1 0
  have h20 := hs 2 0
  have h21 := hs 2 1
  have h30 := hs 3 0
  have h31 := hs 3 1
  have h32 := hs 3 2
  have h40 := hs 4 0
  have h41 := hs 4 1
  have h42 := hs 4 2
  have h43 := hs 4 3
  clear hs
  simp only [detF, sumTo, sgn, nth, List.length, List.getD_cons_zero, List.getD_cons_succ, List.eraseIdx, h21, h30, h31, h32, h40, h41, h42, h43, r0, r1, r2, r3, r4]
  generalize M 0 1 = x01 at *
  generalize M 0 2 = x02 at *
  generalize M 1 2 = x12 at *
  generalize M 0 3 = x03 at *
  generalize M 1 3 = x13 at *
  generalize M 2 3 = x23 at *
  generalize M 0 4 = x04 at *
  generalize M 1 4 = x14 at *
  generalize M 2 4 = x24 at *
  generalize M 3 4 = x34 at *
  clear h10 h20 h21 h30 h31 h32 h40 h41 h42 h43 r0 r1 r2 r3 r4
  grind

theorem pot_5103 (M : Int → Int → Int) (hs : ∀ a b, M a b = M b a) (r0 : M 0 0 = -(M 0 1 + M 0 2 + M 0 3 + M 0 4)) (r1 : M 1 1 = -(M 0 1 + M 1 2 + M 1 3 + M 1 4)) (r2 : M 2 2 = -(M 0 2 + M 1 2 + M 2 3 + M 2 4)) (r3 : M 3 3 = -(M 0 3 + M 1 3 + M 2 3 + M 3 4)) (r4 : M 4 4 = -(M 0 4 + M 1 4 + M 2 4 + M 3 4)) : detF M [2, 3, 4] [2, 3, 4] + detF M [1, 2, 4] [1, 2, 4] - detF M [0, 2, 4] [0, 2, 4] = 2 * (detF M [2, 3, 4] [1, 2, 4]) := by
  have h10 := hs 1 0
  have h20 := hs 2 0
  have h21 := hs 2 1
  have h30 := hs 3 0
  have h31 := hs 3 1
  have h32 := hs 3 2
  have h40 := hs 4 0
  have h41 := hs 4 1
  have h42 := hs 4 2
  have h43 := hs 4 3
  clear hs
  simp only [detF, sumTo, sgn, nth, List.length, List.getD_cons_zero, List.getD_cons_succ, List.eraseIdx, h20, h21, h31, h32, h40, h41, h42, h43, r0, r1, r2, r3, r4]
  generalize M 0 1 = x01 at *
  generalize M 0 2 = x02 at *
  generalize M 1 2 = x12 at *
  generalize M 0 3 = x03 at *
  generalize M 1 3 = x13 at *
  generalize M 2 3 = x23 at *
  generalize M 0 4 = x04 at *
  generalize M 1 4 = x14 at *
  generalize M 2 4 = x24 at *
  generalize M 3 4 = x34 at *
  clear h10 h20 h21 h30 h31 h32 h40 h41 h42 h43 r0 r1 r2 r3 r4
  grind

theorem pot_5104 (M : Int → Int → Int) (hs : ∀ a b, M a b = M b a) (r0 : M 0 0 = -(M 0 1 + M 0 2 + M 0 3 + M 0 4)) (r1 : M 1 1 = -(M 0 1 + M 1 2 + M 1 3 + M 1 4)) (r2 : M 2 2 = -(M 0 2 + M 1 2 + M 2 3 + M 2 4)) (r3 : M 3 3 = -(M 0 3 + M 1 3 + M 2 3 + M 3 4)) (r4 : M 4 4 = -(M 0 4 + M 1 4 + M 2 4 + M 3 4)) : detF M [2, 3, 4] [2, 3, 4] + detF M [1, 2, 3] [1, 2, 3] - detF M [0, 2, 3] [0, 2, 3] = 2 * (-detF M [2, 3, 4] [1, 2, 3]) := by
  have h10 := hs 1 0
  have h20 := hs 2 0
  have h21 := hs 2 1
  have h30 := hs 3 0
  have h31 := hs 3 1
  have h32 := hs 3 2
  have h40 := hs 4 0
  have h41 := hs 4 1
  have h42 := hs 4 2
  have h43 := hs 4 3
  clear hs
  simp only [detF, sumTo, sgn, nth, List.length, List.getD_cons_zero, List.getD_cons_succ, List.eraseIdx, h20, h21, h30, h31, h32, h41, h42, h43, r0, r1, r2, r3, r4]
  generalize M 0 1 = x01 at *
  generalize M 0 2 = x02 at *
  generalize M 1 2 = x12 at *
  generalize M 0 3 = x03 at *
  generalize M 1 3 = x13 at *
  generalize M 2 3 = x23 at *
  generalize M 0 4 = x04 at *
  generalize M 1 4 = x14 at *
  generalize M 2 4 = x24 at *
  generalize M 3 4 = x34 at *
  clear h10 h20 h21 h30 h31 h32 h40 h41 h42 h43 r0 r1 r2 r3 r4
  grind

theorem pot_5120 (M : Int → Int → Int) (hs : ∀ a b, M a b = M b a) (r0 : M 0 0 = -(M 0 1 + M 0 2 + M 0 3 + M 0 4)) (r1 : M 1 1 = -(M 0 1 + M 1 2 + M 1 3 + M 1 4)) (r2 : M 2 2 = -(M 0 2 + M 1 2 + M 2 3 + M 2 4)) (r3 : M 3 3 = -(M 0 3 + M 1 3 + M 2 3 + M 3 4)) (r4 : M 4 4 = -(M 0 4 + M 1 4 + M 2 4 + M 3 4)) : detF M [0, 3, 4] [0, 3, 4] + detF M [1, 3, 4] [1, 3, 4] - detF M [2, 3, 4] [2, 3, 4] = 2 * (-detF M [0, 3, 4] [1, 3, 4]) := by
  have h10 := hs 1 0
  have h20 := hs 2 0
  have h21 := hs 2 1
  have h30 := hs 3 0
  have h31 := hs 3 1
  have h32 := hs 3 2
  have h40 := hs 4 0
  have h41 := hs 4 1
  have h42 := hs 4 2
  have h43 := hs 4 3
  clear hs
  simp only [detF, sumTo, sgn, nth, List.length, List.getD_cons_zero, List.getD_cons_succ, List.eraseIdx, h30, h31, h32, h40, h41, h42, h43, r0, r1, r2, r3, r4]
  generalize M 0 1 = x01 at *
  generalize M 0 2 = x02 at *
  generalize M 1 2 = x12 at *
  generalize M 0 3 = x03 at *
  generalize M 1 3 = x13 at *
  generalize M 2 3 = x23 at *
  generalize M 0 4 = x04 at *
  generalize M 1 4 = x14 at *
  generalize M 2 4 = x24 at *
  generalize M 3 4 = x34 at *
  clear h10 h20 h21 h30 h31 h32 h40 h41 h42 h43 r0 r1 r2 r3 r4
  grind

theorem pot_5123 (M : Int → Int → Int) (hs : ∀ a b, M a b = M b a) (r0 : M 0 0 = -(M 0 1 + M 0 2 + M 0 3 + M 0 4)) (r1 : M 1 1 = -(M 0 1 + M 1 2 + M 1 3 + M 1 4)) (r2 : M 2 2 = -(M 0 2 + M 1 2 + M 2 3 + M 2 4)) (r3 : M 3 3 = -(M 0 3 + M 1 3 + M 2 3 + M 3 4)) (r4 : M 4 4 = -(M 0 4 + M 1 4 + M 2 4 + M 3 4)) : detF M [0, 3, 4] [0, 3, 4] + detF M [0, 1, 4] [0, 1, 4] - detF M [0, 2, 4] [0, 2, 4] = 2 * (-detF M [0, 3, 4] [0, 1, 4]) := by
  have h10 := hs 1 0
  have h20 := hs 2 0
  have h21 := hs 2 1
  have h30 := hs 3 0
  have h31 := hs 3 1
  have h32 := hs 3 2
  have h40 := hs 4 0
  have h41 := hs 4 1
  have h42 := hs 4 2
  have h43 := hs 4 3
  clear hs
  simp only [detF, sumTo, sgn, nth, List.length, List.getD_cons_zero, List.getD_cons_succ, List.eraseIdx, h10, h20, h30, h31, h40, h41, h42, h43, r0, r1, r2, r3, r4]
  generalize M 0 1 = x01 at *
  generalize M 0 2 = x02 at *
  generalize M 1 2 = x12 at *
  generalize M 0 3 = x03 at *
  generalize M 1 3 = x13 at *
  generalize M 2 3 = x23 at *
  generalize M 0 4 = x04 at *
  generalize M 1 4 = x14 at *
  generalize M 2 4 = x24 at *
  generalize M 3 4 = x34 at *
  clear h10 h20 h21 h30 h31 h32 h40 h41 h42 h43 r0 r1 r2 r3 r4
  grind

theorem pot_5124 (M : Int → Int → Int) (hs : ∀ a b, M a b = M b a) (r0 : M 0 0 = -(M 0 1 + M 0 2 + M 0 3 + M 0 4)) (r1 : M 1 1 = -(M 0 1 + M 1 2 + M 1 3 + M 1 4)) (r2 : M 2 2 = -(M 0 2 + M 1 2 + M 2 3 + M 2 4)) (r3 : M 3 3 = -(M 0 3 + M 1 3 + M 2 3 + M 3 4)) (r4 : M 4 4 = -(M 0 4 + M 1 4 + M 2 4 + M 3 4)) : detF M [0, 3, 4] [0, 3, 4] + detF M [0, 1, 3] [0, 1, 3] - detF M [0, 2, 3] [0, 2, 3] = 2 * (detF M [0, 3, 4] [0, 1, 3]) := by
  have h10 := hs 1 0
  have h20 := hs 2 0
  have h21 := hs 2 1
  have h30 := hs 3 0
  have h31 := hs 3 1
  have h32 := hs 3 2
  have h40 := hs 4 0
  have h41 := hs 4 1
  have h42 := hs 4 2
  have h43 := hs 4 3
  clear hs
  simp only [detF, sumTo, sgn, nth, List.length, List.getD_cons_zero, List.getD_cons_succ, List.eraseIdx, h10, h20, h30, h31, h32, h40, h41, h43, r0, r1, r2, r3, r4]
  generalize M 0 1 = x01 at *
  generalize M 0 2 = x02 at *
  generalize M 1 2 = x12 at *
  generalize M 0 3 = x03 at *
  generalize M 1 3 = x13 at *
  generalize M 2 3 = x23 at *
  generalize M 0 4 = x04 at *
  generalize M 1 4 = x14 at *
  generalize M 2 4 = x24 at *
  generalize M 3 4 = x34 at *
  clear h10 h20 h21 h30 h31 h32 h40 h41 h42 h43 r0 r1 r2 r3 r4
  grind

theorem pot_5130 (M : Int → Int → Int) (hs : ∀ a b, M a b = M b a) (r0 : M 0 0 = -(M 0 1 + M 0 2 + M 0 3 + M 0 4)) (r1 : M 1 1 = -(M 0 1 + M 1 2 + M 1 3 + M 1 4)) (r2 : M 2 2 = -(M 0 2 + M 1 2 + M 2 3 + M 2 4)) (r3 : M 3 3 = -(M 0 3 + M 1 3 + M 2 3 + M 3 4)) (r4 : M 4 4 = -(M 0 4 + M 1 4 + M 2 4 + M 3 4)) : detF M [0, 2, 4] [0, 2, 4] + detF M [1, 2, 4] [1, 2, 4] - detF M [2, 3, 4] [2, 3, 4] = 2 * (-detF M [0, 2, 4] [1, 2, 4]) := by
  have h10 := hs 1 0
  have h20 := hs 2 0
  have h21 := hs 2 1
  have h30 := hs 3 0
  have h31 := hs 3 1
  have h32 := hs 3 2
  have h40 := hs 4 0
  have h41 := hs 4 1
  have h42 := hs 4 2
  have h43 := hs 4 3
  clear hs
  simp only [detF, sumTo, sgn, nth, List.length, List.getD_cons_zero, List.getD_cons_succ, List.eraseIdx, h20, h21, h32, h40, h41, h42, h43, r0, r1, r2, r3, r4]
  generalize M 0 1 = x01 at *
  generalize M 0 2 = x02 at *
  generalize M 1 2 = x12 at *
  generalize M 0 3 = x03 at *
  generalize M 1 3 = x13 at *
  generalize M 2 3 = x23 at *
  generalize M 0 4 = x04 at *
  generalize M 1 4 = x14 at *
  generalize M 2 4 = x24 at *
  generalize M 3 4 = x34 at *
  clear h10 h20 h21 h30 h31 h32 h40 h41 h42 h43 r0 r1 r2 r3 r4
  grind

theorem pot_5132 (M : Int → Int → Int) (hs : ∀ a b, M a b = M b a) (r0 : M 0 0 = -(M 0 1 + M 0 2 + M 0 3 + M 0 4)) (r1 : M 1 1 = -(M 0 1 + M 1 2 + M 1 3 + M 1 4)) (r2 : M 2 2 = -(M 0 2 + M 1 2 + M 2 3 + M 2 4)) (r3 : M 3 3 = -(M 0 3 + M 1 3 + M 2 3 + M 3 4)) (r4 : M 4 4 = -(M 0 4 + M 1 4 + M 2 4 + M 3 4)) : detF M [0, 2, 4] [0, 2, 4] + detF M [0, 1, 4] [0, 1, 4] - detF M [0, 3, 4] [0, 3, 4] = 2 * (-detF M [0, 2, 4] [0, 1, 4]) := by
  have h10 := hs 1 0
  have h20 := hs 2 0
  have h21 := hs 2 1
  have h30 := hs 3 0
  have h31 := hs 3 1
  have h32 := hs 3 2
  have h40 := hs 4 0
  have h41 := hs 4 1
  have h42 := hs 4 2
  have h43 := hs 4 3
  clear hs
  simp only [detF, sumTo, sgn, nth, List.length, List.getD_cons_zero, List.getD_cons_succ, List.eraseIdx, h10, h20, h21, h30, h40, h41, h42, h43, r0, r1, r2, r3, r4]
  generalize M 0 1 = x01 at *
  generalize M 0 2 = x02 at *
  generalize M 1 2 = x12 at *
  generalize M 0 3 = x03 at *
  generalize M 1 3 = x13 at *
  generalize M 2 3 = x23 at *
  generalize M 0 4 = x04 at *
  generalize M 1 4 = x14 at *
  generalize M 2 4 = x24 at *
  generalize M 3 4 = x34 at *
  clear h10 h20 h21 h30 h31 h32 h40 h41 h42 h43 r0 r1 r2 r3 r4
  grind

theorem pot_5134 (M : Int → Int → Int) (hs : ∀ a b, M a b = M b a) (r0 : M 0 0 = -(M 0 1 + M 0 2 + M 0 3 + M 0 4)) (r1 : M 1 1 = -(M 0 1 + M 1 2 + M 1 3 + M 1 4)) (r2 : M 2 2 = -(M 0 2 + M 1 2 + M 2 3 + M 2 4)) (r3 : M 3 3 = -(M 0 3 + M 1 3 + M 2 3 + M 3 4)) (r4 : M 4 4 = -(M 0 4 + M 1 4 + M 2 4 + M 3 4)) : detF M [0, 2, 4] [0, 2, 4] + detF M [0, 1, 2] [0, 1, 2] - detF M [0, 2, 3] [0, 2, 3] = 2 * (detF M [0, 2, 4] [0, 1, 2]) := by
  have h10 := hs 1 0
  have h20 := hs 2 0
  have h21 := hs 2 1
  have h30 := hs 3 0
  have h31 := hs 3 1
  have h32 := hs 3 2
  have h40 := hs 4 0
  have h41 := hs 4 1
  have h42 := hs 4 2
  have h43 := hs 4 3
  clear hs
  simp only [detF, sumTo, sgn, nth, List.length, List.getD_cons_zero, List.getD_cons_succ, List.eraseIdx, h10, h20, h21, h30, h32, h40, h41, h42, r0, r1, r2, r3, r4]
  generalize M 0 1 = x01 at *
  generalize M 0 2 = x02 at *
  generalize M 1 2 = x12 at *
  generalize M 0 3 = x03 at *
  generalize M 1 3 = x13 at *
  generalize M 2 3 = x23 at *
  generalize M 0 4 = x04 at *
  generalize M 1 4 = x14 at *
  generalize M 2 4 = x24 at *
  generalize M 3 4 = x34 at *
  clear h10 h20 h21 h30 h31 h32 h40 h41 h42 h43 r0 r1 r2 r3 r4
  grind

theorem pot_5140 (M : Int → Int → Int) (hs : ∀ a b, M a b = M b a) (r0 : M 0 0 = -(M 0 1 + M 0 2 + M 0 3 + M 0 4)) (r1 : M 1 1 = -(M 0 1 + M 1 2 + M 1 3 + M 1 4)) (r2 : M 2 2 = -(M 0 2 + M 1 2 + M 2 3 + M 2 4)) (r3 : M 3 3 = -(M 0 3 + M 1 3 + M 2 3 + M 3 4)) (r4 : M 4 4 = -(M 0 4 + M 1 4 + M 2 4 + M 3 4)) : detF M [0, 2, 3] [0, 2, 3] + detF M [1, 2, 3] [1, 2, 3] - detF M [2, 3, 4] [2, 3, 4] = 2 * (-detF M [0, 2, 3] [1, 2, 3]) := by
  have h10 := hs 1 0
  have h20 := hs 2 0
  have h21 := hs 2 1
  have h30 := hs 3 0
  have h31 := hs 3 1
  have h32 := hs 3 2
  have h40 := hs 4 0
  have h41 := hs 4 1
  have h42 := hs 4 2
  have h43 := hs 4 3
  clear hs
  simp only [detF, sumTo, sgn, nth, List.length, List.getD_cons_zero, List.getD_cons_succ, List.eraseIdx, h20, h21, h30, h31, h32, h42, h43, r0, r1, r2, r3, r4]
  generalize M 0 1 = x01 at *
  generalize M 0 2 = x02 at *
  generalize M 1 2 = x12 at *
  generalize M 0 3 = x03 at *
  generalize M 1 3 = x13 at *
  generalize M 2 3 = x23 at *
  generalize M 0 4 = x04 at *
  generalize M 1 4 = x14 at *
  generalize M 2 4 = x24 at *
  generalize M 3 4 = x34 at *
  clear h10 h20 h21 h30 h31 h32 h40 h41 h42 h43 r0 r1 r2 r3 r4
  grind

theorem pot_5142 (M : Int → Int → Int) (hs : ∀ a b, M a b = M b a) (r0 : M 0 0 = -(M 0 1 + M 0 2 + M 0 3 + M 0 4)) (r1 : M 1 1 = -(M 0 1 + M 1 2 + M 1 3 + M 1 4)) (r2 : M 2 2 = -(M 0 2 + M 1 2 + M 2 3 + M 2 4)) (r3 : M 3 3 = -(M 0 3 + M 1 3 + M 2 3 + M 3 4)) (r4 : M 4 4 = -(M 0 4 + M 1 4 + M 2 4 + M 3 4)) : detF M [0, 2, 3] [0, 2, 3] + detF M [0, 1, 3] [0, 1, 3] - detF M [0, 3, 4] [0, 3, 4] = 2 * (-detF M [0, 2, 3] [0, 1, 3]) := by
  have h10 := hs 1 0
  have h20 := hs 2 0
  have h21 := hs 2 1
  have h30 := hs 3 0
  have h31 := hs 3 1
  have h32 := hs 3 2
  have h40 := hs 4 0
  have h41 := hs 4 1
  have h42 := hs 4 2
  have h43 := hs 4 3
  clear hs
  simp only [detF, sumTo, sgn, nth, List.length, List.getD_cons_zero, List.getD_cons_succ, List.eraseIdx, h10, h20, h21, h30, h31, h32, h40, h43, r0, r1, r2, r3, r4]
  generalize M 0 1 = x01 at *
  generalize M 0 2 = x02 at *
  generalize M 1 2 = x12 at *
  generalize M 0 3 = x03 at *
  generalize M 1 3 = x13 at *
  generalize M 2 3 = x23 at *
  generalize M 0 4 = x04 at *
  generalize M 1 4 = x14 at *
  generalize M 2 4 = x24 at *
  generalize M 3 4 = x34 at *
  clear h10 h20 h21 h30 h31 h32 h40 h41 h42 h43 r0 r1 r2 r3 r4
  grind

theorem pot_5143 (M : Int → Int → Int) (hs : ∀ a b, M a b = M b a) (r0 : M 0 0 = -(M 0 1 + M 0 2 + M 0 3 + M 0 4)) (r1 : M 1 1 = -(M 0 1 + M 1 2 + M 1 3 + M 1 4)) (r2 : M 2 2 = -(M 0 2 + M 1 2 + M 2 3 + M 2 4)) (r3 : M 3 3 = -(M 0 3 + M 1 3 + M 2 3 + M 3 4)) (r4 : M 4 4 = -(M 0 4 + M 1 4 + M 2 4 + M 3 4)) : detF M [0, 2, 3] [0, 2, 3] + detF M [0, 1, 2] [0, 1, 2] - detF M [0, 2, 4] [0, 2, 4] = 2 * (detF M [0, 2, 3] [0, 1, 2]) := by
  have h10 := hs 1 0
  have h20 := hs 2 0
  have h21 := hs 2 1
  have h30 := hs 3 0
  have h31 := hs 3 1
  have h32 := hs 3 2
  have h40 := hs 4 0
  have h41 := hs 4 1
  have h42 := hs 4 2
  have h43 := hs 4 3
  clear hs
  simp only [detF, sumTo, sgn, nth, List.length, List.getD_cons_zero, List.getD_cons_succ, List.eraseIdx, h10, h20, h21, h30, h31, h32, h40, h42, r0, r1, r2, r3, r4]
  generalize M 0 1 = x01 at *
  generalize M 0 2 = x02 at *
  generalize M 1 2 = x12 at *
  generalize M 0 3 = x03 at *
  generalize M 1 3 = x13 at *
  generalize M 2 3 = x23 at *
  generalize M 0 4 = x04 at *
  generalize M 1 4 = x14 at *
  generalize M 2 4 = x24 at *
  generalize M 3 4 = x34 at *
  clear h10 h20 h21 h30 h31 h32 h40 h41 h42 h43 r0 r1 r2 r3 r4
  grind

theorem pot_5201 (M : Int → Int → Int) (hs : ∀ a b, M a b = M b a) (r0 : M 0 0 = -(M 0 1 + M 0 2 + M 0 3 + M 0 4)) (r1 : M 1 1 = -(M 0 1 + M 1 2 + M 1 3 + M 1 4)) (r2 : M 2 2 = -(M 0 2 + M 1 2 + M 2 3 + M 2 4)) (r3 : M 3 3 = -(M 0 3 + M 1 3 + M 2 3 + M 3 4)) (r4 : M 4 4 = -(M 0 4 + M 1 4 + M 2 4 + M 3 4)) : detF M [1, 3, 4] [1, 3, 4] + detF M [2, 3, 4] [2, 3, 4] - detF M [0, 3, 4] [0, 3, 4] = 2 * (-detF M [1, 3, 4] [2, 3, 4]) := by
  have h10 := hs 1 0
  have h20 := hs 2 0
  have h21 := hs 2 1
  have h30 := hs 3 0
  have h31 := hs 3 1
  have h32 := hs 3 2
  have h40 := hs 4 0
  have h41 := hs 4 1
  have h42 := hs 4 2
  have h43 := hs 4 3
  clear hs
  simp only [detF, sumTo, sgn, nth, List.length, List.getD_cons_zero, List.getD_cons_succ, List.eraseIdx, h30, h31, h32, h40, h41, h42, h43, r0, r1, r2, r3, r4]
  generalize M 0 1 = x01 at *
  generalize M 0 2 = x02 at *
  generalize M 1 2 = x12 at *
  generalize M 0 3 = x03 at *
  generalize M 1 3 = x13 at *
  generalize M 2 3 = x23 at *
  generalize M 0 4 = x04 at *
  generalize M 1 4 = x14 at *
  generalize M 2 4 = x24 at *
  generalize M 3 4 = x34 at *
  clear h10 h20 h21 h30 h31 h32 h40 h41 h42 h43 r0 r1 r2 r3 r4
  grind

theorem pot_5203 (M : Int → Int → Int) (hs : ∀ a b, M a b = M b a) (r0 : M 0 0 = -(M 0 1 + M 0 2 + M 0 3 + M 0 4)) (r1 : M 1 1 = -(M 0 1 + M 1 2 + M 1 3 + M 1 4)) (r2 : M 2 2 = -(M 0 2 + M 1 2 + M 2 3 + M 2 4)) (r3 : M 3 3 = -(M 0 3 + M 1 3 + M 2 3 + M 3 4)) (r4 : M 4 4 = -(M 0 4 + M 1 4 + M 2 4 + M 3 4)) : detF M [1, 3, 4] [1, 3, 4] + detF M [1, 2, 4] [1, 2, 4] - detF M [0, 1, 4] [0, 1, 4] = 2 * (-detF M [1, 3, 4] [1, 2, 4]) := by
  have h10 := hs 1 0
  have h20 := hs 2 0
  have h21 := hs 2 1
  have h30 := hs 3 0
  have h31 := hs 3 1
  have h32 := hs 3 2
  have h40 := hs 4 0
  have h41 := hs 4 1
  have h42 := hs 4 2
  have h43 := hs 4 3
  clear hs
  simp only [detF, sumTo, sgn, nth, List.length, List.getD_cons_zero, List.getD_cons_succ, List.eraseIdx, h10, h21, h31, h32, h40, h41, h42, h43, r0, r1, r2, r3, r4]
  generalize M 0 1 = x01 at *
  generalize M 0 2 = x02 at *
  generalize M 1 2 = x12 at *
  generalize M 0 3 = x03 at *
  generalize M 1 3 = x13 at *
  generalize M 2 3 = x23 at *
  generalize M 0 4 = x04 at *
  generalize M 1 4 = x14 at *
  generalize M 2 4 = x24 at *
  generalize M 3 4 = x34 at *
  clear h10 h20 h21 h30 h31 h32 h40 h41 h42 h43 r0 r1 r2 r3 r4
  grind

theorem pot_5204 (M : Int → Int → Int) (hs : ∀ a b, M a b = M b a) (r0 : M 0 0 = -(M 0 1 + M 0 2 + M 0 3 + M 0 4)) (r1 : M 1 1 = -(M 0 1 + M 1 2 + M 1 3 + M 1 4)) (r2 : M 2 2 = -(M 0 2 + M 1 2 + M 2 3 + M 2 4)) (r3 : M 3 3 = -(M 0 3 + M 1 3 + M 2 3 + M 3 4)) (r4 : M 4 4 = -(M 0 4 + M 1 4 + M 2 4 + M 3 4)) : detF M [1, 3, 4] [1, 3, 4] + detF M [1, 2, 3] [1, 2, 3] - detF M [0, 1, 3] [0, 1, 3] = 2 * (detF M [1, 3, 4] [1, 2, 3]) := by
  have h10 := hs 1 0
  have h20 := hs 2 0
  have h21 := hs 2 1
  have h30 := hs 3 0
  have h31 := hs 3 1
  have h32 := hs 3 2
  have h40 := hs 4 0
  have h41 := hs 4 1
  have h42 := hs 4 2
  have h43 := hs 4 3
  clear hs
  simp only [detF, sumTo, sgn, nth, List.length, List.getD_cons_zero, List.getD_cons_succ, List.eraseIdx, h10, h21, h30, h31, h32, h41, h42, h43, r0, r1, r2, r3, r4]
  generalize M 0 1 = x01 at *
  generalize M 0 2 = x02 at *
  generalize M 1 2 = x12 at *
  generalize M 0 3 = x03 at *
  generalize M 1 3 = x13 at *
  generalize M 2 3 = x23 at *
  generalize M 0 4 = x04 at *
  generalize M 1 4 = x14 at *
  generalize M 2 4 = x24 at *
  generalize M 3 4 = x34 at *
  clear h10 h20 h21 h30 h31 h32 h40 h41 h42 h43 r0 r1 r2 r3 r4
  grind

theorem pot_5210 (M : Int → Int → Int) (hs : ∀ a b, M a b = M b a) (r0 : M 0 0 = -(M 0 1 + M 0 2 + M 0 3 + M 0 4)) (r1 : M 1 1 = -(M 0 1 + M 1 2 + M 1 3 + M 1 4)) (r2 : M 2 2 = -(M 0 2 + M 1 2 + M 2 3 + M 2 4)) (r3 : M 3 3 = -(M 0 3 + M 1 3 + M 2 3 + M 3 4)) (r4 : M 4 4 = -(M 0 4 + M 1 4 + M 2 4 + M 3 4)) : detF M [0, 3, 4] [0, 3, 4] + detF M [2, 3, 4] [2, 3, 4] - detF M [1, 3, 4] [1, 3, 4] = 2 * (-detF M [0, 3, 4] [2, 3, 4]) := by
  have h10 := hs 1 0
  have h20 := hs 2 0
  have h21 := hs 2 1
  have h30 := hs 3 0
  have h31 := hs 3 1
  have h32 := hs 3 2
  have h40 := hs 4 0
  have h41 := hs 4 1
  have h42 := hs 4 2
  have h43 := hs 4 3
  clear hs
  simp only [detF, sumTo, sgn, nth, List.length, List.getD_cons_zero, List.getD_cons_succ, List.eraseIdx, h30, h31, h32, h40, h41, h42, h43, r0, r1, r2, r3, r4]
  generalize M 0 1 = x01 at *
  generalize M 0 2 = x02 at *
  generalize M 1 2 = x12 at *
  generalize M 0 3 = x03 at *
  generalize M 1 3 = x13 at *
  generalize M 2 3 = x23 at *
  generalize M 0 4 = x04 at *
  generalize M 1 4 = x14 at *
  generalize M 2 4 = x24 at *
  generalize M 3 4 = x34 at *
  clear h10 h20 h21 h30 h31 h32 h40 h41 h42 h43 r0 r1 r2 r3 r4
  grind

theorem pot_5213 (M : Int → Int → Int) (hs : ∀ a b, M a b = M b a) (r0 : M 0 0 = -(M 0 1 + M 0 2 + M 0 3 + M 0 4)) (r1 : M 1 1 = -(M 0 1 + M 1 2 + M 1 3 + M 1 4)) (r2 : M 2 2 = -(M 0 2 + M 1 2 + M 2 3 + M 2 4)) (r3 : M 3 3 = -(M 0 3 + M 1 3 + M 2 3 + M 3 4)) (r4 : M 4 4 = -(M 0 4 + M 1 4 + M 2 4 + M 3 4)) : detF M [0, 3, 4] [0, 3, 4] + detF M [0, 2, 4] [0, 2, 4] - detF M [0, 1, 4] [0, 1, 4] = 2 * (-detF M [0, 3, 4] [0, 2, 4]) := by
  have h10 := hs 1 0
  have h20 := hs 2 0
  have h21 := hs 2 1
  have h30 := hs 3 0
  have h31 := hs 3 1
  have h32 := hs 3 2
  have h40 := hs 4 0
  have h41 := hs 4 1
  have h42 := hs 4 2
  have h43 := hs 4 3
  clear hs
  simp only [detF, sumTo, sgn, nth, List.length, List.getD_cons_zero, List.getD_cons_succ, List.eraseIdx, h10, h20, h30, h32, h40, h41, h42, h43, r0, r1, r2, r3, r4]
  generalize M 0 1 = x01 at *
  generalize M 0 2 = x02 at *
  generalize M 1 2 = x12 at *
  generalize M 0 3 = x03 at *
  generalize M 1 3 = x13 at *
  generalize M 2 3 = x23 at *
  generalize M 0 4 = x04 at *
  generalize M 1 4 = x14 at *
  generalize M 2 4 = x24 at *
  generalize M 3 4 = x34 at *
  clear h10 h20 h21 h30 h31 h32 h40 h41 h42 h43 r0 r1 r2 r3 r4
  grind

theorem pot_5214 (M : Int → Int → Int) (hs : ∀ a b, M a b = M b a) (r0 : M 0 0 = -(M 0 1 + M 0 2 + M 0 3 + M 0 4)) (r1 : M 1 1 = -(M 0 1 + M 1 2 + M 1 3 + M 1 4)) (r2 : M 2 2 = -(M 0 2 + M 1 2 + M 2 3 + M 2 4)) (r3 : M 3 3 = -(M 0 3 + M 1 3 + M 2 3 + M 3 4)) (r4 : M 4 4 = -(M 0 4 + M 1 4 + M 2 4 + M 3 4)) : detF M [0, 3, 4] [0, 3, 4] + detF M [0, 2, 3] [0, 2, 3] - detF M [0, 1, 3] [0, 1, 3] = 2 * (detF M [0, 3, 4] [0, 2, 3]) := by
  have h10 := hs 1 0
  have h20 := hs 2 0
  have h21 := hs 2 1
  have h30 := hs 3 0
  have h31 := hs 3 1
  have h32 := hs 3 2
  have h40 := hs 4 0
  have h41 := hs 4 1
  have h42 := hs 4 2
  have h43 := hs 4 3
  clear hs
  simp only [detF, sumTo, sgn, nth, List.length, List.getD_cons_zero, List.getD_cons_succ, List.eraseIdx, h10, h20, h30, h31, h32, h40, h42, h43, r0, r1, r2, r3, r4]
  generalize M 0 1 = x01 at *
  generalize M 0 2 = x02 at *
  generalize M 1 2 = x12 at *
  generalize M 0 3 = x03 at *
  generalize M 1 3 = x13 at *
  generalize M 2 3 = x23 at *
  generalize M 0 4 = x04 at *
  generalize M 1 4 = x14 at *
  generalize M 2 4 = x24 at *
  generalize M 3 4 = x34 at *
  clear h10 h20 h21 h30 h31 h32 h40 h41 h42 h43 r0 r1 r2 r3 r4
  grind

theorem pot_5230 (M : Int → Int → Int) (hs : ∀ a b, M a b = M b a) (r0 : M 0 0 = -(M 0 1 + M 0 2 + M 0 3 + M 0 4)) (r1 : M 1 1 = -(M 0 1 + M 1 2 + M 1 3 + M 1 4)) (r2 : M 2 2 = -(M 0 2 + M 1 2 + M 2 3 + M 2 4)) (r3 : M 3 3 = -(M 0 3 + M 1 3 + M 2 3 + M 3 4)) (r4 : M 4 4 = -(M 0 4 + M 1 4 + M 2 4 + M 3 4)) : detF M [0, 1, 4] [0, 1, 4] + detF M [1, 2, 4] [1, 2, 4] - detF M [1, 3, 4] [1, 3, 4] = 2 * (detF M [0, 1, 4] [1, 2, 4]) := by
  have h10 := hs 1 0
  have h20 := hs 2 0
  have h21 := hs 2 1
  have h30 := hs 3 0
  have h31 := hs 3 1
  have h32 := hs 3 2
  have h40 := hs 4 0
  have h41 := hs 4 1
  have h42 := hs 4 2
  have h43 := hs 4 3
  clear hs
  simp only [detF, sumTo, sgn, nth, List.length, List.getD_cons_zero, List.getD_cons_succ, List.eraseIdx, h10, h21, h31, h40, h41, h42, h43, r0, r1, r2, r3, r4]
  generalize M 0 1 = x01 at *
  generalize M 0 2 = x02 at *
  generalize M 1 2 = x12 at *
  generalize M 0 3 = x03 at *
  generalize M 1 3 = x13 at *
  generalize M 2 3 = x23 at *
  generalize M 0 4 = x04 at *
  generalize M 1 4 = x14 at *
  generalize M 2 4 = x24 at *
  generalize M 3 4 = x34 at *
  clear h10 h20 h21 h30 h31 h32 h40 h41 h42 h43 r0 r1 r2 r3 r4
  grind

theorem pot_5231 (M : Int → Int → Int) (hs : ∀ a b, M a b = M b a) (r0 : M 0 0 = -(M 0 1 + M 0 2 + M 0 3 + M 0 4)) (r1 : M 1 1 = -(M 0 1 + M 1 2 + M 1 3 + M 1 4)) (r2 : M 2 2 = -(M 0 2 + M 1 2 + M 2 3 + M 2 4)) (r3 : M 3 3 = -(M 0 3 + M 1 3 + M 2 3 + M 3 4)) (r4 : M 4 4 = -(M 0 4 + M 1 4 + M 2 4 + M 3 4)) : detF M [0, 1, 4] [0, 1, 4] + detF M [0, 2, 4] [0, 2, 4] - detF M [0, 3, 4] [0, 3, 4] = 2 * (-detF M [0, 1, 4] [0, 2, 4]) := by
  have h10 := hs 1 0
  have h20 := hs 2 0
  have h21 := hs 2 1
  have h30 := hs 3 0
  have h31 := hs 3 1
  have h32 := hs 3 2
  have h40 := hs 4 0
  have h41 := hs 4 1
  have h42 := hs 4 2
  have h43 := hs 4 3
  clear hs
  simp only [detF, sumTo, sgn, nth, List.length, List.getD_cons_zero, List.getD_cons_succ, List.eraseIdx, h10, h20, h30, h40, h41, h42, h43, r0, r1, r2, r3, r4]
  generalize M 0 1 = x01 at *
  generalize M 0 2 = x02 at *
  generalize M 1 2 = x12 at *
  generalize M 0 3 = x03 at *
  generalize M 1 3 = x13 at *
  generalize M 2 3 = x23 at *
  generalize M 0 4 = x04 at *
  generalize M 1 4 = x14 at *
  generalize M 2 4 = x24 at *
  generalize M 3 4 = x34 at *
  clear h10 h20 h21 h30 h31 h32 h40 h41 h42 h43 r0 r1 r2 r3 r4
  grind

theorem pot_5234 (M : Int → Int → Int) (hs : ∀ a b, M a b = M b a) (r0 : M 0 0 = -(M 0 1 + M 0 2 + M 0 3 + M 0 4)) (r1 : M 1 1 = -(M 0 1 + M 1 2 + M 1 3 + M 1 4)) (r2 : M 2 2 = -(M 0 2 + M 1 2 + M 2 3 + M 2 4)) (r3 : M 3 3 = -(M 0 3 + M 1 3 + M 2 3 + M 3 4)) (r4 : M 4 4 = -(M 0 4 + M 1 4 + M 2 4 + M 3 4)) : detF M [0, 1, 4] [0, 1, 4] + detF M [0, 1, 2] [0, 1, 2] - detF M [0, 1, 3] [0, 1, 3] = 2 * (-detF M [0, 1, 4] [0, 1, 2]) := by
  have h10 := hs 1 0
  have h20 := hs 2 0
  have h21 := hs 2 1
  have h30 := hs 3 0
  have h31 := hs 3 1
  have h32 := hs 3 2
  have h40 := hs 4 0
  have h41 := hs 4 1
  have h42 := hs 4 2
  have h43 := hs 4 3
  clear hs
  simp only [detF, sumTo, sgn, nth, List.length, List.getD_cons_zero, List.getD_cons_succ, List.eraseIdx, h10, h20, h21, h30, h31, h40, h41, h42, r0, r1, r2, r3, r4]
  generalize M 0 1 = x01 at *
  generalize M 0 2 = x02 at *
  generalize M 1 2 = x12 at *
  generalize M 0 3 = x03 at *
  generalize M 1 3 = x13 at *
  generalize M 2 3 = x23 at *
  generalize M 0 4 = x04 at *
  generalize M 1 4 = x14 at *
  generalize M 2 4 = x24 at *
  generalize M 3 4 = x34 at *
  clear h10 h20 h21 h30 h31 h32 h40 h41 h42 h43 r0 r1 r2 r3 r4
  grind

theorem pot_5240 (M : Int → Int → Int) (hs : ∀ a b, M a b = M b a) (r0 : M 0 0 = -(M 0 1 + M 0 2 + M 0 3 + M 0 4)) (r1 : M 1 1 = -(M 0 1 + M 1 2 + M 1 3 + M 1 4)) (r2 : M 2 2 = -(M 0 2 + M 1 2 + M 2 3 + M 2 4)) (r3 : M 3 3 = -(M 0 3 + M 1 3 + M 2 3 + M 3 4)) (r4 : M 4 4 = -(M 0 4 + M 1 4 + M 2 4 + M 3 4)) : detF M [0, 1, 3] [0, 1, 3] + detF M [1, 2, 3] [1, 2, 3] - detF M [1, 3, 4] [1, 3, 4] = 2 * (detF M [0, 1, 3] [1, 2, 3]) := by
  have h10 := hs 1 0
  have h20 := hs 2 0
  have h21 := hs 2 1
  have h30 := hs 3 0
  have h31 := hs 3 1
  have h32 := hs 3 2
  have h40 := hs 4 0
  have h41 := hs 4 1
  have h42 := hs 4 2
  have h43 := hs 4 3
  clear hs
  simp only [detF, sumTo, sgn, nth, List.length, List.getD_cons_zero, List.getD_cons_succ, List.eraseIdx, h10, h21, h30, h31, h32, h41, h43, r0, r1, r2, r3, r4]
  generalize M 0 1 = x01 at *
  generalize M 0 2 = x02 at *
  generalize M 1 2 = x12 at *
  generalize M 0 3 = x03 at *
  generalize M 1 3 = x13 at *
  generalize M 2 3 = x23 at *
  generalize M 0 4 = x04 at *
  generalize M 1 4 = x14 at *
  generalize M 2 4 = x24 at *
  generalize M 3 4 = x34 at *
  clear h10 h20 h21 h30 h31 h32 h40 h41 h42 h43 r0 r1 r2 r3 r4
  grind

theorem pot_5241 (M : Int → Int → Int) (hs : ∀ a b, M a b = M b a) (r0 : M 0 0 = -(M 0 1 + M 0 2 + M 0 3 + M 0 4)) (r1 : M 1 1 = -(M 0 1 + M 1 2 + M 1 3 + M 1 4)) (r2 : M 2 2 = -(M 0 2 + M 1 2 + M 2 3 + M 2 4)) (r3 : M 3 3 = -(M 0 3 + M 1 3 + M 2 3 + M 3 4)) (r4 : M 4 4 = -(M 0 4 + M 1 4 + M 2 4 + M 3 4)) : detF M [0, 1, 3] [0, 1, 3] + detF M [0, 2, 3] [0, 2, 3] - detF M [0, 3, 4] [0, 3, 4] = 2 * (-detF M [0, 1, 3] [0, 2, 3]) := by
  have h10 := hs 1 0
  have h20 := hs 2 0
  have h21 := hs 2 1
  have h30 := hs 3 0
  have h31 := hs 3 1
  have h32 := hs 3 2
  have h40 := hs 4 0
  have h41 := hs 4 1
  have h42 := hs 4 2
  have h43 := hs 4 3
  clear hs
  simp only [detF, sumTo, sgn, nth, List.length, List.getD_cons_zero, List.getD_cons_succ, List.eraseIdx, h10, h20, h30, h31, h32, h40, h43, r0, r1, r2, r3, r4]
  generalize M 0 1 = x01 at *
  generalize M 0 2 = x02 at *
  generalize M 1 2 = x12 at *
  generalize M 0 3 = x03 at *
  generalize M 1 3 = x13 at *
  generalize M 2 3 = x23 at *
  generalize M 0 4 = x04 at *
  generalize M 1 4 = x14 at *
  generalize M 2 4 = x24 at *
  generalize M 3 4 = x34 at *
  clear h10 h20 h21 h30 h31 h32 h40 h41 h42 h43 r0 r1 r2 r3 r4
  grind

theorem pot_5243 (M : Int → Int → Int) (hs : ∀ a b, M a b = M b a) (r0 : M 0 0 = -(M 0 1 + M 0 2 + M 0 3 + M 0 4)) (r1 : M 1 1 = -(M 0 1 + M 1 2 + M 1 3 + M 1 4)) (r2 : M 2 2 = -(M 0 2 + M 1 2 + M 2 3 + M 2 4)) (r3 : M 3 3 = -(M 0 3 + M 1 3 + M 2 3 + M 3 4)) (r4 : M 4 4 = -(M 0 4 + M 1 4 + M 2 4 + M 3 4)) : detF M [0, 1, 3] [0, 1, 3] + detF M [0, 1, 2] [0, 1, 2] - detF M [0, 1, 4] [0, 1, 4] = 2 * (-detF M [0, 1, 3] [0, 1, 2]) := by
  have h10 := hs 1 0
  have h20 := hs 2 0
  have h21 := hs 2 1
  have h30 := hs 3 0
  have h31 := hs 3 1
  have h32 := hs 3 2
  have h40 := hs 4 0
  have h41 := hs 4 1
  have h42 := hs 4 2
  have h43 := hs 4 3
  clear hs
  simp only [detF, sumTo, sgn, nth, List.length, List.getD_cons_zero, List.getD_cons_succ, List.eraseIdx, h10, h20, h21, h30, h31, h32, h40, h41, r0, r1, r2, r3, r4]
  generalize M 0 1 = x01 at *
  generalize M 0 2 = x02 at *
  generalize M 1 2 = x12 at *
  generalize M 0 3 = x03 at *
  generalize M 1 3 = x13 at *
  generalize M 2 3 = x23 at *
  generalize M 0 4 = x04 at *
  generalize M 1 4 = x14 at *
  generalize M 2 4 = x24 at *
  generalize M 3 4 = x34 at *
  clear h10 h20 h21 h30 h31 h32 h40 h41 h42 h43 r0 r1 r2 r3 r4
  grind

theorem pot_5301 (M : Int → Int → Int) (hs : ∀ a b, M a b = M b a) (r0 : M 0 0 = -(M 0 1 + M 0 2 + M 0 3 + M 0 4)) (r1 : M 1 1 = -(M 0 1 + M 1 2 + M 1 3 + M 1 4)) (r2 : M 2 2 = -(M 0 2 + M 1 2 + M 2 3 + M 2 4)) (r3 : M 3 3 = -(M 0 3 + M 1 3 + M 2 3 + M 3 4)) (r4 : M 4 4 = -(M 0 4 + M 1 4 + M 2 4 + M 3 4)) : detF M [1, 2, 4] [1, 2, 4] + detF M [2, 3, 4] [2, 3, 4] - detF M [0, 2, 4] [0, 2, 4] = 2 * (detF M [1, 2, 4] [2, 3, 4]) := by
  have h10 := hs 1 0
  have h20 := hs 2 0
  have h21 := hs 2 1
  have h30 := hs 3 0
  have h31 := hs 3 1
  have h32 := hs 3 2
  have h40 := hs 4 0
  have h41 := hs 4 1
  have h42 := hs 4 2
  have h43 := hs 4 3
  clear hs
  simp only [detF, sumTo, sgn, nth, List.length, List.getD_cons_zero, List.getD_cons_succ, List.eraseIdx, h20, h21, h32, h40, h41, h42, h43, r0, r1, r2, r3, r4]
  generalize M 0 1 = x01 at *
  generalize M 0 2 = x02 at *
  generalize M 1 2 = x12 at *
  generalize M 0 3 = x03 at *
  generalize M 1 3 = x13 at *
  generalize M 2 3 = x23 at *
  generalize M 0 4 = x04 at *
  generalize M 1 4 = x14 at *
  generalize M 2 4 = x24 at *
  generalize M 3 4 = x34 at *
  clear h10 h20 h21 h30 h31 h32 h40 h41 h42 h43 r0 r1 r2 r3 r4
  grind

theorem pot_5302 (M : Int → Int → Int) (hs : ∀ a b, M a b = M b a) (r0 : M 0 0 = -(M 0 1 + M 0 2 + M 0 3 + M 0 4)) (r1 : M 1 1 = -(M 0 1 + M 1 2 + M 1 3 + M 1 4)) (r2 : M 2 2 = -(M 0 2 + M 1 2 + M 2 3 + M 2 4)) (r3 : M 3 3 = -(M 0 3 + M 1 3 + M 2 3 + M 3 4)) (r4 : M 4 4 = -(M 0 4 + M 1 4 + M 2 4 + M 3 4)) : detF M [1, 2, 4] [1, 2, 4] + detF M [1, 3, 4] [1, 3, 4] - detF M [0, 1, 4] [0, 1, 4] = 2 * (-detF M [1, 2, 4] [1, 3, 4]) := by
  have h10 := hs 1 0
  have h20 := hs 2 0
  have h21 := hs 2 1
  have h30 := hs 3 0
  have h31 := hs 3 1
  have h32 := hs 3 2
  have h40 := hs 4 0
  have h41 := hs 4 1
  have h42 := hs 4 2
  have h43 := hs 4 3
  clear hs
  simp only [detF, sumTo, sgn, nth, List.length, List.getD_cons_zero, List.getD_cons_succ, List.eraseIdx, h10, h21, h31, h40, h41, h42, h43, r0, r1, r2, r3, r4]
  generalize M 0 1 = x01 at *
  generalize M 0 2 = x02 at *
  generalize M 1 2 = x12 at *
  generalize M 0 3 = x03 at *
  generalize M 1 3 = x13 at *
  generalize M 2 3 = x23 at *
  generalize M 0 4 = x04 at *
  generalize M 1 4 = x14 at *
  generalize M 2 4 = x24 at *
  generalize M 3 4 = x34 at *
  clear h10 h20 h21 h30 h31 h32 h40 h41 h42 h43 r0 r1 r2 r3 r4
  grind

theorem pot_5304 (M : Int → Int → Int) (hs : ∀ a b, M a b = M b a) (r0 : M 0 0 = -(M 0 1 + M 0 2 + M 0 3 + M 0 4)) (r1 : M 1 1 = -(M 0 1 + M 1 2 + M 1 3 + M 1 4)) (r2 : M 2 2 = -(M 0 2 + M 1 2 + M 2 3 + M 2 4)) (r3 : M 3 3 = -(M 0 3 + M 1 3 + M 2 3 + M 3 4)) (r4 : M 4 4 = -(M 0 4 + M 1 4 + M 2 4 + M 3 4)) : detF M [1, 2, 4] [1, 2, 4] + detF M [1, 2, 3] [1, 2, 3] - detF M [0, 1, 2] [0, 1, 2] = 2 * (-detF M [1, 2, 4] [1, 2, 3]) := by
  have h10 := hs 1 0
  have h20 := hs 2 0
  have h21 := hs 2 1
  have h30 := hs 3 0
  have h31 := hs 3 1
  have h32 := hs 3 2
  have h40 := hs 4 0
  have h41 := hs 4 1
  have h42 := hs 4 2
  have h43 := hs 4 3
  clear hs
  simp only [detF, sumTo, sgn, nth, List.length, List.getD_cons_zero, List.getD_cons_succ, List.eraseIdx, h10, h20, h21, h31, h32, h41, h42, h43, r0, r1, r2, r3, r4]
  generalize M 0 1 = x01 at *
  generalize M 0 2 = x02 at *
  generalize M 1 2 = x12 at *
  generalize M 0 3 = x03 at *
  generalize M 1 3 = x13 at *
  generalize M 2 3 = x23 at *
  generalize M 0 4 = x04 at *
  generalize M 1 4 = x14 at *
  generalize M 2 4 = x24 at *
  generalize M 3 4 = x34 at *
  clear h10 h20 h21 h30 h31 h32 h40 h41 h42 h43 r0 r1 r2 r3 r4
  grind

theorem pot_5310 (M : Int → Int → Int) (hs : ∀ a b, M a b = M b a) (r0 : M 0 0 = -(M 0 1 + M 0 2 + M 0 3 + M 0 4)) (r1 : M 1 1 = -(M 0 1 + M 1 2 + M 1 3 + M 1 4)) (r2 : M 2 2 = -(M 0 2 + M 1 2 + M 2 3 + M 2 4)) (r3 : M 3 3 = -(M 0 3 + M 1 3 + M 2 3 + M 3 4)) (r4 : M 4 4 = -(M 0 4 + M 1 4 + M 2 4 + M 3 4)) : detF M [0, 2, 4] [0, 2, 4] + detF M [2, 3, 4] [2, 3, 4] - detF M [1, 2, 4] [1, 2, 4] = 2 * (detF M [0, 2, 4] [2, 3, 4]) := by
  have h10 := hs 1 0
  have h20 := hs 2 0
  have h21 := hs 2 1
  have h30 := hs 3 0
  have h31 := hs 3 1
  have h32 := hs 3 2
  have h40 := hs 4 0
  have h41 := hs 4 1
  have h42 := hs 4 2
  have h43 := hs 4 3
  clear hs
  simp only [detF, sumTo, sgn, nth, List.length, List.getD_cons_zero, List.getD_cons_succ, List.eraseIdx, h20, h21, h32, h40, h41, h42, h43, r0, r1, r2, r3, r4]
  generalize M 0 1 = x01 at *
  generalize M 0 2 = x02 at *
  generalize M 1 2 = x12 at *
  generalize M 0 3 = x03 at *
  generalize M 1 3 = x13 at *
  generalize M 2 3 = x23 at *
  generalize M 0 4 = x04 at *
  generalize M 1 4 = x14 at *
  generalize M 2 4 = x24 at *
  generalize M 3 4 = x34 at *
  clear h10 h20 h21 h30 h31 h32 h40 h41 h42 h43 r0 r1 r2 r3 r4
  grind

theorem pot_5312 (M : Int → Int → Int) (hs : ∀ a b, M a b = M b a) (r0 : M 0 0 = -(M 0 1 + M 0 2 + M 0 3 + M 0 4)) (r1 : M 1 1 = -(M 0 1 + M 1 2 + M 1 3 + M 1 4)) (r2 : M 2 2 = -(M 0 2 + M 1 2 + M 2 3 + M 2 4)) (r3 : M 3 3 = -(M 0 3 + M 1 3 + M 2 3 + M 3 4)) (r4 : M 4 4 = -(M 0 4 + M 1 4 + M 2 4 + M 3 4)) : detF M [0, 2, 4] [0, 2, 4] + detF M [0, 3, 4] [0, 3, 4] - detF M [0, 1, 4] [0, 1, 4] = 2 * (-detF M [0, 2, 4] [0, 3, 4]) := by
  have h10 := hs 1 0
  have h20 := hs 2 0
  have h21 := hs 2 1
  have h30 := hs 3 0
  have h31 := hs 3 1
  have h32 := hs 3 2
  have h40 := hs 4 0
  have h41 := hs 4 1
  have h42 := hs 4 2
  have h43 := hs 4 3
  clear hs
  simp only [detF, sumTo, sgn, nth, List.length, List.getD_cons_zero, List.getD_cons_succ, List.eraseIdx, h10, h20, h30, h40, h41, h42, h43, r0, r1, r2, r3, r4]
  generalize M 0 1 = x01 at *
  generalize M 0 2 = x02 at *
  generalize M 1 2 = x12 at *
  generalize M 0 3 = x03 at *
  generalize M 1 3 = x13 at *
  generalize M 2 3 = x23 at *
  generalize M 0 4 = x04 at *
  generalize M 1 4 = x14 at *
  generalize M 2 4 = x24 at *
  generalize M 3 4 = x34 at *
  clear h10 h20 h21 h30 h31 h32 h40 h41 h42 h43 r0 r1 r2 r3 r4
  grind

theorem pot_5314 (M : Int → Int → Int) (hs : ∀ a b, M a b = M b a) (r0 : M 0 0 = -(M 0 1 + M 0 2 + M 0 3 + M 0 4)) (r1 : M 1 1 = -(M 0 1 + M 1 2 + M 1 3 + M 1 4)) (r2 : M 2 2 = -(M 0 2 + M 1 2 + M 2 3 + M 2 4)) (r3 : M 3 3 = -(M 0 3 + M 1 3 + M 2 3 + M 3 4)) (r4 : M 4 4 = -(M 0 4 + M 1 4 + M 2 4 + M 3 4)) : detF M [0, 2, 4] [0, 2, 4] + detF M [0, 2, 3] [0, 2, 3] - detF M [0, 1, 2] [0, 1, 2] = 2 * (-detF M [0, 2, 4] [0, 2, 3]) := by
  have h10 := hs 1 0
  have h20 := hs 2 0
  have h21 := hs 2 1
  have h30 := hs 3 0
  have h31 := hs 3 1
  have h32 := hs 3 2
  have h40 := hs 4 0
  have h41 := hs 4 1
  have h42 := hs 4 2
  have h43 := hs 4 3
  clear hs
  simp only [detF, sumTo, sgn, nth, List.length, List.getD_cons_zero, List.getD_cons_succ, List.eraseIdx, h10, h20, h21, h30, h32, h40, h42, h43, r0, r1, r2, r3, r4]
  generalize M 0 1 = x01 at *
  generalize M 0 2 = x02 at *
  generalize M 1 2 = x12 at *
  generalize M 0 3 = x03 at *
  generalize M 1 3 = x13 at *
  generalize M 2 3 = x23 at *
  generalize M 0 4 = x04 at *
  generalize M 1 4 = x14 at *
  generalize M 2 4 = x24 at *
  generalize M 3 4 = x34 at *
  clear h10 h20 h21 h30 h31 h32 h40 h41 h42 h43 r0 r1 r2 r3 r4
  grind

theorem pot_5320 (M : Int → Int → Int) (hs : ∀ a b, M a b = M b a) (r0 : M 0 0 = -(M 0 1 + M 0 2 + M 0 3 + M 0 4)) (r1 : M 1 1 = -(M 0 1 + M 1 2 + M 1 3 + M 1 4)) (r2 : M 2 2 = -(M 0 2 + M 1 2 + M 2 3 + M 2 4)) (r3 : M 3 3 = -(M 0 3 + M 1 3 + M 2 3 + M 3 4)) (r4 : M 4 4 = -(M 0 4 + M 1 4 + M 2 4 + M 3 4)) : detF M [0, 1, 4] [0, 1, 4] + detF M [1, 3, 4] [1, 3, 4] - detF M [1, 2, 4] [1, 2, 4] = 2 * (detF M [0, 1, 4] [1, 3, 4]) := by
  have h10 := hs 1 0
  have h20 := hs 2 0
  have h21 := hs 2 1
  have h30 := hs 3 0
  have h31 := hs 3 1
  have h32 := hs 3 2
  have h40 := hs 4 0
  have h41 := hs 4 1
  have h42 := hs 4 2
  have h43 := hs 4 3
  clear hs
  simp only [detF, sumTo, sgn, nth, List.length, List.getD_cons_zero, List.getD_cons_succ, List.eraseIdx, h10, h21, h31, h40, h41, h42, h43, r0, r1, r2, r3, r4]
  generalize M 0 1 = x01 at *
  generalize M 0 2 = x02 at *
  generalize M 1 2 = x12 at *
  generalize M 0 3 = x03 at *
  generalize M 1 3 = x13 at *
  generalize M 2 3 = x23 at *
  generalize M 0 4 = x04 at *
  generalize M 1 4 = x14 at *
  generalize M 2 4 = x24 at *
  generalize M 3 4 = x34 at *
  clear h10 h20 h21 h30 h31 h32 h40 h41 h42 h43 r0 r1 r2 r3 r4
  grind

theorem pot_5321 (M : Int → Int → Int) (hs : ∀ a b, M a b = M b a) (r0 : M 0 0 = -(M 0 1 + M 0 2 + M 0 3 + M 0 4)) (r1 : M 1 1 = -(M 0 1 + M 1 2 + M 1 3 + M 1 4)) (r2 : M 2 2 = -(M 0 2 + M 1 2 + M 2 3 + M 2 4)) (r3 : M 3 3 = -(M 0 3 + M 1 3 + M 2 3 + M 3 4)) (r4 : M 4 4 = -(M 0 4 + M 1 4 + M 2 4 + M 3 4)) : detF M [0, 1, 4] [0, 1, 4] + detF M [0, 3, 4] [0, 3, 4] - detF M [0, 2, 4] [0, 2, 4] = 2 * (-detF M [0, 1, 4] [0, 3, 4]) := by
  have h10 := hs 1 0
  have h20 := hs 2 0
  have h21 := hs 2 1
  have h30 := hs 3 0
  have h31 := hs 3 1
  have h32 := hs 3 2
  have h40 := hs 4 0
  have h41 := hs 4 1
  have h42 := hs 4 2
  have h43 := hs 4 3
  clear hs
  simp only [detF, sumTo, sgn, nth, List.length, List.getD_cons_zero, List.getD_cons_succ, List.eraseIdx, h10, h20, h30, h40, h41, h42, h43, r0, r1, r2, r3, r4]
  generalize M 0 1 = x01 at *
  generalize M 0 2 = x02 at *
  generalize M 1 2 = x12 at *
  generalize M 0 3 = x03 at *
  generalize M 1 3 = x13 at *
  generalize M 2 3 = x23 at *
  generalize M 0 4 = x04 at *
  generalize M 1 4 = x14 at *
  generalize M 2 4 = x24 at *
  generalize M 3 4 = x34 at *
  clear h10 h20 h21 h30 h31 h32 h40 h41 h42 h43 r0 r1 r2 r3 r4
  grind

theorem pot_5324 (M : Int → Int → Int) (hs : ∀ a b, M a b = M b a) (r0 : M 0 0 = -(M 0 1 + M 0 2 + M 0 3 + M 0 4)) (r1 : M 1 1 = -(M 0 1 + M 1 2 + M 1 3 + M 1 4)) (r2 : M 2 2 = -(M 0 2 + M 1 2 + M 2 3 + M 2 4)) (r3 : M 3 3 = -(M 0 3 + M 1 3 + M 2 3 + M 3 4)) (r4 : M 4 4 = -(M 0 4 + M 1 4 + M 2 4 + M 3 4)) : detF M [0, 1, 4] [0, 1, 4] + detF M [0, 1, 3] [0, 1, 3] - detF M [0, 1, 2] [0, 1, 2] = 2 * (-detF M [0, 1, 4] [0, 1, 3]) := by
  have h10 := hs 1 0
  have h20 := hs 2 0
  have h21 := hs 2 1
  have h30 := hs 3 0
  have h31 := hs 3 1
  have h32 := hs 3 2
  have h40 := hs 4 0
  have h41 := hs 4 1
  have h42 := hs 4 2
  have h43 := hs 4 3
  clear hs
  simp only [detF, sumTo, sgn, nth, List.length, List.getD_cons_zero, List.getD_cons_succ, List.eraseIdx, h10, h20, h21, h30, h31, h40, h41, h43, r0, r1, r2, r3, r4]
  generalize M 0 1 = x01 at *
  generalize M 0 2 = x02 at *
  generalize M 1 2 = x12 at *
  generalize M 0 3 = x03 at *
  generalize M 1 3 = x13 at *
  generalize M 2 3 = x23 at *
  generalize M 0 4 = x04 at *
  generalize M 1 4 = x14 at *
  generalize M 2 4 = x24 at *
  generalize M 3 4 = x34 at *
  clear h10 h20 h21 h30 h31 h32 h40 h41 h42 h43 r0 r1 r2 r3 r4
  grind

theorem pot_5340 (M : Int → Int → Int) (hs : ∀ a b, M a b = M b a) (r0 : M 0 0 = -(M 0 1 + M 0 2 + M 0 3 + M 0 4)) (r1 : M 1 1 = -(M 0 1 + M 1 2 + M 1 3 + M 1 4)) (r2 : M 2 2 = -(M 0 2 + M 1 2 + M 2 3 + M 2 4)) (r3 : M 3 3 = -(M 0 3 + M 1 3 + M 2 3 + M 3 4)) (r4 : M 4 4 = -(M 0 4 + M 1 4 + M 2 4 + M 3 4)) : detF M [0, 1, 2] [0, 1, 2] + detF M [1, 2, 3] [1, 2, 3] - detF M [1, 2, 4] [1, 2, 4] = 2 * (-detF M [0, 1, 2] [1, 2, 3]) := by
  have h10 := hs 1 0
  have h20 := hs 2 0
  have h21 := hs 2 1
  have h30 := hs 3 0
  have h31 := hs 3 1
  have h32 := hs 3 2
  have h40 := hs 4 0
  have h41 := hs 4 1
  have h42 := hs 4 2
  have h43 := hs 4 3
  clear hs
  simp only [detF, sumTo, sgn, nth, List.length, List.getD_cons_zero, List.getD_cons_succ, List.eraseIdx, h10, h20, h21, h31, h32, h41, h42, r0, r1, r2, r3, r4]
  generalize M 0 1 = x01 at *
  generalize M 0 2 = x02 at *
  generalize M 1 2 = x12 at *
  generalize M 0 3 = x03 at *
  generalize M 1 3 = x13 at *
  generalize M 2 3 = x23 at *
  generalize M 0 4 = x04 at *
  generalize M 1 4 = x14 at *
  generalize M 2 4 = x24 at *
  generalize M 3 4 = x34 at *
  clear h10 h20 h21 h30 h31 h32 h40 h41 h42 h43 r0 r1 r2 r3 r4
  grind

theorem pot_5341 (M : Int → Int → Int) (hs : ∀ a b, M a b = M b a) (r0 : M 0 0 = -(M 0 1 + M 0 2 + M 0 3 + M 0 4)) (r1 : M 1 1 = -(M 0 1 + M 1 2 + M 1 3 + M 1 4)) (r2 : M 2 2 = -(M 0 2 + M 1 2 + M 2 3 + M 2 4)) (r3 : M 3 3 = -(M 0 3 + M 1 3 + M 2 3 + M 3 4)) (r4 : M 4 4 = -(M 0 4 + M 1 4 + M 2 4 + M 3 4)) : detF M [0, 1, 2] [0, 1, 2] + detF M [0, 2, 3] [0, 2, 3] - detF M [0, 2, 4] [0, 2, 4] = 2 * (detF M [0, 1, 2] [0, 2, 3]) := by
  have h10 := hs 1 0
  have h20 := hs 2 0
  have h21 := hs 2 1
  have h30 := hs 3 0
  have h31 := hs 3 1
  have h32 := hs 3 2
  have h40 := hs 4 0
  have h41 := hs 4 1
  have h42 := hs 4 2
  have h43 := hs 4 3
  clear hs
  simp only [detF, sumTo, sgn, nth, List.length, List.getD_cons_zero, List.getD_cons_succ, List.eraseIdx, h10, h20, h21, h30, h32, h40, h42, r0, r1, r2, r3, r4]
  generalize M 0 1 = x01 at *
  generalize M 0 2 = x02 at *
  generalize M 1 2 = x12 at *
  generalize M 0 3 = x03 at *
  generalize M 1 3 = x13 at *
  generalize M 2 3 = x23 at *
  generalize M 0 4 = x04 at *
  generalize M 1 4 = x14 at *
  generalize M 2 4 = x24 at *
  generalize M 3 4 = x34 at *
  clear h10 h20 h21 h30 h31 h32 h40 h41 h42 h43 r0 r1 r2 r3 r4
  grind

theorem pot_5342 (M : Int → Int → Int) (hs : ∀ a b, M a b = M b a) (r0 : M 0 0 = -(M 0 1 + M 0 2 + M 0 3 + M 0 4)) (r1 : M 1 1 = -(M 0 1 + M 1 2 + M 1 3 + M 1 4)) (r2 : M 2 2 = -(M 0 2 + M 1 2 + M 2 3 + M 2 4)) (r3 : M 3 3 = -(M 0 3 + M 1 3 + M 2 3 + M 3 4)) (r4 : M 4 4 = -(M 0 4 + M 1 4 + M 2 4 + M 3 4)) : detF M [0, 1, 2] [0, 1, 2] + detF M [0, 1, 3] [0, 1, 3] - detF M [0, 1, 4] [0, 1, 4] = 2 * (-detF M [0, 1, 2] [0, 1, 3]) := by
  have h10 := hs 1 0
  have h20 := hs 2 0
  have h21 := hs 2 1
  have h30 := hs 3 0
  have h31 := hs 3 1
  have h32 := hs 3 2
  have h40 := hs 4 0
  have h41 := hs 4 1
  have h42 := hs 4 2
  have h43 := hs 4 3
  clear hs
  simp only [detF, sumTo, sgn, nth, List.length, List.getD_cons_zero, List.getD_cons_succ, List.eraseIdx, h10, h20, h21, h30, h31, h40, h41, r0, r1, r2, r3, r4]
  generalize M 0 1 = x01 at *
  generalize M 0 2 = x02 at *
  generalize M 1 2 = x12 at *
  generalize M 0 3 = x03 at *
  generalize M 1 3 = x13 at *
  generalize M 2 3 = x23 at *
  generalize M 0 4 = x04 at *
  generalize M 1 4 = x14 at *
  generalize M 2 4 = x24 at *
  generalize M 3 4 = x34 at *
  clear h10 h20 h21 h30 h31 h32 h40 h41 h42 h43 r0 r1 r2 r3 r4
  grind

theorem pot_5401 (M : Int → Int → Int) (hs : ∀ a b, M a b = M b a) (r0 : M 0 0 = -(M 0 1 + M 0 2 + M 0 3 + M 0 4)) (r1 : M 1 1 = -(M 0 1 + M 1 2 + M 1 3 + M 1 4)) (r2 : M 2 2 = -(M 0 2 + M 1 2 + M 2 3 + M 2 4)) (r3 : M 3 3 = -(M 0 3 + M 1 3 + M 2 3 + M 3 4)) (r4 : M 4 4 = -(M 0 4 + M 1 4 + M 2 4 + M 3 4)) : detF M [1, 2, 3] [1, 2, 3] + detF M [2, 3, 4] [2, 3, 4] - detF M [0, 2, 3] [0, 2, 3] = 2 * (-detF M [1, 2, 3] [2, 3, 4]) := by
  have h10 := hs 1 0
  have h20 := hs 2 0
  have h21 := hs 2 1
  have h30 := hs 3 0
  have h31 := hs 3 1
  have h32 := hs 3 2
  have h40 := hs 4 0
  have h41 := hs 4 1
  have h42 := hs 4 2
  have h43 := hs 4 3
  clear hs
  simp only [detF, sumTo, sgn, nth, List.length, List.getD_cons_zero, List.getD_cons_succ, List.eraseIdx, h20, h21, h30, h31, h32, h42, h43, r0, r1, r2, r3, r4]
  generalize M 0 1 = x01 at *
  generalize M 0 2 = x02 at *
  generalize M 1 2 = x12 at *
  generalize M 0 3 = x03 at *
  generalize M 1 3 = x13 at *
  generalize M 2 3 = x23 at *
  generalize M 0 4 = x04 at *
  generalize M 1 4 = x14 at *
  generalize M 2 4 = x24 at *
  generalize M 3 4 = x34 at *
  clear h10 h20 h21 h30 h31 h32 h40 h41 h42 h43 r0 r1 r2 r3 r4
  grind

theorem pot_5402 (M : Int → Int → Int) (hs : ∀ a b, M a b = M b a) (r0 : M 0 0 = -(M 0 1 + M 0 2 + M 0 3 + M 0 4)) (r1 : M 1 1 = -(M 0 1 + M 1 2 + M 1 3 + M 1 4)) (r2 : M 2 2 = -(M 0 2 + M 1 2 + M 2 3 + M 2 4)) (r3 : M 3 3 = -(M 0 3 + M 1 3 + M 2 3 + M 3 4)) (r4 : M 4 4 = -(M 0 4 + M 1 4 + M 2 4 + M 3 4)) : detF M [1, 2, 3] [1, 2, 3] + detF M [1, 3, 4] [1, 3, 4] - detF M [0, 1, 3] [0, 1, 3] = 2 * (detF M [1, 2, 3] [1, 3, 4]) := by
  have h10 := hs 1 0
  have h20 := hs 2 0
  have h21 := hs 2 1
  have h30 := hs 3 0
  have h31 := hs 3 1
  have h32 := hs 3 2
  have h40 := hs 4 0
  have h41 := hs 4 1
  have h42 := hs 4 2
  have h43 := hs 4 3
  clear hs
  simp only [detF, sumTo, sgn, nth, List.length, List.getD_cons_zero, List.getD_cons_succ, List.eraseIdx, h10, h21, h30, h31, h32, h41, h43, r0, r1, r2, r3, r4]
  generalize M 0 1 = x01 at *
  generalize M 0 2 = x02 at *
  generalize M 1 2 = x12 at *
  generalize M 0 3 = x03 at *
  generalize M 1 3 = x13 at *
  generalize M 2 3 = x23 at *
  generalize M 0 4 = x04 at *
  generalize M 1 4 = x14 at *
  generalize M 2 4 = x24 at *
  generalize M 3 4 = x34 at *
  clear h10 h20 h21 h30 h31 h32 h40 h41 h42 h43 r0 r1 r2 r3 r4
  grind

theorem pot_5403 (M : Int → Int → Int) (hs : ∀ a b, M a b = M b a) (r0 : M 0 0 = -(M 0 1 + M 0 2 + M 0 3 + M 0 4)) (r1 : M 1 1 = -(M 0 1 + M 1 2 + M 1 3 + M 1 4)) (r2 : M 2 2 = -(M 0 2 + M 1 2 + M 2 3 + M 2 4)) (r3 : M 3 3 = -(M 0 3 + M 1 3 + M 2 3 + M 3 4)) (r4 : M 4 4 = -(M 0 4 + M 1 4 + M 2 4 + M 3 4)) : detF M [1, 2, 3] [1, 2, 3] + detF M [1, 2, 4] [1, 2, 4] - detF M [0, 1, 2] [0, 1, 2] = 2 * (-detF M [1, 2, 3] [1, 2, 4]) := by
  have h10 := hs 1 0
  have h20 := hs 2 0
  have h21 := hs 2 1
  have h30 := hs 3 0
  have h31 := hs 3 1
  have h32 := hs 3 2
  have h40 := hs 4 0
  have h41 := hs 4 1
  have h42 := hs 4 2
  have h43 := hs 4 3
  clear hs
  simp only [detF, sumTo, sgn, nth, List.length, List.getD_cons_zero, List.getD_cons_succ, List.eraseIdx, h10, h20, h21, h31, h32, h41, h42, r0, r1, r2, r3, r4]
  generalize M 0 1 = x01 at *
  generalize M 0 2 = x02 at *
  generalize M 1 2 = x12 at *
  generalize M 0 3 = x03 at *
  generalize M 1 3 = x13 at *
  generalize M 2 3 = x23 at *
  generalize M 0 4 = x04 at *
  generalize M 1 4 = x14 at *
  generalize M 2 4 = x24 at *
  generalize M 3 4 = x34 at *
  clear h10 h20 h21 h30 h31 h32 h40 h41 h42 h43 r0 r1 r2 r3 r4
  grind

theorem pot_5410 (M : Int → Int → Int) (hs : ∀ a b, M a b = M b a) (r0 : M 0 0 = -(M 0 1 + M 0 2 + M 0 3 + M 0 4)) (r1 : M 1 1 = -(M 0 1 + M 1 2 + M 1 3 + M 1 4)) (r2 : M 2 2 = -(M 0 2 + M 1 2 + M 2 3 + M 2 4)) (r3 : M 3 3 = -(M 0 3 + M 1 3 + M 2 3 + M 3 4)) (r4 : M 4 4 = -(M 0 4 + M 1 4 + M 2 4 + M 3 4)) : detF M [0, 2, 3] [0, 2, 3] + detF M [2, 3, 4] [2, 3, 4] - detF M [1, 2, 3] [1, 2, 3] = 2 * (-detF M [0, 2, 3] [2, 3, 4]) := by
  have h10 := hs 1 0
  have h20 := hs 2 0
  have h21 := hs 2 1
  have h30 := hs 3 0
  have h31 := hs 3 1
  have h32 := hs 3 2
  have h40 := hs 4 0
  have h41 := hs 4 1
  have h42 := hs 4 2
  have h43 := hs 4 3
  clear hs
  simp only [detF, sumTo, sgn, nth, List.length, List.getD_cons_zero, List.getD_cons_succ, List.eraseIdx, h20, h21, h30, h31, h32, h42, h43, r0, r1, r2, r3, r4]
  generalize M 0 1 = x01 at *
  generalize M 0 2 = x02 at *
  generalize M 1 2 = x12 at *
  generalize M 0 3 = x03 at *
  generalize M 1 3 = x13 at *
  generalize M 2 3 = x23 at *
  generalize M 0 4 = x04 at *
  generalize M 1 4 = x14 at *
  generalize M 2 4 = x24 at *
  generalize M 3 4 = x34 at *
  clear h10 h20 h21 h30 h31 h32 h40 h41 h42 h43 r0 r1 r2 r3 r4
  grind

theorem pot_5412 (M : Int → Int → Int) (hs : ∀ a b, M a b = M b a) (r0 : M 0 0 = -(M 0 1 + M 0 2 + M 0 3 + M 0 4)) (r1 : M 1 1 = -(M 0 1 + M 1 2 + M 1 3 + M 1 4)) (r2 : M 2 2 = -(M 0 2 + M 1 2 + M 2 3 + M 2 4)) (r3 : M 3 3 = -(M 0 3 + M 1 3 + M 2 3 + M 3 4)) (r4 : M 4 4 = -(M 0 4 + M 1 4 + M 2 4 + M 3 4)) : detF M [0, 2, 3] [0, 2, 3] + detF M [0, 3, 4] [0, 3, 4] - detF M [0, 1, 3] [0, 1, 3] = 2 * (detF M [0, 2, 3] [0, 3, 4]) := by
  have h10 := hs 1 0
  have h20 := hs 2 0
  have h21 := hs 2 1
  have h30 := hs 3 0
  have h31 := hs 3 1
  have h32 := hs 3 2
  have h40 := hs 4 0
  have h41 := hs 4 1
  have h42 := hs 4 2
  have h43 := hs 4 3
  clear hs
  simp only [detF, sumTo, sgn, nth, List.length, List.getD_cons_zero, List.getD_cons_succ, List.eraseIdx, h10, h20, h30, h31, h32, h40, h43, r0, r1, r2, r3, r4]
  generalize M 0 1 = x01 at *
  generalize M 0 2 = x02 at *
  generalize M 1 2 = x12 at *
  generalize M 0 3 = x03 at *
  generalize M 1 3 = x13 at *
  generalize M 2 3 = x23 at *
  generalize M 0 4 = x04 at *
  generalize M 1 4 = x14 at *
  generalize M 2 4 = x24 at *
  generalize M 3 4 = x34 at *
  clear h10 h20 h21 h30 h31 h32 h40 h41 h42 h43 r0 r1 r2 r3 r4
  grind

theorem pot_5413 (M : Int → Int → Int) (hs : ∀ a b, M a b = M b a) (r0 : M 0 0 = -(M 0 1 + M 0 2 + M 0 3 + M 0 4)) (r1 : M 1 1 = -(M 0 1 + M 1 2 + M 1 3 + M 1 4)) (r2 : M 2 2 = -(M 0 2 + M 1 2 + M 2 3 + M 2 4)) (r3 : M 3 3 = -(M 0 3 + M 1 3 + M 2 3 + M 3 4)) (r4 : M 4 4 = -(M 0 4 + M 1 4 + M 2 4 + M 3 4)) : detF M [0, 2, 3] [0, 2, 3] + detF M [0, 2, 4] [0, 2, 4] - detF M [0, 1, 2] [0, 1, 2] = 2 * (-detF M [0, 2, 3] [0, 2, 4]) := by
  have h10 := hs 1 0
  have h20 := hs 2 0
  have h21 := hs 2 1
  have h30 := hs 3 0
  have h31 := hs 3 1
  have h32 := hs 3 2
  have h40 := hs 4 0
  have h41 := hs 4 1
  have h42 := hs 4 2
  have h43 := hs 4 3
  clear hs
  simp only [detF, sumTo, sgn, nth, List.length, List.getD_cons_zero, List.getD_cons_succ, List.eraseIdx, h10, h20, h21, h30, h32, h40, h42, r0, r1, r2, r3, r4]
  generalize M 0 1 = x01 at *
  generalize M 0 2 = x02 at *
  generalize M 1 2 = x12 at *
  generalize M 0 3 = x03 at *
  generalize M 1 3 = x13 at *
  generalize M 2 3 = x23 at *
  generalize M 0 4 = x04 at *
  generalize M 1 4 = x14 at *
  generalize M 2 4 = x24 at *
  generalize M 3 4 = x34 at *
  clear h10 h20 h21 h30 h31 h32 h40 h41 h42 h43 r0 r1 r2 r3 r4
  grind

theorem pot_5420 (M : Int → Int → Int) (hs : ∀ a b, M a b = M b a) (r0 : M 0 0 = -(M 0 1 + M 0 2 + M 0 3 + M 0 4)) (r1 : M 1 1 = -(M 0 1 + M 1 2 + M 1 3 + M 1 4)) (r2 : M 2 2 = -(M 0 2 + M 1 2 + M 2 3 + M 2 4)) (r3 : M 3 3 = -(M 0 3 + M 1 3 + M 2 3 + M 3 4)) (r4 : M 4 4 = -(M 0 4 + M 1 4 + M 2 4 + M 3 4)) : detF M [0, 1, 3] [0, 1, 3] + detF M [1, 3, 4] [1, 3, 4] - detF M [1, 2, 3] [1, 2, 3] = 2 * (-detF M [0, 1, 3] [1, 3, 4]) := by
  have h10 := hs 1 0
  have h20 := hs 2 0
  have h21 := hs 2 1
  have h30 := hs 3 0
  have h31 := hs 3 1
  have h32 := hs 3 2
  have h40 := hs 4 0
  have h41 := hs 4 1
  have h42 := hs 4 2
  have h43 := hs 4 3
  clear hs
  simp only [detF, sumTo, sgn, nth, List.length, List.getD_cons_zero, List.getD_cons_succ, List.eraseIdx, h10, h21, h30, h31, h32, h41, h43, r0, r1, r2, r3, r4]
  generalize M 0 1 = x01 at *
  generalize M 0 2 = x02 at *
  generalize M 1 2 = x12 at *
  generalize M 0 3 = x03 at *
  generalize M 1 3 = x13 at *
  generalize M 2 3 = x23 at *
  generalize M 0 4 = x04 at *
  generalize M 1 4 = x14 at *
  generalize M 2 4 = x24 at *
  generalize M 3 4 = x34 at *
  clear h10 h20 h21 h30 h31 h32 h40 h41 h42 h43 r0 r1 r2 r3 r4
  grind

theorem pot_5421 (M : Int → Int → Int) (hs : ∀ a b, M a b = M b a) (r0 : M 0 0 = -(M 0 1 + M 0 2 + M 0 3 + M 0 4)) (r1 : M 1 1 = -(M 0 1 + M 1 2 + M 1 3 + M 1 4)) (r2 : M 2 2 = -(M 0 2 + M 1 2 + M 2 3 + M 2 4)) (r3 : M 3 3 = -(M 0 3 + M 1 3 + M 2 3 + M 3 4)) (r4 : M 4 4 = -(M 0 4 + M 1 4 + M 2 4 + M 3 4)) : detF M [0, 1, 3] [0, 1, 3] + detF M [0, 3, 4] [0, 3, 4] - detF M [0, 2, 3] [0, 2, 3] = 2 * (detF M [0, 1, 3] [0, 3, 4]) := by
  have h10 := hs 1 0
  have h20 := hs 2 0
  have h21 := hs 2 1
  have h30 := hs 3 0
  have h31 := hs 3 1
  have h32 := hs 3 2
  have h40 := hs 4 0
  have h41 := hs 4 1
  have h42 := hs 4 2
  have h43 := hs 4 3
  clear hs
  simp only [detF, sumTo, sgn, nth, List.length, List.getD_cons_zero, List.getD_cons_succ, List.eraseIdx, h10, h20, h30, h31, h32, h40, h43, r0, r1, r2, r3, r4]
  generalize M 0 1 = x01 at *
  generalize M 0 2 = x02 at *
  generalize M 1 2 = x12 at *
  generalize M 0 3 = x03 at *
  generalize M 1 3 = x13 at *
  generalize M 2 3 = x23 at *
  generalize M 0 4 = x04 at *
  generalize M 1 4 = x14 at *
  generalize M 2 4 = x24 at *
  generalize M 3 4 = x34 at *
  clear h10 h20 h21 h30 h31 h32 h40 h41 h42 h43 r0 r1 r2 r3 r4
  grind

theorem pot_5423 (M : Int → Int → Int) (hs : ∀ a b, M a b = M b a) (r0 : M 0 0 = -(M 0 1 + M 0 2 + M 0 3 + M 0 4)) (r1 : M 1 1 = -(M 0 1 + M 1 2 + M 1 3 + M 1 4)) (r2 : M 2 2 = -(M 0 2 + M 1 2 + M 2 3 + M 2 4)) (r3 : M 3 3 = -(M 0 3 + M 1 3 + M 2 3 + M 3 4)) (r4 : M 4 4 = -(M 0 4 + M 1 4 + M 2 4 + M 3 4)) : detF M [0, 1, 3] [0, 1, 3] + detF M [0, 1, 4] [0, 1, 4] - detF M [0, 1, 2] [0, 1, 2] = 2 * (-detF M [0, 1, 3] [0, 1, 4]) := by
  have h10 := hs 1 0
  have h20 := hs 2 0
  have h21 := hs 2 1
  have h30 := hs 3 0
  have h31 := hs 3 1
  have h32 := hs 3 2
  have h40 := hs 4 0
  have h41 := hs 4 1
  have h42 := hs 4 2
  have h43 := hs 4 3
  clear hs
  simp only [detF, sumTo, sgn, nth, List.length, List.getD_cons_zero, List.getD_cons_succ, List.eraseIdx, h10, h20, h21, h30, h31, h40, h41, r0, r1, r2, r3, r4]
  generalize M 0 1 = x01 at *
  generalize M 0 2 = x02 at *
  generalize M 1 2 = x12 at *
  generalize M 0 3 = x03 at *
  generalize M 1 3 = x13 at *
  generalize M 2 3 = x23 at *
  generalize M 0 4 = x04 at *
  generalize M 1 4 = x14 at *
  generalize M 2 4 = x24 at *
  generalize M 3 4 = x34 at *
  clear h10 h20 h21 h30 h31 h32 h40 h41 h42 h43 r0 r1 r2 r3 r4
  grind

theorem pot_5430 (M : Int → Int → Int) (hs : ∀ a b, M a b = M b a) (r0 : M 0 0 = -(M 0 1 + M 0 2 + M 0 3 + M 0 4)) (r1 : M 1 1 = -(M 0 1 + M 1 2 + M 1 3 + M 1 4)) (r2 : M 2 2 = -(M 0 2 + M 1 2 + M 2 3 + M 2 4)) (r3 : M 3 3 = -(M 0 3 + M 1 3 + M 2 3 + M 3 4)) (r4 : M 4 4 = -(M 0 4 + M 1 4 + M 2 4 + M 3 4)) : detF M [0, 1, 2] [0, 1, 2] + detF M [1, 2, 4] [1, 2, 4] - detF M [1, 2, 3] [1, 2, 3] = 2 * (-detF M [0, 1, 2] [1, 2, 4]) := by
  have h10 := hs 1 0
  have h20 := hs 2 0
  have h21 := hs 2 1
  have h30 := hs 3 0
  have h31 := hs 3 1
  have h32 := hs 3 2
  have h40 := hs 4 0
  have h41 := hs 4 1
  have h42 := hs 4 2
  have h43 := hs 4 3
  clear hs
  simp only [detF, sumTo, sgn, nth, List.length, List.getD_cons_zero, List.getD_cons_succ, List.eraseIdx, h10, h20, h21, h31, h32, h41, h42, r0, r1, r2, r3, r4]
  generalize M 0 1 = x01 at *
  generalize M 0 2 = x02 at *
  generalize M 1 2 = x12 at *
  generalize M 0 3 = x03 at *
  generalize M 1 3 = x13 at *
  generalize M 2 3 = x23 at *
  generalize M 0 4 = x04 at *
  generalize M 1 4 = x14 at *
  generalize M 2 4 = x24 at *
  generalize M 3 4 = x34 at *
  clear h10 h20 h21 h30 h31 h32 h40 h41 h42 h43 r0 r1 r2 r3 r4
  grind

theorem pot_5431 (M : Int → Int → Int) (hs : ∀ a b, M a b = M b a) (r0 : M 0 0 = -(M 0 1 + M 0 2 + M 0 3 + M 0 4)) (r1 : M 1 1 = -(M 0 1 + M 1 2 + M 1 3 + M 1 4)) (r2 : M 2 2 = -(M 0 2 + M 1 2 + M 2 3 + M 2 4)) (r3 : M 3 3 = -(M 0 3 + M 1 3 + M 2 3 + M 3 4)) (r4 : M 4 4 = -(M 0 4 + M 1 4 + M 2 4 + M 3 4)) : detF M [0, 1, 2] [0, 1, 2] + detF M [0, 2, 4] [0, 2, 4] - detF M [0, 2, 3] [0, 2, 3] = 2 * (detF M [0, 1, 2] [0, 2, 4]) := by
  have h10 := hs 1 0
  have h20 := hs 2 0
  have h21 := hs 2 1
  have h30 := hs 3 0
  have h31 := hs 3 1
  have h32 := hs 3 2
  have h40 := hs 4 0
  have h41 := hs 4 1
  have h42 := hs 4 2
  have h43 := hs 4 3
  clear hs
  simp only [detF, sumTo, sgn, nth, List.length, List.getD_cons_zero, List.getD_cons_succ, List.eraseIdx, h10, h20, h21, h30, h32, h40, h42, r0, r1, r2, r3, r4]
  generalize M 0 1 = x01 at *
  generalize M 0 2 = x02 at *
  generalize M 1 2 = x12 at *
  generalize M 0 3 = x03 at *
  generalize M 1 3 = x13 at *
  generalize M 2 3 = x23 at *
  generalize M 0 4 = x04 at *
  generalize M 1 4 = x14 at *
  generalize M 2 4 = x24 at *
  generalize M 3 4 = x34 at *
  clear h10 h20 h21 h30 h31 h32 h40 h41 h42 h43 r0 r1 r2 r3 r4
  grind

theorem pot_5432 (M : Int → Int → Int) (hs : ∀ a b, M a b = M b a) (r0 : M 0 0 = -(M 0 1 + M 0 2 + M 0 3 + M 0 4)) (r1 : M 1 1 = -(M 0 1 + M 1 2 + M 1 3 + M 1 4)) (r2 : M 2 2 = -(M 0 2 + M 1 2 + M 2 3 + M 2 4)) (r3 : M 3 3 = -(M 0 3 + M 1 3 + M 2 3 + M 3 4)) (r4 : M 4 4 = -(M 0 4 + M 1 4 + M 2 4 + M 3 4)) : detF M [0, 1, 2] [0, 1, 2] + detF M [0, 1, 4] [0, 1, 4] - detF M [0, 1, 3] [0, 1, 3] = 2 * (-detF M [0, 1, 2] [0, 1, 4]) := by
  have h10 := hs 1 0
  have h20 := hs 2 0
  have h21 := hs 2 1
  have h30 := hs 3 0
  have h31 := hs 3 1
  have h32 := hs 3 2
  have h40 := hs 4 0
  have h41 := hs 4 1
  have h42 := hs 4 2
  have h43 := hs 4 3
  clear hs
  simp only [detF, sumTo, sgn, nth, List.length, List.getD_cons_zero, List.getD_cons_succ, List.eraseIdx, h10, h20, h21, h30, h31, h40, h41, r0, r1, r2, r3, r4]
  generalize M 0 1 = x01 at *
  generalize M 0 2 = x02 at *
  generalize M 1 2 = x12 at *
  generalize M 0 3 = x03 at *
  generalize M 1 3 = x13 at *
  generalize M 2 3 = x23 at *
  generalize M 0 4 = x04 at *
  generalize M 1 4 = x14 at *
  generalize M 2 4 = x24 at *
  generalize M 3 4 = x34 at *
  clear h10 h20 h21 h30 h31 h32 h40 h41 h42 h43 r0 r1 r2 r3 r4
  grind

theorem pot_n3 {m : Nat} {xs : List Int} (hK : ∀ k, k < m → goodW ((3 : Nat) : Int) xs k) {a b v : Int} (ha : 0 ≤ a ∧ a < 3) (hb : 0 ≤ b ∧ b < 3) (hv : 0 ≤ v ∧ v < 3) (hab : ¬ a = b) (hva : ¬ v = a) (hvb : ¬ v = b) : forT 3 m xs a b + forT 3 m xs v b - forT 3 m xs a v = 2 * potV 3 m xs a b v := by
  have hs := lapZ_symm xs m
  have q0 : 0 + lapZ xs m 0 0 + lapZ xs m 0 1 + lapZ xs m 0 2 = 0 := lap_row (n := 3) (m := m) (xs := xs) (v := 0) hK (by omega) (by decide)
  have q1 : 0 + lapZ xs m 1 0 + lapZ xs m 1 1 + lapZ xs m 1 2 = 0 := lap_row (n := 3) (m := m) (xs := xs) (v := 1) hK (by omega) (by decide)
  have q2 : 0 + lapZ xs m 2 0 + lapZ xs m 2 1 + lapZ xs m 2 2 = 0 := lap_row (n := 3) (m := m) (xs := xs) (v := 2) hK (by omega) (by decide)
  have h10 := hs 1 0
  have h20 := hs 2 0
  have h21 := hs 2 1
  have r0 : lapZ xs m 0 0 = -(lapZ xs m 0 1 + lapZ xs m 0 2) := by omega
  have r1 : lapZ xs m 1 1 = -(lapZ xs m 0 1 + lapZ xs m 1 2) := by omega
  have r2 : lapZ xs m 2 2 = -(lapZ xs m 0 2 + lapZ xs m 1 2) := by omega
  obtain rfl | rfl | rfl : a = 0 ∨ a = 1 ∨ a = 2 := by omega
  · obtain rfl | rfl | rfl : b = 0 ∨ b = 1 ∨ b = 2 := by omega
    · exact absurd rfl hab
    · obtain rfl | rfl | rfl : v = 0 ∨ v = 1 ∨ v = 2 := by omega
      · exact absurd rfl hva
      · exact absurd rfl hvb
      · rw [potV_o (by decide) (by decide)]
        exact pot_3012 (lapZ xs m) hs r0 r1 r2
    · obtain rfl | rfl | rfl : v = 0 ∨ v = 1 ∨ v = 2 := by omega
      · exact absurd rfl hva
      · rw [potV_o (by decide) (by decide)]
        exact pot_3021 (lapZ xs m) hs r0 r1 r2
      · exact absurd rfl hvb
  · obtain rfl | rfl | rfl : b = 0 ∨ b = 1 ∨ b = 2 := by omega
    · obtain rfl | rfl | rfl : v = 0 ∨ v = 1 ∨ v = 2 := by omega
      · exact absurd rfl hvb
      · exact absurd rfl hva
      · rw [potV_o (by decide) (by decide)]
        exact pot_3102 (lapZ xs m) hs r0 r1 r2
    · exact absurd rfl hab
    · obtain rfl | rfl | rfl : v = 0 ∨ v = 1 ∨ v = 2 := by omega
      · rw [potV_o (by decide) (by decide)]
        exact pot_3120 (lapZ xs m) hs r0 r1 r2
      · exact absurd rfl hva
      · exact absurd rfl hvb
  · obtain rfl | rfl | rfl : b = 0 ∨ b = 1 ∨ b = 2 := by omega
    · obtain rfl | rfl | rfl : v = 0 ∨ v = 1 ∨ v = 2 := by omega
      · exact absurd rfl hvb
      · rw [potV_o (by decide) (by decide)]
        exact pot_3201 (lapZ xs m) hs r0 r1 r2
      · exact absurd rfl hva
    · obtain rfl | rfl | rfl : v = 0 ∨ v = 1 ∨ v = 2 := by omega
      · rw [potV_o (by decide) (by decide)]
        exact pot_3210 (lapZ xs m) hs r0 r1 r2
      · exact absurd rfl hvb
      · exact absurd rfl hva
    · exact absurd rfl hab
theorem pot_n4 {m : Nat} {xs : List Int} (hK : ∀ k, k < m → goodW ((4 : Nat) : Int) xs k) {a b v : Int} (ha : 0 ≤ a ∧ a < 4) (hb : 0 ≤ b ∧ b < 4) (hv : 0 ≤ v ∧ v < 4) (hab : ¬ a = b) (hva : ¬ v = a) (hvb : ¬ v = b) : forT 4 m xs a b + forT 4 m xs v b - forT 4 m xs a v = 2 * potV 4 m xs a b v := by
  have hs := lapZ_symm xs m
  have q0 : 0 + lapZ xs m 0 0 + lapZ xs m 0 1 + lapZ xs m 0 2 + lapZ xs m 0 3 = 0 := lap_row (n := 4) (m := m) (xs := xs) (v := 0) hK (by omega) (by decide)
  have q1 : 0 + lapZ xs m 1 0 + lapZ xs m 1 1 + lapZ xs m 1 2 + lapZ xs m 1 3 = 0 := lap_row (n := 4) (m := m) (xs := xs) (v := 1) hK (by omega) (by decide)
  have q2 : 0 + lapZ xs m 2 0 + lapZ xs m 2 1 + lapZ xs m 2 2 + lapZ xs m 2 3 = 0 := lap_row (n := 4) (m := m) (xs := xs) (v := 2) hK (by omega) (by decide)
  have q3 : 0 + lapZ xs m 3 0 + lapZ xs m 3 1 + lapZ xs m 3 2 + lapZ xs m 3 3 = 0 := lap_row (n := 4) (m := m) (xs := xs) (v := 3) hK (by omega) (by decide)
  have h10 := hs 1 0
  have h20 := hs 2 0
  have h21 := hs 2 1
  have h30 := hs 3 0
  have h31 := hs 3 1
  have h32 := hs 3 2
  have r0 : lapZ xs m 0 0 = -(lapZ xs m 0 1 + lapZ xs m 0 2 + lapZ xs m 0 3) := by omega
  have r1 : lapZ xs m 1 1 = -(lapZ xs m 0 1 + lapZ xs m 1 2 + lapZ xs m 1 3) := by omega
  have r2 : lapZ xs m 2 2 = -(lapZ xs m 0 2 + lapZ xs m 1 2 + lapZ xs m 2 3) := by omega
  have r3 : lapZ xs m 3 3 = -(lapZ xs m 0 3 + lapZ xs m 1 3 + lapZ xs m 2 3) := by omega
  obtain rfl | rfl | rfl | rfl : a = 0 ∨ a = 1 ∨ a = 2 ∨ a = 3 := by omega
  · obtain rfl | rfl | rfl | rfl : b = 0 ∨ b = 1 ∨ b = 2 ∨ b = 3 := by omega
    · exact absurd rfl hab
    · obtain rfl | rfl | rfl | rfl : v = 0 ∨ v = 1 ∨ v = 2 ∨ v = 3 := by omega
      · exact absurd rfl hva
      · exact absurd rfl hvb
      · rw [potV_o (by decide) (by decide)]
        exact pot_4012 (lapZ xs m) hs r0 r1 r2 r3
      · rw [potV_e (by decide) (by decide)]
        exact pot_4013 (lapZ xs m) hs r0 r1 r2 r3
    · obtain rfl | rfl | rfl | rfl : v = 0 ∨ v = 1 ∨ v = 2 ∨ v = 3 := by omega
      · exact absurd rfl hva
      · rw [potV_o (by decide) (by decide)]
        exact pot_4021 (lapZ xs m) hs r0 r1 r2 r3
      · exact absurd rfl hvb
      · rw [potV_e (by decide) (by decide)]
        exact pot_4023 (lapZ xs m) hs r0 r1 r2 r3
    · obtain rfl | rfl | rfl | rfl : v = 0 ∨ v = 1 ∨ v = 2 ∨ v = 3 := by omega
      · exact absurd rfl hva
      · rw [potV_o (by decide) (by decide)]
        exact pot_4031 (lapZ xs m) hs r0 r1 r2 r3
      · rw [potV_e (by decide) (by decide)]
        exact pot_4032 (lapZ xs m) hs r0 r1 r2 r3
      · exact absurd rfl hvb
  · obtain rfl | rfl | rfl | rfl : b = 0 ∨ b = 1 ∨ b = 2 ∨ b = 3 := by omega
    · obtain rfl | rfl | rfl | rfl : v = 0 ∨ v = 1 ∨ v = 2 ∨ v = 3 := by omega
      · exact absurd rfl hvb
      · exact absurd rfl hva
      · rw [potV_o (by decide) (by decide)]
        exact pot_4102 (lapZ xs m) hs r0 r1 r2 r3
      · rw [potV_e (by decide) (by decide)]
        exact pot_4103 (lapZ xs m) hs r0 r1 r2 r3
    · exact absurd rfl hab
    · obtain rfl | rfl | rfl | rfl : v = 0 ∨ v = 1 ∨ v = 2 ∨ v = 3 := by omega
      · rw [potV_o (by decide) (by decide)]
        exact pot_4120 (lapZ xs m) hs r0 r1 r2 r3
      · exact absurd rfl hva
      · exact absurd rfl hvb
      · rw [potV_o (by decide) (by decide)]
        exact pot_4123 (lapZ xs m) hs r0 r1 r2 r3
    · obtain rfl | rfl | rfl | rfl : v = 0 ∨ v = 1 ∨ v = 2 ∨ v = 3 := by omega
      · rw [potV_o (by decide) (by decide)]
        exact pot_4130 (lapZ xs m) hs r0 r1 r2 r3
      · exact absurd rfl hva
      · rw [potV_o (by decide) (by decide)]
        exact pot_4132 (lapZ xs m) hs r0 r1 r2 r3
      · exact absurd rfl hvb
  · obtain rfl | rfl | rfl | rfl : b = 0 ∨ b = 1 ∨ b = 2 ∨ b = 3 := by omega
    · obtain rfl | rfl | rfl | rfl : v = 0 ∨ v = 1 ∨ v = 2 ∨ v = 3 := by omega
      · exact absurd rfl hvb
      · rw [potV_o (by decide) (by decide)]
        exact pot_4201 (lapZ xs m) hs r0 r1 r2 r3
      · exact absurd rfl hva
      · rw [potV_o (by decide) (by decide)]
        exact pot_4203 (lapZ xs m) hs r0 r1 r2 r3
    · obtain rfl | rfl | rfl | rfl : v = 0 ∨ v = 1 ∨ v = 2 ∨ v = 3 := by omega
      · rw [potV_o (by decide) (by decide)]
        exact pot_4210 (lapZ xs m) hs r0 r1 r2 r3
      · exact absurd rfl hvb
      · exact absurd rfl hva
      · rw [potV_o (by decide) (by decide)]
        exact pot_4213 (lapZ xs m) hs r0 r1 r2 r3
    · exact absurd rfl hab
    · obtain rfl | rfl | rfl | rfl : v = 0 ∨ v = 1 ∨ v = 2 ∨ v = 3 := by omega
      · rw [potV_e (by decide) (by decide)]
        exact pot_4230 (lapZ xs m) hs r0 r1 r2 r3
      · rw [potV_o (by decide) (by decide)]
        exact pot_4231 (lapZ xs m) hs r0 r1 r2 r3
      · exact absurd rfl hva
      · exact absurd rfl hvb
  · obtain rfl | rfl | rfl | rfl : b = 0 ∨ b = 1 ∨ b = 2 ∨ b = 3 := by omega
    · obtain rfl | rfl | rfl | rfl : v = 0 ∨ v = 1 ∨ v = 2 ∨ v = 3 := by omega
      · exact absurd rfl hvb
      · rw [potV_e (by decide) (by decide)]
        exact pot_4301 (lapZ xs m) hs r0 r1 r2 r3
      · rw [potV_o (by decide) (by decide)]
        exact pot_4302 (lapZ xs m) hs r0 r1 r2 r3
      · exact absurd rfl hva
    · obtain rfl | rfl | rfl | rfl : v = 0 ∨ v = 1 ∨ v = 2 ∨ v = 3 := by omega
      · rw [potV_e (by decide) (by decide)]
        exact pot_4310 (lapZ xs m) hs r0 r1 r2 r3
      · exact absurd rfl hvb
      · rw [potV_o (by decide) (by decide)]
        exact pot_4312 (lapZ xs m) hs r0 r1 r2 r3
      · exact absurd rfl hva
    · obtain rfl | rfl | rfl | rfl : v = 0 ∨ v = 1 ∨ v = 2 ∨ v = 3 := by omega
      · rw [potV_e (by decide) (by decide)]
        exact pot_4320 (lapZ xs m) hs r0 r1 r2 r3
      · rw [potV_o (by decide) (by decide)]
        exact pot_4321 (lapZ xs m) hs r0 r1 r2 r3
      · exact absurd rfl hvb
      · exact absurd rfl hva
    · exact absurd rfl hab
theorem pot_n5 {m : Nat} {xs : List Int} (hK : ∀ k, k < m → goodW ((5 : Nat) : Int) xs k) {a b v : Int} (ha : 0 ≤ a ∧ a < 5) (hb : 0 ≤ b ∧ b < 5) (hv : 0 ≤ v ∧ v < 5) (hab : ¬ a = b) (hva : ¬ v = a) (hvb : ¬ v = b) : forT 5 m xs a b + forT 5 m xs v b - forT 5 m xs a v = 2 * potV 5 m xs a b v := by
  have hs := lapZ_symm xs m
  have q0 : 0 + lapZ xs m 0 0 + lapZ xs m 0 1 + lapZ xs m 0 2 + lapZ xs m 0 3 + lapZ xs m 0 4 = 0 := lap_row (n := 5) (m := m) (xs := xs) (v := 0) hK (by omega) (by decide)
  have q1 : 0 + lapZ xs m 1 0 + lapZ xs m 1 1 + lapZ xs m 1 2 + lapZ xs m 1 3 + lapZ xs m 1 4 = 0 := lap_row (n := 5) (m := m) (xs := xs) (v := 1) hK (by omega) (by decide)
  have q2 : 0 + lapZ xs m 2 0 + lapZ xs m 2 1 + lapZ xs m 2 2 + lapZ xs m 2 3 + lapZ xs m 2 4 = 0 := lap_row (n := 5) (m := m) (xs := xs) (v := 2) hK (by omega) (by decide)
  have q3 : 0 + lapZ xs m 3 0 + lapZ xs m 3 1 + lapZ xs m 3 2 + lapZ xs m 3 3 + lapZ xs m 3 4 = 0 := lap_row (n := 5) (m := m) (xs := xs) (v := 3) hK (by omega) (by decide)
  have q4 : 0 + lapZ xs m 4 0 + lapZ xs m 4 1 + lapZ xs m 4 2 + lapZ xs m 4 3 + lapZ xs m 4 4 = 0 := lap_row (n := 5) (m := m) (xs := xs) (v := 4) hK (by omega) (by decide)
  have h10 := hs 1 0
  have h20 := hs 2 0
  have h21 := hs 2 1
  have h30 := hs 3 0
  have h31 := hs 3 1
  have h32 := hs 3 2
  have h40 := hs 4 0
  have h41 := hs 4 1
  have h42 := hs 4 2
  have h43 := hs 4 3
  have r0 : lapZ xs m 0 0 = -(lapZ xs m 0 1 + lapZ xs m 0 2 + lapZ xs m 0 3 + lapZ xs m 0 4) := by omega
  have r1 : lapZ xs m 1 1 = -(lapZ xs m 0 1 + lapZ xs m 1 2 + lapZ xs m 1 3 + lapZ xs m 1 4) := by omega
  have r2 : lapZ xs m 2 2 = -(lapZ xs m 0 2 + lapZ xs m 1 2 + lapZ xs m 2 3 + lapZ xs m 2 4) := by omega
  have r3 : lapZ xs m 3 3 = -(lapZ xs m 0 3 + lapZ xs m 1 3 + lapZ xs m 2 3 + lapZ xs m 3 4) := by omega
  have r4 : lapZ xs m 4 4 = -(lapZ xs m 0 4 + lapZ xs m 1 4 + lapZ xs m 2 4 + lapZ xs m 3 4) := by omega
  obtain rfl | rfl | rfl | rfl | rfl : a = 0 ∨ a = 1 ∨ a = 2 ∨ a = 3 ∨ a = 4 := by omega
  · obtain rfl | rfl | rfl | rfl | rfl : b = 0 ∨ b = 1 ∨ b = 2 ∨ b = 3 ∨ b = 4 := by omega
    · exact absurd rfl hab
    · obtain rfl | rfl | rfl | rfl | rfl : v = 0 ∨ v = 1 ∨ v = 2 ∨ v = 3 ∨ v = 4 := by omega
      · exact absurd rfl hva
      · exact absurd rfl hvb
      · rw [potV_o (by decide) (by decide)]
        exact pot_5012 (lapZ xs m) hs r0 r1 r2 r3 r4
      · rw [potV_e (by decide) (by decide)]
        exact pot_5013 (lapZ xs m) hs r0 r1 r2 r3 r4
      · rw [potV_o (by decide) (by decide)]
        exact pot_5014 (lapZ xs m) hs r0 r1 r2 r3 r4
    · obtain rfl | rfl | rfl | rfl | rfl : v = 0 ∨ v = 1 ∨ v = 2 ∨ v = 3 ∨ v = 4 := by omega
      · exact absurd rfl hva
      · rw [potV_o (by decide) (by decide)]
        exact pot_5021 (lapZ xs m) hs r0 r1 r2 r3 r4
      · exact absurd rfl hvb
      · rw [potV_e (by decide) (by decide)]
        exact pot_5023 (lapZ xs m) hs r0 r1 r2 r3 r4
      · rw [potV_o (by decide) (by decide)]
        exact pot_5024 (lapZ xs m) hs r0 r1 r2 r3 r4
    · obtain rfl | rfl | rfl | rfl | rfl : v = 0 ∨ v = 1 ∨ v = 2 ∨ v = 3 ∨ v = 4 := by omega
      · exact absurd rfl hva
      · rw [potV_o (by decide) (by decide)]
        exact pot_5031 (lapZ xs m) hs r0 r1 r2 r3 r4
      · rw [potV_e (by decide) (by decide)]
        exact pot_5032 (lapZ xs m) hs r0 r1 r2 r3 r4
      · exact absurd rfl hvb
      · rw [potV_o (by decide) (by decide)]
        exact pot_5034 (lapZ xs m) hs r0 r1 r2 r3 r4
    · obtain rfl | rfl | rfl | rfl | rfl : v = 0 ∨ v = 1 ∨ v = 2 ∨ v = 3 ∨ v = 4 := by omega
      · exact absurd rfl hva
      · rw [potV_o (by decide) (by decide)]
        exact pot_5041 (lapZ xs m) hs r0 r1 r2 r3 r4
      · rw [potV_e (by decide) (by decide)]
        exact pot_5042 (lapZ xs m) hs r0 r1 r2 r3 r4
      · rw [potV_o (by decide) (by decide)]
        exact pot_5043 (lapZ xs m) hs r0 r1 r2 r3 r4
      · exact absurd rfl hvb
  · obtain rfl | rfl | rfl | rfl | rfl : b = 0 ∨ b = 1 ∨ b = 2 ∨ b = 3 ∨ b = 4 := by omega
    · obtain rfl | rfl | rfl | rfl | rfl : v = 0 ∨ v = 1 ∨ v = 2 ∨ v = 3 ∨ v = 4 := by omega
      · exact absurd rfl hvb
      · exact absurd rfl hva
      · rw [potV_o (by decide) (by decide)]
        exact pot_5102 (lapZ xs m) hs r0 r1 r2 r3 r4
      · rw [potV_e (by decide) (by decide)]
        exact pot_5103 (lapZ xs m) hs r0 r1 r2 r3 r4
      · rw [potV_o (by decide) (by decide)]
        exact pot_5104 (lapZ xs m) hs r0 r1 r2 r3 r4
    · exact absurd rfl hab
    · obtain rfl | rfl | rfl | rfl | rfl : v = 0 ∨ v = 1 ∨ v = 2 ∨ v = 3 ∨ v = 4 := by omega
      · rw [potV_o (by decide) (by decide)]
        exact pot_5120 (lapZ xs m) hs r0 r1 r2 r3 r4
      · exact absurd rfl hva
      · exact absurd rfl hvb
      · rw [potV_o (by decide) (by decide)]
        exact pot_5123 (lapZ xs m) hs r0 r1 r2 r3 r4
      · rw [potV_e (by decide) (by decide)]
        exact pot_5124 (lapZ xs m) hs r0 r1 r2 r3 r4
    · obtain rfl | rfl | rfl | rfl | rfl : v = 0 ∨ v = 1 ∨ v = 2 ∨ v = 3 ∨ v = 4 := by omega
      · rw [potV_o (by decide) (by decide)]
        exact pot_5130 (lapZ xs m) hs r0 r1 r2 r3 r4
      · exact absurd rfl hva
      · rw [potV_o (by decide) (by decide)]
        exact pot_5132 (lapZ xs m) hs r0 r1 r2 r3 r4
      · exact absurd rfl hvb
      · rw [potV_e (by decide) (by decide)]
        exact pot_5134 (lapZ xs m) hs r0 r1 r2 r3 r4
    · obtain rfl | rfl | rfl | rfl | rfl : v = 0 ∨ v = 1 ∨ v = 2 ∨ v = 3 ∨ v = 4 := by omega
      · rw [potV_o (by decide) (by decide)]
        exact pot_5140 (lapZ xs m) hs r0 r1 r2 r3 r4
      · exact absurd rfl hva
      · rw [potV_o (by decide) (by decide)]
        exact pot_5142 (lapZ xs m) hs r0 r1 r2 r3 r4
      · rw [potV_e (by decide) (by decide)]
        exact pot_5143 (lapZ xs m) hs r0 r1 r2 r3 r4
      · exact absurd rfl hvb
  · obtain rfl | rfl | rfl | rfl | rfl : b = 0 ∨ b = 1 ∨ b = 2 ∨ b = 3 ∨ b = 4 := by omega
    · obtain rfl | rfl | rfl | rfl | rfl : v = 0 ∨ v = 1 ∨ v = 2 ∨ v = 3 ∨ v = 4 := by omega
      · exact absurd rfl hvb
      · rw [potV_o (by decide) (by decide)]
        exact pot_5201 (lapZ xs m) hs r0 r1 r2 r3 r4
      · exact absurd rfl hva
      · rw [potV_o (by decide) (by decide)]
        exact pot_5203 (lapZ xs m) hs r0 r1 r2 r3 r4
      · rw [potV_e (by decide) (by decide)]
        exact pot_5204 (lapZ xs m) hs r0 r1 r2 r3 r4
    · obtain rfl | rfl | rfl | rfl | rfl : v = 0 ∨ v = 1 ∨ v = 2 ∨ v = 3 ∨ v = 4 := by omega
      · rw [potV_o (by decide) (by decide)]
        exact pot_5210 (lapZ xs m) hs r0 r1 r2 r3 r4
      · exact absurd rfl hvb
      · exact absurd rfl hva
      · rw [potV_o (by decide) (by decide)]
        exact pot_5213 (lapZ xs m) hs r0 r1 r2 r3 r4
      · rw [potV_e (by decide) (by decide)]
        exact pot_5214 (lapZ xs m) hs r0 r1 r2 r3 r4
    · exact absurd rfl hab
    · obtain rfl | rfl | rfl | rfl | rfl : v = 0 ∨ v = 1 ∨ v = 2 ∨ v = 3 ∨ v = 4 := by omega
      · rw [potV_e (by decide) (by decide)]
        exact pot_5230 (lapZ xs m) hs r0 r1 r2 r3 r4
      · rw [potV_o (by decide) (by decide)]
        exact pot_5231 (lapZ xs m) hs r0 r1 r2 r3 r4
      · exact absurd rfl hva
      · exact absurd rfl hvb
      · rw [potV_o (by decide) (by decide)]
        exact pot_5234 (lapZ xs m) hs r0 r1 r2 r3 r4
    · obtain rfl | rfl | rfl | rfl | rfl : v = 0 ∨ v = 1 ∨ v = 2 ∨ v = 3 ∨ v = 4 := by omega
      · rw [potV_e (by decide) (by decide)]
        exact pot_5240 (lapZ xs m) hs r0 r1 r2 r3 r4
      · rw [potV_o (by decide) (by decide)]
        exact pot_5241 (lapZ xs m) hs r0 r1 r2 r3 r4
      · exact absurd rfl hva
      · rw [potV_o (by decide) (by decide)]
        exact pot_5243 (lapZ xs m) hs r0 r1 r2 r3 r4
      · exact absurd rfl hvb
  · obtain rfl | rfl | rfl | rfl | rfl : b = 0 ∨ b = 1 ∨ b = 2 ∨ b = 3 ∨ b = 4 := by omega
    · obtain rfl | rfl | rfl | rfl | rfl : v = 0 ∨ v = 1 ∨ v = 2 ∨ v = 3 ∨ v = 4 := by omega
      · exact absurd rfl hvb
      · rw [potV_e (by decide) (by decide)]
        exact pot_5301 (lapZ xs m) hs r0 r1 r2 r3 r4
      · rw [potV_o (by decide) (by decide)]
        exact pot_5302 (lapZ xs m) hs r0 r1 r2 r3 r4
      · exact absurd rfl hva
      · rw [potV_o (by decide) (by decide)]
        exact pot_5304 (lapZ xs m) hs r0 r1 r2 r3 r4
    · obtain rfl | rfl | rfl | rfl | rfl : v = 0 ∨ v = 1 ∨ v = 2 ∨ v = 3 ∨ v = 4 := by omega
      · rw [potV_e (by decide) (by decide)]
        exact pot_5310 (lapZ xs m) hs r0 r1 r2 r3 r4
      · exact absurd rfl hvb
      · rw [potV_o (by decide) (by decide)]
        exact pot_5312 (lapZ xs m) hs r0 r1 r2 r3 r4
      · exact absurd rfl hva
      · rw [potV_o (by decide) (by decide)]
        exact pot_5314 (lapZ xs m) hs r0 r1 r2 r3 r4
    · obtain rfl | rfl | rfl | rfl | rfl : v = 0 ∨ v = 1 ∨ v = 2 ∨ v = 3 ∨ v = 4 := by omega
      · rw [potV_e (by decide) (by decide)]
        exact pot_5320 (lapZ xs m) hs r0 r1 r2 r3 r4
      · rw [potV_o (by decide) (by decide)]
        exact pot_5321 (lapZ xs m) hs r0 r1 r2 r3 r4
      · exact absurd rfl hvb
      · exact absurd rfl hva
      · rw [potV_o (by decide) (by decide)]
        exact pot_5324 (lapZ xs m) hs r0 r1 r2 r3 r4
    · exact absurd rfl hab
    · obtain rfl | rfl | rfl | rfl | rfl : v = 0 ∨ v = 1 ∨ v = 2 ∨ v = 3 ∨ v = 4 := by omega
      · rw [potV_o (by decide) (by decide)]
        exact pot_5340 (lapZ xs m) hs r0 r1 r2 r3 r4
      · rw [potV_e (by decide) (by decide)]
        exact pot_5341 (lapZ xs m) hs r0 r1 r2 r3 r4
      · rw [potV_o (by decide) (by decide)]
        exact pot_5342 (lapZ xs m) hs r0 r1 r2 r3 r4
      · exact absurd rfl hva
      · exact absurd rfl hvb
  · obtain rfl | rfl | rfl | rfl | rfl : b = 0 ∨ b = 1 ∨ b = 2 ∨ b = 3 ∨ b = 4 := by omega
    · obtain rfl | rfl | rfl | rfl | rfl : v = 0 ∨ v = 1 ∨ v = 2 ∨ v = 3 ∨ v = 4 := by omega
      · exact absurd rfl hvb
      · rw [potV_o (by decide) (by decide)]
        exact pot_5401 (lapZ xs m) hs r0 r1 r2 r3 r4
      · rw [potV_e (by decide) (by decide)]
        exact pot_5402 (lapZ xs m) hs r0 r1 r2 r3 r4
      · rw [potV_o (by decide) (by decide)]
        exact pot_5403 (lapZ xs m) hs r0 r1 r2 r3 r4
      · exact absurd rfl hva
    · obtain rfl | rfl | rfl | rfl | rfl : v = 0 ∨ v = 1 ∨ v = 2 ∨ v = 3 ∨ v = 4 := by omega
      · rw [potV_o (by decide) (by decide)]
        exact pot_5410 (lapZ xs m) hs r0 r1 r2 r3 r4
      · exact absurd rfl hvb
      · rw [potV_e (by decide) (by decide)]
        exact pot_5412 (lapZ xs m) hs r0 r1 r2 r3 r4
      · rw [potV_o (by decide) (by decide)]
        exact pot_5413 (lapZ xs m) hs r0 r1 r2 r3 r4
      · exact absurd rfl hva
    · obtain rfl | rfl | rfl | rfl | rfl : v = 0 ∨ v = 1 ∨ v = 2 ∨ v = 3 ∨ v = 4 := by omega
      · rw [potV_o (by decide) (by decide)]
        exact pot_5420 (lapZ xs m) hs r0 r1 r2 r3 r4
      · rw [potV_e (by decide) (by decide)]
        exact pot_5421 (lapZ xs m) hs r0 r1 r2 r3 r4
      · exact absurd rfl hvb
      · rw [potV_o (by decide) (by decide)]
        exact pot_5423 (lapZ xs m) hs r0 r1 r2 r3 r4
      · exact absurd rfl hva
    · obtain rfl | rfl | rfl | rfl | rfl : v = 0 ∨ v = 1 ∨ v = 2 ∨ v = 3 ∨ v = 4 := by omega
      · rw [potV_o (by decide) (by decide)]
        exact pot_5430 (lapZ xs m) hs r0 r1 r2 r3 r4
      · rw [potV_e (by decide) (by decide)]
        exact pot_5431 (lapZ xs m) hs r0 r1 r2 r3 r4
      · rw [potV_o (by decide) (by decide)]
        exact pot_5432 (lapZ xs m) hs r0 r1 r2 r3 r4
      · exact absurd rfl hvb
      · exact absurd rfl hva
    · exact absurd rfl hab
theorem pot_id {n m : Nat} {xs : List Int} (hn : n ≤ 5) (hK : ∀ k, k < m → goodW n xs k) {a b v : Int} (ha : 0 ≤ a ∧ a < n) (hb : 0 ≤ b ∧ b < n) (hv : 0 ≤ v ∧ v < n) (hab : ¬ a = b) : forZ n m xs a b + forZ n m xs v b - forZ n m xs a v = 2 * potV n m xs a b v := by
  by_cases hvb : v = b
  · rw [potV_0 hvb, hvb]
    have : forZ n m xs b b = 0 := if_pos rfl
    omega
  by_cases hva : v = a
  · subst hva
    have e0 : forZ n m xs v v = 0 := if_pos rfl
    have e1 : forZ n m xs v b = forT n m xs v b := if_neg hab
    rw [potV_e hvb (by omega), e0, e1]
    unfold minorV
    rw [without_mm]
    unfold forT minorV
    omega
  have f1 : forZ n m xs a b = forT n m xs a b := if_neg hab
  have f2 : forZ n m xs v b = forT n m xs v b := if_neg hvb
  have f3 : forZ n m xs a v = forT n m xs a v := if_neg (fun h => hva h.symm)
  rw [f1, f2, f3]
  obtain rfl | rfl | rfl : n = 3 ∨ n = 4 ∨ n = 5 := by omega
  · exact pot_n3 hK ha hb hv hab hva hvb
  · exact pot_n4 hK ha hb hv hab hva hvb
  · exact pot_n5 hK ha hb hv hab hva hvb
theorem forZ_V {N E S : Int} {n m : Nat} {xs : List Int} {a b : Int} (hN : N = n) (h : netB N E S m xs = true) (ha : 0 ≤ a ∧ a < N) (hb : 0 ≤ b ∧ b < N) : forV N E S m xs a b = forZ n m xs a b := by
  subst hN
  unfold forZ
  by_cases e : a = b
  · rw [if_pos e, forV_f (fun h => h.2.2.2 e)]
  · rw [if_neg e, forV_t h ha hb e]; rfl
end Go.Proofs.Ytenfkpdbfmeebaa

namespace Go.Proofs.Ytenfkpdbfmeebaa

/-- Decimal digits by fuel. -/
def fmtF : Nat → Nat → List UInt8
  | 0, n => [(48 + n % 10).toUInt8]
  | f + 1, n => if n < 10 then [(48 + n).toUInt8] else fmtF f (n / 10) ++ [(48 + n % 10).toUInt8]

/-- The decimal digits of a number below 10^20. -/
def fmtNat (n : Nat) : List UInt8 := fmtF 20 n

/-- FormatInt. -/
def fmtInt (n : Int) : List UInt8 := if n < 0 then 45 :: fmtNat n.natAbs else fmtNat n.natAbs

/-- A list of bytes as a string's bytes. -/
def bstr (l : List UInt8) : ByteArray := ⟨l.toArray⟩

theorem bstr_append (a b : List UInt8) : bstr a ++ bstr b = bstr (a ++ b) := by
  apply ByteArray.ext
  simp [bstr]

theorem bstr_size (a : List UInt8) : (bstr a).size = a.length := by
  simp [bstr, ByteArray.size]

theorem bstr_toList (s : ByteArray) : bstr s.data.toList = s := by
  apply ByteArray.ext
  simp [bstr]

theorem bstr_data (a : List UInt8) : (bstr a).data.toList = a := by simp [bstr]

theorem bstr_inj {a b : List UInt8} (h : bstr a = bstr b) : a = b := by
  have := congrArg (fun s => s.data.toList) h
  simpa [bstr] using this

theorem fmtF_fuel : ∀ (f g n : Nat), n < 10 ^ (f + 1) → f ≤ g → fmtF g n = fmtF f n := by
  intro f
  induction f with
  | zero =>
    intro g n hn hg
    simp at hn
    cases g with
    | zero => rfl
    | succ g => simp [fmtF, hn, Nat.mod_eq_of_lt hn]
  | succ f ih =>
    intro g n hn hg
    cases g with
    | zero => omega
    | succ g =>
      simp only [fmtF]
      split
      · rfl
      · rw [ih g (n / 10) (by rw [Nat.div_lt_iff_lt_mul (by omega)]; rw [Nat.pow_succ] at hn; exact hn) (by omega)]

theorem fmtNat_small (n : Nat) (h : n < 10) : fmtNat n = [(48 + n).toUInt8] := by simp [fmtNat, fmtF, h]

theorem fmtNat_step (n : Nat) (h : 10 ≤ n) (hb : n < 10 ^ 20) : fmtNat n = fmtNat (n / 10) ++ [(48 + n % 10).toUInt8] := by
  show fmtF 20 n = fmtF 20 (n / 10) ++ _
  rw [fmtF_fuel 19 20 (n / 10) (by omega) (by omega)]
  simp [fmtF, show ¬ n < 10 by omega]

theorem fmtF_length : ∀ f n, (fmtF f n).length ≤ f + 1 := by
  intro f
  induction f with
  | zero => intro n; simp [fmtF]
  | succ f ih =>
    intro n
    simp only [fmtF]
    split
    · simp
    · have := ih (n / 10); simp; omega

theorem fmtF_pos : ∀ f n, 0 < (fmtF f n).length := by
  intro f n
  cases f with
  | zero => simp [fmtF]
  | succ f => simp only [fmtF]; split <;> simp

theorem fmtInt_length (n : Int) : (fmtInt n).length ≤ 22 := by
  unfold fmtInt fmtNat
  have := fmtF_length 20 n.natAbs
  split <;> simp <;> omega

theorem fmtInt_pos (n : Int) : 0 < (fmtInt n).length := by
  unfold fmtInt fmtNat
  have := fmtF_pos 20 n.natAbs
  split <;> simp; omega

/-- The two ways in which the program comes to the digits of a negative number. -/
theorem fmtInt_neg_step (n : Int) (h : n ≤ -10) (hb : -9223372036854775808 ≤ n) : fmtInt n = fmtInt (n.tdiv 10) ++ fmtInt (-(n.tmod 10)) := by
  have e1 : (n.tdiv 10).natAbs = n.natAbs / 10 := Int.natAbs_tdiv n 10
  have e2 : (-(n.tmod 10)).natAbs = n.natAbs % 10 := by rw [Int.natAbs_neg]; exact Int.natAbs_tmod n 10
  obtain ⟨m, rfl⟩ : ∃ m : Int, n = -m := ⟨-n, by omega⟩
  have d1 : (-m).tdiv 10 = -(m / 10) := by rw [Int.neg_tdiv, Int.tdiv_eq_ediv_of_nonneg (by omega)]
  have d2 : (-m).tmod 10 = -(m % 10) := by rw [Int.neg_tmod, Int.tmod_eq_emod_of_nonneg (by omega)]
  have h1 : -m < 0 := by omega
  have h2 : (-m).tdiv 10 < 0 := by omega
  have h3 : ¬ (-((-m).tmod 10) < 0) := by omega
  unfold fmtInt
  rw [if_pos h1, if_pos h2, if_neg h3, e1, e2, fmtNat_step (-m).natAbs (by omega) (by omega), fmtNat_small ((-m).natAbs % 10) (by omega)]
  rfl

theorem fmtInt_pos_step (n : Int) (h : 10 ≤ n) (hb : n ≤ 9223372036854775807) : fmtInt n = fmtInt (n / 10) ++ fmtInt (n % 10) := by
  have e1 : (n / 10).natAbs = n.natAbs / 10 := by omega
  have e2 : (n % 10).natAbs = n.natAbs % 10 := by omega
  unfold fmtInt
  rw [if_neg (by omega), if_neg (by omega), if_neg (by omega), e1, e2, fmtNat_step n.natAbs (by omega) (by omega), fmtNat_small (n.natAbs % 10) (by omega)]

theorem fmtInt_neg_one (n : Int) (h : n < 0) : fmtInt n = 45 :: fmtInt (-n) := by
  unfold fmtInt
  rw [if_pos h, if_neg (by omega)]
  congr 2
  omega

theorem fmtInt_digit (n : Int) (h0 : 0 ≤ n) (h : n < 10) : fmtInt n = [(48 + n.toNat).toUInt8] := by
  unfold fmtInt
  rw [if_neg (by omega), fmtNat_small _ (by omega)]
  congr 2
  omega

end Go.Proofs.Ytenfkpdbfmeebaa

namespace Go.Proofs.Ytenfkpdbfmeebaa

open Go.RowKit

theorem ten_cases (n : Int) (h0 : 0 ≤ n) (h : n < 10) : n = 0 ∨ n = 1 ∨ n = 2 ∨ n = 3 ∨ n = 4 ∨ n = 5 ∨ n = 6 ∨ n = 7 ∨ n = 8 ∨ n = 9 := by omega

theorem enc_digit (n : Int) (h0 : 0 ≤ n) (h : n < 10) : Utf8.encode (48 + n) = bstr (fmtInt n) := by
  rcases ten_cases n h0 h with rfl | rfl | rfl | rfl | rfl | rfl | rfl | rfl | rfl | rfl <;> decide

theorem minus_digit (n : Int) (h : n < 0) : (⟨#[45]⟩ : ByteArray) ++ bstr (fmtInt (-n)) = bstr (fmtInt n) := by
  rw [fmtInt_neg_one n h]
  exact bstr_append [45] _

theorem tdiv_bd (n : Int) (h : n ≤ -10) (hb : -9223372036854775808 ≤ n) : n < n.tdiv 10 ∧ n.tdiv 10 ≤ -1 ∧ -9 ≤ n.tmod 10 ∧ n.tmod 10 ≤ 0 := by
  obtain ⟨m, rfl⟩ : ∃ m : Int, n = -m := ⟨-n, by omega⟩
  rw [Int.neg_tdiv, Int.tdiv_eq_ediv_of_nonneg (by omega), Int.neg_tmod, Int.tmod_eq_emod_of_nonneg (by omega)]
  omega

theorem sub_digit (n : Int) (h0 : -9 ≤ n) (h : n ≤ 0) : IntKind.u8.wrap (48 - n) = 48 - n := by
  have : n = 0 ∨ n = -1 ∨ n = -2 ∨ n = -3 ∨ n = -4 ∨ n = -5 ∨ n = -6 ∨ n = -7 ∨ n = -8 ∨ n = -9 := by omega
  rcases this with rfl | rfl | rfl | rfl | rfl | rfl | rfl | rfl | rfl | rfl <;> decide

/-- A slice of one byte as a string. -/
theorem conv1 {P : Program} (w : World) (src dst e : TypeId) (a : Addr) (m : Int)
    (hs : P.underlying src = some (.slice e)) (he : P.underlying e = some (.int .u8)) (hd : P.underlying dst = some .string)
    (hc : w.cell? a = some (.int .u8 m)) : (convert src dst (.slice (some a) 1 1)).run P w = .ok (.string (bstr [UInt8.ofNat m.toNat])) w := by
  rw [run_convert_bytes_string w src dst e _ _ _ hs he hd, run_bytesToString w a 1 1 [m] ?_]
  · rfl
  · simp [loadCells, loadCellsFrom, hc, go_sem]

theorem one_digit (n : Int) (h0 : -9 ≤ n) (h : n ≤ 0) : [UInt8.ofNat (48 - n).toNat] = fmtInt (-n) := by
  have : n = 0 ∨ n = -1 ∨ n = -2 ∨ n = -3 ∨ n = -4 ∨ n = -5 ∨ n = -6 ∨ n = -7 ∨ n = -8 ∨ n = -9 := by omega
  rcases this with rfl | rfl | rfl | rfl | rfl | rfl | rfl | rfl | rfl | rfl <;> decide

/-- The digits that are still to be written, ahead of those that are. -/
theorem fmt_step_pos (n : Int) (h0 : 9 < n) (h : n ≤ 9223372036854775807) (t : List UInt8) : fmtInt (n / 10) ++ ([UInt8.ofNat (48 + n % 10).toNat] ++ t) = fmtInt n ++ t := by
  rw [fmtInt_pos_step n (by omega) h, fmtInt_digit (n % 10) (by omega) (by omega), ← List.append_assoc]
  congr 3
  show UInt8.ofNat _ = UInt8.ofNat _
  congr 1
  omega

theorem add_digit (n : Int) (h0 : 0 ≤ n) (h : n < 10) : IntKind.u8.wrap (48 + n) = 48 + n := by
  rcases ten_cases n h0 h with rfl | rfl | rfl | rfl | rfl | rfl | rfl | rfl | rfl | rfl <;> decide

theorem left_len {n k : Int} {t : List UInt8} (H : Hid (fmtInt n = fmtInt k ++ t)) : t.length ≤ 22 := by
  have := congrArg List.length H.out
  have := fmtInt_length n
  simp at *
  omega

theorem last_digit (k : Int) (k0 : 0 ≤ k) (h9 : ¬ 9 < k) : [UInt8.ofNat (48 + k).toNat] = fmtInt k := by
  rcases ten_cases k k0 (by omega) with rfl | rfl | rfl | rfl | rfl | rfl | rfl | rfl | rfl | rfl <;> decide

end Go.Proofs.Ytenfkpdbfmeebaa
