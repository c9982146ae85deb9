/- Plain law: the response of a network by minors; entries of the Laplacian. No program in sight. -/
import Derived.Test.YtahicfpnmjofhaaPlPot
import Derived.Test.YtahicfpnmjofhaaPlDet5
import Derived.Test.YtahicfpnmjofhaaWMatO
import Derived.Test.YtahicfpnmjofhaaWRatio
import Derived.Test.YtahicfpnmjofhaaWFormatRow
namespace Go.Proofs.Ytahicfpnmjofhaa

open Go.RowKit

theorem sum_le {n : Nat} {xs : List Int} {m : Nat} (h : ∀ k, k < m → goodW n xs k) {v : Int} (h0 : 0 ≤ v) : ∀ k : Nat, 0 ≤ sumTo (fun (u : Nat) => wbet xs m v u) k ∧ sumTo (fun (u : Nat) => wbet xs m v u) k ≤ 200 * (k : Int) - (if v < k then 200 else 0)
  | 0 => by simp only [sumTo]; rw [if_neg (by omega)]; decide
  | k + 1 => by
    have ih := sum_le h h0 k
    have hb := wbet_bd h v (k : Int)
    simp only [sumTo]
    by_cases e : v = (k : Int)
    · have hz : wbet xs m v (k : Int) = 0 := by rw [e]; exact wbet_none (wfind_self h _)
      rw [if_neg (by omega)] at ih
      rw [if_pos (by omega), hz]
      omega
    · by_cases c : v < (k : Int)
      · rw [if_pos c] at ih
        rw [if_pos (by omega)]
        omega
      · rw [if_neg c] at ih
        rw [if_neg (by omega)]
        omega
theorem wat_no {n : Nat} {xs : List Int} {v : Int} (hv : ¬ (0 ≤ v ∧ v < n)) : ∀ {m : Nat}, (∀ k, k < m → goodW n xs k) → wat xs v m = 0
  | 0, _ => rfl
  | m + 1, h => by
    obtain ⟨q0, q1, q2, _, _⟩ := (h m (by omega)).1
    simp only [wat]
    rw [wat_no hv (m := m) (fun k hk => h k (by omega)), if_neg (by omega)]; rfl
theorem lapZ_800 {n : Nat} {xs : List Int} {m : Nat} (hn : n ≤ 5) (h : ∀ k, k < m → goodW n xs k) (a b : Int) : absB (lapZ xs m a b) 800 := by
  have h1 := wbet_bd h a b
  unfold lapZ absB
  by_cases e : a = b
  · rw [if_pos e]
    by_cases c : 0 ≤ a ∧ a < n
    · have h2 := sum_le h c.1 n
      rw [wat_sum c.1 c.2 h, if_pos c.2] at h2
      omega
    · rw [wat_no c h]; omega
  · rw [if_neg e]; omega
/-- The first k nodes from e on. -/
def innZ (e k : Nat) : List Int := mapR k (fun t => ((e + t : Nat) : Int))
theorem innZ_snoc (e k : Nat) : innZ e (k + 1) = innZ e k ++ [((e + k : Nat) : Int)] := by simp [innZ, mapR, List.range_succ]
theorem innZ_length (e k : Nat) : (innZ e k).length = k := mapR_length _ _
theorem innZ_below {e n : Nat} (he : e ≤ n) : ∀ x ∈ innZ e (n - e), below n x := fun x hx => by
  simp only [innZ, mapR, List.mem_map, List.mem_range] at hx
  obtain ⟨t, ht, rfl⟩ := hx
  exact ⟨by omega, by omega⟩
def topZ (n e m : Nat) (xs : List Int) (a b : Nat) : Int := detF (lapZ xs m) ((a : Int) :: innZ e (n - e)) ((b : Int) :: innZ e (n - e))
def dwnZ (n e m : Nat) (xs : List Int) : Int := detF (lapZ xs m) (innZ e (n - e)) (innZ e (n - e))
theorem top_bd {n e m : Nat} {xs : List Int} (hn : n ≤ 5) (h : ∀ k, k < m → goodW n xs k) (h1 : 1 ≤ e) (he : e ≤ n) (a b : Nat) : -1024000000000000000 ≤ topZ n e m xs a b ∧ topZ n e m xs a b ≤ 1024000000000000000 := by
  have hl := innZ_length e (n - e)
  have h1 := detF_bdE (lapZ_800 hn h) ((a : Int) :: innZ e (n - e)) ((b : Int) :: innZ e (n - e)) (by simp only [List.length_cons]; omega)
  have h2 := detE_le (k := ((a : Int) :: innZ e (n - e)).length) (by simp only [List.length_cons]; omega)
  unfold absB at h1
  unfold topZ
  omega
theorem dwn_bd {n e m : Nat} {xs : List Int} (hn : n ≤ 5) (h : ∀ k, k < m → goodW n xs k) (h1 : 1 ≤ e) : -256000000000000 ≤ dwnZ n e m xs ∧ dwnZ n e m xs ≤ 256000000000000 := by
  have hl := innZ_length e (n - e)
  have h3 := detF_bdE (lapZ_800 hn h) (innZ e (n - e)) (innZ e (n - e)) (by omega)
  have h2 : detE (innZ e (n - e)).length ≤ 256000000000000 := by
    rw [hl]
    have : n - e = 0 ∨ n - e = 1 ∨ n - e = 2 ∨ n - e = 3 ∨ n - e = 4 := by omega
    rcases this with h | h | h | h | h <;> rw [h] <;> decide
  unfold absB at h3
  unfold dwnZ
  omega
theorem sdwn_bd {n e m : Nat} {xs : List Int} {S : Int} (hn : n ≤ 5) (h : ∀ k, k < m → goodW n xs k) (h1 : 1 ≤ e) (s1 : 1 ≤ S) (s2 : S ≤ 1000) : -256000000000000000 ≤ S * dwnZ n e m xs ∧ S * dwnZ n e m xs ≤ 256000000000000000 := by
  have := dwn_bd hn h h1
  have := mul_bd (u := S) (f := dwnZ n e m xs) (A := 1000) (B := 256000000000000) (by omega) s2 this.1 this.2 (by decide)
  omega
/-- An entry of the response. -/
noncomputable def respQ (n e m : Nat) (S : Int) (xs : List Int) (a b : Nat) : Rt := ratioOf (topZ n e m xs a b) (S * dwnZ n e m xs)
/-- The first k entries of a row. -/
noncomputable def respL (n e m : Nat) (S : Int) (xs : List Int) (a : Nat) : Nat → List Int
  | 0 => []
  | k + 1 => respL n e m S xs a k ++ [(respQ n e m S xs a k).n, (respQ n e m S xs a k).d]
end Go.Proofs.Ytahicfpnmjofhaa
