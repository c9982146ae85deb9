/- Fractions in lowest terms in their order: plain law. No program in sight. -/
import Derived.Test.YtmcnfhpjjmbdmaaPlUnits
import Derived.Test.YtmcnfhpjjmbdmaaPlCmp
import Derived.Shelf.SlSortCmp.Insertion
namespace Go.Proofs.Ytmcnfhpjjmbdmaa

open Go.Sort

/-- A positive fraction in lowest terms, of small numbers. -/
def goodF (r : Rt) : Prop := 1 ≤ r.n ∧ r.n ≤ 1000 ∧ 1 ≤ r.d ∧ r.d ≤ 1000 ∧ gcdN r.n r.d = 1
instance instDecGoodF (r : Rt) : Decidable (goodF r) := by unfold goodF; infer_instance
abbrev Fr := { r : Rt // goodF r }
instance instInhFr : Inhabited Fr := ⟨⟨⟨1, 1⟩, by decide⟩⟩
def cmpF (x y : Fr) : Int := cmpQ x.1.n.toNat x.1.d.toNat y.1.n.toNat y.1.d.toNat
theorem cmpF_eq (x y : Fr) : cmpF x y = sgnI (x.1.n * y.1.d - y.1.n * x.1.d) := by
  obtain ⟨x, h1, h2, h3, h4, h5⟩ := x
  obtain ⟨y, k1, k2, k3, k4, k5⟩ := y
  unfold cmpF cmpQ
  simp only
  rw [Int.toNat_of_nonneg (by omega), Int.toNat_of_nonneg (by omega), Int.toNat_of_nonneg (by omega), Int.toNat_of_nonneg (by omega)]
theorem sgn_neg_iff {x : Int} : sgnI x < 0 ↔ x < 0 := by
  unfold sgnI
  by_cases h : x < 0
  · simp [h]
  · by_cases h2 : x = 0 <;> simp [h, h2]
theorem ltF_eq (x y : Fr) : ltOf cmpF x y = ltR x.1 y.1 := by
  unfold ltOf ltR
  rw [cmpF_eq]
  congr 1
  rw [sgn_neg_iff]
  exact propext ⟨fun h => by omega, fun h => by omega⟩
theorem lt_trans_q {a b c d e f : Int} (hb : 0 < b) (hd : 0 < d) (hf : 0 < f) (h1 : a * d < c * b) (h2 : c * f < e * d) : a * f < e * b := by
  have k1 := Int.mul_lt_mul_of_pos_right h1 hf
  have k2 := Int.mul_lt_mul_of_pos_right h2 hb
  have k3 : (a * f) * d < (e * b) * d := by
    have e1 : a * d * f = (a * f) * d := by rw [Int.mul_right_comm]
    have e2 : c * b * f = c * f * b := by rw [Int.mul_right_comm]
    have e3 : e * d * b = (e * b) * d := by rw [Int.mul_right_comm]
    omega
  exact Int.lt_of_mul_lt_mul_right k3 (by omega)
theorem le_trans_q {a b c d e f : Int} (hb : 0 < b) (hd : 0 < d) (hf : 0 < f) (h1 : c * b ≤ a * d) (h2 : e * d ≤ c * f) : e * b ≤ a * f := by
  have k1 := Int.mul_le_mul_of_nonneg_right h1 (show 0 ≤ f by omega)
  have k2 := Int.mul_le_mul_of_nonneg_right h2 (show 0 ≤ b by omega)
  have k3 : (e * b) * d ≤ (a * f) * d := by
    have e1 : a * d * f = (a * f) * d := by rw [Int.mul_right_comm]
    have e2 : c * b * f = c * f * b := by rw [Int.mul_right_comm]
    have e3 : e * d * b = (e * b) * d := by rw [Int.mul_right_comm]
    omega
  exact Int.le_of_mul_le_mul_right k3 hd
theorem swoF : SWO (ltOf cmpF) where
  irrefl x := by rw [ltF_eq]; unfold ltR; simp
  trans x y z h1 h2 := by
    rw [ltF_eq] at *
    unfold ltR at *
    simp only [decide_eq_true_eq] at *
    exact lt_trans_q (by have := x.2.2.2.1; omega) (by have := y.2.2.2.1; omega) (by have := z.2.2.2.1; omega) h1 h2
  ntrans x y z h1 h2 := by
    rw [ltF_eq] at *
    unfold ltR at *
    simp only [decide_eq_false_iff_not, Int.not_lt] at *
    exact le_trans_q (by have := x.2.2.2.1; omega) (by have := y.2.2.2.1; omega) (by have := z.2.2.2.1; omega) h1 h2
theorem antiF {x y : Rt} (hx : goodF x) (hy : goodF y) (h1 : ltR x y = false) (h2 : ltR y x = false) : x = y := by
  obtain ⟨x1, x2, x3, x4, x5⟩ := hx
  obtain ⟨y1, y2, y3, y4, y5⟩ := hy
  unfold ltR at h1 h2
  simp only [decide_eq_false_iff_not, Int.not_lt] at h1 h2
  have h : x.n * y.d = y.n * x.d := by omega
  obtain ⟨xn, xd⟩ := x
  obtain ⟨yn, yd⟩ := y
  simp only at *
  obtain ⟨a, rfl⟩ := Int.eq_ofNat_of_zero_le (show 0 ≤ xn by omega)
  obtain ⟨b, rfl⟩ := Int.eq_ofNat_of_zero_le (show 0 ≤ xd by omega)
  obtain ⟨c, rfl⟩ := Int.eq_ofNat_of_zero_le (show 0 ≤ yn by omega)
  obtain ⟨d, rfl⟩ := Int.eq_ofNat_of_zero_le (show 0 ≤ yd by omega)
  have hN : a * d = c * b := by exact_mod_cast h
  have g1 : Nat.Coprime a b := x5
  have g2 : Nat.Coprime c d := y5
  have d1 : a ∣ c := g1.dvd_of_dvd_mul_right ⟨d, by rw [hN]⟩
  have d2 : c ∣ a := g2.dvd_of_dvd_mul_right ⟨b, by rw [hN]⟩
  have e1 : a = c := Nat.dvd_antisymm d1 d2
  subst e1
  have e2 : d = b := Nat.eq_of_mul_eq_mul_left (by omega) hN
  subst e2
  rfl
/-- The sorted list is unique. -/
theorem sorted_uniqueF {l s t : List Rt} (hl : ∀ r ∈ l, goodF r) (hs : s.Perm l) (ht : t.Perm l) (ps : s.Pairwise fun a b => ltR b a = false) (pt : t.Pairwise fun a b => ltR b a = false) : s = t := by
  refine List.Perm.eq_of_pairwise (le := fun a b => ltR b a = false) (fun a b ha hb h1 h2 => ?_) ps pt (hs.trans ht.symm)
  exact antiF (hl a (hs.mem_iff.1 ha)) (hl b (ht.mem_iff.1 hb)) h2 h1
end Go.Proofs.Ytmcnfhpjjmbdmaa
