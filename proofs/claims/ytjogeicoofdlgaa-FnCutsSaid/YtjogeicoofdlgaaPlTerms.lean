/- Plain Lean: the terms of a fraction. -/
namespace Go.Proofs.Ytjogeicoofdlgaa

def eucl : Nat → Int → Int → List Int
  | 0, _, _ => []
  | f + 1, p, q => if 0 < q then p / q :: eucl f q (p % q) else []

def partOk (p q : Int) : Bool := decide (1 ≤ p) && decide (p ≤ 1000) && decide (1 ≤ q) && decide (q ≤ 1000)

/-- TermsOf. -/
def termsOf (p q : Int) : List Int := if partOk p q = true then eucl 1001 p q else []

theorem eucl_step (f : Nat) (p q : Int) (h : 0 < q) (hf : q.toNat < f) : eucl f p q = p / q :: eucl (f - 1) q (p % q) := by
  cases f with
  | zero => omega
  | succ f => simp [eucl, h]
theorem eucl_zero (f : Nat) (p : Int) : eucl f p 0 = [] := by cases f <;> simp [eucl]

theorem eucl_ne (f : Nat) (p q : Int) (h : 0 < q) (hf : 0 < f) : eucl f p q ≠ [] := by
  cases f with
  | zero => omega
  | succ f => simp [eucl, h]

theorem eucl_len : ∀ (f : Nat) (p q : Int), (eucl f p q).length ≤ f := by
  intro f
  induction f with
  | zero => intro p q; simp [eucl]
  | succ f ih =>
    intro p q
    simp only [eucl]
    split
    · simp; exact ih _ _
    · simp

theorem eucl_bd : ∀ (f : Nat) (p q : Int), 0 ≤ p → p ≤ 1000 → 0 ≤ q → q ≤ 1000 → ∀ x ∈ eucl f p q, 0 ≤ x ∧ x ≤ 1000 := by
  intro f
  induction f with
  | zero => intro p q _ _ _ _ x hx; simp [eucl] at hx
  | succ f ih =>
    intro p q h1 h2 h3 h4 x hx
    simp only [eucl] at hx
    split at hx
    · rename_i hq
      rcases List.mem_cons.1 hx with rfl | hx
      · exact ⟨Int.ediv_nonneg h1 h3, Int.le_trans (Int.ediv_le_self q h1) h2⟩
      · exact ih q (p % q) h3 h4 (Int.emod_nonneg _ (by omega)) (by have := Int.emod_lt_of_pos p hq; omega) x hx
    · simp at hx

theorem partOk_of {p q : Int} (h : partOk p q = true) : 1 ≤ p ∧ p ≤ 1000 ∧ 1 ≤ q ∧ q ≤ 1000 := by
  simp [partOk] at h; omega

theorem termsOf_len (p q : Int) : (termsOf p q).length ≤ 1001 := by
  unfold termsOf; split
  · exact eucl_len _ _ _
  · simp
theorem termsOf_bd (p q : Int) : ∀ x ∈ termsOf p q, 0 ≤ x ∧ x ≤ 1000 := by
  unfold termsOf; split
  · rename_i h
    obtain ⟨a, b, c, d⟩ := partOk_of h
    exact eucl_bd _ _ _ (by omega) b (by omega) d
  · intro x hx; simp at hx

/-- The sum of a list. -/
def isum : List Int → Int
  | [] => 0
  | x :: l => x + isum l
theorem isum_append (a b : List Int) : isum (a ++ b) = isum a + isum b := by
  induction a with
  | nil => simp [isum]
  | cons x a ih => simp [isum, ih]; omega
theorem isum_bd (l : List Int) (c : Int) (h : ∀ x ∈ l, 0 ≤ x ∧ x ≤ c) : 0 ≤ isum l ∧ isum l ≤ c * l.length := by
  induction l with
  | nil => simp [isum]
  | cons x l ih =>
    obtain ⟨h1, h2⟩ := h x (by simp)
    obtain ⟨h3, h4⟩ := ih (fun y hy => h y (List.mem_cons_of_mem _ hy))
    simp only [isum, List.length_cons]
    have : c * ((l.length + 1 : Nat) : Int) = c * (l.length : Int) + c := by rw [Int.natCast_add, Int.mul_add]; simp
    omega
theorem isum_take (l : List Int) (k : Nat) (h : k < l.length) : isum (l.take (k + 1)) = isum (l.take k) + l[k] := by
  rw [List.take_succ_eq_append_getElem h, isum_append]; simp [isum]

/-- CountUnits. -/
def countUnits (p q : Int) : Int := if termsOf p q = [] then -1 else isum (termsOf p q)

end Go.Proofs.Ytjogeicoofdlgaa
