/- Plain law: when a network is valid; marking rounds against a search. No program in sight. -/
import Derived.Test.YtagiecajffhnpaaGreatWFlat
namespace Go.Proofs.YtagiecajffhnpaaGreat

open Go.RowKit

def wa (xs : List Int) (k : Nat) : Int := nth xs (k * 3)
def wb (xs : List Int) (k : Nat) : Int := nth xs (k * 3 + 1)
def ww (xs : List Int) (k : Nat) : Int := nth xs (k * 3 + 2)
def ordW (xs : List Int) (j k : Nat) : Prop := wa xs j < wa xs k ∨ wa xs j = wa xs k ∧ wb xs j < wb xs k
def okW (N : Int) (xs : List Int) (k : Nat) : Prop := 0 ≤ wa xs k ∧ wa xs k < wb xs k ∧ wb xs k < N ∧ 1 ≤ ww xs k ∧ ww xs k ≤ 200
def goodW (N : Int) (xs : List Int) (k : Nat) : Prop := okW N xs k ∧ (0 < k → ordW xs (k - 1) k)

/-- The ends of the first m wires. -/
def prs (xs : List Int) (m : Nat) : List (Nat × Nat) := (List.range m).map fun k => ((wa xs k).toNat, (wb xs k).toNat)
theorem prs_succ (xs : List Int) (m : Nat) : prs xs (m + 1) = prs xs m ++ [((wa xs m).toNat, (wb xs m).toNat)] := by simp [prs, List.range_succ]

/-- One wire of a marking sweep. -/
def mstep (met : List Bool) (e : Nat × Nat) : List Bool := if met.getD e.1 false || met.getD e.2 false then (met.set e.1 true).set e.2 true else met
def msweep (met : List Bool) (l : List (Nat × Nat)) : List Bool := l.foldl mstep met
def mrounds (l : List (Nat × Nat)) (met : List Bool) : Nat → List Bool
  | 0 => met
  | r + 1 => msweep (mrounds l met r) l
def minit (N : Nat) : List Bool := (List.replicate N false).set 0 true
def mconn (N : Nat) (l : List (Nat × Nat)) : Bool := !(mrounds l (minit N) N).contains false
theorem mstep_length (met : List Bool) (e : Nat × Nat) : (mstep met e).length = met.length := by unfold mstep; split <;> simp
theorem msweep_length (l : List (Nat × Nat)) : ∀ met, (msweep met l).length = met.length := by
  induction l with
  | nil => intro met; rfl
  | cons e l ih => intro met; show (msweep (mstep met e) l).length = _; rw [ih, mstep_length]
theorem msweep_snoc (met : List Bool) (l : List (Nat × Nat)) (e : Nat × Nat) : msweep met (l ++ [e]) = mstep (msweep met l) e := by simp [msweep, List.foldl_append]
theorem mrounds_length (l : List (Nat × Nat)) (met : List Bool) (r : Nat) : (mrounds l met r).length = met.length := by
  induction r with
  | zero => rfl
  | succ r ih => show (msweep _ _).length = _; rw [msweep_length, ih]
theorem minit_length (N : Nat) : (minit N).length = N := by simp [minit]

/-- All wires that there can be. -/
def allW : List (Nat × Nat) := [(0, 1), (0, 2), (0, 3), (0, 4), (1, 2), (1, 3), (1, 4), (2, 3), (2, 4), (3, 4)]
def univ (N : Nat) : List (Nat × Nat) := allW.filter fun e => decide (e.2 < N)
def subs {α : Type} : List α → List (List α)
  | [] => [[]]
  | x :: l => subs l ++ (subs l).map (x :: ·)
theorem mem_subs {α : Type} {l u : List α} (h : List.Sublist l u) : l ∈ subs u := by
  induction h with
  | slnil => simp [subs]
  | cons a h ih => simp [subs, ih]
  | cons_cons a h ih => simp [subs, ih]
def ltP (a b : Nat × Nat) : Prop := a.1 < b.1 ∨ a.1 = b.1 ∧ a.2 < b.2
instance (a b : Nat × Nat) : Decidable (ltP a b) := by unfold ltP; infer_instance
theorem ltP_trans {a b c : Nat × Nat} (h : ltP a b) (k : ltP b c) : ltP a c := by unfold ltP at *; omega
theorem ltP_irrefl (a : Nat × Nat) : ¬ ltP a a := by unfold ltP; omega
theorem sorted_sub : ∀ (u l : List (Nat × Nat)), u.Pairwise ltP → l.Pairwise ltP → (∀ x ∈ l, x ∈ u) → List.Sublist l u := by
  intro u
  induction u with
  | nil =>
    intro l _ _ h
    cases l with
    | nil => exact List.Sublist.slnil
    | cons x l => exact absurd (h x (by simp)) (by simp)
  | cons y u ih =>
    intro l hu hl h
    rw [List.pairwise_cons] at hu
    cases l with
    | nil => exact List.nil_sublist _
    | cons x l =>
      rw [List.pairwise_cons] at hl
      by_cases e : x = y
      · subst e
        refine List.Sublist.cons_cons x (ih l hu.2 hl.2 fun z hz => ?_)
        rcases List.mem_cons.1 (h z (List.mem_cons_of_mem _ hz)) with e | e
        · subst e; exact absurd (hl.1 _ hz) (ltP_irrefl _)
        · exact e
      · refine List.Sublist.cons y (ih (x :: l) hu.2 (List.pairwise_cons.2 hl) fun z hz => ?_)
        have hxu : x ∈ u := by
          rcases List.mem_cons.1 (h x (by simp)) with e' | e'
          · exact absurd e' e
          · exact e'
        rcases List.mem_cons.1 (h z hz) with e' | e'
        · subst e'
          rcases List.mem_cons.1 hz with e2 | e2
          · exact absurd e2.symm e
          · exact absurd (ltP_trans (hu.1 x hxu) (hl.1 _ e2)) (ltP_irrefl _)
        · exact e'

theorem prs_pair (xs : List Int) : ∀ m, (∀ N : Int, (∀ k, k < m → goodW N xs k) → (prs xs m).Pairwise ltP ∧ (∀ k, k < m → ∀ j, j < k → ltP ((wa xs j).toNat, (wb xs j).toNat) ((wa xs k).toNat, (wb xs k).toNat))) := by
  intro m
  induction m with
  | zero => intro N h; simp [prs]
  | succ m ih =>
    intro N h
    obtain ⟨h1, h2⟩ := ih N (fun k hk => h k (by omega))
    have key : ∀ j, j < m → ltP ((wa xs j).toNat, (wb xs j).toNat) ((wa xs m).toNat, (wb xs m).toNat) := by
      intro j hj
      have hm := (h m (by omega)).2 (by omega)
      have o1 := (h m (by omega)).1
      have o2 := (h (m - 1) (by omega)).1
      have step : ltP ((wa xs (m - 1)).toNat, (wb xs (m - 1)).toNat) ((wa xs m).toNat, (wb xs m).toNat) := by
        unfold ltP; unfold ordW at hm; unfold okW at o1 o2; simp only; omega
      by_cases e : j = m - 1
      · subst e; exact step
      · exact ltP_trans (h2 (m - 1) (by omega) j (by omega)) step
    refine ⟨?_, ?_⟩
    · rw [prs_succ, List.pairwise_append]
      refine ⟨h1, by simp, fun a ha b hb => ?_⟩
      simp only [List.mem_singleton] at hb
      subst hb
      simp only [prs, List.mem_map, List.mem_range] at ha
      obtain ⟨j, hj, rfl⟩ := ha
      exact key j hj
    · intro k hk j hj
      by_cases e : k = m
      · subst e; exact key j hj
      · exact h2 k (by omega) j hj
theorem univ_pair : ∀ N, (univ N).Pairwise ltP := fun N => List.Pairwise.filter _ (by decide)
theorem mem_univ {N a b : Nat} (h5 : N ≤ 5) (h : a < b) (hb : b < N) : (a, b) ∈ univ N := by
  simp only [univ, List.mem_filter, decide_eq_true_eq]
  refine ⟨?_, hb⟩
  have : ∀ b, b < 5 → ∀ a, a < b → (a, b) ∈ allW := by decide
  exact this b (by omega) a h
theorem prs_sub {N : Int} {xs : List Int} {m : Nat} (h5 : N ≤ 5) (h : ∀ k, k < m → goodW N xs k) : List.Sublist (prs xs m) (univ N.toNat) := by
  refine sorted_sub _ _ (univ_pair _) (prs_pair xs m N h).1 fun x hx => ?_
  simp only [prs, List.mem_map, List.mem_range] at hx
  obtain ⟨k, hk, rfl⟩ := hx
  obtain ⟨a, b, c, _⟩ := (h k hk).1
  exact mem_univ (by omega) (by omega) (by omega)
theorem prs_len {N : Int} {xs : List Int} {m : Nat} (h5 : N ≤ 5) (h : ∀ k, k < m → goodW N xs k) : m ≤ 10 := by
  have h1 := (prs_sub h5 h).length_le
  have h2 : (univ N.toNat).length ≤ allW.length := List.length_filter_le _ _
  have h3 : (prs xs m).length = m := by simp [prs]
  have h4 : allW.length = 10 := rfl
  omega

/-- A network is valid. -/
def netP (N E S : Int) (m : Nat) (xs : List Int) : Prop := (1 ≤ N ∧ N ≤ 5) ∧ (1 ≤ E ∧ E ≤ N) ∧ (1 ≤ S ∧ S ≤ 1000) ∧ (∀ k, k < m → goodW N xs k) ∧ mconn N.toNat (prs xs m) = true
open Classical in

noncomputable def netB (N E S : Int) (m : Nat) (xs : List Int) : Bool := if netP N E S m xs then true else false
theorem netB_true {N E S : Int} {m : Nat} {xs : List Int} (h : netP N E S m xs) : netB N E S m xs = true := by simp [netB, h]
theorem netB_false {N E S : Int} {m : Nat} {xs : List Int} (h : ¬ netP N E S m xs) : netB N E S m xs = false := by simp [netB, h]
theorem netP_of {N E S : Int} {m : Nat} {xs : List Int} (h : netB N E S m xs = true) : netP N E S m xs := by
  unfold netB at h
  split at h
  · assumption
  · cases h
end Go.Proofs.YtagiecajffhnpaaGreat
