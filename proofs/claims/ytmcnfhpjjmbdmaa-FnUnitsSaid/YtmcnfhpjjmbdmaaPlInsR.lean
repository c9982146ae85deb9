/- Inserting a fraction at its place, step by step: plain law. No program in sight. -/
import Derived.Test.YtmcnfhpjjmbdmaaPlUnits
import Derived.Test.YtmcnfhpjjmbdmaaWFlR
namespace Go.Proofs.Ytmcnfhpjjmbdmaa

/-- What is made of the rest l behind o; dn: r is placed. -/
def insF (r : Rt) : List Rt → List Rt → Bool → List Rt
  | [], o, dn => if dn then o else o ++ [r]
  | x :: l, o, dn => if dn then insF r l (o ++ [x]) true else if x = r then insF r l (o ++ [x]) true else if ltR r x then insF r l ((o ++ [r]) ++ [x]) true else insF r l (o ++ [x]) false
theorem insF_t (r : Rt) : ∀ (l o : List Rt), insF r l o true = o ++ l
  | [], o => by simp [insF]
  | x :: l, o => by rw [insF, if_pos rfl, insF_t r l, List.append_assoc]; rfl
theorem insF_f (r : Rt) : ∀ (l o : List Rt), insF r l o false = o ++ insR l r
  | [], o => by simp [insF, insR]
  | x :: l, o => by
    rw [insF, if_neg (by simp)]
    unfold insR
    split
    · rw [insF_t, List.append_assoc]; rfl
    · split
      · rw [insF_t]; simp
      · rw [insF_f r l]; simp
theorem insF_start (r : Rt) (l : List Rt) : insR l r = insF r (l.drop 0) [] false := by rw [List.drop_zero, insF_f, List.nil_append]
theorem insF_end (r : Rt) {l o : List Rt} {dn : Bool} {k : Nat} (hk : ¬ k < l.length) : insF r (l.drop k) o dn = if dn then o else o ++ [r] := by
  rw [List.drop_eq_nil_of_le (by omega)]
  cases dn <;> rfl
theorem drop_at (l : List Rt) {k : Nat} (hk : k < l.length) : l.drop k = l[k]! :: l.drop (k + 1) := by
  rw [List.drop_eq_getElem_cons hk, getElem!_pos l k hk]
theorem insF_done (r : Rt) {l o : List Rt} {k : Nat} (hk : k < l.length) : insF r (l.drop k) o true = insF r (l.drop (k + 1)) (o ++ [l[k]!]) true := by
  rw [drop_at l hk, insF, if_pos rfl]
theorem insF_same (r : Rt) {l o : List Rt} {k : Nat} (hk : k < l.length) (h : l[k]! = r) : insF r (l.drop k) o false = insF r (l.drop (k + 1)) (o ++ [l[k]!]) true := by
  rw [drop_at l hk, insF, if_neg (by simp), if_pos h]
theorem insF_put (r : Rt) {l o : List Rt} {k : Nat} (hk : k < l.length) (h : ¬ l[k]! = r) (h2 : ltR r l[k]! = true) : insF r (l.drop k) o false = insF r (l.drop (k + 1)) ((o ++ [r]) ++ [l[k]!]) true := by
  rw [drop_at l hk, insF, if_neg (by simp), if_neg h, if_pos h2]
theorem insF_next (r : Rt) {l o : List Rt} {k : Nat} (hk : k < l.length) (h : ¬ l[k]! = r) (h2 : ¬ ltR r l[k]! = true) : insF r (l.drop k) o false = insF r (l.drop (k + 1)) (o ++ [l[k]!]) false := by
  rw [drop_at l hk, insF, if_neg (by simp), if_neg h, if_neg h2]
theorem insR_len (l : List Rt) (r : Rt) : (insR l r).length ≤ l.length + 1 := by
  induction l with
  | nil => simp [insR]
  | cons x l ih =>
    unfold insR
    split
    · simp
    · split
      · simp
      · simp; omega
end Go.Proofs.Ytmcnfhpjjmbdmaa
