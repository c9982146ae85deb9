/- Plain Lean: networks. -/
namespace Go.Proofs.YtagiecajffhnpaaGreat

/-- A wire. -/
structure Wr where
  a : Int
  b : Int
  w : Int
deriving DecidableEq, Repr

/-- A network. -/
structure Nt where
  nodes : Int
  ends : Int
  scale : Int
  wires : List Wr
deriving DecidableEq, Repr

/-- The wires' numbers, one behind the other. -/
def flatW : List Wr → List Int
  | [] => []
  | x :: l => x.a :: x.b :: x.w :: flatW l

theorem flatW_length (l : List Wr) : (flatW l).length = l.length * 3 := by
  induction l with
  | nil => rfl
  | cons x l ih => simp [flatW, ih]; omega

theorem flatW_append (a b : List Wr) : flatW (a ++ b) = flatW a ++ flatW b := by
  induction a with
  | nil => rfl
  | cons x a ih => simp [flatW, ih]

/-- The wire number i. -/
def nthW (l : List Wr) (i : Nat) : Wr := l.getD i ⟨0, 0, 0⟩

theorem nthW_eq (l : List Wr) (i : Nat) (h : i < l.length) : nthW l i = l[i] := by simp [nthW, List.getD, h]

theorem flatW_get : ∀ (l : List Wr) (i : Nat), i < l.length → (flatW l).getD (i * 3) 0 = (nthW l i).a ∧ (flatW l).getD (i * 3 + 1) 0 = (nthW l i).b ∧ (flatW l).getD (i * 3 + 2) 0 = (nthW l i).w := by
  intro l
  induction l with
  | nil => intro i h; simp at h
  | cons x l ih =>
    intro i h
    cases i with
    | zero => simp [flatW, nthW]
    | succ i =>
      have := ih i (by simpa using h)
      have e1 : (i + 1) * 3 = i * 3 + 1 + 1 + 1 := by omega
      have e2 : (i + 1) * 3 + 1 = i * 3 + 1 + 1 + 1 + 1 := by omega
      have e3 : (i + 1) * 3 + 2 = i * 3 + 2 + 1 + 1 + 1 := by omega
      simp only [flatW, e1, List.getD_cons_succ, nthW] at *
      exact this

end Go.Proofs.YtagiecajffhnpaaGreat
