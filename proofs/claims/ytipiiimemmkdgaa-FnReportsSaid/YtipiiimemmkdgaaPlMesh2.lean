/- Plain law: a node replaced by wires between its neighbors: the list of wires that is made by putting is the table's. No program in sight. -/
import Derived.Test.YtipiiimemmkdgaaPlMesh
import Derived.Test.YtipiiimemmkdgaaPlDet
namespace Go.Proofs.Ytipiiimemmkdgaa

/-- A node's number when v has been left out; the other way round. -/
def outI (v x : Int) : Int := if x > v then x - 1 else x
def upI (v : Nat) (i : Nat) : Nat := if i < v then i else i + 1
theorem outI_up (v i : Nat) : outI v (upI v i : Nat) = i := by unfold outI upI; split <;> split <;> omega
theorem up_ne (v i : Nat) : upI v i ≠ v := by unfold upI; split <;> omega
theorem outI_eq {v i : Nat} {x : Int} (_hx : 0 ≤ x) (hv : ¬ x = v) : outI v x = i ↔ x = (upI v i : Nat) := by
  unfold outI upI
  constructor
  · intro h; split at h <;> split <;> omega
  · intro h; split at h <;> split <;> omega
theorem outI_lt {v x y : Int} (hx : ¬ x = v) (hy : ¬ y = v) (h : x < y) : outI v x < outI v y := by unfold outI; split <;> split <;> omega
/-- A list of wires in order, on k nodes. -/
def Ord (k : Nat) (l : List Wr) : Prop := l.Pairwise ltW ∧ ∀ e ∈ l, 0 ≤ e.a ∧ e.a < e.b ∧ e.b < k ∧ 0 < e.w
theorem Ord.nil (k : Nat) : Ord k [] := ⟨List.Pairwise.nil, fun e he => by cases he⟩
theorem sameS_nn {k : Nat} {l : List Wr} (h : ∀ e ∈ l, 0 ≤ e.a ∧ e.a < e.b ∧ e.b < k ∧ 0 < e.w) (a b : Int) : 0 ≤ sameS a b l := by
  induction l with
  | nil => simp [sameS]
  | cons e l ih =>
    have h1 := ih (fun x hx => h x (List.mem_cons_of_mem _ hx))
    have h2 := (h e (by simp)).2.2.2
    simp only [sameS]
    split <;> omega
theorem mem_dropE {a b : Int} {l : List Wr} {e : Wr} : e ∈ dropE a b l ↔ e ∈ l ∧ ¬ (e.a = a ∧ e.b = b) := by
  unfold dropE
  rw [List.mem_filter]
  constructor
  · rintro ⟨h1, h2⟩
    refine ⟨h1, fun h => ?_⟩
    rw [isE_t h] at h2; cases h2
  · rintro ⟨h1, h2⟩
    exact ⟨h1, by rw [isE_f h2]; rfl⟩
theorem Ord.put {k : Nat} {l : List Wr} (h : Ord k l) {a b w : Int} (ha : 0 ≤ a ∧ a < k) (hb : 0 ≤ b ∧ b < k) (hab : ¬ a = b) (hw : 0 < w) : Ord k (putW l a b w true) := by
  unfold putW
  refine ⟨insW_sorted (List.Pairwise.filter _ h.1) (fun e he => (mem_dropE.1 he).2), fun e he => ?_⟩
  rcases mem_insW.1 he with rfl | he
  · have := sameS_nn h.2 (min a b) (max a b)
    refine ⟨by show 0 ≤ min a b; omega, by show min a b < max a b; omega, by show max a b < (k : Int); omega, ?_⟩
    show 0 < w + _
    simp; omega
  · exact h.2 e (mem_dropE.1 he).1
/-- The wires that do not end at v, put one after another, times s. -/
def firstP (v : Nat) (s : Int) (L : List Wr) : Nat → List Wr
  | 0 => []
  | k + 1 => if (nthW L k).a = v ∨ (nthW L k).b = v then firstP v s L k else putW (firstP v s L k) (outI v (nthW L k).a) (outI v (nthW L k).b) ((nthW L k).w * s) true
theorem sameS_take {a b : Int} {L : List Wr} {k : Nat} (h : k < L.length) : sameS a b (L.take (k + 1)) = sameS a b (L.take k) + (if isE a b (nthW L k) = true then (nthW L k).w else 0) := by
  rw [List.take_succ_eq_append_getElem h, sameS_snoc, nthW_eq L k h]
theorem first_ok {n v : Nat} {s : Int} {L : List Wr} (hL : ∀ e ∈ L, 0 ≤ e.a ∧ e.a < e.b ∧ e.b < n ∧ 0 < e.w) (hv : v < n) (hs : 0 < s) : ∀ k, k ≤ L.length → Ord (n - 1) (firstP v s L k) ∧ ∀ i j : Nat, i < j → sameS i j (firstP v s L k) = sameS (upI v i : Nat) (upI v j : Nat) (L.take k) * s
  | 0, _ => ⟨Ord.nil _, fun i j _ => by simp [firstP, sameS]⟩
  | k + 1, hk => by
    obtain ⟨h1, h2⟩ := first_ok hL hv hs k (by omega)
    have hm : nthW L k ∈ L := by rw [nthW_eq L k (by omega)]; exact List.getElem_mem _
    obtain ⟨q1, q2, q3, q4⟩ := hL _ hm
    simp only [firstP]
    by_cases c : (nthW L k).a = v ∨ (nthW L k).b = v
    · rw [if_pos c]
      refine ⟨h1, fun i j hij => ?_⟩
      rw [h2 i j hij, sameS_take (by omega), isE_f (fun h => ?_)]
      · simp
      · have u1 := up_ne v i
        have u2 := up_ne v j
        rcases c with c | c <;> omega
    · rw [if_neg c]
      have a1 := outI_lt (v := v) (x := (nthW L k).a) (y := (nthW L k).b) (fun h => c (.inl h)) (fun h => c (.inr h)) q2
      have a2 : 0 ≤ outI v (nthW L k).a := by unfold outI; split <;> omega
      have a3 : outI v (nthW L k).b < ((n - 1 : Nat) : Int) := by unfold outI; split <;> omega
      refine ⟨h1.put ⟨a2, by omega⟩ ⟨by omega, a3⟩ (by omega) (Int.mul_pos q4 hs), fun i j hij => ?_⟩
      rw [sameS_putW, h2 i j hij, sameS_take (by omega), Int.add_mul]
      congr 1
      have e1 := outI_eq (v := v) (i := i) q1 (fun h => c (.inl h))
      have e2 := outI_eq (v := v) (i := j) (x := (nthW L k).b) (by omega) (fun h => c (.inr h))
      have m1 : min (outI v (nthW L k).a) (outI v (nthW L k).b) = outI v (nthW L k).a := by omega
      have m2 : max (outI v (nthW L k).a) (outI v (nthW L k).b) = outI v (nthW L k).b := by omega
      rw [m1, m2]
      by_cases d : (i : Int) = outI v (nthW L k).a ∧ (j : Int) = outI v (nthW L k).b
      · rw [if_pos d, isE_t ⟨e1.1 d.1.symm, e2.1 d.2.symm⟩, if_pos rfl]
      · rw [if_neg d, isE_f (fun h => d ⟨(e1.2 h.1).symm, (e2.2 h.2).symm⟩)]; simp
end Go.Proofs.Ytipiiimemmkdgaa
