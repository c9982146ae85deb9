/- A matrix of integers that the function has made. No condition. -/
import Derived.Test.YtagiecajffhnpaaGreatWDetS
import Derived.Test.YtagiecajffhnpaaGreatWToInt
import Derived.Test.YtagiecajffhnpaaGreatWReach
namespace Go.Proofs.YtagiecajffhnpaaGreat
set_option maxRecDepth 100000
open Go.ChangeShapes Go.WideShapes Go.ChangeAt Go.RowKit Go.Joins

theorem inf_rowI : (Tryz.prog.info? 51).map (fun i => (i.zero, i.size, i.bytes)) = some (some (Value.slice none 0 0), 1, 24) := by kernel_rfl
/-- The first n values of f. -/
def mapR (n : Nat) (f : Nat → Int) : List Int := (List.range n).map f
theorem mapR_length (n : Nat) (f : Nat → Int) : (mapR n f).length = n := by simp [mapR]
theorem mapR_congr {n : Nat} {f g : Nat → Int} (h : ∀ b, b < n → f b = g b) : mapR n f = mapR n g := by
  unfold mapR
  exact List.map_congr_left (fun b hb => h b (List.mem_range.1 hb))
theorem mapR_nth {n : Nat} {f : Nat → Int} {b : Nat} (h : b < n) : nth (mapR n f) b = f b := by
  rw [nth_eq _ _ (by rw [mapR_length]; exact h)]
  simp [mapR]
theorem mapR_set {n : Nat} {f : Nat → Int} {j : Nat} (x : Int) (_h : j < n) : (mapR n f).set j x = mapR n (fun b => if b = j then x else f b) := by
  apply List.ext_getElem
  · simp [mapR]
  · intro k h1 h2
    simp only [mapR, List.getElem_set, List.getElem_map, List.getElem_range]
    by_cases e : j = k
    · subst e; simp
    · rw [if_neg e, if_neg (fun h => e h.symm)]
theorem mapR_zero (n : Nat) : List.replicate n (0 : Int) = mapR n (fun _ => 0) := by
  unfold mapR
  rw [List.map_const', List.length_range]

/-- G: the block of the rows' slices; f i: the block of row i; k rows are there. -/
def OMat (w : World) (B G n : Nat) (f : Nat → Nat) (cs : List Value) (k : Nat) (M : Nat → Nat → Int) : Prop :=
  w.ownsRow B 51 1 (.slice (some ⟨G, 0, none⟩) n n) n cs ∧ ∀ i, i < k → cs[i]? = some (.slice (some ⟨f i, 0, none⟩) n n) ∧
    w.ownsRow B 3 1 (.slice (some ⟨f i, 0, none⟩) n n) n (icells (mapR n (M i))) ∧ f i ≠ G ∧ ∀ i', i' < k → i' ≠ i → f i' ≠ f i
theorem OMat.ge {w w' : World} {B G n : Nat} {f : Nat → Nat} {cs : List Value} {k : Nat} {M : Nat → Nat → Int} (h : OMat w B G n f cs k M) (hg : Ge w w') : OMat w' B G n f cs k M :=
  ⟨hg.owns h.1, fun i hi => ⟨(h.2 i hi).1, hg.owns (h.2 i hi).2.1, (h.2 i hi).2.2⟩⟩
theorem OMat.mono {w : World} {B B' G n : Nat} {f : Nat → Nat} {cs : List Value} {k : Nat} {M : Nat → Nat → Int} (h : OMat w B G n f cs k M) (hb : B' ≤ B) : OMat w B' G n f cs k M :=
  ⟨owns_mono h.1 hb, fun i hi => ⟨(h.2 i hi).1, owns_mono (h.2 i hi).2.1 hb, (h.2 i hi).2.2⟩⟩
theorem OMat.congr {w : World} {B G n : Nat} {f : Nat → Nat} {cs : List Value} {k : Nat} {M M' : Nat → Nat → Int} (h : OMat w B G n f cs k M) (he : ∀ a b, a < k → b < n → M a b = M' a b) : OMat w B G n f cs k M' :=
  ⟨h.1, fun i hi => ⟨(h.2 i hi).1, by rw [← mapR_congr (fun b hb => he i b hi hb)]; exact (h.2 i hi).2.1, (h.2 i hi).2.2⟩⟩
theorem OMat.row {w : World} {B G n : Nat} {f : Nat → Nat} {cs : List Value} {k : Nat} {M : Nat → Nat → Int} (h : OMat w B G n f cs k M) {i : Nat} (hi : i < k) (hn : i < n) : w.cell? ⟨G, i, none⟩ = some (.slice (some ⟨f i, 0, none⟩) n n) := by
  rw [h.1.cellAt i (by omega), (h.2 i hi).1]
theorem OMat.entry {w : World} {B G n : Nat} {f : Nat → Nat} {cs : List Value} {k : Nat} {M : Nat → Nat → Int} (h : OMat w B G n f cs k M) {i j : Nat} (hi : i < k) (hj : j < n) : w.cell? ⟨f i, j, none⟩ = some (.int .i64 (M i j)) := by
  rw [own_nth (h.2 i hi).2.1 hj, mapR_nth hj]
theorem OMat.froz {w : World} {B G n : Nat} {f : Nat → Nat} {cs : List Value} {k : Nat} {M : Nat → Nat → Int} (h : OMat w B G n f cs k M) {i : Nat} (hi : i < k) (j : Nat) : w.frozen? ⟨f i, j, none⟩ = false := (h.2 i hi).2.1.frozenAt j
theorem OMat.lt {w : World} {B G n : Nat} {f : Nat → Nat} {cs : List Value} {k : Nat} {M : Nat → Nat → Int} (h : OMat w B G n f cs k M) : B ≤ G ∧ G < w.heap.size ∧ ∀ i, i < k → B ≤ f i ∧ f i < w.heap.size ∧ f i ≠ G := by
  have h1 := h.1.lt G rfl
  exact ⟨h1.1, h1.2, fun i hi => by have h2 := (h.2 i hi).2.1.lt (f i) rfl; exact ⟨h2.1, h2.2, (h.2 i hi).2.2.1⟩⟩
theorem OMat.setE {w : World} {B G n : Nat} {f : Nat → Nat} {cs : List Value} {k : Nat} {M : Nat → Nat → Int} (h : OMat w B G n f cs k M) {i j : Nat} (hi : i < k) (hj : j < n) (x : Int) :
    OMat (w.setCell ⟨f i, j, none⟩ (.int .i64 x)) B G n f cs k (fun a b => if a = i ∧ b = j then x else M a b) ∧ w.grownBy (w.setCell ⟨f i, j, none⟩ (.int .i64 x)) (some (f i)) := by
  have hs := (h.2 i hi).2.1.stored j (.int .i64 x)
  refine ⟨⟨h.1.kept hs.2 (.inr (fun e => (h.2 i hi).2.2.1 (by simpa [Value.ownBlock] using e.symm))), fun a ha => ⟨(h.2 a ha).1, ?_, (h.2 a ha).2.2⟩⟩, hs.2⟩
  by_cases e : a = i
  · subst e
    have h1 := hs.1
    rw [icells_set, mapR_set x hj] at h1
    rw [mapR_congr (g := fun b => if b = j then x else M a b) (fun b _ => by simp)]
    exact h1
  · rw [mapR_congr (g := M a) (fun b _ => by simp [e])]
    exact (h.2 a ha).2.1.kept hs.2 (.inr (fun e2 => (h.2 i hi).2.2.2 a ha e (by simpa [Value.ownBlock] using e2)))
theorem OMat.newRow {w w1 : World} {B G n : Nat} {f : Nat → Nat} {cs : List Value} {i r : Nat} {M : Nat → Nat → Int} {F : Nat → Int} (h : OMat w B G n f cs i M) (hi : i < n) (hg : Ge w w1)
    (ho : w1.ownsRow r 3 1 (.slice (some ⟨r, 0, none⟩) n n) n (icells (mapR n F))) (hr : r = w.heap.size) :
    OMat (w1.setCell ⟨G, i, none⟩ (.slice (some ⟨r, 0, none⟩) n n)) B G n (fun a => if a = i then r else f a) (cs.set i (.slice (some ⟨r, 0, none⟩) n n)) (i + 1) (fun a => if a = i then F else M a) ∧ w1.grownBy (w1.setCell ⟨G, i, none⟩ (.slice (some ⟨r, 0, none⟩) n n)) (some G) := by
  subst hr
  have hl := h.lt
  have h1 := h.ge hg
  have hs := h1.1.stored i (.slice (some ⟨w.heap.size, 0, none⟩) n n)
  have hcl : i < cs.length := by have := h.1.1; omega
  refine ⟨⟨hs.1, fun a ha => ?_⟩, hs.2⟩
  by_cases e : a = i
  · subst e
    refine ⟨by simp [hcl], ?_, ?_, fun a' ha' hne => ?_⟩
    · simp only [if_pos]
      exact owns_mono (ho.kept hs.2 (.inr (fun e => by simp [Value.ownBlock] at e; omega))) (by omega)
    · simp; omega
    · have := (hl.2.2 a' (by omega)).2.1
      simp [hne]; omega
  · have ha' : a < i := by omega
    have hla := hl.2.2 a ha'
    refine ⟨?_, ?_, ?_, fun a' ha2 hne => ?_⟩
    · rw [List.getElem?_set_ne (by omega)]
      simp [e, (h.2 a ha').1]
    · simp only [if_neg e]
      exact (h1.2 a ha').2.1.kept hs.2 (.inr (fun e => by simp [Value.ownBlock] at e; omega))
    · simp [e]; omega
    · by_cases e2 : a' = i
      · simp [e2, e]; omega
      · simp only [if_neg e, if_neg e2]
        exact (h.2 a ha').2.2.2 a' (by omega) hne
theorem OMat.slMM {w : World} {B G n : Nat} {f : Nat → Nat} {cs : List Value} {M : Nat → Nat → Int} {Z : Int → Int → Int} (h : OMat w B G n f cs n M) (hZ : ∀ a b : Nat, a < n → b < n → M a b = Z a b) : SlMM w (.slice (some ⟨G, 0, none⟩) n n) n Z := by
  refine ⟨_, _, rfl, fun i hi => ⟨G, 0, some ⟨f i, 0, none⟩, n, rfl, by rw [Nat.zero_add]; exact h.row hi hi, fun j hj => ⟨f i, 0, rfl, ?_⟩⟩⟩
  rw [Nat.zero_add, h.entry hi hj, hZ i j hi hj]
end Go.Proofs.YtagiecajffhnpaaGreat
