/- toIntS: a copy of a slice of integers. l03Has, l03Reach of spec. No condition. A matrix of integers that the function has made. No condition. slices.Contains of integers; others of impl, l04Without of the reference. No condition. l01In. WeightBetween, WeightAt, isNode, l03Find. No condition. l03Find, WeightBetween of spec. No condition. NetOk of spec. No condition. -/
import Derived.Test.YtagiecajffhnpaaGreatWTyInt
import Derived.Test.YtagiecajffhnpaaGreatWEqInt
import Derived.Test.YtagiecajffhnpaaGreatJAa
import Derived.Test.YtagiecajffhnpaaGreatWLaw
import Derived.Test.YtagiecajffhnpaaGreatWBase
import Derived.Deep.DeepCutAuto
import Derived.Deep.QuietTactic
namespace Go.Proofs.YtagiecajffhnpaaGreat
set_option maxRecDepth 100000
open Go.ChangeShapes Go.WideShapes Go.ChangeAt Go.RowKit Go.Joins

/-- 'make([]T, n)' -/
theorem mk1 {P : Program} {w : World} {ops : Array Oper} {rest : List Oper} {o : Oper} {a : Act} {Q : Exit → Act → World → Prop} (hgd : o.guard = none) (l c : Operand) (t : TypeId)
    (ho : o.op = Op.makeSlice t l c)
    (e : TypeId) (z : Value) (size bytes : Nat) (ht : P.underlying t = some (.slice e)) (hi : (P.info? e).map (fun i => (i.zero, i.size, i.bytes)) = some (some z, size, bytes)) (hbs : bytes ≤ 100)
    (n : Nat) (hl : a.eval l = .int .i64 n) (hc : a.eval c = .int .i64 n) (hn : n < 1099511627776)
    (h : ∀ w', w'.ownsRow w.heap.size e size (.slice (some ⟨w.heap.size, 0, none⟩) n n) n (madeCells z.cells (n * size)).toList → Ge w w' → wpList P ops Q rest (a.put o.dst (.slice (some ⟨w.heap.size, 0, none⟩) n n)) w') :
    wpList P ops Q (o :: rest) a w := by
  obtain ⟨i, hi1, hi2, hi3, hi4⟩ := info_parts hi
  refine wpList_make_full w hgd l c t ho w.heap.size e i z size ht hi1 hi2 hi3 .i64 .i64 n n n hl hc rfl rfl ?_ (by unfold maxLen; omega) (Nat.le_refl _) ?_
  · rw [hi4]
    have : bytes * n ≤ 100 * n := Nat.mul_le_mul_right _ hbs
    omega
  · intro w' h1 h2
    exact h w' h1 ((Ge.refl w).grown h2 (fun k hk => by cases hk))

theorem made_ints (n : Nat) : (madeCells (Value.int .i64 0).cells (n * 1)).toList = icells (List.replicate n 0) := by
  simp [madeCells, icells, Value.cells, Nat.mod_one]
  rw [List.eq_replicate_iff]; simp

end Go.Proofs.YtagiecajffhnpaaGreat

namespace Go.Proofs.YtagiecajffhnpaaGreat
set_option maxRecDepth 100000
open Go.ChangeShapes Go.WideShapes Go.ChangeAt Go.RowKit Go.Joins

theorem own_nth {w : World} {base g n cap : Nat} {e : TypeId} {l : List Int} (h : w.ownsRow base e 1 (.slice (some ⟨g, 0, none⟩) n cap) n (icells l)) {j : Nat} (hj : j < n) : w.cell? ⟨g, j, none⟩ = some (.int .i64 (nth l j)) := by
  have hl : l.length = n := by have := h.1; rw [icells_length] at this; omega
  rw [h.cellAt j (by omega)]
  simp [icells, hl, hj, nth_eq]
end Go.Proofs.YtagiecajffhnpaaGreat

namespace Go.Proofs.YtagiecajffhnpaaGreat
set_option maxRecDepth 100000
open Go.ChangeShapes Go.WideShapes Go.ChangeAt Go.RowKit Go.Joins

theorem inf_rowI : (Tryz.prog.info? 51).map (fun i => (i.zero, i.size, i.bytes)) = some (some (Value.slice none 0 0), 1, 24) := by kernel_rfl
/-- The first n values of f. -/
def mapR (n : Nat) (f : Nat → Int) : List Int := (List.range n).map f
theorem mapR_length (n : Nat) (f : Nat → Int) : (mapR n f).length = n := by simp [mapR]
theorem mapR_congr {n : Nat} {f g : Nat → Int} (h : ∀ b, b < n → f b = g b) : mapR n f = mapR n g := by
  unfold mapR
  exact List.map_congr_left (fun b hb => h b (List.mem_range.1 hb))
theorem mapR_nth {n : Nat} {f : Nat → Int} {b : Nat} (h : b < n) : nth (mapR n f) b = f b := by
  rw [nth_eq _ _ (by rw [mapR_length]; exact h)]
  simp [mapR]
theorem mapR_set {n : Nat} {f : Nat → Int} {j : Nat} (x : Int) (_h : j < n) : (mapR n f).set j x = mapR n (fun b => if b = j then x else f b) := by
  apply List.ext_getElem
  · simp [mapR]
  · intro k h1 h2
    simp only [mapR, List.getElem_set, List.getElem_map, List.getElem_range]
    by_cases e : j = k
    · subst e; simp
    · rw [if_neg e, if_neg (fun h => e h.symm)]
theorem mapR_zero (n : Nat) : List.replicate n (0 : Int) = mapR n (fun _ => 0) := by
  unfold mapR
  rw [List.map_const', List.length_range]

/-- G: the block of the rows' slices; f i: the block of row i; k rows are there. -/
def OMat (w : World) (B G n : Nat) (f : Nat → Nat) (cs : List Value) (k : Nat) (M : Nat → Nat → Int) : Prop :=
  w.ownsRow B 51 1 (.slice (some ⟨G, 0, none⟩) n n) n cs ∧ ∀ i, i < k → cs[i]? = some (.slice (some ⟨f i, 0, none⟩) n n) ∧
    w.ownsRow B 3 1 (.slice (some ⟨f i, 0, none⟩) n n) n (icells (mapR n (M i))) ∧ f i ≠ G ∧ ∀ i', i' < k → i' ≠ i → f i' ≠ f i
theorem OMat.ge {w w' : World} {B G n : Nat} {f : Nat → Nat} {cs : List Value} {k : Nat} {M : Nat → Nat → Int} (h : OMat w B G n f cs k M) (hg : Ge w w') : OMat w' B G n f cs k M :=
  ⟨hg.owns h.1, fun i hi => ⟨(h.2 i hi).1, hg.owns (h.2 i hi).2.1, (h.2 i hi).2.2⟩⟩
theorem OMat.mono {w : World} {B B' G n : Nat} {f : Nat → Nat} {cs : List Value} {k : Nat} {M : Nat → Nat → Int} (h : OMat w B G n f cs k M) (hb : B' ≤ B) : OMat w B' G n f cs k M :=
  ⟨owns_mono h.1 hb, fun i hi => ⟨(h.2 i hi).1, owns_mono (h.2 i hi).2.1 hb, (h.2 i hi).2.2⟩⟩
theorem OMat.congr {w : World} {B G n : Nat} {f : Nat → Nat} {cs : List Value} {k : Nat} {M M' : Nat → Nat → Int} (h : OMat w B G n f cs k M) (he : ∀ a b, a < k → b < n → M a b = M' a b) : OMat w B G n f cs k M' :=
  ⟨h.1, fun i hi => ⟨(h.2 i hi).1, by rw [← mapR_congr (fun b hb => he i b hi hb)]; exact (h.2 i hi).2.1, (h.2 i hi).2.2⟩⟩
theorem OMat.row {w : World} {B G n : Nat} {f : Nat → Nat} {cs : List Value} {k : Nat} {M : Nat → Nat → Int} (h : OMat w B G n f cs k M) {i : Nat} (hi : i < k) (hn : i < n) : w.cell? ⟨G, i, none⟩ = some (.slice (some ⟨f i, 0, none⟩) n n) := by
  rw [h.1.cellAt i (by omega), (h.2 i hi).1]
theorem OMat.entry {w : World} {B G n : Nat} {f : Nat → Nat} {cs : List Value} {k : Nat} {M : Nat → Nat → Int} (h : OMat w B G n f cs k M) {i j : Nat} (hi : i < k) (hj : j < n) : w.cell? ⟨f i, j, none⟩ = some (.int .i64 (M i j)) := by
  rw [own_nth (h.2 i hi).2.1 hj, mapR_nth hj]
theorem OMat.froz {w : World} {B G n : Nat} {f : Nat → Nat} {cs : List Value} {k : Nat} {M : Nat → Nat → Int} (h : OMat w B G n f cs k M) {i : Nat} (hi : i < k) (j : Nat) : w.frozen? ⟨f i, j, none⟩ = false := (h.2 i hi).2.1.frozenAt j
theorem OMat.lt {w : World} {B G n : Nat} {f : Nat → Nat} {cs : List Value} {k : Nat} {M : Nat → Nat → Int} (h : OMat w B G n f cs k M) : B ≤ G ∧ G < w.heap.size ∧ ∀ i, i < k → B ≤ f i ∧ f i < w.heap.size ∧ f i ≠ G := by
  have h1 := h.1.lt G rfl
  exact ⟨h1.1, h1.2, fun i hi => by have h2 := (h.2 i hi).2.1.lt (f i) rfl; exact ⟨h2.1, h2.2, (h.2 i hi).2.2.1⟩⟩
theorem OMat.setE {w : World} {B G n : Nat} {f : Nat → Nat} {cs : List Value} {k : Nat} {M : Nat → Nat → Int} (h : OMat w B G n f cs k M) {i j : Nat} (hi : i < k) (hj : j < n) (x : Int) :
    OMat (w.setCell ⟨f i, j, none⟩ (.int .i64 x)) B G n f cs k (fun a b => if a = i ∧ b = j then x else M a b) ∧ w.grownBy (w.setCell ⟨f i, j, none⟩ (.int .i64 x)) (some (f i)) := by
  have hs := (h.2 i hi).2.1.stored j (.int .i64 x)
  refine ⟨⟨h.1.kept hs.2 (.inr (fun e => (h.2 i hi).2.2.1 (by simpa [Value.ownBlock] using e.symm))), fun a ha => ⟨(h.2 a ha).1, ?_, (h.2 a ha).2.2⟩⟩, hs.2⟩
  by_cases e : a = i
  · subst e
    have h1 := hs.1
    rw [icells_set, mapR_set x hj] at h1
    rw [mapR_congr (g := fun b => if b = j then x else M a b) (fun b _ => by simp)]
    exact h1
  · rw [mapR_congr (g := M a) (fun b _ => by simp [e])]
    exact (h.2 a ha).2.1.kept hs.2 (.inr (fun e2 => (h.2 i hi).2.2.2 a ha e (by simpa [Value.ownBlock] using e2)))
theorem OMat.newRow {w w1 : World} {B G n : Nat} {f : Nat → Nat} {cs : List Value} {i r : Nat} {M : Nat → Nat → Int} {F : Nat → Int} (h : OMat w B G n f cs i M) (hi : i < n) (hg : Ge w w1)
    (ho : w1.ownsRow r 3 1 (.slice (some ⟨r, 0, none⟩) n n) n (icells (mapR n F))) (hr : r = w.heap.size) :
    OMat (w1.setCell ⟨G, i, none⟩ (.slice (some ⟨r, 0, none⟩) n n)) B G n (fun a => if a = i then r else f a) (cs.set i (.slice (some ⟨r, 0, none⟩) n n)) (i + 1) (fun a => if a = i then F else M a) ∧ w1.grownBy (w1.setCell ⟨G, i, none⟩ (.slice (some ⟨r, 0, none⟩) n n)) (some G) := by
  subst hr
  have hl := h.lt
  have h1 := h.ge hg
  have hs := h1.1.stored i (.slice (some ⟨w.heap.size, 0, none⟩) n n)
  have hcl : i < cs.length := by have := h.1.1; omega
  refine ⟨⟨hs.1, fun a ha => ?_⟩, hs.2⟩
  by_cases e : a = i
  · subst e
    refine ⟨by simp [hcl], ?_, ?_, fun a' ha' hne => ?_⟩
    · simp only [if_pos]
      exact owns_mono (ho.kept hs.2 (.inr (fun e => by simp [Value.ownBlock] at e; omega))) (by omega)
    · simp; omega
    · have := (hl.2.2 a' (by omega)).2.1
      simp [hne]; omega
  · have ha' : a < i := by omega
    have hla := hl.2.2 a ha'
    refine ⟨?_, ?_, ?_, fun a' ha2 hne => ?_⟩
    · rw [List.getElem?_set_ne (by omega)]
      simp [e, (h.2 a ha').1]
    · simp only [if_neg e]
      exact (h1.2 a ha').2.1.kept hs.2 (.inr (fun e => by simp [Value.ownBlock] at e; omega))
    · simp [e]; omega
    · by_cases e2 : a' = i
      · simp [e2, e]; omega
      · simp only [if_neg e, if_neg e2]
        exact (h.2 a ha').2.2.2 a' (by omega) hne
theorem OMat.slMM {w : World} {B G n : Nat} {f : Nat → Nat} {cs : List Value} {M : Nat → Nat → Int} {Z : Int → Int → Int} (h : OMat w B G n f cs n M) (hZ : ∀ a b : Nat, a < n → b < n → M a b = Z a b) : SlMM w (.slice (some ⟨G, 0, none⟩) n n) n Z := by
  refine ⟨_, _, rfl, fun i hi => ⟨G, 0, some ⟨f i, 0, none⟩, n, rfl, by rw [Nat.zero_add]; exact h.row hi hi, fun j hj => ⟨f i, 0, rfl, ?_⟩⟩⟩
  rw [Nat.zero_add, h.entry hi hj, hZ i j hi hj]
end Go.Proofs.YtagiecajffhnpaaGreat

namespace Go.Proofs.YtagiecajffhnpaaGreat
set_option maxRecDepth 100000
open Go.ChangeShapes Go.WideShapes Go.ChangeAt Go.RowKit Go.Joins

theorem indexInt (v : Value) (l : List Int) (x : Int) (w : World) (h : SlI w v l) (hm : l.length ≤ 1000000) :
    Calls Tryz.prog 152 #[v, .int .i64 x] w fun e w' => (∃ i : Int, e = .returned (.int .i64 i) ∧ (0 ≤ i ↔ x ∈ l)) ∧ w = w' := by
  obtain ⟨n, hn⟩ : ∃ n, l.length = n := ⟨_, rfl⟩
  obtain ⟨p, cap, rfl, hc⟩ := h.openN hn
  have HC := Lib.hid hc
  have HN := Lib.hid hn
  rw [hn] at hm
  clear h hc hn
  go_enter Tryz.func152, Tryz.ntmps152
  go_wp2_with fail
  go_loop [8] (fun i => ∃ k : Nat, k ≤ n ∧ i = .int .i64 k ∧ Hid (∀ j, j < k → ¬ nth l j = x)) (fun i => n - (intOf i).toNat)
  case atStart => exact ⟨0, Nat.zero_le _, rfl, fun j hj => by omega⟩
  case round =>
    obtain ⟨k, hk, rfl, HA⟩ := hrel
    by_cases hlt : k < n
    · obtain ⟨b, o, rfl, x0⟩ := HC.out k hlt
      by_cases c : nth l k = x
      · have HF : Hid (x ∈ l) := by
          show _
          have hk' : k < l.length := by rw [HN.out]; exact hlt
          rw [nth_eq l k hk'] at c
          exact (c ▸ List.getElem_mem hk')
        have t : (x == nth l k) = true := by simp [c]
        have t2 : (nth l k == x) = true := by simp [c]
        clear c
        go_wp2_with fail
        go_ret
        exact ⟨⟨_, rfl, ⟨fun _ => HF.out, fun _ => by omega⟩⟩, rfl⟩
      · have HA2 : Hid (∀ j, j < k + 1 → ¬ nth l j = x) := fun j hj => by
          by_cases e : j = k
          · subst e; exact c
          · exact HA.out j (by omega)
        have t : (x == nth l k) = false := by simp; exact fun e => c e.symm
        have t2 : (nth l k == x) = false := by simp [c]
        clear c
        go_wp2_with fail
        go_round
        case rel => exact ⟨k + 1, by omega, by go_num, HA2.out⟩
        case measure => simp [intOf]; omega
    · have hkn : k = n := by omega
      subst hkn
      have HF : Hid (¬ x ∈ l) := by
        show ¬ _
        intro h
        obtain ⟨j, hj, e⟩ := List.getElem_of_mem h
        exact HA.out j (by rw [← HN.out]; exact hj) (by rw [nth_eq l j hj]; exact e)
      go_wp2_with fail
      go_ret
      exact ⟨⟨_, rfl, ⟨fun h => by omega, fun h => absurd h HF.out⟩⟩, rfl⟩

theorem containsInt (v : Value) (l : List Int) (x : Int) (w : World) (h : SlI w v l) (hm : l.length ≤ 1000000) :
    Calls Tryz.prog 145 #[v, .int .i64 x] w fun e w' => e = .returned (.bool (decide (x ∈ l))) ∧ w = w' := by
  have hI := indexInt v l x w h hm
  by_cases c : x ∈ l
  · have e : decide (x ∈ l) = true := decide_eq_true c
    have hI2 := Lib.hid hI
    rw [e]
    go_enter Tryz.func145, Tryz.ntmps145
    go_wp2_with (go_at_call 152; ((with_reducible refine hI2.out.mono ?_); rintro e w' ⟨⟨i, rfl, hi⟩, rfl⟩); have hi2 : 0 ≤ i := hi.2 c)
    go_ret
    exact ⟨rfl, rfl⟩
  · have e : decide (x ∈ l) = false := decide_eq_false c
    have hI2 := Lib.hid hI
    rw [e]
    go_enter Tryz.func145, Tryz.ntmps145
    go_wp2_with (go_at_call 152; ((with_reducible refine hI2.out.mono ?_); rintro e w' ⟨⟨i, rfl, hi⟩, rfl⟩); have hi2 : ¬ (0 ≤ i) := fun h => c (hi.1 h))
    go_ret
    exact ⟨rfl, rfl⟩

theorem owns_lit1 (w : World) (e : TypeId) (size b : Nat) (hb : b = w.heap.size) : (w.alloc (.cells #[] e)).ownsRow b e size (.slice (some ⟨b, 0, none⟩) 0 0) 0 [] := by
  subst hb; exact owns_lit0 _ _ _
theorem iOthers (n : Nat) (E S : Int) (s : Value) (v : Value) (l : List Int) (w : World) (hs : s.oneCell' = true) (hn : n ≤ 5) (hv : SlI w v l) (hl : l.length ≤ 1000) :
    Calls Tryz.prog 129 #[.agg #[.int .i64 (n : Int), .int .i64 E, .int .i64 S, s], v] w fun e w' => ∃ v', e = .returned v' ∧ SlI w' v' (without n l) ∧ (∀ p k c, v' = .slice p k c → k ≤ c) ∧ Ge w w' := by
  have HV := Lib.hid hv
  clear hv
  go_enter Tryz.func129, Tryz.ntmps129
  go_wp2_with fail
  go_loopw [5, 10] (fun o i wr => ∃ (k : Nat) (u : Value), k ≤ n ∧ i = .int .i64 k ∧ o = u ∧ wr.ownsRow w.heap.size 3 1 u (without k l).length (icells (without k l)) ∧ Ge w wr) (fun _ i _ => n - (intOf i).toNat)
  case atStart => exact ⟨0, _, Nat.zero_le _, rfl, rfl, by first | exact owns_lit0 _ _ _ | exact owns_mono (owns_lit1 _ _ _ _ (by simp)) (by simp), kge⟩
  case round =>
    obtain ⟨k, u, hk, rfl, rfl, hown, hg⟩ := hrel
    by_cases hlt : k < n
    · have HC := Lib.hid (containsInt _ l (k : Int) wr (SlI.ge HV.out hg) (by omega))
      by_cases c : (k : Int) ∈ l
      · have t : decide ((k : Int) ∈ l) = true := decide_eq_true c
        rw [t] at HC
        have HW : Hid (without (k + 1) l = without k l) := without_in c
        have HO := Lib.hid hown
        clear t c hown
        go_wp2_with (go_at_call 145; ((with_reducible refine HC.out.mono ?_); rintro e w' ⟨rfl, rfl⟩))
        go_roundw
        case rel => exact ⟨k + 1, _, by omega, by go_num, rfl, by rw [HW.out]; exact HO.out, hg⟩
        case measure => simp [intOf]; omega
      · have t : decide ((k : Int) ∈ l) = false := decide_eq_false c
        rw [t] at HC
        have HW : Hid (without (k + 1) l = without k l ++ [(k : Int)]) := without_out c
        have hL : (without k l).length ≤ k := without_len k l
        have zg := hg.size
        clear t c
        generalize without k l = L at *
        replace hL := Lib.hid hL
        go_wp2_with (first
          | (go_at_call 145; ((with_reducible refine HC.out.mono ?_); rintro e w' ⟨rfl, rfl⟩))
          | (at_builtin; refine ap_int rfl _ _ rfl w.heap.size _ L rfl hown _ rfl (by have := hL.out; omega) zg ?_; intro v' w6 own6 hm6))
        go_roundw
        case rel => exact ⟨k + 1, _, by omega, by go_num, rfl, by rw [HW.out]; exact own6, hg.mine hown (Nat.le_refl _) hm6⟩
        case measure => simp [intOf]; omega
    · have hkn : k = n := by omega
      subst hkn
      have HO := Lib.hid hown
      clear hown
      go_wp2_with fail
      go_ret
      exact ⟨_, rfl, SlI.of_owns HO.out, owns_cap HO.out, hg⟩

end Go.Proofs.YtagiecajffhnpaaGreat

namespace Go.Proofs.YtagiecajffhnpaaGreat

open Go.RowKit

end Go.Proofs.YtagiecajffhnpaaGreat

namespace Go.Proofs.YtagiecajffhnpaaGreat
set_option maxRecDepth 100000
open Go.ChangeShapes Go.WideShapes Go.ChangeAt Go.RowKit Go.Joins

theorem isNodeI (n : Nat) (E S : Int) (s : Value) (v : Int) (w : World) (hs : s.oneCell' = true) :
    Calls Tryz.prog 69 #[.agg #[.int .i64 (n : Int), .int .i64 E, .int .i64 S, s], .int .i64 v] w fun e w' => e = .returned (.bool (nodeB n v)) ∧ Ge w w' := by
  by_cases h1 : 0 ≤ v
  · by_cases h2 : v < n
    · have HF : Hid (nodeB n v = true) := nodeB_t ⟨h1, h2⟩
      go_enter Tryz.func69, Tryz.ntmps69
      go_wp2_with fail
      go_ret
      exact ⟨ret_bool HF.out.symm, kge⟩
    · have HF : Hid (nodeB n v = false) := nodeB_f (fun h => h2 h.2)
      go_enter Tryz.func69, Tryz.ntmps69
      go_wp2_with fail
      go_ret
      exact ⟨ret_bool HF.out.symm, kge⟩
  · have HF : Hid (nodeB n v = false) := nodeB_f (fun h => h1 h.1)
    go_enter Tryz.func69, Tryz.ntmps69
    go_wp2_with fail
    go_ret
    exact ⟨ret_bool HF.out.symm, kge⟩

theorem no_wire {xs : List Int} {a b : Int} {k : Nat} (h : Hid (∀ j, j < k → ¬ isW xs a b j)) (hk : ¬ isW xs a b k) : Hid (∀ j, j < k + 1 → ¬ isW xs a b j) := fun j hj => by
  by_cases e : j = k
  · subst e; exact hk
  · exact h.out j (by omega)

set_option maxHeartbeats 1600000 in
theorem iWeightBetween (n : Nat) (E S : Int) (s : Value) (m : Nat) (xs : List Int) (a b : Int) (w : World) (hs : SlF w s m 3 xs) (hm : m ≤ 10) (hok : ∀ k, k < m → goodW n xs k) :
    Calls Tryz.prog 75 #[.agg #[.int .i64 (n : Int), .int .i64 E, .int .i64 S, s], .int .i64 a, .int .i64 b] w fun e w' => e = .returned (.int .i64 (wbet xs m a b)) ∧ Ge w w' := by
  obtain ⟨p, cap, rfl, hc⟩ := hs.open
  have HC := Lib.hid hc
  have HK := Lib.hid hok
  clear hs hc hok
  go_enter Tryz.func75, Tryz.ntmps75
  go_wp2_with fail
  go_loopw [12] (fun i wr => ∃ k : Nat, k ≤ m ∧ i = .int .i64 k ∧ Hid (∀ j, j < k → ¬ isW xs a b j) ∧ Ge w wr) (fun i _ => m - (intOf i).toNat)
  case atStart => exact ⟨0, Nat.zero_le _, rfl, fun j hj => by omega, kge⟩
  case round =>
    obtain ⟨k, hk, rfl, HN, hg⟩ := hrel
    by_cases hlt : k < m
    · obtain ⟨bb, o, rfl, x0, x1, x2⟩ := three_cells HC.out hlt
      have y0 := hg.keep x0
      have y1 := hg.keep x1
      have y2 := hg.keep x2
      clear x0 x1 x2
      change wr.cell? _ = some (.int .i64 (wa xs k)) at y0
      change wr.cell? _ = some (.int .i64 (wb xs k)) at y1
      change wr.cell? _ = some (.int .i64 (ww xs k)) at y2
      obtain ⟨q0, q1, q2, q3, q4⟩ := (HK.out k hlt).1
      by_cases hab : a = b
      · have f0 : (a != b) = false := by simp [hab]
        have HN2 := no_wire HN (show ¬ isW xs a b k by unfold isW; omega)
        clear hab
        go_wp2_with fail
        go_roundw
        case rel => exact ⟨k + 1, by omega, by go_num, HN2.out, kge⟩
        case measure => simp [intOf]; omega
      · have f0 : (a != b) = true := by simp [hab]
        by_cases e1 : wa xs k = a
        · have f1 : (wa xs k == a) = true := by simp [e1]
          by_cases e2 : wb xs k = b
          · have f2 : (wb xs k == b) = true := by simp [e2]
            have HF : Hid (wbet xs m a b = ww xs k) := wbet_some (wfind_some HN.out (by unfold isW; omega) hlt)
            clear e1 e2 hab
            go_wp2_with fail
            go_ret
            exact ⟨ret_int HF.out.symm, kge⟩
          · have f2 : (wb xs k == b) = false := by simp [e2]
            have f3 : (wa xs k == b) = false := by simp; omega
            have HN2 := no_wire HN (show ¬ isW xs a b k by unfold isW; omega)
            clear e1 e2 hab
            go_wp2_with fail
            go_roundw
            case rel => exact ⟨k + 1, by omega, by go_num, HN2.out, kge⟩
            case measure => simp [intOf]; omega
        · have f1 : (wa xs k == a) = false := by simp [e1]
          by_cases e3 : wa xs k = b
          · have f3 : (wa xs k == b) = true := by simp [e3]
            by_cases e4 : wb xs k = a
            · have f4 : (wb xs k == a) = true := by simp [e4]
              have HF : Hid (wbet xs m a b = ww xs k) := wbet_some (wfind_some HN.out (by unfold isW; omega) hlt)
              clear e1 e3 e4 hab
              go_wp2_with fail
              go_ret
              exact ⟨ret_int HF.out.symm, kge⟩
            · have f4 : (wb xs k == a) = false := by simp [e4]
              have HN2 := no_wire HN (show ¬ isW xs a b k by unfold isW; omega)
              clear e1 e3 e4 hab
              go_wp2_with fail
              go_roundw
              case rel => exact ⟨k + 1, by omega, by go_num, HN2.out, kge⟩
              case measure => simp [intOf]; omega
          · have f3 : (wa xs k == b) = false := by simp [e3]
            have HN2 := no_wire HN (show ¬ isW xs a b k by unfold isW; omega)
            clear e1 e3 hab
            go_wp2_with fail
            go_roundw
            case rel => exact ⟨k + 1, by omega, by go_num, HN2.out, kge⟩
            case measure => simp [intOf]; omega
    · have hkm : k = m := by omega
      subst hkm
      have HF : Hid (wbet xs k a b = 0) := wbet_none (wfind_none HN.out)
      go_wp2_with fail
      go_ret
      exact ⟨ret_int HF.out.symm, kge⟩

set_option maxHeartbeats 1600000 in
theorem iWeightAt (n : Nat) (E S : Int) (s : Value) (m : Nat) (xs : List Int) (v : Int) (w : World) (hs : SlF w s m 3 xs) (hm : m ≤ 10) (hok : ∀ k, k < m → goodW n xs k) :
    Calls Tryz.prog 74 #[.agg #[.int .i64 (n : Int), .int .i64 E, .int .i64 S, s], .int .i64 v] w fun e w' => e = .returned (.int .i64 (wat xs v m)) ∧ Ge w w' := by
  obtain ⟨p, cap, rfl, hc⟩ := hs.open
  have HC := Lib.hid hc
  have HK := Lib.hid hok
  clear hs hc hok
  go_enter Tryz.func74, Tryz.ntmps74
  go_wp2_with fail
  go_loopw [5, 11] (fun t i wr => ∃ k : Nat, k ≤ m ∧ i = .int .i64 k ∧ t = .int .i64 (wat xs v k) ∧ Ge w wr) (fun _ i _ => m - (intOf i).toNat)
  case atStart => exact ⟨0, Nat.zero_le _, rfl, rfl, kge⟩
  case round =>
    obtain ⟨k, hk, rfl, rfl, hg⟩ := hrel
    by_cases hlt : k < m
    · obtain ⟨bb, o, rfl, x0, x1, x2⟩ := three_cells HC.out hlt
      have y0 := hg.keep x0
      have y1 := hg.keep x1
      have y2 := hg.keep x2
      clear x0 x1 x2
      change wr.cell? _ = some (.int .i64 (wa xs k)) at y0
      change wr.cell? _ = some (.int .i64 (wb xs k)) at y1
      change wr.cell? _ = some (.int .i64 (ww xs k)) at y2
      obtain ⟨q0, q1, q2, q3, q4⟩ := (HK.out k hlt).1
      obtain ⟨b0, b1⟩ := wat_bd v (m := k) (fun j hj => HK.out j (by omega))
      by_cases e1 : wa xs k = v
      · have f1 : (wa xs k == v) = true := by simp [e1]
        have HF : Hid (wat xs v k + ww xs k = wat xs v (k + 1)) := by
          show _ = _
          rw [wat, if_pos (Or.inl e1)]
        clear e1
        go_wp2_with fail
        go_roundw
        case rel => exact ⟨k + 1, by omega, by go_num, congrArg _ HF.out, kge⟩
        case measure => simp [intOf]; omega
      · have f1 : (wa xs k == v) = false := by simp [e1]
        by_cases e2 : wb xs k = v
        · have f2 : (wb xs k == v) = true := by simp [e2]
          have HF : Hid (wat xs v k + ww xs k = wat xs v (k + 1)) := by
            show _ = _
            rw [wat, if_pos (Or.inr e2)]
          clear e1 e2
          go_wp2_with fail
          go_roundw
          case rel => exact ⟨k + 1, by omega, by go_num, congrArg _ HF.out, kge⟩
          case measure => simp [intOf]; omega
        · have f2 : (wb xs k == v) = false := by simp [e2]
          have HF : Hid (wat xs v k = wat xs v (k + 1)) := by
            show _ = _
            rw [wat, if_neg (fun h => h.elim e1 e2)]; omega
          clear e1 e2
          go_wp2_with fail
          go_roundw
          case rel => exact ⟨k + 1, by omega, by go_num, congrArg _ HF.out, kge⟩
          case measure => simp [intOf]; omega
    · have hkm : k = m := by omega
      subst hkm
      go_wp2_with fail
      go_ret
      exact ⟨rfl, kge⟩

end Go.Proofs.YtagiecajffhnpaaGreat

namespace Go.Proofs.YtagiecajffhnpaaGreat
set_option maxRecDepth 100000
open Go.ChangeShapes Go.WideShapes Go.ChangeAt Go.RowKit Go.Joins

end Go.Proofs.YtagiecajffhnpaaGreat

namespace Go.Proofs.YtagiecajffhnpaaGreat
set_option maxRecDepth 100000
open Go.ChangeShapes Go.WideShapes Go.ChangeAt Go.RowKit Go.Joins

end Go.Proofs.YtagiecajffhnpaaGreat
