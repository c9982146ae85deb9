/- slices.SortFunc of spans (slices of two integers) by slices.Compare: the row is sorted. At most 1000 spans. -/
import Derived.Test.YtckjkfcphcnpdaaGreatPlLevels
import Derived.Test.YtckjkfcphcnpdaaGreatWLists
import Derived.Test.YtckjkfcphcnpdaaGreatWTile
import Derived.Test.YtckjkfcphcnpdaaGreatShelf
namespace Go.Proofs.YtckjkfcphcnpdaaGreat
set_option maxRecDepth 100000
open Go.ChangeShapes Go.WideShapes Go.ChangeAt Go.RowKit Go.Joins Go.Sort Go.Lib Go.Shelf

def cmpP (p q : Sp) : Int := if cmpI p.1 q.1 ≠ 0 then cmpI p.1 q.1 else cmpI p.2 q.2
theorem cmpP_lt (p q : Sp) : cmpP p q < 0 ↔ p.1 < q.1 ∨ p.1 = q.1 ∧ p.2 < q.2 := by
  unfold cmpP cmpI
  repeat' split
  all_goals omega
theorem two_cellsP {w : World} {q : Addr} {c : Nat} {a b : Int} (h : w.ownsRow 0 3 1 (.slice (some q) 2 c) 2 (icells [a, b])) :
    ∃ g, q = ⟨g, 0, none⟩ ∧ w.cell? ⟨g, 0, none⟩ = some (.int .i64 a) ∧ w.cell? ⟨g, 1, none⟩ = some (.int .i64 b) := by
  obtain ⟨g, c', he⟩ := Go.Joins.ownsRow_form h (by omega)
  simp only [Value.slice.injEq, Option.some.injEq] at he
  obtain ⟨rfl, _, rfl⟩ := he
  exact ⟨g, rfl, by rw [h.cellAt 0 (by omega)]; rfl, by rw [h.cellAt 1 (by omega)]; rfl⟩
set_option maxHeartbeats 1600000 in
theorem compareSp (q1 q2 : Addr) (c1 c2 : Nat) (a b c d : Int) (w : World) (h1 : w.ownsRow 0 3 1 (.slice (some q1) 2 c1) 2 (icells [a, b])) (h2 : w.ownsRow 0 3 1 (.slice (some q2) 2 c2) 2 (icells [c, d])) :
    Calls Tryz.prog 28 #[.slice (some q1) 2 c1, .slice (some q2) 2 c2] w fun e w' => e = .returned (.int .i64 (cmpP (a, b) (c, d))) ∧ w = w' := by
  obtain ⟨g1, rfl, x0, x1⟩ := two_cellsP h1
  obtain ⟨g2, rfl, y0, y1⟩ := two_cellsP h2
  have HR : Hid (cmpP (a, b) (c, d) = if cmpI a c ≠ 0 then cmpI a c else cmpI b d) := rfl
  generalize cmpP (a, b) (c, d) = R at *
  have HC1 := Lib.hid (fun w' => compareInt a c w')
  have HC2 := Lib.hid (fun w' => compareInt b d w')
  generalize cmpI a c = A at *
  generalize cmpI b d = B at *
  clear h1 h2
  go_enter Tryz.func28, Tryz.ntmps28
  go_wp2_with fail
  go_loopw [11] (fun i wr => ∃ (k : Nat), i = .int .i64 (k : Int) ∧ k ≤ 2 ∧ Hid (1 ≤ k → A = 0) ∧ Hid (2 ≤ k → B = 0) ∧ w = wr) (fun i _ => 3 - (intOf i).toNat)
  case atStart => exact ⟨0, rfl, by omega, fun h => by omega, fun h => by omega, rfl⟩
  case round =>
    obtain ⟨k, rfl, hk, H1, H2, rfl⟩ := hrel
    have h3 : k = 0 ∨ k = 1 ∨ k = 2 := by omega
    rcases h3 with rfl | rfl | rfl
    · by_cases hA : A = 0
      · have tA : (A != 0) = false := by simp [hA]
        clear HC2
        go_wp2_with ((go_at_call 52; ((with_reducible refine (HC1.out _).mono ?_); rintro e w' ⟨rfl, rfl⟩)))
        go_roundw
        case rel => exact ⟨1, by simp, by omega, fun _ => hA, fun h => by omega, by trivial⟩
        case measure => simp [intOf]
      · have tA : (A != 0) = true := by simp [hA]
        have HF : Hid (R = A) := by show _ = _; rw [HR.out, if_pos hA]
        clear HC2 HR
        go_wp2_with ((go_at_call 52; ((with_reducible refine (HC1.out _).mono ?_); rintro e w' ⟨rfl, rfl⟩)))
        go_ret
        exact ⟨ret_int HF.out.symm, rfl⟩
    · by_cases hB : B = 0
      · have tB : (B != 0) = false := by simp [hB]
        clear HC1
        go_wp2_with ((go_at_call 52; ((with_reducible refine (HC2.out _).mono ?_); rintro e w' ⟨rfl, rfl⟩)))
        go_roundw
        case rel => exact ⟨2, by simp, by omega, fun _ => H1.out (by omega), fun h => hB, by trivial⟩
        case measure => simp [intOf]
      · have tB : (B != 0) = true := by simp [hB]
        have HF : Hid (R = B) := by show _ = _; rw [HR.out, if_neg (by rw [H1.out (by omega)]; simp)]
        clear HC1 HR
        go_wp2_with ((go_at_call 52; ((with_reducible refine (HC2.out _).mono ?_); rintro e w' ⟨rfl, rfl⟩)))
        go_ret
        exact ⟨ret_int HF.out.symm, rfl⟩
    · have HF : Hid (R = 0) := by show _ = _; rw [HR.out, if_neg (by rw [H1.out (by omega)]; simp), H2.out (by omega)]
      clear HC1 HC2 HR
      go_wp2_with fail
      go_ret
      exact ⟨ret_int HF.out.symm, rfl⟩

section
variable {α : Type} [Inhabited α] {enc : α → Value}
theorem heap_sortW {w : World} {g n : Nat} {os : Array Obj} {cur : Array Value} {e : TypeId} {fr : Nat × Nat} (d : Array α) (hb : w.heap[g]? = some (.cells cur e fr)) :
    (sortWorld enc w g 0 n d os).heap[g]? = some (.cells (putCells enc 0 d cur) e fr) := by
  have hg : g < w.heap.size := (Array.getElem?_eq_some_iff.1 hb).1
  unfold sortWorld
  rw [heap_grow_old _ _ (by simpa using hg)]
  simp [putRow, mapBlock, Sort.ahead, Array.getElem?_modify, hb, onCells]
theorem grownBy_sortW {w : World} {g n : Nat} {os : Array Obj} (d : Array α) : w.grownBy (sortWorld enc w g 0 n d os) (some g) := by
  unfold sortWorld
  refine ⟨rfl, rfl, rfl, by simp, fun k hk hne => ?_⟩
  rw [heap_grow_old _ _ (by simpa using hk)]
  have : g ≠ k := fun e => hne (by rw [e])
  simp [putRow, mapBlock, Sort.ahead, Array.getElem?_modify, this]
theorem take_putW (cur : Array Value) (d : Array α) (h : d.size ≤ cur.size) : (putCells enc 0 d cur).toList.take d.size = d.toList.map enc := by
  apply List.ext_getElem?
  intro j
  by_cases hj : j < d.size
  · rw [List.getElem?_take_of_lt hj]
    simp [putCells, hj, show j < cur.size by omega]
  · rw [List.getElem?_take_eq_none (by omega), List.getElem?_eq_none (by simp; omega)]
end

def rowP (p : Sp) : List Int := [p.1, p.2]
theorem rowL_map (S : List Sp) {i : Nat} (h : i < S.length) : rowL (S.map rowP) i = rowP S[i] := by
  rw [rowL_eq (by simpa using h)]; simp
theorem enters_cmpSp : ∀ args w, (callFunc 28 args).run Tryz.prog w = .ok (.enter 28 args) w := enters_of Tryz.func28 (by kernel_rfl) rfl

/-- A span with where it lies. -/
def SpA (w : World) : Type := {x : (Addr × Nat) × Sp // w.ownsRow 0 3 1 (.slice (some x.1.1) 2 x.1.2) 2 (icells (rowP x.2))}
def encA {w : World} (x : SpA w) : Value := .slice (some x.1.1.1) 2 x.1.1.2
def cmpA {w : World} (x y : SpA w) : Int := cmpP x.1.2 y.1.2
theorem ltA {w : World} (x y : SpA w) : ltOf cmpA x y = true ↔ x.1.2.1 < y.1.2.1 ∨ x.1.2.1 = y.1.2.1 ∧ x.1.2.2 < y.1.2.2 := by
  unfold ltOf cmpA
  rw [decide_eq_true_iff, cmpP_lt]
theorem ltA_f {w : World} (x y : SpA w) : ltOf cmpA x y = false ↔ ¬ (x.1.2.1 < y.1.2.1 ∨ x.1.2.1 = y.1.2.1 ∧ x.1.2.2 < y.1.2.2) := by
  rw [← ltA, Bool.not_eq_true]
theorem swoA {w : World} : SWO (ltOf (cmpA (w := w))) where
  irrefl x := by rw [ltA_f]; omega
  trans x y z h1 h2 := by rw [ltA] at *; omega
  ntrans x y z h1 h2 := by rw [ltA_f] at *; omega

theorem sortSp (base g n c : Nat) (S : List Sp) (w : World) (h : OwnL w base (.slice (some ⟨g, 0, none⟩) n c) (S.map rowP)) (hn : S.length = n) (hn0 : 0 < n) (hm : n ≤ 1000) :
    Calls Tryz.prog 27 #[.slice (some ⟨g, 0, none⟩) n c, .func (.func 28) #[] #[]] w fun e w' => e = .returned (.tuple #[]) ∧
      (∃ T : List Sp, T.Perm S ∧ (∀ i j (hi : i < T.length) (hj : j < T.length), i ≤ j → T[i].1 ≤ T[j].1) ∧ OwnL w' base (.slice (some ⟨g, 0, none⟩) n c) (T.map rowP)) ∧ w.grownBy w' (some g) := by
  obtain ⟨cs, h1, h2⟩ := h
  rw [List.length_map, hn] at h1 h2
  have hrow : ∀ i, i < n → ∃ q cq, cs[i]? = some (.slice (some q) 2 cq) ∧ ∃ hi : i < S.length, w.ownsRow 0 3 1 (.slice (some q) 2 cq) 2 (icells (rowP S[i])) := fun i hi => by
    obtain ⟨q, cq, h3, h4⟩ := h2 i hi
    rw [rowL_map S (by omega)] at h3 h4
    exact ⟨q, cq, h3, by omega, h4⟩
  obtain ⟨A, hA⟩ : ∃ A : Nat → Addr × Nat, ∀ i, i < n → cs[i]? = some (.slice (some (A i).1) 2 (A i).2) ∧ ∃ hi : i < S.length, w.ownsRow 0 3 1 (.slice (some (A i).1) 2 (A i).2) 2 (icells (rowP S[i])) := by
    refine ⟨fun i => if hi : i < n then ((hrow i hi).choose, (hrow i hi).choose_spec.choose) else (⟨0, 0, none⟩, 0), fun i hi => ?_⟩
    simp only [dif_pos hi]
    exact (hrow i hi).choose_spec.choose_spec
  obtain ⟨f, hf⟩ : ∃ f : Fin n → SpA w, ∀ i, (f i).1 = (A i.1, S[i.1]'(by omega)) := ⟨fun i => ⟨(A i.1, S[i.1]'(by omega)), (hA i.1 i.2).2.choose_spec⟩, fun i => rfl⟩
  obtain ⟨D, hDf⟩ : ∃ D, D = List.ofFn f := ⟨_, rfl⟩
  have hD : D.length = n := by rw [hDf, List.length_ofFn]
  have hDg : ∀ i (hi : i < n), D[i]? = some (f ⟨i, hi⟩) := fun i hi => by
    rw [hDf, List.getElem?_eq_getElem (by rw [List.length_ofFn]; exact hi), List.getElem_ofFn]
  clear hDf
  have hDm : D.map (fun x => x.1.2) = S := by
    apply List.ext_getElem?
    intro i
    by_cases hi : i < n
    · rw [List.getElem?_map, hDg i hi, List.getElem?_eq_getElem (by omega)]
      simp only [Option.map_some, hf]
    · rw [List.getElem?_eq_none (by rw [List.length_map]; omega), List.getElem?_eq_none (by omega)]
  have hDc : D.map encA = cs := by
    have hcl : cs.length = n := by have := h1.1; omega
    apply List.ext_getElem?
    intro i
    by_cases hi : i < n
    · rw [(hA i hi).1, List.getElem?_map, hDg i hi]
      simp only [Option.map_some, encA, hf]
    · rw [List.getElem?_eq_none (by rw [List.length_map]; omega), List.getElem?_eq_none (by omega)]
  haveI : Inhabited (SpA w) := ⟨D[0]'(by omega)⟩
  rcases h1.2 with ⟨h', _⟩ | ⟨g', cap', cur, hv, hb, hheap, hnn, hcap, hsz, ht⟩
  · simp at h'
  simp only [Value.slice.injEq, Option.some.injEq, Addr.mk.injEq, and_true, true_and] at hv
  obtain ⟨rfl, rfl⟩ := hv
  have hblk : g < w.heap.size := (Array.getElem?_eq_some_iff.1 hheap).1
  have hDs : D.toArray.size = n := by simpa using hD
  have hH : Holds encA w g 0 D.toArray := by
    intro j hj
    have hj' : j < n := by rw [hDs] at hj; exact hj
    refine ⟨?_, by simp [World.frozen?, hheap]⟩
    rw [Nat.zero_add, h1.cellAt j (by omega), ← hDc, getElem!_pos _ j hj]
    simp [List.getElem?_map, show j < D.length by omega]
  have hkeep : ∀ {w' : World}, w.grownBy w' (some g) → ∀ x : SpA w, w'.ownsRow 0 3 1 (.slice (some x.1.1.1) 2 x.1.1.2) 2 (icells (rowP x.1.2)) := fun {w'} hg x =>
    owns_typed x.2 h1 ty_int_ints hg
  have hcmp : CmpLays1 Tryz.prog 28 #[] (encA (w := w)) (cmpA (w := w)) g 0 D.toArray.size w := by
    intro m os dk _ x y
    refine (compareSp x.1.1.1 y.1.1.1 x.1.1.2 y.1.1.2 x.1.2.1 x.1.2.2 y.1.2.1 y.1.2.2 (sortWorld encA w g 0 m dk os) (hkeep (grownBy_sortW dk) x) (hkeep (grownBy_sortW dk) y)).mono ?_
    rintro e w' ⟨rfl, rfl⟩
    exact ⟨rfl, 0, #[], by simp [World.drewN]⟩
  have key := Tryz.slices_SortFunc (encA (w := w)) (fun x => rfl) (cmpA (w := w)) swoA 28 #[] g 0 c D.toArray w enters_cmpSp hcmp hH hblk (by omega)
  rw [hDs] at key
  refine key.mono ?_
  rintro e w' ⟨he, d', n', os, hperm, hsort, rfl⟩
  obtain ⟨hps, _, hpp⟩ := hperm
  rw [hDs] at hps
  have e1 : d'.extract 0 n = d' := by rw [← hps]; exact Array.extract_size
  have e2 : D.toArray.extract 0 n = D.toArray := by rw [← hDs]; exact Array.extract_size
  rw [e1, e2] at hpp
  have hTl : d'.toList.length = n := by simpa using hps
  refine ⟨he, ⟨d'.toList.map (fun x => x.1.2), ?_, ?_, ?_⟩, grownBy_sortW _⟩
  · have := hpp.map (fun x : SpA w => x.1.2)
    rw [List.toList_toArray, hDm] at this
    exact this
  · intro i j hi hj hij
    rw [List.getElem_map, List.getElem_map]
    by_cases e : i = j
    · subst e; exact Int.le_refl _
    · have := hsort i j (Nat.zero_le _) (by omega) (by simp at hj; omega)
      rw [ltA_f, getElem!_pos d' i (by simpa using hi), getElem!_pos d' j (by simpa using hj)] at this
      simp only [Array.getElem_toList]
      omega
  · refine ⟨d'.toList.map encA, ⟨by simp [hps], .inr ⟨g, c, _, by simp [hps], hb, heap_sortW _ hheap, by simp [hps]; exact hnn, hcap, by simp [putCells, hsz], ?_⟩⟩, fun i hi => ?_⟩
    · rw [List.length_map, List.length_map, hTl, Nat.mul_one, ← hps]
      exact take_putW _ _ (by omega)
    · have hi' : i < d'.toList.length := by simpa using hi
      have e3 : rowL ((d'.toList.map (fun x => x.1.2)).map rowP) i = rowP d'.toList[i].1.2 := by
        rw [rowL_map _ (by simpa using hi')]
        simp
      rw [e3]
      exact ⟨d'.toList[i].1.1.1, d'.toList[i].1.1.2, by rw [List.getElem?_map, List.getElem?_eq_getElem hi']; rfl, hkeep (grownBy_sortW _) d'.toList[i]⟩
end Go.Proofs.YtckjkfcphcnpdaaGreat
