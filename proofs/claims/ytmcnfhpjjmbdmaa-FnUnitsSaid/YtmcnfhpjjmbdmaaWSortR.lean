/- slices.SortFunc of fractions in lowest terms by RatioCmp: the row is sorted. Fractions in lowest terms, positive, up to 1000. -/
import Derived.Test.YtmcnfhpjjmbdmaaPlFr
import Derived.Test.YtmcnfhpjjmbdmaaWFlR
import Derived.Test.YtmcnfhpjjmbdmaaWRatCmp
import Derived.Test.YtmcnfhpjjmbdmaaShelf
namespace Go.Proofs.Ytmcnfhpjjmbdmaa
set_option maxRecDepth 100000
open Go.ChangeShapes Go.WideShapes Go.ChangeAt Go.RowKit Go.Joins Go.Sort Go.Lib Go.Shelf

def encF (x : Fr) : List Value := [.int .i64 x.1.n, .int .i64 x.1.d]
theorem flat_encF (d : Array Fr) : (flatK encF 2 d).toList = icells (fl (d.toList.map (·.1))) := by
  apply List.ext_getElem?
  intro t
  by_cases ht : t < d.size * 2
  · obtain ⟨q, r, e, hr, hq⟩ : ∃ q r, t = q * 2 + r ∧ r < 2 ∧ q < d.size := ⟨t / 2, t % 2, by omega, by omega, by omega⟩
    obtain ⟨z1, z2⟩ := fl_get (d.toList.map (·.1)) q (by simpa using hq)
    have e0 : (d.toList.map (·.1))[q]! = (d[q]!).1 := by
      rw [getElem!_pos d q hq, getElem!_pos (d.toList.map (·.1)) q (by simpa using hq)]
      simp
    rw [e0] at z1 z2
    have hL : (flatK encF 2 d).toList[t]? = some ((encF d[t / 2]!)[t % 2]!) := by
      rw [List.getElem?_eq_getElem (by simp; omega)]
      have := get_flatK encF 2 d t ht
      rw [getElem!_pos _ t (by simpa using ht)] at this
      rw [Array.getElem_toList, this]
    rw [hL]
    have h4 : r = 0 ∨ r = 1 := by omega
    unfold icells
    rcases h4 with rfl | rfl
    · rw [List.getElem?_map, e, Nat.add_zero, z1, show q * 2 / 2 = q by omega, show q * 2 % 2 = 0 by omega]
      rfl
    · rw [List.getElem?_map, e, z2, show (q * 2 + 1) / 2 = q by omega, show (q * 2 + 1) % 2 = 1 by omega]
      rfl
  · rw [List.getElem?_eq_none (by simp; omega), List.getElem?_eq_none (by rw [icells_length, fl_len]; simp; omega)]

theorem heap_sortedK {w : World} {g n : Nat} {os : Array Obj} {cur : Array Value} {e : TypeId} {fr : Nat × Nat} (d : Array Value) (hb : w.heap[g]? = some (.cells cur e fr)) :
    (grow (putRow id (Sort.ahead w n) g 0 d) os).heap[g]? = some (.cells (putCells id 0 d cur) e fr) := by
  have hg : g < w.heap.size := (Array.getElem?_eq_some_iff.1 hb).1
  rw [heap_grow_old _ _ (by simpa using hg)]
  simp [putRow, mapBlock, Sort.ahead, Array.getElem?_modify, hb, onCells]
theorem grownBy_sortedK {w : World} {g n : Nat} {os : Array Obj} (d : Array Value) : w.grownBy (grow (putRow id (Sort.ahead w n) g 0 d) os) (some g) := by
  refine ⟨rfl, rfl, rfl, by simp, fun k hk hne => ?_⟩
  rw [heap_grow_old _ _ (by simpa using hk)]
  have : g ≠ k := fun e => hne (by rw [e])
  simp [putRow, mapBlock, Sort.ahead, Array.getElem?_modify, this]
theorem take_putCellsK (cur d : Array Value) (h : d.size ≤ cur.size) : (putCells id 0 d cur).toList.take d.size = d.toList := by
  apply List.ext_getElem?
  intro j
  by_cases hj : j < d.size
  · rw [List.getElem?_take_of_lt hj, Array.getElem?_toList]
    simp [putCells, hj, show j < cur.size by omega]
  · rw [List.getElem?_take_eq_none (by omega), List.getElem?_eq_none (by simp; omega)]

theorem cmpLaysF (blk off size : Nat) (w : World) : CmpLays Try.prog 16 #[] encF 2 cmpF blk off size w := by
  intro m os dk _ x y
  obtain ⟨⟨xn, xd⟩, h1, h2, h3, h4, h5⟩ := x
  obtain ⟨⟨yn, yd⟩, k1, k2, k3, k4, k5⟩ := y
  simp only at h1 h2 h3 h4 h5 k1 k2 k3 k4 k5
  obtain ⟨a, rfl⟩ := Int.eq_ofNat_of_zero_le (show 0 ≤ xn by omega)
  obtain ⟨b, rfl⟩ := Int.eq_ofNat_of_zero_le (show 0 ≤ xd by omega)
  obtain ⟨c, rfl⟩ := Int.eq_ofNat_of_zero_le (show 0 ≤ yn by omega)
  obtain ⟨d, rfl⟩ := Int.eq_ofNat_of_zero_le (show 0 ≤ yd by omega)
  refine (iRatioCmpD a b c d (sortWorldK encF 2 w blk off m dk os) (by omega) (by omega) (by omega) (by omega) (by omega) (by omega) h5 k5).mono ?_
  rintro e w' ⟨rfl, hg⟩
  exact ⟨rfl, hg.grow⟩

theorem enters_cmp : ∀ args w, (callFunc 16 args).run Try.prog w = .ok (.enter 16 args) w := enters_of Try.func16 (by kernel_rfl) rfl

theorem sortRat (base g n c : Nat) (l s : List Rt) (w w0 : World) (h : OwR w base (.slice (some ⟨g, 0, none⟩) n c) l) (hl : l.length = n) (hm : n ≤ 1000) (hgood : ∀ r ∈ l, goodF r)
    (hp : s.Perm l) (hs : s.Pairwise fun a b => ltR b a = false) (hg0 : Ge w0 w) (hgs : w0.heap.size ≤ g) :
    Calls Try.prog 39 #[.slice (some ⟨g, 0, none⟩) n c, .func (.func 16) #[] #[]] w fun e w' =>
      e = .returned (.tuple #[]) ∧ OwR w' base (.slice (some ⟨g, 0, none⟩) n c) s ∧ Ge w0 w' := by
  subst hl
  obtain ⟨h1, h2⟩ := h
  rcases h2 with ⟨h', _⟩ | ⟨g', cap', cur, hv, hb, hheap, hn, hcap, hsz, ht⟩
  · simp at h'
  simp only [Value.slice.injEq, Option.some.injEq, Addr.mk.injEq, and_true, true_and] at hv
  obtain ⟨rfl, rfl⟩ := hv
  let lf : List Fr := l.attach.map fun x => ⟨x.1, hgood x.1 x.2⟩
  have hlf : lf.map (·.1) = l := by simp [lf]
  have hlen : lf.length = l.length := by rw [← hlf]; simp
  have hblk : g < w.heap.size := (Array.getElem?_eq_some_iff.1 hheap).1
  have hfl : (flatK encF 2 lf.toArray).toList = icells (fl l) := by rw [flat_encF]; simp [hlf]
  have hH : HoldsK encF 2 w g 0 lf.toArray := by
    intro j hj
    have hj' : j < (icells (fl l)).length := by rw [← hfl]; simpa using hj
    have e1 : (flatK encF 2 lf.toArray)[j]? = (icells (fl l))[j]? := by rw [← hfl, Array.getElem?_toList]
    refine ⟨?_, by simp [World.frozen?, hheap]⟩
    have e2 := World.ownsRow.cellAt (⟨h1, .inr ⟨g, c, cur, rfl, hb, hheap, hn, hcap, hsz, ht⟩⟩ : w.ownsRow base 30 2 (.slice (some ⟨g, 0, none⟩) l.length c) l.length (icells (fl l))) j (by rw [icells_length, fl_len] at hj'; exact hj')
    rw [Nat.zero_add, e2, ← e1]
    rw [getElem!_pos _ j hj]
    simp
  have key := AnyQ.slices_SortFunc Try.laysSortR 2 Try.isAgg30 Try.sizeOf30 encF (fun _ => rfl) (fun x v hv => by simp [encF] at hv; rcases hv with rfl | rfl <;> rfl) cmpF swoF 16 #[] g 0 c lf.toArray w enters_cmp (cmpLaysF g 0 lf.toArray.size w) hH hblk (by simp; omega)
  have hsz2 : lf.toArray.size = l.length := by simp [hlen]
  rw [hsz2] at key
  refine key.mono ?_
  rintro e w' ⟨he, d', n', os, hperm, hsort, rfl⟩
  obtain ⟨hps, _, hpp⟩ := hperm
  have hds : d'.size = l.length := by rw [hps, hsz2]
  have e1 : d'.extract 0 l.length = d' := by rw [← hds]; exact Array.extract_size
  have e2 : lf.toArray.extract 0 l.length = lf.toArray := by rw [← hsz2]; exact Array.extract_size
  rw [e1, e2] at hpp
  have hS : d'.toList.map (·.1) = s := by
    refine sorted_uniqueF hgood (by have := hpp.map (·.1); rwa [List.toList_toArray, hlf] at this) hp ?_ hs
    rw [List.pairwise_map, List.pairwise_iff_getElem]
    intro i j hi hj hij
    have := hsort i j (Nat.zero_le _) hij (by simp at hj; omega)
    rw [ltF_eq, getElem!_pos d' i (by simpa using hi), getElem!_pos d' j (by simpa using hj)] at this
    simpa using this
  have hfd : (flatK encF 2 d').toList = icells (fl s) := by rw [flat_encF, hS]
  have hsl : s.length = l.length := hp.length_eq
  have hflen : (flatK encF 2 d').size = l.length * 2 := by rw [size_flatK, hds]
  refine ⟨he, ?_, hg0.grown (grownBy_sortedK _) (fun k hk => by simp at hk; omega)⟩
  unfold OwR
  rw [hsl]
  refine ⟨by rw [icells_length, fl_len, hsl], .inr ⟨g, c, _, rfl, hb, heap_sortedK _ hheap, hn, hcap, by simp [putCells, hsz], ?_⟩⟩
  rw [← hflen, take_putCellsK _ _ (by rw [hflen, hsz]; omega), hfd]
end Go.Proofs.Ytmcnfhpjjmbdmaa
