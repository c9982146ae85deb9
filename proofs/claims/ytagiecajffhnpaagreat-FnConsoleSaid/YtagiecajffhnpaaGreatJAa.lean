/- ParseInt of spec. No condition. SplitAny of impl and of spec. No condition. The lines of a session that the reference makes. No condition. Plain law: when a network is valid; marking rounds against a search. No program in sight. Plain law: weights of a network. No program in sight. Plain law: the Laplacian, its minors. No program in sight. det of impl. No condition. l04Det of the reference. No condition. -/
import Derived.Test.YtagiecajffhnpaaGreatWParse
import Derived.Test.YtagiecajffhnpaaGreatWDrewN
import Derived.Test.YtagiecajffhnpaaGreatWFlat
import Derived.Test.YtagiecajffhnpaaGreatPlDet
import Derived.Test.YtagiecajffhnpaaGreatWDet0
import Derived.Deep.DeepCutAuto
namespace Go.Proofs.YtagiecajffhnpaaGreat
set_option maxRecDepth 100000
open Go.ChangeShapes Go.WideShapes Go.ChangeAt Go.RowKit Go.Joins

theorem bstr_extract (l : List UInt8) (i j : Nat) : (bstr l).extract i j = bstr ((l.drop i).take (j - i)) := by
  apply ByteArray.ext
  simp [bstr]
end Go.Proofs.YtagiecajffhnpaaGreat

namespace Go.Proofs.YtagiecajffhnpaaGreat
set_option maxRecDepth 100000
open Go.ChangeShapes Go.WideShapes Go.ChangeAt Go.RowKit Go.Joins

/-- The pieces before place k, and where the next one begins. -/
def spl (b s : List UInt8) : Nat → List (List UInt8) × Nat
  | 0 => ([], 0)
  | k + 1 => if bnth s k ∈ b then ((spl b s k).1 ++ [(s.drop (spl b s k).2).take (k - (spl b s k).2)], k + 1) else spl b s k
def pieces (b s : List UInt8) : List (List UInt8) := (spl b s s.length).1 ++ [s.drop (spl b s s.length).2]
theorem spl_le (b s : List UInt8) : ∀ k, (spl b s k).2 ≤ k ∧ (spl b s k).1.length ≤ k
  | 0 => by simp [spl]
  | k + 1 => by
    have := spl_le b s k
    simp only [spl]
    split
    · simp; omega
    · omega
theorem spl_in {b s : List UInt8} {k : Nat} (h : bnth s k ∈ b) : spl b s (k + 1) = ((spl b s k).1 ++ [(s.drop (spl b s k).2).take (k - (spl b s k).2)], k + 1) := by simp only [spl, if_pos h]
theorem spl_out {b s : List UInt8} {k : Nat} (h : ¬ bnth s k ∈ b) : spl b s (k + 1) = spl b s k := by simp only [spl, if_neg h]
theorem index_mem (b : List UInt8) (c : UInt8) : 0 ≤ Lib.indexByte b c ↔ c ∈ b := by
  induction b with
  | nil => simp [Lib.indexByte]
  | cons x b ih =>
    have hg := Lib.indexByte_ge b c
    simp only [Lib.indexByte]
    by_cases h : x = c
    · subst h; simp
    · have h' : (x == c) = false := by simpa using h
      rw [h']
      simp only [Bool.false_eq_true, if_false, List.mem_cons]
      by_cases e : Lib.indexByte b c = -1
      · rw [e] at ih ⊢
        simp at ih ⊢
        exact ⟨fun e => h e.symm, ih⟩
      · have e' : (Lib.indexByte b c == -1) = false := by simpa using e
        rw [e']
        simp only [Bool.false_eq_true, if_false]
        constructor
        · intro _; exact Or.inr (ih.1 (by omega))
        · intro hh
          rcases hh with hh | hh
          · exact absurd hh.symm h
          · have := ih.2 hh; omega
theorem u8_back (c : UInt8) : ((c.toNat : Int).toNat).toUInt8 = c := by
  simp
theorem idxB (b : List UInt8) (c : UInt8) (w : World) : Calls Tryz.prog 26 #[.string (bstr b), .int .u8 (c.toNat : Int)] w fun e w' => e = .returned (.int .i64 (Lib.indexByte b c)) ∧ w = w' :=
  (Tryz.strings_IndexByte (bstr b) (c.toNat : Int) w).mono fun e w' ⟨he, hw⟩ => ⟨by rw [he, bstr_data, u8_back], hw.symm⟩
def GivesS (w : World) (l : List (List UInt8)) (e : Ending) (w' : World) : Prop := ∃ v, e = .returned v ∧ w'.ownsRow w.heap.size 9 1 v l.length (scells l) ∧ Ge w w'

set_option maxHeartbeats 1600000 in
theorem iSplitAny (s b : List UInt8) (w : World) (hm : s.length ≤ 1048576) :
    Calls Tryz.prog 15 #[.string (bstr s), .string (bstr b)] w (GivesS w (pieces b s)) := by
  obtain ⟨n, hn⟩ : ∃ n, s.length = n := ⟨_, rfl⟩
  have hsz : (bstr s).size = n := by rw [bstr_size, hn]
  have HN := Lib.hid hn
  have HAt := Lib.hid (fun k h => bstr_at s k h)
  have HI := Lib.hid (fun c w => idxB b c w)
  rw [hn] at hm
  clear hn
  go_enter Tryz.func15, Tryz.ntmps15
  go_wp2_with fail
  go_loopw [5, 6, 11] (fun v f i wr => ∃ k : Nat, k ≤ n ∧ i = .int .i64 k ∧ f = .int .i64 ((spl b s k).2 : Nat) ∧ wr.ownsRow w.heap.size 9 1 v (spl b s k).1.length (scells (spl b s k).1) ∧ Ge w wr) (fun _ _ i _ => n - (intOf i).toNat)
  case atStart => exact ⟨0, Nat.zero_le _, rfl, rfl, owns_lit0 _ _ _, kge⟩
  case round =>
    obtain ⟨k, hk, rfl, rfl, hown, hg⟩ := hrel
    obtain ⟨l1, l2⟩ := spl_le b s k
    by_cases hlt : k < n
    · have hx := HAt.out k (by omega)
      by_cases hin : bnth s k ∈ b
      · have hi := (index_mem b (bnth s k)).2 hin
        have HS := Lib.hid (spl_in hin)
        have he := bstr_extract s (spl b s k).2 k
        have zg := hg.size
        obtain ⟨f, hf⟩ : ∃ f, (spl b s k).2 = f := ⟨_, rfl⟩
        rw [hf] at HS he l1
        have HF := Lib.hid hf
        generalize (spl b s k).1 = L at *
        rw [hf]
        clear hin hf
        generalize bnth s k = c at *
        go_wp2_with (first
          | (go_at_call 26; ((with_reducible refine (HI.out c _).mono ?_); rintro e w' ⟨rfl, rfl⟩))
          | (at_builtin; refine ap_str rfl _ _ rfl w.heap.size _ L rfl hown _ rfl (by omega) zg ?_; intro v' w6 own6 hm6))
        go_roundw
        case rel => exact ⟨k + 1, by omega, by go_num, by rw [HS.out]; exact rfl, by rw [HS.out]; exact own6, hg.mine hown (Nat.le_refl _) hm6⟩
        case measure => simp [intOf]; omega
      · have hi : ¬ 0 ≤ Lib.indexByte b (bnth s k) := fun h => hin ((index_mem b (bnth s k)).1 h)
        have HS := Lib.hid (spl_out hin)
        clear hin
        generalize bnth s k = c at *
        go_wp2_with ((go_at_call 26; ((with_reducible refine (HI.out c _).mono ?_); rintro e w' ⟨rfl, rfl⟩)))
        go_roundw
        case rel => exact ⟨k + 1, by omega, by go_num, by rw [HS.out], by rw [HS.out]; exact hown, hg⟩
        case measure => simp [intOf]; omega
    · have hkn : k = n := by omega
      subst hkn
      have he := bstr_extract s (spl b s k).2 k
      have zg := hg.size
      have HP : Hid (pieces b s = (spl b s k).1 ++ [s.drop (spl b s k).2]) := by
        show _ = _
        unfold pieces; rw [HN.out]
      have ht : (s.drop (spl b s k).2).take (k - (spl b s k).2) = s.drop (spl b s k).2 := by
        apply List.take_of_length_le
        rw [List.length_drop, HN.out]; exact Nat.le_refl _
      rw [ht] at he
      clear ht
      go_wp2_with ((at_builtin; refine ap_str rfl _ _ rfl w.heap.size _ (spl b s k).1 rfl hown _ rfl (by omega) zg ?_; intro v' w6 own6 hm6))
      go_ret
      exact ⟨_, rfl, by rw [HP.out]; exact own6, hg.mine hown (Nat.le_refl _) hm6⟩

end Go.Proofs.YtagiecajffhnpaaGreat

namespace Go.Proofs.YtagiecajffhnpaaGreat
set_option maxRecDepth 100000
open Go.ChangeShapes Go.WideShapes Go.ChangeAt Go.RowKit Go.Joins

def netsL : List (List UInt8) := [[110, 101, 116, 32, 51, 47, 50, 47, 49, 58, 32, 48, 45, 50, 61, 49, 32, 49, 45, 50, 61, 50],
  [110, 101, 116, 32, 52, 47, 51, 47, 49, 58, 32, 48, 45, 51, 61, 49, 32, 49, 45, 51, 61, 50, 32, 50, 45, 51, 61, 51],
  [110, 101, 116, 32, 51, 47, 51, 47, 49, 58, 32, 48, 45, 49, 61, 49, 32, 48, 45, 50, 61, 50, 32, 49, 45, 50, 61, 51],
  [110, 101, 116, 32, 52, 47, 50, 47, 49, 58, 32, 48, 45, 50, 61, 49, 32, 48, 45, 51, 61, 49, 32, 49, 45, 50, 61, 49, 32, 49, 45, 51, 61, 50, 32, 50, 45, 51, 61, 49]]
def lineA : List (List UInt8) := [[112, 117, 116, 32, 48, 32, 49, 32, 50],
  [112, 117, 116, 32, 48, 32, 50, 32, 49],
  [112, 117, 116, 32, 48, 32, 49, 32, 48],
  [106, 111, 105, 110, 32, 48, 32, 49],
  [115, 119, 97, 112, 32, 48, 32, 50],
  [115, 119, 97, 112, 32, 49, 32, 49],
  [100, 114, 111, 112, 32, 50],
  [100, 114, 111, 112, 32, 51],
  [109, 101, 115, 104, 32, 50],
  [109, 101, 115, 104, 32, 51],
  [115, 116, 97, 114, 32, 48, 32, 49, 32, 50],
  [115, 116, 97, 114, 32, 48, 32, 49, 32, 51]]
def lineB : List (List UInt8) := [[99, 97, 110, 111, 110],
  [114, 101, 100, 117, 99, 101],
  [97, 108, 108],
  [115, 104, 111, 119],
  [104, 105, 100, 100, 101, 110],
  [98, 108, 105, 110, 100]]
def lineC : List (List UInt8) := [[114, 101, 115, 105, 115, 116, 32, 48, 32, 49],
  [114, 101, 115, 105, 115, 116, 32, 49, 32, 50],
  [118, 111, 108, 116, 115, 32, 48, 32, 49],
  [118, 111, 108, 116, 115, 32, 50, 32, 48],
  [99, 117, 114, 114, 101, 110, 116, 32, 48, 32, 49, 32, 48, 32, 49],
  [99, 117, 114, 114, 101, 110, 116, 32, 48, 32, 49, 32, 50, 32, 49],
  [104, 105, 116, 32, 50, 32, 48, 32, 49],
  [99, 111, 109, 109, 117, 116, 101, 32, 48, 32, 49],
  [102, 101, 101, 100, 32, 49, 32, 48],
  [102, 101, 101, 100, 32, 49, 32, 45, 49, 32, 50],
  [108, 97, 100, 100, 101, 114, 32, 55, 32, 53],
  [108, 97, 100, 100, 101, 114, 32, 51, 32, 52],
  [99, 117, 116, 32, 53, 32, 51]]
def lineD : List (List UInt8) := [[],
  [35, 32, 110, 111, 116, 101],
  [119, 104, 97, 116],
  [110, 101, 116, 32, 50, 47, 50, 47, 49, 58, 32, 48, 45, 49, 61, 51],
  [110, 101, 116, 32, 51, 47, 50, 47, 49, 58, 32, 48, 45, 49, 61, 51],
  [110, 101, 116, 32, 51, 47, 51, 47, 50, 58, 32, 48, 45, 49, 61, 50, 32, 49, 45, 50, 61, 52],
  [112, 117, 116, 32, 48, 32, 49],
  [112, 117, 116, 32, 48, 32, 57, 32, 49],
  [112, 117, 116, 32, 120, 32, 49, 32, 49],
  [100, 114, 111, 112, 32, 48],
  [114, 101, 115, 105, 115, 116, 32, 48, 32, 57],
  [114, 101, 115, 105, 115, 116, 32, 48],
  [102, 101, 101, 100],
  [102, 101, 101, 100, 32, 49],
  [104, 105, 116, 32, 48, 32, 49, 32, 49],
  [108, 97, 100, 100, 101, 114, 32, 48, 32, 49],
  [99, 117, 116, 32, 48, 32, 49],
  [115, 104, 111, 119, 32, 49]]
def lineSet : List (List UInt8) := lineA ++ (lineB ++ (lineC ++ lineD))
theorem Drew.mineN {a b c : World} {g : Nat} {v : Value} (h : Drew a b g) (hm : Mine b c v) (hv : ∀ k, v.ownBlock = some k → a.heap.size ≤ k) (hg : g < a.heap.size) : Drew a c g :=
  ⟨CurD.mine h.1 hm (fun k hk => by have := hv k hk; omega), ⟨hm.os.trans h.2.os, hm.tape.trans h.2.tape, hm.output.trans h.2.output, Nat.le_trans h.2.size hm.size, fun j hj hne => (hm.block j (Nat.lt_of_lt_of_le hj h.2.size) (fun e => by have := hv j e.symm; omega)).trans (h.2.block j hj hne)⟩⟩
theorem scells_get (l : List (List UInt8)) (i : Nat) (h : i < l.length) : ((scells l).toArray)[i]? = some (.string (bstr (tnth l i))) := by
  rw [tnth_eq l i h]
  simp [scells, h]
set_option maxHeartbeats 800000 in
theorem sL01Str (g b N : Nat) (l : List (List UInt8)) (w : World) (hc : Cur w g) (hl : l.length = N) (h0 : 0 < N) (hN : N ≤ 256) (hcell : ∀ i, i < N → w.cell? ⟨b, i, none⟩ = some (.string (bstr (tnth l i)))) (hne : b ≠ g) :
    Calls Tryz.prog 27 #[.pointer (some ⟨g, 0, none⟩), .slice (some ⟨b, 0, none⟩) N N] w fun r w' => ∃ s, s ∈ l ∧ r = .returned (.string (bstr s)) ∧ Drew w w' g := by
  have HC := Lib.hid hc
  have HCl := Lib.hid hcell
  have HM : Hid (∀ k, k < N → tnth l k ∈ l) := fun k hk => by rw [tnth_eq l k (by omega)]; exact List.getElem_mem _
  clear hc hcell hl
  go_enter Tryz.func27, Tryz.ntmps27
  go_wp2_with ((go_at_call 28; ((with_reducible refine (sL01Below _ _ _ HC.out (by omega) (by omega)).mono ?_); rintro e w1 ⟨x, rfl, x0, x1, hd⟩)); obtain ⟨k, rfl⟩ := Int.eq_ofNat_of_zero_le x0; have hk : k < N := (by omega); have y0 := World.grownBy.cell hd.2 (HCl.out k hk) (fun e => hne (Option.some.inj e)); have HD := Lib.hid hd; clear hd)
  go_ret
  exact ⟨_, HM.out k hk, rfl, HD.out⟩
set_option maxHeartbeats 1600000 in
theorem sL17Line (g : Nat) (w : World) (hc : Cur w g) : Calls Tryz.prog 29 #[.pointer (some ⟨g, 0, none⟩)] w fun r w' => ∃ s, s ∈ lineSet ∧ r = .returned (.string (bstr s)) ∧ Drew w w' g := by
  have HC := Lib.hid hc
  clear hc
  have HA : Hid (∀ s, s ∈ lineA → s ∈ lineSet) := fun s h => List.mem_append.2 (.inl h)
  have HB : Hid (∀ s, s ∈ lineB → s ∈ lineSet) := fun s h => List.mem_append.2 (.inr (List.mem_append.2 (.inl h)))
  have HCc : Hid (∀ s, s ∈ lineC → s ∈ lineSet) := fun s h => List.mem_append.2 (.inr (List.mem_append.2 (.inr (List.mem_append.2 (.inl h)))))
  have HDd : Hid (∀ s, s ∈ lineD → s ∈ lineSet) := fun s h => List.mem_append.2 (.inr (List.mem_append.2 (.inr (List.mem_append.2 (.inr h)))))
  go_enter Tryz.func29, Tryz.ntmps29
  go_upto_region 2 with ((go_at_call 28; ((with_reducible refine (sL01Below _ _ _ HC.out (by omega) (by omega)).mono ?_); rintro e w1 ⟨x, rfl, x0, x1, hd⟩)))
  have HC1 := Lib.hid hd.1
  have HD := Lib.hid hd
  have lg : g < w1.heap.size := by obtain ⟨_, _, _, _, _, _, c0, _⟩ := hd.1; exact World.block_lt_of_cell? _ _ c0
  clear hd
  have hx : x = 0 ∨ x = 1 ∨ x = 2 ∨ x = 3 := by omega
  rcases hx with rfl | rfl | rfl | rfl
  · have hcl : Hid (∀ i, i < 12 → (w1.alloc (.cells (scells lineA).toArray 9)).cell? ⟨w1.heap.size, i, none⟩ = some (.string (bstr (tnth lineA i)))) := fun i hi => cell_new rfl (scells_get lineA i hi)
    have hlit : Hid ((scells lineA).toArray = (scells lineA).toArray) := rfl
    go_wp2_with ((go_at_call 27; ((refine Calls.mono (sL01Str g w1.heap.size 12 lineA _ (CurD.ge HC1.out (Ge.alloc (Ge.refl _) _)) rfl (by omega) (by omega) hcl.out (by omega)) ?_); rintro r w2 ⟨s, hs, rfl, hd2⟩)))
    go_ret
    exact ⟨s, HA.out s hs, rfl, (HD.out.geN (Ge.alloc (Ge.refl _) _)).trans hd2⟩
  · have hcl : Hid (∀ i, i < 6 → (w1.alloc (.cells (scells lineB).toArray 9)).cell? ⟨w1.heap.size, i, none⟩ = some (.string (bstr (tnth lineB i)))) := fun i hi => cell_new rfl (scells_get lineB i hi)
    have hlit : Hid ((scells lineB).toArray = (scells lineB).toArray) := rfl
    go_wp2_with ((go_at_call 27; ((refine Calls.mono (sL01Str g w1.heap.size 6 lineB _ (CurD.ge HC1.out (Ge.alloc (Ge.refl _) _)) rfl (by omega) (by omega) hcl.out (by omega)) ?_); rintro r w2 ⟨s, hs, rfl, hd2⟩)))
    go_ret
    exact ⟨s, HB.out s hs, rfl, (HD.out.geN (Ge.alloc (Ge.refl _) _)).trans hd2⟩
  · have hcl : Hid (∀ i, i < 13 → (w1.alloc (.cells (scells lineC).toArray 9)).cell? ⟨w1.heap.size, i, none⟩ = some (.string (bstr (tnth lineC i)))) := fun i hi => cell_new rfl (scells_get lineC i hi)
    have hlit : Hid ((scells lineC).toArray = (scells lineC).toArray) := rfl
    go_wp2_with ((go_at_call 27; ((refine Calls.mono (sL01Str g w1.heap.size 13 lineC _ (CurD.ge HC1.out (Ge.alloc (Ge.refl _) _)) rfl (by omega) (by omega) hcl.out (by omega)) ?_); rintro r w2 ⟨s, hs, rfl, hd2⟩)))
    go_ret
    exact ⟨s, HCc.out s hs, rfl, (HD.out.geN (Ge.alloc (Ge.refl _) _)).trans hd2⟩
  · have hcl : Hid (∀ i, i < 18 → (w1.alloc (.cells (scells lineD).toArray 9)).cell? ⟨w1.heap.size, i, none⟩ = some (.string (bstr (tnth lineD i)))) := fun i hi => cell_new rfl (scells_get lineD i hi)
    have hlit : Hid ((scells lineD).toArray = (scells lineD).toArray) := rfl
    go_wp2_with ((go_at_call 27; ((refine Calls.mono (sL01Str g w1.heap.size 18 lineD _ (CurD.ge HC1.out (Ge.alloc (Ge.refl _) _)) rfl (by omega) (by omega) hcl.out (by omega)) ?_); rintro r w2 ⟨s, hs, rfl, hd2⟩)))
    go_ret
    exact ⟨s, HDd.out s hs, rfl, (HD.out.geN (Ge.alloc (Ge.refl _) _)).trans hd2⟩
set_option maxHeartbeats 1600000 in
theorem sL17Script (g : Nat) (w : World) (hc : Cur w g) : Calls Tryz.prog 16 #[.pointer (some ⟨g, 0, none⟩), .int .i64 8] w fun r w' => ∃ (v : Value) (f : List UInt8) (ts : List (List UInt8)), r = .returned v ∧ f ∈ netsL ∧ (1 ≤ ts.length ∧ ts.length ≤ 8) ∧ (∀ s ∈ ts, s ∈ lineSet) ∧
    w'.ownsRow w.heap.size 9 1 v (f :: ts).length (scells (f :: ts)) ∧ ∀ a, Ge a w → a.heap.size ≤ g → Ge a w' := by
  have HC := Lib.hid hc
  have lg0 : g < w.heap.size := by obtain ⟨_, _, _, _, _, _, c0, _⟩ := hc; exact World.block_lt_of_cell? _ _ c0
  clear hc
  have hcl : Hid (∀ i, i < 4 → (w.alloc (.cells (scells netsL).toArray 9)).cell? ⟨w.heap.size, i, none⟩ = some (.string (bstr (tnth netsL i)))) := fun i hi => cell_new rfl (scells_get netsL i hi)
  go_enter Tryz.func16, Tryz.ntmps16
  go_upto_region 2 with ((go_at_call 27; ((refine Calls.mono (sL01Str g w.heap.size 4 netsL _ (CurD.ge HC.out (Ge.alloc (Ge.refl _) _)) rfl (by omega) (by omega) hcl.out (by omega)) ?_); rintro r w1 ⟨f, hf, rfl, hd1⟩)))
  have HD1 : Hid (Drew w w1 g) := (((Drew.self HC.out).geN (Ge.alloc (Ge.refl _) _)).trans hd1)
  have HF := Lib.hid hf
  have lg1 : g < w1.heap.size := by obtain ⟨_, _, _, _, _, _, c0, _⟩ := HD1.out.1; exact World.block_lt_of_cell? _ _ c0
  clear hd1 hf
  have own1 : (w1.alloc (.cells #[.string (bstr f)] 9)).ownsRow w.heap.size 9 1 (.slice (some ⟨w1.heap.size, 0, none⟩) 1 1) 1 (scells [f]) := World.ownsRow_lit w1 #[.string (bstr f)] 1 HD1.out.2.size (by unfold maxLen; omega) (by simp)
  have HC2 : Hid (Cur (w1.alloc (.cells #[.string (bstr f)] 9)) g) := CurD.ge HD1.out.1 ((Ge.refl _).alloc _)
  have HD2 : Hid (Drew w (w1.alloc (.cells #[.string (bstr f)] 9)) g) := HD1.out.geN ((Ge.refl _).alloc _)
  have O1 := Lib.hid own1
  clear own1
  go_wp2_with ((go_at_call 28; ((with_reducible refine (sL01Below _ _ _ HC2.out (by omega) (by omega)).mono ?_); rintro e w4 ⟨k, rfl, k0, k1, hd4⟩)))
  have HD4 : Hid (Drew w w4 g) := HD2.out.trans hd4
  have O4 := Lib.hid (hd4.ownsN O1.out lg0)
  clear hd4
  obtain ⟨q, rfl⟩ := Int.eq_ofNat_of_zero_le k0
  go_loopw [5, 6] (fun s i wr => ∃ (ts : List (List UInt8)) (z : Nat), i = .int .i64 z ∧ z + ts.length = 1 + q ∧ Hid (∀ x ∈ ts, x ∈ lineSet) ∧ Hid (wr.ownsRow w.heap.size 9 1 s (f :: ts).length (scells (f :: ts))) ∧ Hid (Drew w wr g)) (fun _ i _ => (intOf i).toNat)
  case atStart => exact ⟨[], 1 + q, by go_num, by simp, fun x hx => by simp at hx, O4.out, HD4.out⟩
  case round =>
    clear O4 HD4 O1 HD2 HC2 HD1
    obtain ⟨ts, z, rfl, hz, HX, HO, HDr⟩ := hrel
    by_cases hlt : 0 < z
    · have hts : (f :: ts).length < 1000 := by simp; omega
      have lgr : g < wr.heap.size := by obtain ⟨_, _, _, _, _, _, c0, _⟩ := HDr.out.1; exact World.block_lt_of_cell? _ _ c0
      go_wp2_with (first
        | ((go_at_call 29; ((with_reducible refine (sL17Line _ _ HDr.out.cur).mono ?_); rintro r w5 ⟨y, hy, rfl, hd5⟩)); have O5 := Lib.hid (hd5.ownsN HO.out lg0); have l5 : w.heap.size ≤ w5.heap.size := Nat.le_trans HDr.out.2.size hd5.2.size; have HD5 := Lib.hid (HDr.out.trans hd5); have HY := Lib.hid hy; clear hd5 hy)
        | (at_builtin; refine ap_str rfl _ _ rfl w.heap.size _ (f :: ts) rfl O5.out _ rfl (by omega) l5 ?_; intro v' w6 own6 hm6))
      go_roundw
      case rel =>
        have hne : ∀ k, u5.ownBlock = some k → w.heap.size ≤ k := fun k hk => (O5.out.lt k hk).1
        exact ⟨ts ++ [y], z - 1, by go_num, by simp; omega, fun x hx => by
          rcases List.mem_append.1 hx with h | h
          · exact HX.out x h
          · simp only [List.mem_cons, List.not_mem_nil, or_false] at h
            subst h
            exact HY.out, own6, HD5.out.mineN hm6 hne lg0⟩
      case measure => simp [intOf]; omega
    · have hz0 : z = 0 := by omega
      subst hz0
      go_wp2_with fail
      go_ret
      exact ⟨_, f, ts, rfl, HF.out, ⟨by omega, by omega⟩, HX.out, HO.out, fun a ha hb => HDr.out.ge ha hb⟩
end Go.Proofs.YtagiecajffhnpaaGreat

namespace Go.Proofs.YtagiecajffhnpaaGreat

open Go.RowKit

def wa (xs : List Int) (k : Nat) : Int := nth xs (k * 3)
def wb (xs : List Int) (k : Nat) : Int := nth xs (k * 3 + 1)
def ww (xs : List Int) (k : Nat) : Int := nth xs (k * 3 + 2)
def ordW (xs : List Int) (j k : Nat) : Prop := wa xs j < wa xs k ∨ wa xs j = wa xs k ∧ wb xs j < wb xs k
def okW (N : Int) (xs : List Int) (k : Nat) : Prop := 0 ≤ wa xs k ∧ wa xs k < wb xs k ∧ wb xs k < N ∧ 1 ≤ ww xs k ∧ ww xs k ≤ 200
def goodW (N : Int) (xs : List Int) (k : Nat) : Prop := okW N xs k ∧ (0 < k → ordW xs (k - 1) k)

/-- The ends of the first m wires. -/
def prs (xs : List Int) (m : Nat) : List (Nat × Nat) := (List.range m).map fun k => ((wa xs k).toNat, (wb xs k).toNat)
theorem prs_succ (xs : List Int) (m : Nat) : prs xs (m + 1) = prs xs m ++ [((wa xs m).toNat, (wb xs m).toNat)] := by simp [prs, List.range_succ]

/-- One wire of a marking sweep. -/
def mstep (met : List Bool) (e : Nat × Nat) : List Bool := if met.getD e.1 false || met.getD e.2 false then (met.set e.1 true).set e.2 true else met
def msweep (met : List Bool) (l : List (Nat × Nat)) : List Bool := l.foldl mstep met
def mrounds (l : List (Nat × Nat)) (met : List Bool) : Nat → List Bool
  | 0 => met
  | r + 1 => msweep (mrounds l met r) l
def minit (N : Nat) : List Bool := (List.replicate N false).set 0 true
def mconn (N : Nat) (l : List (Nat × Nat)) : Bool := !(mrounds l (minit N) N).contains false
theorem mstep_length (met : List Bool) (e : Nat × Nat) : (mstep met e).length = met.length := by unfold mstep; split <;> simp
theorem msweep_length (l : List (Nat × Nat)) : ∀ met, (msweep met l).length = met.length := by
  induction l with
  | nil => intro met; rfl
  | cons e l ih => intro met; show (msweep (mstep met e) l).length = _; rw [ih, mstep_length]
theorem msweep_snoc (met : List Bool) (l : List (Nat × Nat)) (e : Nat × Nat) : msweep met (l ++ [e]) = mstep (msweep met l) e := by simp [msweep, List.foldl_append]
theorem mrounds_length (l : List (Nat × Nat)) (met : List Bool) (r : Nat) : (mrounds l met r).length = met.length := by
  induction r with
  | zero => rfl
  | succ r ih => show (msweep _ _).length = _; rw [msweep_length, ih]
theorem minit_length (N : Nat) : (minit N).length = N := by simp [minit]

/-- All wires that there can be. -/
def allW : List (Nat × Nat) := [(0, 1), (0, 2), (0, 3), (0, 4), (1, 2), (1, 3), (1, 4), (2, 3), (2, 4), (3, 4)]
def univ (N : Nat) : List (Nat × Nat) := allW.filter fun e => decide (e.2 < N)
def subs {α : Type} : List α → List (List α)
  | [] => [[]]
  | x :: l => subs l ++ (subs l).map (x :: ·)
theorem mem_subs {α : Type} {l u : List α} (h : List.Sublist l u) : l ∈ subs u := by
  induction h with
  | slnil => simp [subs]
  | cons a h ih => simp [subs, ih]
  | cons_cons a h ih => simp [subs, ih]
def ltP (a b : Nat × Nat) : Prop := a.1 < b.1 ∨ a.1 = b.1 ∧ a.2 < b.2
instance (a b : Nat × Nat) : Decidable (ltP a b) := by unfold ltP; infer_instance
theorem ltP_trans {a b c : Nat × Nat} (h : ltP a b) (k : ltP b c) : ltP a c := by unfold ltP at *; omega
theorem ltP_irrefl (a : Nat × Nat) : ¬ ltP a a := by unfold ltP; omega
theorem sorted_sub : ∀ (u l : List (Nat × Nat)), u.Pairwise ltP → l.Pairwise ltP → (∀ x ∈ l, x ∈ u) → List.Sublist l u := by
  intro u
  induction u with
  | nil =>
    intro l _ _ h
    cases l with
    | nil => exact List.Sublist.slnil
    | cons x l => exact absurd (h x (by simp)) (by simp)
  | cons y u ih =>
    intro l hu hl h
    rw [List.pairwise_cons] at hu
    cases l with
    | nil => exact List.nil_sublist _
    | cons x l =>
      rw [List.pairwise_cons] at hl
      by_cases e : x = y
      · subst e
        refine List.Sublist.cons_cons x (ih l hu.2 hl.2 fun z hz => ?_)
        rcases List.mem_cons.1 (h z (List.mem_cons_of_mem _ hz)) with e | e
        · subst e; exact absurd (hl.1 _ hz) (ltP_irrefl _)
        · exact e
      · refine List.Sublist.cons y (ih (x :: l) hu.2 (List.pairwise_cons.2 hl) fun z hz => ?_)
        have hxu : x ∈ u := by
          rcases List.mem_cons.1 (h x (by simp)) with e' | e'
          · exact absurd e' e
          · exact e'
        rcases List.mem_cons.1 (h z hz) with e' | e'
        · subst e'
          rcases List.mem_cons.1 hz with e2 | e2
          · exact absurd e2.symm e
          · exact absurd (ltP_trans (hu.1 x hxu) (hl.1 _ e2)) (ltP_irrefl _)
        · exact e'

theorem prs_pair (xs : List Int) : ∀ m, (∀ N : Int, (∀ k, k < m → goodW N xs k) → (prs xs m).Pairwise ltP ∧ (∀ k, k < m → ∀ j, j < k → ltP ((wa xs j).toNat, (wb xs j).toNat) ((wa xs k).toNat, (wb xs k).toNat))) := by
  intro m
  induction m with
  | zero => intro N h; simp [prs]
  | succ m ih =>
    intro N h
    obtain ⟨h1, h2⟩ := ih N (fun k hk => h k (by omega))
    have key : ∀ j, j < m → ltP ((wa xs j).toNat, (wb xs j).toNat) ((wa xs m).toNat, (wb xs m).toNat) := by
      intro j hj
      have hm := (h m (by omega)).2 (by omega)
      have o1 := (h m (by omega)).1
      have o2 := (h (m - 1) (by omega)).1
      have step : ltP ((wa xs (m - 1)).toNat, (wb xs (m - 1)).toNat) ((wa xs m).toNat, (wb xs m).toNat) := by
        unfold ltP; unfold ordW at hm; unfold okW at o1 o2; simp only; omega
      by_cases e : j = m - 1
      · subst e; exact step
      · exact ltP_trans (h2 (m - 1) (by omega) j (by omega)) step
    refine ⟨?_, ?_⟩
    · rw [prs_succ, List.pairwise_append]
      refine ⟨h1, by simp, fun a ha b hb => ?_⟩
      simp only [List.mem_singleton] at hb
      subst hb
      simp only [prs, List.mem_map, List.mem_range] at ha
      obtain ⟨j, hj, rfl⟩ := ha
      exact key j hj
    · intro k hk j hj
      by_cases e : k = m
      · subst e; exact key j hj
      · exact h2 k (by omega) j hj
theorem univ_pair : ∀ N, (univ N).Pairwise ltP := fun N => List.Pairwise.filter _ (by decide)
theorem mem_univ {N a b : Nat} (h5 : N ≤ 5) (h : a < b) (hb : b < N) : (a, b) ∈ univ N := by
  simp only [univ, List.mem_filter, decide_eq_true_eq]
  refine ⟨?_, hb⟩
  have : ∀ b, b < 5 → ∀ a, a < b → (a, b) ∈ allW := by decide
  exact this b (by omega) a h
theorem prs_sub {N : Int} {xs : List Int} {m : Nat} (h5 : N ≤ 5) (h : ∀ k, k < m → goodW N xs k) : List.Sublist (prs xs m) (univ N.toNat) := by
  refine sorted_sub _ _ (univ_pair _) (prs_pair xs m N h).1 fun x hx => ?_
  simp only [prs, List.mem_map, List.mem_range] at hx
  obtain ⟨k, hk, rfl⟩ := hx
  obtain ⟨a, b, c, _⟩ := (h k hk).1
  exact mem_univ (by omega) (by omega) (by omega)
theorem prs_len {N : Int} {xs : List Int} {m : Nat} (h5 : N ≤ 5) (h : ∀ k, k < m → goodW N xs k) : m ≤ 10 := by
  have h1 := (prs_sub h5 h).length_le
  have h2 : (univ N.toNat).length ≤ allW.length := List.length_filter_le _ _
  have h3 : (prs xs m).length = m := by simp [prs]
  have h4 : allW.length = 10 := rfl
  omega

/-- A network is valid. -/
def netP (N E S : Int) (m : Nat) (xs : List Int) : Prop := (1 ≤ N ∧ N ≤ 5) ∧ (1 ≤ E ∧ E ≤ N) ∧ (1 ≤ S ∧ S ≤ 1000) ∧ (∀ k, k < m → goodW N xs k) ∧ mconn N.toNat (prs xs m) = true
open Classical in

noncomputable def netB (N E S : Int) (m : Nat) (xs : List Int) : Bool := if netP N E S m xs then true else false
theorem netB_true {N E S : Int} {m : Nat} {xs : List Int} (h : netP N E S m xs) : netB N E S m xs = true := by simp [netB, h]
theorem netB_false {N E S : Int} {m : Nat} {xs : List Int} (h : ¬ netP N E S m xs) : netB N E S m xs = false := by simp [netB, h]
theorem netP_of {N E S : Int} {m : Nat} {xs : List Int} (h : netB N E S m xs = true) : netP N E S m xs := by
  unfold netB at h
  split at h
  · assumption
  · cases h
end Go.Proofs.YtagiecajffhnpaaGreat

namespace Go.Proofs.YtagiecajffhnpaaGreat

open Go.RowKit

def isW (xs : List Int) (a b : Int) (k : Nat) : Prop := wa xs k = min a b ∧ wb xs k = max a b
instance (xs : List Int) (a b : Int) (k : Nat) : Decidable (isW xs a b k) := by unfold isW; infer_instance
def wfind (xs : List Int) (a b : Int) : Nat → Option Nat
  | 0 => none
  | m + 1 => match wfind xs a b m with
    | some k => some k
    | none => if isW xs a b m then some m else none
theorem wfind_none {xs : List Int} {a b : Int} : ∀ {m : Nat}, (∀ j, j < m → ¬ isW xs a b j) → wfind xs a b m = none
  | 0, _ => rfl
  | m + 1, h => by
    simp only [wfind, wfind_none (m := m) (fun j hj => h j (by omega)), if_neg (h m (by omega))]
theorem wfind_some {xs : List Int} {a b : Int} {k : Nat} (h : ∀ j, j < k → ¬ isW xs a b j) (hk : isW xs a b k) : ∀ {m : Nat}, k < m → wfind xs a b m = some k
  | 0, hm => by omega
  | m + 1, hm => by
    by_cases e : k = m
    · subst e; simp only [wfind, wfind_none h, if_pos hk]
    · simp only [wfind, wfind_some h hk (m := m) (by omega)]
def wbet (xs : List Int) (m : Nat) (a b : Int) : Int := match wfind xs a b m with
  | some k => ww xs k
  | none => 0
theorem wbet_some {xs : List Int} {m k : Nat} {a b : Int} (h : wfind xs a b m = some k) : wbet xs m a b = ww xs k := by simp [wbet, h]
theorem wbet_none {xs : List Int} {m : Nat} {a b : Int} (h : wfind xs a b m = none) : wbet xs m a b = 0 := by simp [wbet, h]
theorem wfind_lt {xs : List Int} {a b : Int} : ∀ {m k : Nat}, wfind xs a b m = some k → k < m ∧ isW xs a b k
  | 0, k, h => by simp [wfind] at h
  | m + 1, k, h => by
    simp only [wfind] at h
    split at h
    · rename_i j hj
      have := wfind_lt hj
      simp at h; subst h
      exact ⟨by omega, this.2⟩
    · split at h
      · rename_i hw
        simp at h; subst h
        exact ⟨by omega, hw⟩
      · cases h
theorem wbet_bd {N : Int} {xs : List Int} {m : Nat} (h : ∀ k, k < m → goodW N xs k) (a b : Int) : 0 ≤ wbet xs m a b ∧ wbet xs m a b ≤ 200 := by
  cases e : wfind xs a b m with
  | none => rw [wbet_none e]; omega
  | some k =>
    rw [wbet_some e]
    obtain ⟨_, _, _, q1, q2⟩ := (h k (wfind_lt e).1).1
    omega
/-- Equal ends have no wire. -/
theorem wfind_self {N : Int} {xs : List Int} {m : Nat} (h : ∀ k, k < m → goodW N xs k) (a : Int) : wfind xs a a m = none :=
  wfind_none (fun j hj hw => by
    obtain ⟨_, q, _⟩ := (h j hj).1
    unfold isW at hw; omega)
/-- The sum of the weights at v. -/
def wat (xs : List Int) (v : Int) : Nat → Int
  | 0 => 0
  | k + 1 => wat xs v k + (if wa xs k = v ∨ wb xs k = v then ww xs k else 0)
theorem wat_bd {N : Int} {xs : List Int} (v : Int) : ∀ {m : Nat}, (∀ k, k < m → goodW N xs k) → 0 ≤ wat xs v m ∧ wat xs v m ≤ 200 * m
  | 0, _ => by simp [wat]
  | m + 1, h => by
    have h1 := wat_bd v (m := m) (fun k hk => h k (by omega))
    obtain ⟨_, _, _, q1, q2⟩ := (h m (by omega)).1
    simp only [wat]
    split <;> omega
/-- v is a node. -/
def nodeB (n : Nat) (v : Int) : Bool := decide (0 ≤ v ∧ v < n)
theorem nodeB_t {n : Nat} {v : Int} (h : 0 ≤ v ∧ v < n) : nodeB n v = true := by simpa [nodeB] using h
theorem nodeB_f {n : Nat} {v : Int} (h : ¬ (0 ≤ v ∧ v < n)) : nodeB n v = false := by simpa [nodeB] using h
end Go.Proofs.YtagiecajffhnpaaGreat

namespace Go.Proofs.YtagiecajffhnpaaGreat

open Go.RowKit

/-- An index below N. -/
def below (N : Nat) (x : Int) : Prop := 0 ≤ x ∧ x < N
/-- The Laplacian of a network. -/
def lapZ (xs : List Int) (m : Nat) (a b : Int) : Int := if a = b then wat xs a m else -(wbet xs m a b)
theorem lapZ_bd {N : Int} {xs : List Int} {m : Nat} (h : ∀ k, k < m → goodW N xs k) (hm : m ≤ 10) (a b : Int) : absB (lapZ xs m a b) 2000 := by
  have h1 := wbet_bd h a b
  have h2 := wat_bd a h
  unfold lapZ absB
  split <;> omega
/-- The numbers below k that are not in l. -/
def without (k : Nat) (l : List Int) : List Int := ((List.range k).map (fun (i : Nat) => (i : Int))).filter (fun x => !decide (x ∈ l))
theorem without_in {k : Nat} {l : List Int} (h : (k : Int) ∈ l) : without (k + 1) l = without k l := by
  simp [without, List.range_succ, h]
theorem without_out {k : Nat} {l : List Int} (h : ¬ (k : Int) ∈ l) : without (k + 1) l = without k l ++ [(k : Int)] := by
  simp [without, List.range_succ, h]
theorem without_len (k : Nat) (l : List Int) : (without k l).length ≤ k := by
  refine Nat.le_trans (List.length_filter_le _ _) ?_
  simp
theorem without_below {k : Nat} {l : List Int} : ∀ x ∈ without k l, below k x := fun x hx => by
  simp only [without, List.mem_filter, List.mem_map, List.mem_range] at hx
  obtain ⟨⟨i, hi, rfl⟩, _⟩ := hx
  exact ⟨by omega, by omega⟩
theorem without_lt {k : Nat} {l : List Int} {x : Int} (hx : x ∈ l) (h0 : 0 ≤ x) (h1 : x < k) : (without k l).length + 1 ≤ k := by
  induction k with
  | zero => omega
  | succ k ih =>
    by_cases e : x = k
    · rw [without_in (by rw [← e]; exact hx)]
      have := without_len k l
      omega
    · have h2 := ih (by omega)
      by_cases c : (k : Int) ∈ l
      · rw [without_in c]; omega
      · rw [without_out c]; simp; omega
/-- The minor without some rows and columns. -/
def minorV (n m : Nat) (xs : List Int) (r c : List Int) : Int := detF (lapZ xs m) (without n r) (without n c)
/-- The tree sum of a valid network. -/
def treeT (n m : Nat) (xs : List Int) : Int := minorV n m xs [0] [0]
/-- The forest sum of two nodes of a valid network. -/
def forT (n m : Nat) (xs : List Int) (a b : Int) : Int := minorV n m xs [a, b] [a, b]
theorem minor_bd {n m : Nat} {xs : List Int} (h : ∀ k, k < m → goodW n xs k) (hm : m ≤ 10) (hn : n ≤ 5) (r c : List Int) (hr : (without n r).length ≤ 4) : -10000000000000000 ≤ minorV n m xs r c ∧ minorV n m xs r c ≤ 10000000000000000 := by
  have h1 := detF_bd (lapZ_bd h hm) (without n r) (without n c) (Nat.le_trans (without_len n c) hn)
  have h2 := detB_le (k := (without n r).length) hr
  unfold absB at h1
  unfold minorV
  omega
noncomputable def treeV (N E S : Int) (m : Nat) (xs : List Int) : Int := if netB N E S m xs = true then treeT N.toNat m xs else 0
noncomputable def forV (N E S : Int) (m : Nat) (xs : List Int) (a b : Int) : Int := if netB N E S m xs = true ∧ (0 ≤ a ∧ a < N) ∧ (0 ≤ b ∧ b < N) ∧ ¬ a = b then forT N.toNat m xs a b else 0
theorem treeV_t {N E S : Int} {m : Nat} {xs : List Int} (h : netB N E S m xs = true) : treeV N E S m xs = treeT N.toNat m xs := by simp [treeV, h]
theorem treeV_f {N E S : Int} {m : Nat} {xs : List Int} (h : netB N E S m xs = false) : treeV N E S m xs = 0 := by simp [treeV, h]
theorem forV_t {N E S : Int} {m : Nat} {xs : List Int} {a b : Int} (h : netB N E S m xs = true) (h1 : 0 ≤ a ∧ a < N) (h2 : 0 ≤ b ∧ b < N) (h3 : ¬ a = b) : forV N E S m xs a b = forT N.toNat m xs a b := by
  unfold forV; rw [if_pos ⟨h, h1, h2, h3⟩]
theorem forV_f {N E S : Int} {m : Nat} {xs : List Int} {a b : Int} (h : ¬ (netB N E S m xs = true ∧ (0 ≤ a ∧ a < N) ∧ (0 ≤ b ∧ b < N) ∧ ¬ a = b)) : forV N E S m xs a b = 0 := by
  unfold forV; rw [if_neg h]
end Go.Proofs.YtagiecajffhnpaaGreat

namespace Go.Proofs.YtagiecajffhnpaaGreat
set_option maxRecDepth 100000
open Go.ChangeShapes Go.WideShapes Go.ChangeAt Go.RowKit Go.Joins

theorem tail_slice {w : World} {b o c m : Nat} {r : Int} {rs : List Int} (hm : rs.length = m) (h : SlI w (.slice (some ⟨b, o, none⟩) (m + 1) c) (r :: rs)) : SlI w (.slice (some ⟨b, o + 1, none⟩) m (c - 1)) rs := by
  subst hm
  obtain ⟨p, c', he, hc⟩ := h.openN (n := rs.length + 1) rfl
  simp only [Value.slice.injEq, true_and] at he
  obtain ⟨rfl, rfl⟩ := he
  refine ⟨by simp [icells_length], _, _, rfl, fun i u hu => ?_⟩
  have hi : i < rs.length := by have := (List.getElem?_eq_some_iff.1 hu).1; rwa [icells_length] at this
  obtain ⟨b', o', e, hx⟩ := hc (i + 1) (by omega)
  simp only [Option.some.injEq, Addr.mk.injEq, and_true] at e
  obtain ⟨rfl, rfl⟩ := e
  refine ⟨b, o + 1, rfl, ?_⟩
  rw [show o + 1 + i = o + (i + 1) by omega, hx, ← hu]
  simp [icells, nth, hi]
theorem tail_slice1 {w : World} {b o c m : Nat} {r : Int} {rs : List Int} (hm : rs.length = m) (hc : m + 1 ≤ c) (h : SlI w (.slice (some ⟨b, o, none⟩) (m + 1) c) (r :: rs)) : ∃ (at' : Addr) (cq : Nat), (c = 1 ∧ at' = ⟨b, o, none⟩ ∧ cq = c - 1 ∨ c ≠ 1 ∧ at' = ⟨b, o + 1, none⟩ ∧ cq = c - 1) ∧ (m ≤ cq) ∧ SlI w (.slice (some at') m cq) rs := by
  by_cases h1 : c = 1
  · have : m = 0 := by omega
    subst this
    refine ⟨_, _, .inl ⟨h1, rfl, rfl⟩, by omega, ?_⟩
    obtain rfl := List.eq_nil_of_length_eq_zero hm
    exact ⟨rfl, _, _, rfl, fun i u hu => by simp [icells] at hu⟩
  · exact ⟨_, _, .inr ⟨h1, rfl, rfl⟩, by omega, tail_slice hm h⟩



set_option maxHeartbeats 3200000 in
theorem iDet (N : Nat) (M : Int → Int → Int) (hM : ∀ a b, absB (M a b) 2000) : ∀ (rows cols : List Int) (vm vr vc : Value) (w : World), SlMM w vm N M → SlI w vr rows → SlI w vc cols → (∀ p n c, vr = .slice p n c → n ≤ c) →
    rows.length ≤ 4 → cols.length ≤ 5 → (∀ x ∈ rows, below N x) → (∀ x ∈ cols, below N x) →
    Calls Tryz.prog 114 #[vm, vr, vc] w fun e w' => e = .returned (.int .i64 (detF M rows cols)) ∧ Ge w w' := by
  intro rows
  induction rows with
  | nil =>
    intro cols vm vr vc w hm hr hc hcap h4 h5 hrb hcb
    obtain ⟨pm, cm, rfl, _⟩ := hm
    obtain ⟨pr, cr, rfl, _⟩ := hr.openN (n := 0) rfl
    obtain ⟨pc, cc, rfl, _⟩ := hc.openN rfl
    clear hr hc
    go_enter Tryz.func114, Tryz.ntmps114
    go_wp2_with fail
    go_ret
    exact ⟨rfl, Ge.refl _⟩
  | cons r rs ih =>
    intro cols vm vr vc w hm hr hc hcap h4 h5 hrb hcb
    have HM := Lib.hid hm
    have HR := Lib.hid hr
    have HCo := Lib.hid hc
    obtain ⟨pm, cm, rfl, hmc⟩ := hm
    obtain ⟨m, hmn⟩ : ∃ m, rs.length = m := ⟨_, rfl⟩
    obtain ⟨pr, cr, rfl, hrc⟩ := hr.openN (n := m + 1) (by simp [hmn])
    obtain ⟨n, hn⟩ : ∃ n, cols.length = n := ⟨_, rfl⟩
    obtain ⟨pc, cc, rfl, hcc⟩ := hc.openN hn
    have hcr := hcap _ _ _ rfl
    obtain ⟨b, o, rfl, x0⟩ := hrc 0 (by omega)
    obtain ⟨r0, r1⟩ := hrb r (by simp)
    obtain ⟨ra, rfl⟩ : ∃ ra : Nat, r = (ra : Int) := ⟨r.toNat, by omega⟩
    have hra : ra < N := by omega
    obtain ⟨bm, om, prow, crow, rfl, xm, hrow⟩ := hmc ra hra
    have HMC := Lib.hid hrow
    have HCC := Lib.hid hcc
    have HN := Lib.hid hn
    have HMn := Lib.hid hmn
    have HIH := Lib.hid ih
    have HRB := Lib.hid (fun x (hx : x ∈ rs) => hrb x (List.mem_cons_of_mem _ hx))
    have HCB := Lib.hid hcb
    obtain ⟨at', cq, hcs, hcq, HT⟩ := tail_slice1 hmn (hcap _ _ _ rfl) hr
    replace HT := Lib.hid (fun w' (g : Ge w w') => SlI.ge HT g)
    replace hcs := Lib.hid hcs
    have hbd := detB_le (k := m + 1) (by simp at h4; omega)
    have hbd2 := detB_le (k := m) (by simp at h4; omega)
    have hbm : detB m ≤ 1000000000000 := by
      have := detB_succ m
      omega
    change w.cell? _ = some (.int .i64 (ra : Int)) at x0
    simp only [Nat.add_zero] at x0
    rw [hn] at h5
    simp only [List.length_cons, hmn] at h4
    clear hr hc hmc hrc hcc hrow ih hrb hcb hn hcap hmn
    have tm : ((m : Int) + 1 == 0) = false := by simp; omega
    go_enter Tryz.func114, Tryz.ntmps114
    go_wp2_with fail
    go_loopw [7, 8, 17] (fun s g i wr => ∃ j : Nat, j ≤ n ∧ i = .int .i64 j ∧ s = .int .i64 (detPart M ra rs cols j) ∧ g = .int .i64 (sgn j) ∧ Ge w wr) (fun _ _ i _ => n - (intOf i).toNat)
    case atStart => exact ⟨0, Nat.zero_le _, rfl, rfl, rfl, Ge.refl _⟩
    case round =>
      obtain ⟨j, hj, rfl, rfl, rfl, hg⟩ := hrel
      have hs1 : -1 ≤ sgn j ∧ sgn j ≤ 1 := by unfold sgn; split <;> omega
      have hsn := sgn_succ j
      by_cases hlt : j < n
      · obtain ⟨bc, oc, rfl, y0⟩ := HCC.out j hlt
        obtain ⟨q0, q1⟩ := HCB.out (nth cols j) (by rw [nth_eq cols j (by rw [HN.out]; exact hlt)]; exact List.getElem_mem _)
        obtain ⟨ca, hca⟩ : ∃ ca : Nat, nth cols j = (ca : Int) := ⟨(nth cols j).toNat, by omega⟩
        have hcaN : ca < N := by omega
        obtain ⟨br, or', rfl, z0⟩ := HMC.out ca hcaN
        rw [hca] at y0
        replace x0 := hg.keep x0
        replace xm := hg.keep xm
        replace y0 := hg.keep y0
        replace z0 := hg.keep z0
        have hMb := hM (ra : Int) (ca : Int)
        unfold absB at hMb
        have hpart := detPart_bd hM (ra : Int) rs cols (by rw [HN.out]; exact h5) (j := j) (by rw [HN.out]; exact hj)
        rw [HMn.out] at hpart
        unfold absB at hpart
        have HSk := Lib.hid (fun h => detPart_skip M (ra : Int) rs cols j h)
        have HSu := Lib.hid (detPart_succ M (ra : Int) rs cols j)
        rw [hca] at HSk HSu
        by_cases hx : M (ra : Int) (ca : Int) = 0
        · have tx : (M (ra : Int) (ca : Int) != 0) = false := by simp [hx]
          have HS := Lib.hid (HSk.out hx)
          clear hx
          generalize M (ra : Int) (ca : Int) = X at *
          generalize detPart M (ra : Int) rs cols j = P at *
          generalize sgn j = G at *
          go_wp2_with fail
          go_roundw
          case rel => exact ⟨j + 1, by omega, by go_num, congrArg _ HS.out.symm, (by first | rfl | exact congrArg _ hsn), kge⟩
          case measure => simp [intOf]; omega
        · have tx : (M (ra : Int) (ca : Int) != 0) = true := by simp [hx]
          clear hx
          have hd := detF_bd hM rs (cols.eraseIdx j) (Nat.le_trans (List.length_eraseIdx_le _ _) (by rw [HN.out]; exact h5))
          rw [HMn.out] at hd
          generalize hD : detF M rs (cols.eraseIdx j) = D at *
          have HD := Lib.hid hD
          clear hD
          have hY := term_bd hM j (ra : Int) (ca : Int) D (detB m) (detB_pos m) hd
          have hX1 : absB (sgn j * M (ra : Int) (ca : Int)) 2000 := by
            have := hM (ra : Int) (ca : Int)
            unfold sgn absB at *
            split <;> omega
          unfold absB at hY hX1
          have w1 : IntKind.i64.wrap (sgn j * M (ra : Int) (ca : Int)) = sgn j * M (ra : Int) (ca : Int) := IntWalk.i64_in _ (by omega)
          have w2 : IntKind.i64.wrap (sgn j * M (ra : Int) (ca : Int) * D) = sgn j * M (ra : Int) (ca : Int) * D := IntWalk.i64_in _ (by omega)
          have w3 : IntKind.i64.wrap (detPart M (ra : Int) rs cols j + sgn j * M (ra : Int) (ca : Int) * D) = detPart M (ra : Int) rs cols j + sgn j * M (ra : Int) (ca : Int) * D := IntWalk.i64_in _ (by omega)
          have w4 : IntKind.i64.wrap ((j : Int) + 1) = (j : Int) + 1 := IntWalk.i64_in _ (by omega)
          have HCl := Lib.hid (fun w' (g : Ge wr w') => cloneC (.slice (some ⟨bc, oc, none⟩) n cc) cols w' (SlI.ge HCo.out (Ge.trans hg g)) (by rw [HN.out]; omega) (by rw [HN.out]; omega))
          rw [HN.out] at HCl
          have hcr1 : m + 1 ≤ cr := hcr
          have hcr2 : (1 : Int) ≤ (m : Int) + 1 := by omega
          have HDl := Lib.hid (fun base g c w' h => deleteC base g n c j cols w' h hlt (by omega))
          have HDe := Lib.hid (fun v w' (g : Ge wr w') (h : SlI w' v (cols.eraseIdx j)) => HIH.out (cols.eraseIdx j) (.slice (some ⟨bm, om, none⟩) N cm) (.slice (some at') m cq) v w' (HM.out.ge (Ge.trans hg g)) (HT.out w' (Ge.trans hg g)) h (fun p n c e => by simp at e; omega) (by rw [HMn.out]; omega) (by have := List.length_eraseIdx_le cols j; rw [HN.out] at this; omega) HRB.out (fun x hx => HCB.out x (nth_erase_mem x hx)))
          rw [HD.out] at HDe
          clear hcq
          rcases hcs.out with ⟨hc1, rfl, rfl⟩ | ⟨hc1, rfl, rfl⟩
          · replace hc1 : (cr = 1) = True := eq_true hc1
            go_wp2_with fail
            have hS : ∀ w', Ge wr w' → Ge wr w' := fun _ g => g
            go_region_held3 (fun w' => Ge wr w') (first | ((with_reducible refine hS _ ?_); exact kch) | fail) (first | (go_at_call 107; ((with_reducible refine (HCl.out _ ‹Ge wr _›).mono ?_); rintro e wC ⟨gC, cC, rfl, oC, hb⟩); have hC0 : wr.heap.size ≤ gC := Nat.le_trans (Ge.size ‹Ge wr _›) (oC.lt gC rfl).1; have hCw : Ge wr wC := Ge.trans ‹Ge wr _› hb) | (go_at_call 106; ((with_reducible refine (HDl.out _ _ _ _ (by first | exact oC | exact Ge.owns (Ge.drew (Ge.refl _)) oC)).mono ?_); rintro e wE ⟨rfl, sE, gE⟩); have hEw : Ge wr wE := gE wr ‹Ge wr _› hC0) | (go_at_call 114; ((with_reducible refine (HDe.out _ _ ‹Ge wr _› (by first | exact sE | exact SlI.ge sE (Ge.drew (Ge.refl _)))).mono ?_); rintro e wF ⟨rfl, hb⟩)) | fail)
            rename_i G7
            clear hS
            go_wp2_with fail
            go_roundw
            case rel => exact ⟨j + 1, by omega, by go_num, congrArg _ HSu.out.symm, (by first | rfl | exact congrArg _ hsn), kge⟩
            case measure => simp [intOf]; omega
          · replace hc1 : (cr = 1) = False := eq_false hc1
            go_wp2_with fail
            have hS : ∀ w', Ge wr w' → Ge wr w' := fun _ g => g
            go_region_held3 (fun w' => Ge wr w') (first | ((with_reducible refine hS _ ?_); exact kch) | fail) (first | (go_at_call 107; ((with_reducible refine (HCl.out _ ‹Ge wr _›).mono ?_); rintro e wC ⟨gC, cC, rfl, oC, hb⟩); have hC0 : wr.heap.size ≤ gC := Nat.le_trans (Ge.size ‹Ge wr _›) (oC.lt gC rfl).1; have hCw : Ge wr wC := Ge.trans ‹Ge wr _› hb) | (go_at_call 106; ((with_reducible refine (HDl.out _ _ _ _ (by first | exact oC | exact Ge.owns (Ge.drew (Ge.refl _)) oC)).mono ?_); rintro e wE ⟨rfl, sE, gE⟩); have hEw : Ge wr wE := gE wr ‹Ge wr _› hC0) | (go_at_call 114; ((with_reducible refine (HDe.out _ _ ‹Ge wr _› (by first | exact sE | exact SlI.ge sE (Ge.drew (Ge.refl _)))).mono ?_); rintro e wF ⟨rfl, hb⟩)) | fail)
            rename_i G7
            clear hS
            go_wp2_with fail
            go_roundw
            case rel => exact ⟨j + 1, by omega, by go_num, congrArg _ HSu.out.symm, (by first | rfl | exact congrArg _ hsn), kge⟩
            case measure => simp [intOf]; omega
      · have hjn : j = n := by omega
        subst hjn
        have HF : Hid (detF M ((ra : Int) :: rs) cols = detPart M ra rs cols j) := by
          show _ = _
          rw [detF_part, HN.out]
        go_wp2_with fail
        go_ret
        exact ⟨ret_int HF.out.symm, hg⟩
end Go.Proofs.YtagiecajffhnpaaGreat

namespace Go.Proofs.YtagiecajffhnpaaGreat
set_option maxRecDepth 100000
open Go.ChangeShapes Go.WideShapes Go.ChangeAt Go.RowKit Go.Joins

theorem ap_intsK {w : World} {o : Oper} {a : Act} {K : Act → World → Prop} {Q : Exit → Act → World → Prop} (s x : Operand)
    (ho : o.op = .call { callee := .builtin .append, args := #[s, x], argTypes := #[51, 51] })
    (base : Nat) (v : Value) (n : Nat) (l : List Int) (hs : a.eval s = v) (hown : w.ownsRow base 3 1 v n (icells l)) (hb : base ≤ w.heap.size)
    (ad : Addr) (m c : Nat) (y : List Int) (hx : a.eval x = .slice (some ad) m c) (hy : SlI w (.slice (some ad) m c) y) (hn : n + m < 1000)
    (h : ∀ v' w', w'.ownsRow base 3 1 v' (n + m) (icells (l ++ y)) → Mine w w' v → K (a.put o.dst v') w') : o.wp Tryz.prog a w K Q := by
  obtain ⟨i, hi, e⟩ : ∃ i, Tryz.prog.info? 3 = some i ∧ (i.zero, i.size, i.bytes) = (some (.int .i64 0), 1, 8) := by
    have := inf_int
    cases hc : Tryz.prog.info? 3 with
    | none => rw [hc] at this; simp at this
    | some i => rw [hc] at this; exact ⟨i, rfl, by simpa using this⟩
  simp only [Prod.mk.injEq] at e
  obtain ⟨h1, p, c', he, hc⟩ := hy
  simp only [Value.slice.injEq] at he
  obtain ⟨rfl, hm, rfl⟩ := he
  refine wp_append_own w s x 51 ho base 3 i _ 1 8 Tryz.underlying51 hi e.1 e.2.1 e.2.2 rfl (by decide) v n (icells l) hs hown ad m c (icells y) hx (by rw [h1, hm]) (fun j u hu => ?_) (fun u hu => ?_) (by unfold maxLen; omega) (by omega) hb (fun v' w' h2 h3 _ => h v' w' (by rw [← icells_append]; exact h2) h3)
  · obtain ⟨b, o, e, hz⟩ := hc j u hu
    simp only [Option.some.injEq] at e
    subst e
    by_cases hj0 : j = 0
    · subst hj0; simpa [Addr.add] using hz
    · simpa [Addr.add, hj0] using hz
  · simp only [icells, List.mem_map] at hu
    obtain ⟨_, _, rfl⟩ := hu
    rfl
theorem wr64 (x : Int) (h1 : -9223372036854775808 ≤ x) (h2 : x ≤ 9223372036854775807) : wrap64 x = x := by
  unfold wrap64
  omega
theorem owns_cap {w : World} {base : Nat} {e : TypeId} {sz : Nat} {v : Value} {n : Nat} {xs : List Value} (h : w.ownsRow base e sz v n xs) : ∀ p n' c, v = .slice p n' c → n' ≤ c := by
  intro p n' c hv
  rcases h.2 with ⟨h', _⟩ | ⟨g', cap', cur, h', _, _, hnc, _⟩
  · rw [hv] at h'; simp at h'; omega
  · rw [hv] at h'; simp at h'; omega

end Go.Proofs.YtagiecajffhnpaaGreat
