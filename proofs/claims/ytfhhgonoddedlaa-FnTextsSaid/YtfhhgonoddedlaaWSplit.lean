/- SplitAny of impl and of spec. No condition. -/
import Derived.Test.YtfhhgonoddedlaaWParseS
import Derived.Deep.DeepCutAuto
namespace Go.Proofs.Ytfhhgonoddedlaa
set_option maxRecDepth 100000
open Go.ChangeShapes Go.WideShapes Go.ChangeAt Go.RowKit Go.Joins

/-- The pieces before place k, and where the next one begins. -/
def spl (b s : List UInt8) : Nat → List (List UInt8) × Nat
  | 0 => ([], 0)
  | k + 1 => if bnth s k ∈ b then ((spl b s k).1 ++ [(s.drop (spl b s k).2).take (k - (spl b s k).2)], k + 1) else spl b s k
def pieces (b s : List UInt8) : List (List UInt8) := (spl b s s.length).1 ++ [s.drop (spl b s s.length).2]
theorem spl_le (b s : List UInt8) : ∀ k, (spl b s k).2 ≤ k ∧ (spl b s k).1.length ≤ k
  | 0 => by simp [spl]
  | k + 1 => by
    have := spl_le b s k
    simp only [spl]
    split
    · simp; omega
    · omega
theorem spl_in {b s : List UInt8} {k : Nat} (h : bnth s k ∈ b) : spl b s (k + 1) = ((spl b s k).1 ++ [(s.drop (spl b s k).2).take (k - (spl b s k).2)], k + 1) := by simp only [spl, if_pos h]
theorem spl_out {b s : List UInt8} {k : Nat} (h : ¬ bnth s k ∈ b) : spl b s (k + 1) = spl b s k := by simp only [spl, if_neg h]
theorem index_mem (b : List UInt8) (c : UInt8) : 0 ≤ Lib.indexByte b c ↔ c ∈ b := by
  induction b with
  | nil => simp [Lib.indexByte]
  | cons x b ih =>
    have hg := Lib.indexByte_ge b c
    simp only [Lib.indexByte]
    by_cases h : x = c
    · subst h; simp
    · have h' : (x == c) = false := by simpa using h
      rw [h']
      simp only [Bool.false_eq_true, if_false, List.mem_cons]
      by_cases e : Lib.indexByte b c = -1
      · rw [e] at ih ⊢
        simp at ih ⊢
        exact ⟨fun e => h e.symm, ih⟩
      · have e' : (Lib.indexByte b c == -1) = false := by simpa using e
        rw [e']
        simp only [Bool.false_eq_true, if_false]
        constructor
        · intro _; exact Or.inr (ih.1 (by omega))
        · intro hh
          rcases hh with hh | hh
          · exact absurd hh.symm h
          · have := ih.2 hh; omega
theorem u8_back (c : UInt8) : ((c.toNat : Int).toNat).toUInt8 = c := by
  simp
theorem idxB (b : List UInt8) (c : UInt8) (w : World) : Calls Try.prog 86 #[.string (bstr b), .int .u8 (c.toNat : Int)] w fun e w' => e = .returned (.int .i64 (Lib.indexByte b c)) ∧ w = w' :=
  (Try.strings_IndexByte (bstr b) (c.toNat : Int) w).mono fun e w' ⟨he, hw⟩ => ⟨by rw [he, bstr_data, u8_back], hw.symm⟩
def GivesS (w : World) (l : List (List UInt8)) (e : Ending) (w' : World) : Prop := ∃ v, e = .returned v ∧ w'.ownsRow w.heap.size 9 1 v l.length (scells l) ∧ Ge w w'

set_option maxHeartbeats 1600000 in
theorem iSplitAny (s b : List UInt8) (w : World) (hm : s.length ≤ 1048576) :
    Calls Try.prog 54 #[.string (bstr s), .string (bstr b)] w (GivesS w (pieces b s)) := by
  obtain ⟨n, hn⟩ : ∃ n, s.length = n := ⟨_, rfl⟩
  have hsz : (bstr s).size = n := by rw [bstr_size, hn]
  have HN := Lib.hid hn
  have HAt := Lib.hid (fun k h => bstr_at s k h)
  have HI := Lib.hid (fun c w => idxB b c w)
  rw [hn] at hm
  clear hn
  go_enter Try.func54, Try.ntmps54
  go_wp2_with fail
  go_loopw [5, 6, 11] (fun v f i wr => ∃ k : Nat, k ≤ n ∧ i = .int .i64 k ∧ f = .int .i64 ((spl b s k).2 : Nat) ∧ wr.ownsRow w.heap.size 9 1 v (spl b s k).1.length (scells (spl b s k).1) ∧ Ge w wr) (fun _ _ i _ => n - (intOf i).toNat)
  case atStart => exact ⟨0, Nat.zero_le _, rfl, rfl, owns_lit0 _ _ _, by (repeat (first | with_reducible exact Ge.refl _ | assumption | with_reducible refine Ge.drew ?_ | with_reducible refine Ge.drewN ?_ _ | with_reducible refine Ge.alloc ?_ _ | (with_reducible refine Ge.setCell ?_ (by first | (simp; done) | omega | (simp; omega)) _) | with_reducible refine Ge.trans ?_ (by assumption)))⟩
  case round =>
    obtain ⟨k, hk, rfl, rfl, hown, hg⟩ := hrel
    obtain ⟨l1, l2⟩ := spl_le b s k
    by_cases hlt : k < n
    · have hx := HAt.out k (by omega)
      by_cases hin : bnth s k ∈ b
      · have hi := (index_mem b (bnth s k)).2 hin
        have HS := Lib.hid (spl_in hin)
        have he := bstr_extract s (spl b s k).2 k
        have zg := hg.size
        obtain ⟨f, hf⟩ : ∃ f, (spl b s k).2 = f := ⟨_, rfl⟩
        rw [hf] at HS he l1
        have HF := Lib.hid hf
        generalize (spl b s k).1 = L at *
        rw [hf]
        clear hin hf
        generalize bnth s k = c at *
        go_wp2_with (first
          | (go_at_call 86; ((with_reducible refine (HI.out c _).mono ?_); rintro e w' ⟨rfl, rfl⟩))
          | (at_builtin; refine ap_str rfl _ _ rfl w.heap.size _ L rfl hown _ rfl (by omega) zg ?_; intro v' w6 own6 hm6))
        go_roundw
        case rel => exact ⟨k + 1, by omega, by go_num, by rw [HS.out]; exact rfl, by rw [HS.out]; exact own6, hg.mine hown (Nat.le_refl _) hm6⟩
        case measure => simp [intOf]; omega
      · have hi : ¬ 0 ≤ Lib.indexByte b (bnth s k) := fun h => hin ((index_mem b (bnth s k)).1 h)
        have HS := Lib.hid (spl_out hin)
        clear hin
        generalize bnth s k = c at *
        go_wp2_with ((go_at_call 86; ((with_reducible refine (HI.out c _).mono ?_); rintro e w' ⟨rfl, rfl⟩)))
        go_roundw
        case rel => exact ⟨k + 1, by omega, by go_num, by rw [HS.out], by rw [HS.out]; exact hown, hg⟩
        case measure => simp [intOf]; omega
    · have hkn : k = n := by omega
      subst hkn
      have he := bstr_extract s (spl b s k).2 k
      have zg := hg.size
      have HP : Hid (pieces b s = (spl b s k).1 ++ [s.drop (spl b s k).2]) := by
        show _ = _
        unfold pieces; rw [HN.out]
      have ht : (s.drop (spl b s k).2).take (k - (spl b s k).2) = s.drop (spl b s k).2 := by
        apply List.take_of_length_le
        rw [List.length_drop, HN.out]; exact Nat.le_refl _
      rw [ht] at he
      clear ht
      go_wp2_with ((at_builtin; refine ap_str rfl _ _ rfl w.heap.size _ (spl b s k).1 rfl hown _ rfl (by omega) zg ?_; intro v' w6 own6 hm6))
      go_ret
      exact ⟨_, rfl, by rw [HP.out]; exact own6, hg.mine hown (Nat.le_refl _) hm6⟩

theorem in_small {b : List UInt8} {c : UInt8} {j : Nat} (hj : j < b.length) (h : bnth b j = c) : c ∈ b := by
  rw [bnth_eq b j hj] at h; rw [← h]; exact List.getElem_mem _
theorem not_in {b : List UInt8} {c : UInt8} (h : ∀ j, j < b.length → ¬ bnth b j = c) : ¬ c ∈ b := fun hc => by
  obtain ⟨j, hj, e⟩ := List.getElem_of_mem hc
  exact h j hj (by rw [bnth_eq b j hj]; exact e)

end Go.Proofs.Ytfhhgonoddedlaa
