/- SplitAny of impl and of spec. No condition. -/
import Derived.Test.YtppabikbepdobaaWParseS
import Derived.Deep.DeepCutAuto
namespace Go.Proofs.Ytppabikbepdobaa
set_option maxRecDepth 100000
open Go.ChangeShapes Go.WideShapes Go.ChangeAt Go.RowKit Go.Joins

/-- The pieces before place k, and where the next one begins. -/
def spl (b s : List UInt8) : Nat → List (List UInt8) × Nat
  | 0 => ([], 0)
  | k + 1 => if bnth s k ∈ b then ((spl b s k).1 ++ [(s.drop (spl b s k).2).take (k - (spl b s k).2)], k + 1) else spl b s k
def pieces (b s : List UInt8) : List (List UInt8) := (spl b s s.length).1 ++ [s.drop (spl b s s.length).2]
theorem spl_le (b s : List UInt8) : ∀ k, (spl b s k).2 ≤ k ∧ (spl b s k).1.length ≤ k
  | 0 => by simp [spl]
  | k + 1 => by
    have := spl_le b s k
    simp only [spl]
    split
    · simp; omega
    · omega
theorem spl_in {b s : List UInt8} {k : Nat} (h : bnth s k ∈ b) : spl b s (k + 1) = ((spl b s k).1 ++ [(s.drop (spl b s k).2).take (k - (spl b s k).2)], k + 1) := by simp only [spl, if_pos h]
theorem spl_out {b s : List UInt8} {k : Nat} (h : ¬ bnth s k ∈ b) : spl b s (k + 1) = spl b s k := by simp only [spl, if_neg h]
theorem index_mem (b : List UInt8) (c : UInt8) : 0 ≤ Lib.indexByte b c ↔ c ∈ b := by
  induction b with
  | nil => simp [Lib.indexByte]
  | cons x b ih =>
    have hg := Lib.indexByte_ge b c
    simp only [Lib.indexByte]
    by_cases h : x = c
    · subst h; simp
    · have h' : (x == c) = false := by simpa using h
      rw [h']
      simp only [Bool.false_eq_true, if_false, List.mem_cons]
      by_cases e : Lib.indexByte b c = -1
      · rw [e] at ih ⊢
        simp at ih ⊢
        exact ⟨fun e => h e.symm, ih⟩
      · have e' : (Lib.indexByte b c == -1) = false := by simpa using e
        rw [e']
        simp only [Bool.false_eq_true, if_false]
        constructor
        · intro _; exact Or.inr (ih.1 (by omega))
        · intro hh
          rcases hh with hh | hh
          · exact absurd hh.symm h
          · have := ih.2 hh; omega
theorem u8_back (c : UInt8) : ((c.toNat : Int).toNat).toUInt8 = c := by
  simp
theorem idxB (b : List UInt8) (c : UInt8) (w : World) : Calls Try.prog 106 #[.string (bstr b), .int .u8 (c.toNat : Int)] w fun e w' => e = .returned (.int .i64 (Lib.indexByte b c)) ∧ w = w' :=
  (Try.strings_IndexByte (bstr b) (c.toNat : Int) w).mono fun e w' ⟨he, hw⟩ => ⟨by rw [he, bstr_data, u8_back], hw.symm⟩
def GivesS (w : World) (l : List (List UInt8)) (e : Ending) (w' : World) : Prop := ∃ v, e = .returned v ∧ w'.ownsRow w.heap.size 9 1 v l.length (scells l) ∧ Ge w w'

set_option maxHeartbeats 1600000 in
theorem iSplitAny (s b : List UInt8) (w : World) (hm : s.length ≤ 1048576) :
    Calls Try.prog 65 #[.string (bstr s), .string (bstr b)] w (GivesS w (pieces b s)) := by
  obtain ⟨n, hn⟩ : ∃ n, s.length = n := ⟨_, rfl⟩
  have hsz : (bstr s).size = n := by rw [bstr_size, hn]
  have HN := Lib.hid hn
  have HAt := Lib.hid (fun k h => bstr_at s k h)
  have HI := Lib.hid (fun c w => idxB b c w)
  rw [hn] at hm
  clear hn
  go_enter Try.func65, Try.ntmps65
  go_wp2_with fail
  go_loopw [5, 6, 11] (fun v f i wr => ∃ k : Nat, k ≤ n ∧ i = .int .i64 k ∧ f = .int .i64 ((spl b s k).2 : Nat) ∧ wr.ownsRow w.heap.size 9 1 v (spl b s k).1.length (scells (spl b s k).1) ∧ Ge w wr) (fun _ _ i _ => n - (intOf i).toNat)
  case atStart => exact ⟨0, Nat.zero_le _, rfl, rfl, owns_lit0 _ _ _, by (repeat (first | with_reducible exact Ge.refl _ | assumption | with_reducible refine Ge.drew ?_ | with_reducible refine Ge.drewN ?_ _ | with_reducible refine Ge.alloc ?_ _ | (with_reducible refine Ge.setCell ?_ (by first | (simp; done) | omega | (simp; omega)) _) | with_reducible refine Ge.trans ?_ (by assumption)))⟩
  case round =>
    obtain ⟨k, hk, rfl, rfl, hown, hg⟩ := hrel
    obtain ⟨l1, l2⟩ := spl_le b s k
    by_cases hlt : k < n
    · have hx := HAt.out k (by omega)
      by_cases hin : bnth s k ∈ b
      · have hi := (index_mem b (bnth s k)).2 hin
        have HS := Lib.hid (spl_in hin)
        have he := bstr_extract s (spl b s k).2 k
        have zg := hg.size
        obtain ⟨f, hf⟩ : ∃ f, (spl b s k).2 = f := ⟨_, rfl⟩
        rw [hf] at HS he l1
        have HF := Lib.hid hf
        generalize (spl b s k).1 = L at *
        rw [hf]
        clear hin hf
        generalize bnth s k = c at *
        go_wp2_with (first
          | (go_at_call 106; ((with_reducible refine (HI.out c _).mono ?_); rintro e w' ⟨rfl, rfl⟩))
          | (at_builtin; refine ap_str rfl _ _ rfl w.heap.size _ L rfl hown _ rfl (by omega) zg ?_; intro v' w6 own6 hm6))
        go_roundw
        case rel => exact ⟨k + 1, by omega, by go_num, by rw [HS.out]; exact rfl, by rw [HS.out]; exact own6, hg.mine hown (Nat.le_refl _) hm6⟩
        case measure => simp [intOf]; omega
      · have hi : ¬ 0 ≤ Lib.indexByte b (bnth s k) := fun h => hin ((index_mem b (bnth s k)).1 h)
        have HS := Lib.hid (spl_out hin)
        clear hin
        generalize bnth s k = c at *
        go_wp2_with ((go_at_call 106; ((with_reducible refine (HI.out c _).mono ?_); rintro e w' ⟨rfl, rfl⟩)))
        go_roundw
        case rel => exact ⟨k + 1, by omega, by go_num, by rw [HS.out], by rw [HS.out]; exact hown, hg⟩
        case measure => simp [intOf]; omega
    · have hkn : k = n := by omega
      subst hkn
      have he := bstr_extract s (spl b s k).2 k
      have zg := hg.size
      have HP : Hid (pieces b s = (spl b s k).1 ++ [s.drop (spl b s k).2]) := by
        show _ = _
        unfold pieces; rw [HN.out]
      have ht : (s.drop (spl b s k).2).take (k - (spl b s k).2) = s.drop (spl b s k).2 := by
        apply List.take_of_length_le
        rw [List.length_drop, HN.out]; exact Nat.le_refl _
      rw [ht] at he
      clear ht
      go_wp2_with ((at_builtin; refine ap_str rfl _ _ rfl w.heap.size _ (spl b s k).1 rfl hown _ rfl (by omega) zg ?_; intro v' w6 own6 hm6))
      go_ret
      exact ⟨_, rfl, by rw [HP.out]; exact own6, hg.mine hown (Nat.le_refl _) hm6⟩

theorem in_small {b : List UInt8} {c : UInt8} {j : Nat} (hj : j < b.length) (h : bnth b j = c) : c ∈ b := by
  rw [bnth_eq b j hj] at h; rw [← h]; exact List.getElem_mem _
theorem not_in {b : List UInt8} {c : UInt8} (h : ∀ j, j < b.length → ¬ bnth b j = c) : ¬ c ∈ b := fun hc => by
  obtain ⟨j, hj, e⟩ := List.getElem_of_mem hc
  exact h j hj (by rw [bnth_eq b j hj]; exact e)

set_option maxHeartbeats 1600000 in
theorem sSplitAny (s b : List UInt8) (w : World) (hm : s.length ≤ 1048576) (hb : b.length ≤ 1000) :
    Calls Try.prog 63 #[.string (bstr s), .string (bstr b)] w (GivesS w (pieces b s)) := by
  obtain ⟨n, hn⟩ : ∃ n, s.length = n := ⟨_, rfl⟩
  obtain ⟨m, hbn⟩ : ∃ m, b.length = m := ⟨_, rfl⟩
  have hsz : (bstr s).size = n := by rw [bstr_size, hn]
  have hbz : (bstr b).size = m := by rw [bstr_size, hbn]
  have HN := Lib.hid hn
  have HBn := Lib.hid hbn
  have HAt := Lib.hid (fun k h => bstr_at s k h)
  have HBt := Lib.hid (fun k h => bstr_at b k h)
  rw [hn] at hm
  rw [hbn] at hb
  clear hn hbn
  go_enter Try.func63, Try.ntmps63
  go_wp2_with fail
  go_loopw [5, 6, 7] (fun v f i wr => ∃ k : Nat, k ≤ n ∧ i = .int .i64 k ∧ f = .int .i64 ((spl b s k).2 : Nat) ∧ wr.ownsRow w.heap.size 9 1 v (spl b s k).1.length (scells (spl b s k).1) ∧ Ge w wr) (fun _ _ i _ => n - (intOf i).toNat)
  case atStart => exact ⟨0, Nat.zero_le _, rfl, rfl, owns_lit0 _ _ _, by (repeat (first | with_reducible exact Ge.refl _ | assumption | with_reducible refine Ge.drew ?_ | with_reducible refine Ge.drewN ?_ _ | with_reducible refine Ge.alloc ?_ _ | (with_reducible refine Ge.setCell ?_ (by first | (simp; done) | omega | (simp; omega)) _) | with_reducible refine Ge.trans ?_ (by assumption)))⟩
  case round =>
    obtain ⟨k, hk, rfl, rfl, hown, hg⟩ := hrel
    obtain ⟨l1, l2⟩ := spl_le b s k
    by_cases hlt : k < n
    · have hx := HAt.out k (by omega)
      have HIn := Lib.hid (fun (h : bnth s k ∈ b) => spl_in h)
      have HOut := Lib.hid (fun (h : ¬ bnth s k ∈ b) => spl_out h)
      have he := bstr_extract s (spl b s k).2 k
      obtain ⟨f, hf⟩ : ∃ f, (spl b s k).2 = f := ⟨_, rfl⟩
      rw [hf] at HIn he l1
      have HF := Lib.hid hf
      obtain ⟨v, hv⟩ : ∃ v, v = u5 := ⟨_, rfl⟩
      subst hv
      rw [hf]
      clear hf
      go_wp2_with fail
      go_loopw [5, 6, 8] (fun v' f' i wi => v' = v ∧ f' = .int .i64 (f : Nat) ∧ ∃ j : Nat, j ≤ m ∧ i = .int .i64 j ∧ Hid (∀ j', j' < j → ¬ bnth b j' = bnth s k) ∧ wi.ownsRow w.heap.size 9 1 v (spl b s k).1.length (scells (spl b s k).1) ∧ Ge w wi) (fun _ _ i _ => m - (intOf i).toNat)
      case atStart => exact ⟨rfl, rfl, 0, Nat.zero_le _, rfl, fun j hj => by omega, hown, hg⟩
      case round =>
        obtain ⟨rfl, rfl, j, hj, rfl, HA, hownj, hgj⟩ := hrel
        by_cases hjm : j < m
        · have hy := HBt.out j (by omega)
          have hjb : j < b.length := by rw [HBn.out]; exact hjm
          obtain ⟨c, hc⟩ : ∃ c : Nat, (bnth s k).toNat = c := ⟨_, rfl⟩
          obtain ⟨d, hd⟩ : ∃ d : Nat, (bnth b j).toNat = d := ⟨_, rfl⟩
          have k0 : (0 : Int) ≤ (k : Int) := by omega
          have kn : (k : Int) < (n : Int) := by omega
          have j0 : (0 : Int) ≤ (j : Int) := by omega
          have jm : (j : Int) < (m : Int) := by omega
          by_cases e : bnth b j = bnth s k
          · have hin := in_small hjb e
            have HS := Lib.hid (HIn.out hin)
            have ecd : c = d := by rw [← hc, ← hd, e]
            have tcd : ((c : Int) == (d : Int)) = true := by simp [ecd]
            have zg := hgj.size
            clear e hin ecd
            generalize (spl b s k).1 = L at *
            go_wp2_with fail
            go_quiet (fail)
            have Gd : Ge w (wr.drewN nq) := by (repeat (first | with_reducible exact Ge.refl _ | assumption | with_reducible refine Ge.drew ?_ | with_reducible refine Ge.drewN ?_ _ | with_reducible refine Ge.alloc ?_ _ | (with_reducible refine Ge.setCell ?_ (by first | (simp; done) | omega | (simp; omega)) _) | with_reducible refine Ge.trans ?_ (by assumption)))
            have hownd : (wr.drewN nq).ownsRow w.heap.size 9 1 u5 L.length (scells L) := Ge.owns (by (repeat (first | with_reducible exact Ge.refl _ | assumption | with_reducible refine Ge.drew ?_ | with_reducible refine Ge.drewN ?_ _ | with_reducible refine Ge.alloc ?_ _ | (with_reducible refine Ge.setCell ?_ (by first | (simp; done) | omega | (simp; omega)) _) | with_reducible refine Ge.trans ?_ (by assumption))) : Ge wr (wr.drewN nq)) hownj
            have zd := Gd.size
            generalize wr.drewN nq = wd at *
            go_wp2_with ((at_builtin; refine ap_str rfl _ _ rfl w.heap.size _ L rfl hownd _ rfl (by omega) zd ?_; intro v' w6 own6 hm6))
            go_roundw
            case rel => exact ⟨k + 1, by omega, by go_num, by rw [HS.out]; exact rfl, by rw [HS.out]; exact own6, Gd.mine hownd (Nat.le_refl _) hm6⟩
            case measure => simp [intOf]; omega
          · have HA2 : Hid (∀ j', j' < j + 1 → ¬ bnth b j' = bnth s k) := fun j' h' => by
              by_cases ee : j' = j
              · subst ee; exact e
              · exact HA.out j' (by omega)
            have tcd : ((c : Int) == (d : Int)) = false := by
              simp
              intro ecd
              have : c = d := by omega
              exact e (UInt8.toNat_inj.1 (by rw [hd, hc, this]))
            clear e
            go_wp2_with fail
            go_quiet (fail)
            go_wp2_with fail
            go_roundw
            case rel => exact ⟨rfl, rfl, j + 1, by omega, by go_num, HA2.out, Ge.owns (by (repeat (first | with_reducible exact Ge.refl _ | assumption | with_reducible refine Ge.drew ?_ | with_reducible refine Ge.drewN ?_ _ | with_reducible refine Ge.alloc ?_ _ | (with_reducible refine Ge.setCell ?_ (by first | (simp; done) | omega | (simp; omega)) _) | with_reducible refine Ge.trans ?_ (by assumption)))) hownj, by (repeat (first | with_reducible exact Ge.refl _ | assumption | with_reducible refine Ge.drew ?_ | with_reducible refine Ge.drewN ?_ _ | with_reducible refine Ge.alloc ?_ _ | (with_reducible refine Ge.setCell ?_ (by first | (simp; done) | omega | (simp; omega)) _) | with_reducible refine Ge.trans ?_ (by assumption)))⟩
            case measure => simp [intOf]; omega
        · have hjm2 : j = m := by omega
          subst hjm2
          have HS := Lib.hid (HOut.out (not_in (by rw [HBn.out]; exact HA.out)))
          go_wp2_with fail
          go_roundw
          case rel => exact ⟨k + 1, by omega, by go_num, by rw [HS.out, HF.out], by rw [HS.out]; exact hownj, hgj⟩
          case measure => simp [intOf]; omega
    · have hkn : k = n := by omega
      subst hkn
      have he := bstr_extract s (spl b s k).2 k
      have zg := hg.size
      have HP : Hid (pieces b s = (spl b s k).1 ++ [s.drop (spl b s k).2]) := by
        show _ = _
        unfold pieces; rw [HN.out]
      have ht : (s.drop (spl b s k).2).take (k - (spl b s k).2) = s.drop (spl b s k).2 := by
        apply List.take_of_length_le
        rw [List.length_drop, HN.out]; exact Nat.le_refl _
      rw [ht] at he
      clear ht
      go_wp2_with ((at_builtin; refine ap_str rfl _ _ rfl w.heap.size _ (spl b s k).1 rfl hown _ rfl (by omega) zg ?_; intro v' w6 own6 hm6))
      go_ret
      exact ⟨_, rfl, by rw [HP.out]; exact own6, hg.mine hown (Nat.le_refl _) hm6⟩
end Go.Proofs.Ytppabikbepdobaa
