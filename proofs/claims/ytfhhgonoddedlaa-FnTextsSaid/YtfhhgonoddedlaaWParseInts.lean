/- ParseInts of impl and of spec, and its law. No condition. -/
import Derived.Test.YtfhhgonoddedlaaWSplit
import Derived.Test.YtfhhgonoddedlaaWTyInt
import Derived.Test.YtfhhgonoddedlaaWEqInt
namespace Go.Proofs.Ytfhhgonoddedlaa
set_option maxRecDepth 100000
open Go.ChangeShapes Go.WideShapes Go.ChangeAt Go.RowKit Go.Joins

theorem mem_pieces {b s x : List UInt8} : ∀ k, x ∈ (spl b s k).1 → x.length ≤ s.length
  | 0, h => by simp [spl] at h
  | k + 1, h => by
    simp only [spl] at h
    split at h
    · rcases List.mem_append.1 h with h | h
      · exact mem_pieces k h
      · simp only [List.mem_singleton] at h
        subst h
        simp; omega
    · exact mem_pieces k h
theorem pieces_le {b s : List UInt8} : ∀ x ∈ pieces b s, x.length ≤ s.length := fun x hx => by
  unfold pieces at hx
  rcases List.mem_append.1 hx with h | h
  · exact mem_pieces _ h
  · simp only [List.mem_singleton] at h
    subst h
    simp
theorem pieces_len (b s : List UInt8) : (pieces b s).length ≤ s.length + 1 := by
  have := (spl_le b s s.length).2
  simp [pieces]; omega

noncomputable def nums (l : List (List UInt8)) (k : Nat) : List Int := (List.range k).map fun i => pv (tnth l i)
theorem nums_succ (l : List (List UInt8)) (k : Nat) : nums l (k + 1) = nums l k ++ [pv (tnth l k)] := by simp [nums, List.range_succ]
theorem nums_length (l : List (List UInt8)) (k : Nat) : (nums l k).length = k := by simp [nums]
noncomputable def allB (l : List (List UInt8)) : Bool := (List.range l.length).all fun i => pb (tnth l i)
noncomputable def numsR (l : List (List UInt8)) : List Int := if allB l = true then nums l l.length else []
theorem all_t {l : List (List UInt8)} (h : ∀ i, i < l.length → pb (tnth l i) = true) : allB l = true ∧ numsR l = nums l l.length := by
  have : allB l = true := by simp only [allB, List.all_eq_true, List.mem_range]; exact h
  exact ⟨this, by simp [numsR, this]⟩
theorem all_f {l : List (List UInt8)} {i : Nat} (hi : i < l.length) (h : pb (tnth l i) = false) : allB l = false ∧ numsR l = [] := by
  have : allB l = false := by
    cases c : allB l with
    | false => rfl
    | true =>
      simp only [allB, List.all_eq_true, List.mem_range] at c
      rw [c i hi] at h; cases h
  exact ⟨this, by simp [numsR, this]⟩
def GivesN (w : World) (l : List (List UInt8)) (e : Ending) (w' : World) : Prop :=
  ∃ v, e = .returned (.tuple #[v, .bool (allB l)]) ∧ w'.ownsRow w.heap.size 3 1 v (numsR l).length (icells (numsR l)) ∧ Ge w w'
theorem good_num {l : List (List UInt8)} {k : Nat} (h : Hid (∀ i, i < k → pb (tnth l i) = true)) (hk : pb (tnth l k) = true) : Hid (∀ i, i < k + 1 → pb (tnth l i) = true) := fun i hi => by
  by_cases e : i = k
  · subst e; exact hk
  · exact h.out i (by omega)
theorem owns_nil (w : World) (base : Nat) (e : TypeId) : w.ownsRow base e 1 (.slice none 0 0) 0 [] := ⟨rfl, .inl ⟨rfl, rfl⟩⟩

set_option maxHeartbeats 1600000 in
theorem iInts (v : Value) (l : List (List UInt8)) (w : World) (hv : SlS w v l) (hm : l.length ≤ 2000000) (hl : ∀ x ∈ l, x.length ≤ 1048576) :
    Calls Try.prog 55 #[v] w (GivesN w l) := by
  obtain ⟨n, hn⟩ : ∃ n, l.length = n := ⟨_, rfl⟩
  obtain ⟨p, cap, rfl, hc⟩ := hv.openN hn
  have HC := Lib.hid hc
  have HN := Lib.hid hn
  have HL := Lib.hid (fun i (h : i < n) => hl (tnth l i) (by rw [tnth_eq l i (by rw [hn]; exact h)]; exact List.getElem_mem _))
  rw [hn] at hm
  clear hv hc hn hl
  go_enter Try.func55, Try.ntmps55
  go_wp2_with fail
  go_loopw [4, 12] (fun v i wr => ∃ k : Nat, k ≤ n ∧ i = .int .i64 k ∧ wr.ownsRow w.heap.size 3 1 v (nums l k).length (icells (nums l k)) ∧ Hid (∀ i, i < k → pb (tnth l i) = true) ∧ Ge w wr) (fun _ i _ => n - (intOf i).toNat)
  case atStart => exact ⟨0, Nat.zero_le _, rfl, owns_lit0 _ _ _, fun i hi => by omega, by (repeat (first | with_reducible exact Ge.refl _ | assumption | with_reducible refine Ge.drew ?_ | with_reducible refine Ge.drewN ?_ _ | with_reducible refine Ge.alloc ?_ _ | (with_reducible refine Ge.setCell ?_ (by first | (simp; done) | omega | (simp; omega)) _) | with_reducible refine Ge.trans ?_ (by assumption)))⟩
  case round =>
    obtain ⟨k, hk, rfl, hown, HG, hg⟩ := hrel
    by_cases hlt : k < n
    · obtain ⟨b, o, rfl, x0⟩ := HC.out k hlt
      have y0 := hg.keep x0
      clear x0
      have hlk := HL.out k hlt
      have HP := Lib.hid (fun w => iParseInt (tnth l k) w hlk)
      cases c : pb (tnth l k) with
      | false =>
        have HF := Lib.hid (all_f (l := l) (i := k) (by rw [HN.out]; exact hlt) c)
        rw [c] at HP
        generalize tnth l k = T at *
        go_wp2_with ((go_at_call 59; ((with_reducible refine (HP.out _).mono ?_); rintro e w' ⟨rfl, rfl⟩)))
        exact bodyPost_ret (v := .tuple #[.slice none 0 0, .bool false]) (by simp [results, Try.results55, go_sem]) rfl ⟨_, by rw [HF.out.1], by rw [HF.out.2]; exact owns_nil _ _ _, by (repeat (first | with_reducible exact Ge.refl _ | assumption | with_reducible refine Ge.drew ?_ | with_reducible refine Ge.drewN ?_ _ | with_reducible refine Ge.alloc ?_ _ | (with_reducible refine Ge.setCell ?_ (by first | (simp; done) | omega | (simp; omega)) _) | with_reducible refine Ge.trans ?_ (by assumption)))⟩
      | true =>
        have HG2 := Lib.hid (good_num HG c)
        have HS : Hid (nums l k ++ [pv (tnth l k)] = nums l (k + 1)) := (nums_succ _ _).symm
        have HLn : Hid ((nums l k).length < 1099511627776) := by
          show _ < _
          rw [nums_length]; omega
        rw [c] at HP
        generalize pv (tnth l k) = X at *
        generalize tnth l k = T at *
        generalize nums l k = L at *
        have zg := hg.size
        go_wp2_with (first
          | ((go_at_call 59; ((with_reducible refine (HP.out _).mono ?_); rintro e w' ⟨rfl, rfl⟩)))
          | (at_builtin; refine ap_int rfl _ _ rfl w.heap.size u4 L rfl hown X rfl HLn.out zg ?_; intro v' w6 own6 hm6))
        go_roundw
        case rel => exact ⟨k + 1, by omega, by go_num, by rw [← HS.out]; exact own6, HG2.out, hg.mine hown (Nat.le_refl _) hm6⟩
        case measure => simp [intOf]; omega
    · have hkn : k = n := by omega
      subst hkn
      have HF := Lib.hid (all_t (l := l) (fun i hi => HG.out i (by rw [← HN.out]; exact hi)))
      go_wp2_with fail
      exact bodyPost_ret (v := .tuple #[u4, .bool true]) (by simp [results, Try.results55, go_sem]) rfl ⟨_, by rw [HF.out.1], by rw [HF.out.2, HN.out]; exact hown, by (repeat (first | with_reducible exact Ge.refl _ | assumption | with_reducible refine Ge.drew ?_ | with_reducible refine Ge.drewN ?_ _ | with_reducible refine Ge.alloc ?_ _ | (with_reducible refine Ge.setCell ?_ (by first | (simp; done) | omega | (simp; omega)) _) | with_reducible refine Ge.trans ?_ (by assumption)))⟩

end Go.Proofs.Ytfhhgonoddedlaa
