/- l13Insert of the reference at a square behind all others. No condition. -/
import Derived.Test.YtjogeicoofdlgaaWCut
import Derived.Test.YtjogeicoofdlgaaWFourH
namespace Go.Proofs.Ytjogeicoofdlgaa
set_option maxRecDepth 100000
open Go.ChangeShapes Go.WideShapes Go.ChangeAt Go.RowKit Go.Joins

theorem ap_sqsK {w : World} {o : Oper} {a : Act} {K : Act → World → Prop} {Q : Exit → Act → World → Prop} (s x : Operand)
    (ho : o.op = .call { callee := .builtin .append, args := #[s, x], argTypes := #[22, 22] })
    (base : Nat) (v : Value) (n : Nat) (l : List Int) (hs : a.eval s = v) (hown : w.ownsRow base 52 3 v n (icells l)) (hb : base ≤ w.heap.size)
    (ad : Addr) (m c : Nat) (y : List Int) (hx : a.eval x = .slice (some ad) m c) (hy : SlF w (.slice (some ad) m c) m 3 y) (hn : n + m < 1000)
    (h : ∀ v' w', w'.ownsRow base 52 3 v' (n + m) (icells (l ++ y)) → Mine w w' v → (v' = .slice none 0 0 ↔ v = .slice none 0 0 ∧ m = 0) → K (a.put o.dst v') w') : o.wp Try.prog a w K Q := by
  obtain ⟨i, hi1, hi2, hi3, hi4⟩ := info_parts inf_SqC
  obtain ⟨h1, p, c', he, hc⟩ := hy
  simp only [Value.slice.injEq] at he
  obtain ⟨rfl, hm, rfl⟩ := he
  refine wp_append_own w s x 22 ho base 52 i _ 3 24 Try.underlying22 hi1 hi2 hi3 hi4 rfl (by decide) v n (icells l) hs hown ad m c (icells y) hx h1 (fun j u hu => ?_) (fun u hu => ?_) (by unfold maxLen; omega) (by omega) hb (fun v' w' h2 h3 h4 => h v' w' (by rw [← icells_append]; exact h2) h3 h4)
  · obtain ⟨b, o, e, hz⟩ := hc j u hu
    simp only [Option.some.injEq] at e
    subst e
    by_cases hj0 : j = 0
    · subst hj0; simpa [Addr.add] using hz
    · simpa [Addr.add, hj0] using hz
  · simp only [icells, List.mem_map] at hu
    obtain ⟨_, _, rfl⟩ := hu
    rfl

set_option maxHeartbeats 3200000 in
theorem sL13Insert (ad : Addr) (k c : Nat) (l : List Int) (x y s : Int) (w : World) (hv : SlF w (.slice (some ad) k c) k 3 l) (hk : k ≤ 12) (ho : ∀ j, j + 1 = k → nth l (j * 3 + 1) < y ∨ nth l (j * 3 + 1) = y ∧ nth l (j * 3) < x) :
    Calls Try.prog 30 #[.slice (some ad) k c, .agg #[.int .i64 x, .int .i64 y, .int .i64 s]] w fun e w' => ∃ g c', e = .returned (.slice (some ⟨g, 0, none⟩) (k + 1) c') ∧ w'.ownsRow w.heap.size 52 3 (.slice (some ⟨g, 0, none⟩) (k + 1) c') (k + 1) (icells (l ++ [x, y, s])) ∧ Ge w w' := by
  have HV := Lib.hid (hv.ge (Ge.alloc (Ge.refl w) (.cells #[.int .i64 x, .int .i64 y, .int .i64 s] 52)))
  have N0 : (w.alloc (.cells #[.int .i64 x, .int .i64 y, .int .i64 s] 52)).cell? ⟨w.heap.size, 0, none⟩ = some (.int .i64 x) := cell_new rfl rfl
  have N1 : (w.alloc (.cells #[.int .i64 x, .int .i64 y, .int .i64 s] 52)).cell? ⟨w.heap.size, 1, none⟩ = some (.int .i64 y) := cell_new rfl rfl
  have N2 : (w.alloc (.cells #[.int .i64 x, .int .i64 y, .int .i64 s] 52)).cell? ⟨w.heap.size, 2, none⟩ = some (.int .i64 s) := cell_new rfl rfl
  have GW : Ge w (w.alloc (.cells #[.int .i64 x, .int .i64 y, .int .i64 s] 52)) := Ge.alloc (Ge.refl w) _
  obtain ⟨p, c', he, hlc⟩ := hv.open
  have HLc := Lib.hid hlc
  have HLn := Lib.hid hv.1
  clear hlc he
  go_enter Try.func30, Try.ntmps30
  go_upto_region 1 with (fail)
  go_cut [5] (fun sx wx => ∃ g' c', sx = .slice (some ⟨g', 0, none⟩) (k + 1) c' ∧ wx.ownsRow (w.alloc (.cells #[.int .i64 x, .int .i64 y, .int .i64 s] 52)).heap.size 52 3 (.slice (some ⟨g', 0, none⟩) (k + 1) c') (k + 1) (icells (l ++ [x, y, s])) ∧ Ge (w.alloc (.cells #[.int .i64 x, .int .i64 y, .int .i64 s] 52)) wx)
  case first =>
    generalize (w.alloc (.cells #[.int .i64 x, .int .i64 y, .int .i64 s] 52)) = W0 at *
    refine wp_region_head (S := fun w' => Ge W0 w') 5 (by kernel_rfl) (by kernel_rfl) (Ge.drew (Ge.refl _)) (fun hHeld => ?_)
    refine head_take 1 (v := ?_) rfl (by kernel_rfl) (by kernel_rfl) (fun _ _ _ h => h) (by assumption) (yields_if (by rfl) ?_) ?_
    rotate_left
    focus (intro w' hSw; (try dsimp only at hSw); have s0 := Ge.keep hSw N0; have s1 := Ge.keep hSw N1; have s2 := Ge.keep hSw N2; go_simp; (try with_reducible rfl))
    (try simp only [Act.put, List.setIfInBounds_toArray, List.set_cons_zero, List.set_cons_succ])
    refine head_take 3 (v := ?_) rfl (by kernel_rfl) (by kernel_rfl) (fun _ _ _ h => h) (by assumption) (yields_if (by rfl) ?_) ?_
    rotate_left
    focus (intro w' hSw; (try dsimp only at hSw); have s0 := Ge.keep hSw N0; have s1 := Ge.keep hSw N1; have s2 := Ge.keep hSw N2; go_simp; (try with_reducible rfl))
    (try simp only [Act.put, List.setIfInBounds_toArray, List.set_cons_zero, List.set_cons_succ])
    have hH0 : Ge W0 W0.drew := hHeld
    generalize W0.drew = v0 at *
    refine head_many [0, 4] (by kernel_rfl) ?_
    intro i hi
    simp only [List.mem_cons, List.not_mem_nil, or_false] at hi
    rcases hi with rfl | rfl
    · refine ⟨_, rfl, fun K hK => ?_⟩
      go_simp
      refine hK.out _ _ (Ge.alloc hH0 _) (fun _ => ?_)
      clear hK K
      (try simp only [Act.put, List.setIfInBounds_toArray, List.set_cons_zero, List.set_cons_succ])
      have hH1 := Ge.alloc hH0 (.cells #[] 52)
      have E7 : (v0.alloc (.cells #[] 52)).ownsRow W0.heap.size 52 3 (.slice (some ⟨v0.heap.size, 0, none⟩) 0 0) 0 (icells []) := owns_mono (owns_lit0 v0 52 3) hH0.size
      have z7 : v0.heap.size < (v0.alloc (.cells #[] 52)).heap.size := by simp
      generalize hwv1 : (v0.alloc (.cells #[] 52)) = v1 at *
      clear hwv1
      generalize hb7 : v0.heap.size = b7 at *
      refine head_many [2, 4] (by kernel_rfl) ?_
      intro i hi
      simp only [List.mem_cons, List.not_mem_nil, or_false] at hi
      rcases hi with rfl | rfl
      · refine ⟨_, rfl, fun K hK => ?_⟩
        rw [if_pos (by rfl)]
        refine ap_sqsK _ _ rfl W0.heap.size (.slice (some ⟨b7, 0, none⟩) 0 0) 0 [] rfl E7 hH1.size ad k c l rfl (HV.out.ge hH1) (by omega) ?_
        intro v9 v2 o9 m9 n9
        have hH2 : Ge W0 v2 := hH1.mine E7 (Nat.le_refl _) m9
        rw [Nat.zero_add, List.nil_append] at o9
        obtain ⟨g9, c9, rfl⟩ : ∃ g9 c9, v9 = .slice (some ⟨g9, 0, none⟩) k c9 := by
          rcases o9.2 with ⟨h1, _⟩ | ⟨g9, c9, cur, h1, _⟩
          · exact absurd (n9.1 h1).1 (by simp)
          · exact ⟨g9, c9, h1⟩
        refine hK.out _ _ hH2 (fun _ => ?_)
        clear hK K
        (try simp only [Act.put, List.setIfInBounds_toArray, List.set_cons_zero, List.set_cons_succ])
        refine head_many [4] (by kernel_rfl) ?_
        intro i hi
        simp only [List.mem_cons, List.not_mem_nil, or_false] at hi
        subst hi
        refine ⟨_, rfl, fun K hK => ?_⟩
        go_simp
        refine hK.out _ _ (Ge.alloc hH2 _) (fun _ => ?_)
        clear hK K
        (try simp only [Act.put, List.setIfInBounds_toArray, List.set_cons_zero, List.set_cons_succ])
        have hH3 := Ge.alloc hH2 (.cells #[.int .i64 x, .int .i64 y, .int .i64 s] 52)
        have R11 : (v2.alloc (.cells #[.int .i64 x, .int .i64 y, .int .i64 s] 52)).ownsRow 0 52 3 (.slice (some ⟨v2.heap.size, 0, none⟩) 1 1) 1 (icells [x, y, s]) := World.ownsRow_lit v2 (base := 0) (e := 52) (size := 3) #[.int .i64 x, .int .i64 y, .int .i64 s] 1 (by omega) (by unfold maxLen; omega) (by simp)
        have z11 : v2.heap.size < (v2.alloc (.cells #[.int .i64 x, .int .i64 y, .int .i64 s] 52)).heap.size := by simp
        replace o9 := o9.alloc (.cells #[.int .i64 x, .int .i64 y, .int .i64 s] 52)
        generalize hwv3 : (v2.alloc (.cells #[.int .i64 x, .int .i64 y, .int .i64 s] 52)) = v3 at *
        clear hwv3
        generalize hb11 : v2.heap.size = b11 at *
        refine head_done (by kernel_rfl) ?_
        (try simp only [Act.put, List.setIfInBounds_toArray, List.set_cons_zero, List.set_cons_succ])
        refine wpList_plain rfl fun _ hK => ap_sqsK _ _ rfl W0.heap.size _ k l rfl o9 hH3.size ⟨b11, 0, none⟩ 1 1 [x, y, s] rfl (SlF.of_owns R11) (by omega) (fun v12 v5 o12 m12 _ => hK _ _ ?_)
        clear hK
        have H5 : Ge W0 v5 := hH3.mine o9 (Nat.le_refl _) m12
        obtain ⟨g12, c12, rfl⟩ := Go.Joins.ownsRow_form o12 (by omega)
        go_wp2_with fail
        go_meet
        exact ⟨_, _, rfl, o12, H5⟩
      · refine ⟨_, rfl, fun K hK => ?_⟩
        go_simp
        refine hK.out _ _ (Ge.alloc hH1 _) (fun _ => ?_)
        clear hK K
        (try simp only [Act.put, List.setIfInBounds_toArray, List.set_cons_zero, List.set_cons_succ])
        have hH2 := Ge.alloc hH1 (.cells #[.int .i64 x, .int .i64 y, .int .i64 s] 52)
        have R11 : (v1.alloc (.cells #[.int .i64 x, .int .i64 y, .int .i64 s] 52)).ownsRow 0 52 3 (.slice (some ⟨v1.heap.size, 0, none⟩) 1 1) 1 (icells [x, y, s]) := World.ownsRow_lit v1 (base := 0) (e := 52) (size := 3) #[.int .i64 x, .int .i64 y, .int .i64 s] 1 (by omega) (by unfold maxLen; omega) (by simp)
        have z11 : v1.heap.size < (v1.alloc (.cells #[.int .i64 x, .int .i64 y, .int .i64 s] 52)).heap.size := by simp
        replace E7 := E7.alloc (.cells #[.int .i64 x, .int .i64 y, .int .i64 s] 52)
        have hne : v1.heap.size ≠ b7 := by omega
        generalize hwv2 : (v1.alloc (.cells #[.int .i64 x, .int .i64 y, .int .i64 s] 52)) = v2 at *
        clear hwv2
        generalize hb11 : v1.heap.size = b11 at *
        refine head_many [2] (by kernel_rfl) ?_
        intro i hi
        simp only [List.mem_cons, List.not_mem_nil, or_false] at hi
        subst hi
        refine ⟨_, rfl, fun K hK => ?_⟩
        rw [if_pos (by rfl)]
        refine ap_sqsK _ _ rfl W0.heap.size (.slice (some ⟨b7, 0, none⟩) 0 0) 0 [] rfl E7 hH2.size ad k c l rfl (HV.out.ge hH2) (by omega) ?_
        intro v9 v3 o9 m9 n9
        have hH3 : Ge W0 v3 := hH2.mine E7 (Nat.le_refl _) m9
        rw [Nat.zero_add, List.nil_append] at o9
        replace R11 := R11.kept m9 (.inr (fun e => by simp [Value.ownBlock] at e; omega))
        obtain ⟨g9, c9, rfl⟩ : ∃ g9 c9, v9 = .slice (some ⟨g9, 0, none⟩) k c9 := by
          rcases o9.2 with ⟨h1, _⟩ | ⟨g9, c9, cur, h1, _⟩
          · exact absurd (n9.1 h1).1 (by simp)
          · exact ⟨g9, c9, h1⟩
        refine hK.out _ _ hH3 (fun _ => ?_)
        clear hK K
        (try simp only [Act.put, List.setIfInBounds_toArray, List.set_cons_zero, List.set_cons_succ])
        refine head_done (by kernel_rfl) ?_
        (try simp only [Act.put, List.setIfInBounds_toArray, List.set_cons_zero, List.set_cons_succ])
        refine wpList_plain rfl fun _ hK => ap_sqsK _ _ rfl W0.heap.size _ k l rfl o9 hH3.size ⟨b11, 0, none⟩ 1 1 [x, y, s] rfl (SlF.of_owns R11) (by omega) (fun v12 v5 o12 m12 _ => hK _ _ ?_)
        clear hK
        have H5 : Ge W0 v5 := hH3.mine o9 (Nat.le_refl _) m12
        obtain ⟨g12, c12, rfl⟩ := Go.Joins.ownsRow_form o12 (by omega)
        go_wp2_with fail
        go_meet
        exact ⟨_, _, rfl, o12, H5⟩
    · refine ⟨_, rfl, fun K hK => ?_⟩
      go_simp
      refine hK.out _ _ (Ge.alloc hH0 _) (fun _ => ?_)
      clear hK K
      (try simp only [Act.put, List.setIfInBounds_toArray, List.set_cons_zero, List.set_cons_succ])
      have hH1 := Ge.alloc hH0 (.cells #[.int .i64 x, .int .i64 y, .int .i64 s] 52)
      have R11 : (v0.alloc (.cells #[.int .i64 x, .int .i64 y, .int .i64 s] 52)).ownsRow 0 52 3 (.slice (some ⟨v0.heap.size, 0, none⟩) 1 1) 1 (icells [x, y, s]) := World.ownsRow_lit v0 (base := 0) (e := 52) (size := 3) #[.int .i64 x, .int .i64 y, .int .i64 s] 1 (by omega) (by unfold maxLen; omega) (by simp)
      have z11 : v0.heap.size < (v0.alloc (.cells #[.int .i64 x, .int .i64 y, .int .i64 s] 52)).heap.size := by simp
      generalize hwv1 : (v0.alloc (.cells #[.int .i64 x, .int .i64 y, .int .i64 s] 52)) = v1 at *
      clear hwv1
      generalize hb11 : v0.heap.size = b11 at *
      refine head_many [0] (by kernel_rfl) ?_
      intro i hi
      simp only [List.mem_cons, List.not_mem_nil, or_false] at hi
      subst hi
      refine ⟨_, rfl, fun K hK => ?_⟩
      go_simp
      refine hK.out _ _ (Ge.alloc hH1 _) (fun _ => ?_)
      clear hK K
      (try simp only [Act.put, List.setIfInBounds_toArray, List.set_cons_zero, List.set_cons_succ])
      have hH2 := Ge.alloc hH1 (.cells #[] 52)
      have E7 : (v1.alloc (.cells #[] 52)).ownsRow W0.heap.size 52 3 (.slice (some ⟨v1.heap.size, 0, none⟩) 0 0) 0 (icells []) := owns_mono (owns_lit0 v1 52 3) hH1.size
      have z7 : v1.heap.size < (v1.alloc (.cells #[] 52)).heap.size := by simp
      replace R11 := R11.alloc (.cells #[] 52)
      have hne : v1.heap.size ≠ b11 := by omega
      generalize hwv2 : (v1.alloc (.cells #[] 52)) = v2 at *
      clear hwv2
      generalize hb7 : v1.heap.size = b7 at *
      refine head_many [2] (by kernel_rfl) ?_
      intro i hi
      simp only [List.mem_cons, List.not_mem_nil, or_false] at hi
      subst hi
      refine ⟨_, rfl, fun K hK => ?_⟩
      rw [if_pos (by rfl)]
      refine ap_sqsK _ _ rfl W0.heap.size (.slice (some ⟨b7, 0, none⟩) 0 0) 0 [] rfl E7 hH2.size ad k c l rfl (HV.out.ge hH2) (by omega) ?_
      intro v9 v3 o9 m9 n9
      have hH3 : Ge W0 v3 := hH2.mine E7 (Nat.le_refl _) m9
      rw [Nat.zero_add, List.nil_append] at o9
      replace R11 := R11.kept m9 (.inr (fun e => by simp [Value.ownBlock] at e; omega))
      obtain ⟨g9, c9, rfl⟩ : ∃ g9 c9, v9 = .slice (some ⟨g9, 0, none⟩) k c9 := by
        rcases o9.2 with ⟨h1, _⟩ | ⟨g9, c9, cur, h1, _⟩
        · exact absurd (n9.1 h1).1 (by simp)
        · exact ⟨g9, c9, h1⟩
      refine hK.out _ _ hH3 (fun _ => ?_)
      clear hK K
      (try simp only [Act.put, List.setIfInBounds_toArray, List.set_cons_zero, List.set_cons_succ])
      refine head_done (by kernel_rfl) ?_
      (try simp only [Act.put, List.setIfInBounds_toArray, List.set_cons_zero, List.set_cons_succ])
      refine wpList_plain rfl fun _ hK => ap_sqsK _ _ rfl W0.heap.size _ k l rfl o9 hH3.size ⟨b11, 0, none⟩ 1 1 [x, y, s] rfl (SlF.of_owns R11) (by omega) (fun v12 v5 o12 m12 _ => hK _ _ ?_)
      clear hK
      have H5 : Ge W0 v5 := hH3.mine o9 (Nat.le_refl _) m12
      obtain ⟨g12, c12, rfl⟩ := Go.Joins.ownsRow_form o12 (by omega)
      go_wp2_with fail
      go_meet
      exact ⟨_, _, rfl, o12, H5⟩
  obtain ⟨g', c2, rfl, hown, hG⟩ := hcut
  have zW : w.heap.size < (w.alloc (.cells #[.int .i64 x, .int .i64 y, .int .i64 s] 52)).heap.size := by simp
  have HO := Lib.hid (owns_mono hown (Nat.le_of_lt zW))
  have HG := Lib.hid (Ge.trans GW hG)
  have n0 := hG.keep N0
  have n1 := hG.keep N1
  have hll : l.length = k * 3 := by have := HLn.out; rwa [icells_length] at this
  have HC := Lib.hid (fun j (hj : j < k) (r : Nat) (hr : r < 3) => (by
    have h1 := hown.cellAt (j * 3 + r) (by omega)
    rw [h1]
    simp only [icells, List.getElem?_map]
    rw [List.getElem?_append_left (by omega), List.getElem?_eq_getElem (by omega)]
    simp only [Option.map_some]
    rw [nth_eq l (j * 3 + r) (by omega)] : wc.cell? ⟨g', j * 3 + r, none⟩ = some (.int .i64 (nth l (j * 3 + r)))))
  clear hown hG N0 N1 N2 GW HV HLc HLn zW hll
  go_wp2_with fail
  go_loopw [6] (fun i wr => i = .int .i64 (k : Int) ∧ wr = wc) (fun _ _ => 0)
  case atStart => exact ⟨by go_num, rfl⟩
  case round =>
    obtain ⟨rfl, rfl⟩ := hrel
    by_cases hk0 : k = 0
    · subst hk0
      go_wp2_with fail
      go_quiet (fail)
      go_wp2_with fail
      go_ret
      exact ⟨_, _, rfl, (Ge.drewN (Ge.refl _) _).owns HO.out, Ge.drewN HG.out _⟩
    · obtain ⟨k', rfl⟩ : ∃ k', k = k' + 1 := ⟨k - 1, by omega⟩
      have hc := ho k' rfl
      have c0 := HC.out k' (by omega) 0 (by omega)
      have c1 := HC.out k' (by omega) 1 (by omega)
      rw [Nat.add_zero] at c0
      generalize nth l (k' * 3) = LX at *
      generalize nth l (k' * 3 + 1) = LY at *
      have i1 : (k' : Int) < ((k' + 1 + 1 : Nat) : Int) := by omega
      have i2 : (0 : Int) ≤ (k' : Int) := by omega
      have i3 : (0 : Int) < (k' : Int) + 1 := by omega
      have i4 : (k' : Int) < (k' : Int) + 1 + 1 := by omega
      have i5 : k' < k' + 1 + 1 := by omega
      have tw : IntKind.i64.wrap ((k' : Int) + 1 - 1) = (k' : Int) := by rw [show (k' : Int) + 1 - 1 = (k' : Int) by omega]; exact IntWalk.i64_in _ (by omega)
      have tw2 : IntKind.i64.wrap (k' : Int) = (k' : Int) := IntWalk.i64_in _ (by omega)
      clear HC ho
      have u1 : decide (y < LY) = false := decide_eq_false (by omega)
      have v1 : ¬ y < LY := by omega
      have v1' : LY ≤ y := by omega
      by_cases he : LY = y
      · subst he
        have u2 : (LY == LY) = true := by simp
        have u3 : decide (x < LX) = false := decide_eq_false (by omega)
        have v3 : LX ≤ x := by omega
        clear hc
        go_wp2_with fail
        go_quiet (fail)
        go_wp2_with fail
        go_ret
        exact ⟨_, _, rfl, (Ge.drewN (Ge.refl _) _).owns HO.out, Ge.drewN HG.out _⟩
      · have u2 : (LY == y) = false := by simpa using he
        clear hc
        go_wp2_with fail
        go_quiet (fail)
        go_wp2_with fail
        go_ret
        exact ⟨_, _, rfl, (Ge.drewN (Ge.refl _) _).owns HO.out, Ge.drewN HG.out _⟩
end Go.Proofs.Ytjogeicoofdlgaa
