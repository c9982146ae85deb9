/- CutTiling of impl. No condition. Regions that draw their order: several operations ready at once. No program in sight. l13Insert of the reference at a square behind all others. No condition. CutTiling of both sides. No condition. The cursor of the draws: what l01New makes, and that l01Byte and l01Below keep it and give small numbers. No condition. Behind a draw: a cursor's block alone has turned. No condition. MakeTiling; FnTilings, walked. No condition. -/
import Derived.Test.YtckjkfcphcnpdaaGreatPlCut
import Derived.Test.YtckjkfcphcnpdaaGreatJAa
import Derived.Test.YtckjkfcphcnpdaaGreatWIn
import Derived.Test.YtckjkfcphcnpdaaGreatWLaw
import Derived.Test.YtckjkfcphcnpdaaGreatWSl
import Derived.Test.YtckjkfcphcnpdaaGreatWEqInt
import Derived.Test.YtckjkfcphcnpdaaGreatJAf
import Derived.Test.YtckjkfcphcnpdaaGreatJAi
import Derived.Test.YtckjkfcphcnpdaaGreatJAc
namespace Go.Proofs.YtckjkfcphcnpdaaGreat
set_option maxRecDepth 100000
open Go.ChangeShapes Go.WideShapes Go.ChangeAt Go.RowKit Go.Joins

theorem inf_SqC : (Tryz.prog.info? 27).map (fun i => (i.zero, i.size, i.bytes)) = some (some (Value.agg #[.int .i64 0, .int .i64 0, .int .i64 0]), 3, 24) := by kernel_rfl
theorem ap_sq {w : World} {ops : Array Oper} {rest : List Oper} {o : Oper} {a : Act} {Q : Exit → Act → World → Prop} (hgd : o.guard = none) (s x : Operand)
    (ho : o.op = .call { callee := .builtin .append, args := #[s, x], argTypes := #[23, 23] })
    (base : Nat) (v : Value) (n : Nat) (l : List Int) (hs : a.eval s = v) (hown : w.ownsRow base 27 3 v n (icells l))
    (y0 y1 y2 : Int) (hx : a.eval x = .slice (some ⟨w.heap.size, 0, none⟩) 1 1) (hn : n < 1099511627776) (hbase : base ≤ w.heap.size)
    (h : ∀ v' w', w'.ownsRow base 27 3 v' (n + 1) (icells (l ++ [y0, y1, y2])) → Mine w w' v → wpList Tryz.prog ops Q rest (a.put o.dst v') w') :
    wpList Tryz.prog ops Q (o :: rest) a (w.alloc (.cells #[.int .i64 y0, .int .i64 y1, .int .i64 y2] 27)) :=
  ap1 hgd s x 23 ho 27 _ 3 24 Tryz.underlying23 inf_SqC rfl (by decide) (by decide) base v _ _ hs hown #[.int .i64 y0, .int .i64 y1, .int .i64 y2] hx rfl (by simp [Value.oneCell']) hn hbase
    (fun v' w' h2 h3 => h v' w' (by simpa [icells] using h2) h3)
def GivesC (w : World) (o : Option Nat) (a b : Int) (e : Ending) (w' : World) : Prop :=
  match o with
  | none => e = .returned (.tuple #[.slice none 0 0, .bool false])
  | some k => ∃ v, e = .returned (.tuple #[v, .bool true]) ∧ w'.ownsRow w.heap.size 27 3 v k (icells (cutX a.toNat b.toNat k))
theorem cutO_f {a b : Int} (h : ¬ ((1 ≤ a ∧ a ≤ 200) ∧ (1 ≤ b ∧ b ≤ 200))) : cutO a b = none := by unfold cutO; rw [if_neg h]
theorem cutO_t {a b : Nat} (ha : 1 ≤ a ∧ a ≤ 200) (hb : 1 ≤ b ∧ b ≤ 200) : cutO a b = cutR a b := by
  unfold cutO
  rw [if_pos ⟨⟨by omega, by omega⟩, by omega, by omega⟩]
  simp
theorem cutX_succ (w h k : Nat) : cutX w h (k + 1) = cutX w h k ++ [((stC w h k).x : Int), ((stC w h k).y : Int), ((min (stC w h k).w (stC w h k).h : Nat) : Int)] := rfl
theorem stC_succ (w h k : Nat) : stC w h (k + 1) = stepC (stC w h k) := rfl

end Go.Proofs.YtckjkfcphcnpdaaGreat

namespace Go.Proofs.YtckjkfcphcnpdaaGreat

open Go

section
variable {P : Program} {l : List Oper} {Q : Exit → Act → World → Prop} {S : World → Prop}
/-- Some may come up. -/
theorem head_many {n f : Nat} {listed : Array Bool} {a : Act} {w : World} (L : List Nat)
    (hr : (decide (Region.ready .any l.toArray listed = L) && (L.all (fun i => decide (i < n)) && !L.isEmpty)) = true)
    (h : ∀ i, i ∈ L → ∃ o, l[i]? = some o ∧ ∀ K : Act → World → Prop, Shut (∀ a w, S w → (S w → Head P l Q S n f (listed.setIfInBounds i true) a w) → K a w) → if Region.wanted o (yielded l.toArray a.tmps) = true then Oper.wp P o a w K Q else K (a.put o.dst undef) w) :
    Head P l Q S n (f + 1) listed a w := fun inv => by
  simp only [Bool.and_eq_true, decide_eq_true_eq, List.all_eq_true] at hr
  obtain ⟨h1, h2, h3⟩ := hr
  refine ⟨fun h0 => (by rw [h1] at h0; subst h0; simp at h3), fun k hk => ?_⟩
  have hkL : k ∈ L := by rw [h1] at hk; exact hk
  have hkn := h2 k hkL
  have inv' := inv.set hk (by omega)
  obtain ⟨o, hi, hs⟩ := h k hkL
  exact ⟨by omega, wpOp_step (by simpa using hi) (fun K hK => hs K (fun a' w' hS hW => hK a' w' ⟨hS, hW hS inv'⟩))⟩
end
end Go.Proofs.YtckjkfcphcnpdaaGreat

namespace Go.Proofs.YtckjkfcphcnpdaaGreat
set_option maxRecDepth 100000
open Go.ChangeShapes Go.WideShapes Go.ChangeAt Go.RowKit Go.Joins

theorem ap_sqsK {w : World} {o : Oper} {a : Act} {K : Act → World → Prop} {Q : Exit → Act → World → Prop} (s x : Operand)
    (ho : o.op = .call { callee := .builtin .append, args := #[s, x], argTypes := #[23, 23] })
    (base : Nat) (v : Value) (n : Nat) (l : List Int) (hs : a.eval s = v) (hown : w.ownsRow base 27 3 v n (icells l)) (hb : base ≤ w.heap.size)
    (ad : Addr) (m c : Nat) (y : List Int) (hx : a.eval x = .slice (some ad) m c) (hy : SlF w (.slice (some ad) m c) m 3 y) (hn : n + m < 1000)
    (h : ∀ v' w', w'.ownsRow base 27 3 v' (n + m) (icells (l ++ y)) → Mine w w' v → (v' = .slice none 0 0 ↔ v = .slice none 0 0 ∧ m = 0) → K (a.put o.dst v') w') : o.wp Tryz.prog a w K Q := by
  obtain ⟨i, hi1, hi2, hi3, hi4⟩ := info_parts inf_SqC
  obtain ⟨h1, p, c', he, hc⟩ := hy
  simp only [Value.slice.injEq] at he
  obtain ⟨rfl, hm, rfl⟩ := he
  refine wp_append_own w s x 23 ho base 27 i _ 3 24 Tryz.underlying23 hi1 hi2 hi3 hi4 rfl (by decide) v n (icells l) hs hown ad m c (icells y) hx h1 (fun j u hu => ?_) (fun u hu => ?_) (by unfold maxLen; omega) (by omega) hb (fun v' w' h2 h3 h4 => h v' w' (by rw [← icells_append]; exact h2) h3 h4)
  · obtain ⟨b, o, e, hz⟩ := hc j u hu
    simp only [Option.some.injEq] at e
    subst e
    by_cases hj0 : j = 0
    · subst hj0; simpa [Addr.add] using hz
    · simpa [Addr.add, hj0] using hz
  · simp only [icells, List.mem_map] at hu
    obtain ⟨_, _, rfl⟩ := hu
    rfl

set_option maxHeartbeats 3200000 in
theorem sL13Insert (ad : Addr) (k c : Nat) (l : List Int) (x y s : Int) (w : World) (hv : SlF w (.slice (some ad) k c) k 3 l) (hk : k ≤ 12) (ho : ∀ j, j + 1 = k → nth l (j * 3 + 1) < y ∨ nth l (j * 3 + 1) = y ∧ nth l (j * 3) < x) :
    Calls Tryz.prog 60 #[.slice (some ad) k c, .agg #[.int .i64 x, .int .i64 y, .int .i64 s]] w fun e w' => ∃ g c', e = .returned (.slice (some ⟨g, 0, none⟩) (k + 1) c') ∧ w'.ownsRow w.heap.size 27 3 (.slice (some ⟨g, 0, none⟩) (k + 1) c') (k + 1) (icells (l ++ [x, y, s])) ∧ Ge w w' := by
  have HV := Lib.hid (hv.ge (Ge.alloc (Ge.refl w) (.cells #[.int .i64 x, .int .i64 y, .int .i64 s] 27)))
  have N0 : (w.alloc (.cells #[.int .i64 x, .int .i64 y, .int .i64 s] 27)).cell? ⟨w.heap.size, 0, none⟩ = some (.int .i64 x) := cell_new rfl rfl
  have N1 : (w.alloc (.cells #[.int .i64 x, .int .i64 y, .int .i64 s] 27)).cell? ⟨w.heap.size, 1, none⟩ = some (.int .i64 y) := cell_new rfl rfl
  have N2 : (w.alloc (.cells #[.int .i64 x, .int .i64 y, .int .i64 s] 27)).cell? ⟨w.heap.size, 2, none⟩ = some (.int .i64 s) := cell_new rfl rfl
  have GW : Ge w (w.alloc (.cells #[.int .i64 x, .int .i64 y, .int .i64 s] 27)) := Ge.alloc (Ge.refl w) _
  obtain ⟨p, c', he, hlc⟩ := hv.open
  have HLc := Lib.hid hlc
  have HLn := Lib.hid hv.1
  clear hlc he
  go_enter Tryz.func60, Tryz.ntmps60
  go_upto_region 1 with (fail)
  go_cut [5] (fun sx wx => ∃ g' c', sx = .slice (some ⟨g', 0, none⟩) (k + 1) c' ∧ wx.ownsRow (w.alloc (.cells #[.int .i64 x, .int .i64 y, .int .i64 s] 27)).heap.size 27 3 (.slice (some ⟨g', 0, none⟩) (k + 1) c') (k + 1) (icells (l ++ [x, y, s])) ∧ Ge (w.alloc (.cells #[.int .i64 x, .int .i64 y, .int .i64 s] 27)) wx)
  case first =>
    generalize (w.alloc (.cells #[.int .i64 x, .int .i64 y, .int .i64 s] 27)) = W0 at *
    refine wp_region_head (S := fun w' => Ge W0 w') 5 (by kernel_rfl) (by kernel_rfl) (Ge.drew (Ge.refl _)) (fun hHeld => ?_)
    refine head_take 1 (v := ?_) rfl (by kernel_rfl) (by kernel_rfl) (fun _ _ _ h => h) (by assumption) (yields_if (by rfl) ?_) ?_
    rotate_left
    focus (intro w' hSw; (try dsimp only at hSw); have s0 := Ge.keep hSw N0; have s1 := Ge.keep hSw N1; have s2 := Ge.keep hSw N2; go_simp; (try with_reducible rfl))
    (try simp only [Act.put, List.setIfInBounds_toArray, List.set_cons_zero, List.set_cons_succ])
    refine head_take 3 (v := ?_) rfl (by kernel_rfl) (by kernel_rfl) (fun _ _ _ h => h) (by assumption) (yields_if (by rfl) ?_) ?_
    rotate_left
    focus (intro w' hSw; (try dsimp only at hSw); have s0 := Ge.keep hSw N0; have s1 := Ge.keep hSw N1; have s2 := Ge.keep hSw N2; go_simp; (try with_reducible rfl))
    (try simp only [Act.put, List.setIfInBounds_toArray, List.set_cons_zero, List.set_cons_succ])
    have hH0 : Ge W0 W0.drew := hHeld
    generalize W0.drew = v0 at *
    refine head_many [0, 4] (by kernel_rfl) ?_
    intro i hi
    simp only [List.mem_cons, List.not_mem_nil, or_false] at hi
    rcases hi with rfl | rfl
    · refine ⟨_, rfl, fun K hK => ?_⟩
      go_simp
      refine hK.out _ _ (Ge.alloc hH0 _) (fun _ => ?_)
      clear hK K
      (try simp only [Act.put, List.setIfInBounds_toArray, List.set_cons_zero, List.set_cons_succ])
      have hH1 := Ge.alloc hH0 (.cells #[] 27)
      have E7 : (v0.alloc (.cells #[] 27)).ownsRow W0.heap.size 27 3 (.slice (some ⟨v0.heap.size, 0, none⟩) 0 0) 0 (icells []) := owns_mono (owns_lit0 v0 27 3) hH0.size
      have z7 : v0.heap.size < (v0.alloc (.cells #[] 27)).heap.size := by simp
      generalize hwv1 : (v0.alloc (.cells #[] 27)) = v1 at *
      clear hwv1
      generalize hb7 : v0.heap.size = b7 at *
      refine head_many [2, 4] (by kernel_rfl) ?_
      intro i hi
      simp only [List.mem_cons, List.not_mem_nil, or_false] at hi
      rcases hi with rfl | rfl
      · refine ⟨_, rfl, fun K hK => ?_⟩
        rw [if_pos (by rfl)]
        refine ap_sqsK _ _ rfl W0.heap.size (.slice (some ⟨b7, 0, none⟩) 0 0) 0 [] rfl E7 hH1.size ad k c l rfl (HV.out.ge hH1) (by omega) ?_
        intro v9 v2 o9 m9 n9
        have hH2 : Ge W0 v2 := hH1.mine E7 (Nat.le_refl _) m9
        rw [Nat.zero_add, List.nil_append] at o9
        obtain ⟨g9, c9, rfl⟩ : ∃ g9 c9, v9 = .slice (some ⟨g9, 0, none⟩) k c9 := by
          rcases o9.2 with ⟨h1, _⟩ | ⟨g9, c9, cur, h1, _⟩
          · exact absurd (n9.1 h1).1 (by simp)
          · exact ⟨g9, c9, h1⟩
        refine hK.out _ _ hH2 (fun _ => ?_)
        clear hK K
        (try simp only [Act.put, List.setIfInBounds_toArray, List.set_cons_zero, List.set_cons_succ])
        refine head_many [4] (by kernel_rfl) ?_
        intro i hi
        simp only [List.mem_cons, List.not_mem_nil, or_false] at hi
        subst hi
        refine ⟨_, rfl, fun K hK => ?_⟩
        go_simp
        refine hK.out _ _ (Ge.alloc hH2 _) (fun _ => ?_)
        clear hK K
        (try simp only [Act.put, List.setIfInBounds_toArray, List.set_cons_zero, List.set_cons_succ])
        have hH3 := Ge.alloc hH2 (.cells #[.int .i64 x, .int .i64 y, .int .i64 s] 27)
        have R11 : (v2.alloc (.cells #[.int .i64 x, .int .i64 y, .int .i64 s] 27)).ownsRow 0 27 3 (.slice (some ⟨v2.heap.size, 0, none⟩) 1 1) 1 (icells [x, y, s]) := World.ownsRow_lit v2 (base := 0) (e := 27) (size := 3) #[.int .i64 x, .int .i64 y, .int .i64 s] 1 (by omega) (by unfold maxLen; omega) (by simp)
        have z11 : v2.heap.size < (v2.alloc (.cells #[.int .i64 x, .int .i64 y, .int .i64 s] 27)).heap.size := by simp
        replace o9 := o9.alloc (.cells #[.int .i64 x, .int .i64 y, .int .i64 s] 27)
        generalize hwv3 : (v2.alloc (.cells #[.int .i64 x, .int .i64 y, .int .i64 s] 27)) = v3 at *
        clear hwv3
        generalize hb11 : v2.heap.size = b11 at *
        refine head_done (by kernel_rfl) ?_
        (try simp only [Act.put, List.setIfInBounds_toArray, List.set_cons_zero, List.set_cons_succ])
        refine wpList_plain rfl fun _ hK => ap_sqsK _ _ rfl W0.heap.size _ k l rfl o9 hH3.size ⟨b11, 0, none⟩ 1 1 [x, y, s] rfl (SlF.of_owns R11) (by omega) (fun v12 v5 o12 m12 _ => hK _ _ ?_)
        clear hK
        have H5 : Ge W0 v5 := hH3.mine o9 (Nat.le_refl _) m12
        obtain ⟨g12, c12, rfl⟩ := Go.Joins.ownsRow_form o12 (by omega)
        go_wp2_with fail
        go_meet
        exact ⟨_, _, rfl, o12, H5⟩
      · refine ⟨_, rfl, fun K hK => ?_⟩
        go_simp
        refine hK.out _ _ (Ge.alloc hH1 _) (fun _ => ?_)
        clear hK K
        (try simp only [Act.put, List.setIfInBounds_toArray, List.set_cons_zero, List.set_cons_succ])
        have hH2 := Ge.alloc hH1 (.cells #[.int .i64 x, .int .i64 y, .int .i64 s] 27)
        have R11 : (v1.alloc (.cells #[.int .i64 x, .int .i64 y, .int .i64 s] 27)).ownsRow 0 27 3 (.slice (some ⟨v1.heap.size, 0, none⟩) 1 1) 1 (icells [x, y, s]) := World.ownsRow_lit v1 (base := 0) (e := 27) (size := 3) #[.int .i64 x, .int .i64 y, .int .i64 s] 1 (by omega) (by unfold maxLen; omega) (by simp)
        have z11 : v1.heap.size < (v1.alloc (.cells #[.int .i64 x, .int .i64 y, .int .i64 s] 27)).heap.size := by simp
        replace E7 := E7.alloc (.cells #[.int .i64 x, .int .i64 y, .int .i64 s] 27)
        have hne : v1.heap.size ≠ b7 := by omega
        generalize hwv2 : (v1.alloc (.cells #[.int .i64 x, .int .i64 y, .int .i64 s] 27)) = v2 at *
        clear hwv2
        generalize hb11 : v1.heap.size = b11 at *
        refine head_many [2] (by kernel_rfl) ?_
        intro i hi
        simp only [List.mem_cons, List.not_mem_nil, or_false] at hi
        subst hi
        refine ⟨_, rfl, fun K hK => ?_⟩
        rw [if_pos (by rfl)]
        refine ap_sqsK _ _ rfl W0.heap.size (.slice (some ⟨b7, 0, none⟩) 0 0) 0 [] rfl E7 hH2.size ad k c l rfl (HV.out.ge hH2) (by omega) ?_
        intro v9 v3 o9 m9 n9
        have hH3 : Ge W0 v3 := hH2.mine E7 (Nat.le_refl _) m9
        rw [Nat.zero_add, List.nil_append] at o9
        replace R11 := R11.kept m9 (.inr (fun e => by simp [Value.ownBlock] at e; omega))
        obtain ⟨g9, c9, rfl⟩ : ∃ g9 c9, v9 = .slice (some ⟨g9, 0, none⟩) k c9 := by
          rcases o9.2 with ⟨h1, _⟩ | ⟨g9, c9, cur, h1, _⟩
          · exact absurd (n9.1 h1).1 (by simp)
          · exact ⟨g9, c9, h1⟩
        refine hK.out _ _ hH3 (fun _ => ?_)
        clear hK K
        (try simp only [Act.put, List.setIfInBounds_toArray, List.set_cons_zero, List.set_cons_succ])
        refine head_done (by kernel_rfl) ?_
        (try simp only [Act.put, List.setIfInBounds_toArray, List.set_cons_zero, List.set_cons_succ])
        refine wpList_plain rfl fun _ hK => ap_sqsK _ _ rfl W0.heap.size _ k l rfl o9 hH3.size ⟨b11, 0, none⟩ 1 1 [x, y, s] rfl (SlF.of_owns R11) (by omega) (fun v12 v5 o12 m12 _ => hK _ _ ?_)
        clear hK
        have H5 : Ge W0 v5 := hH3.mine o9 (Nat.le_refl _) m12
        obtain ⟨g12, c12, rfl⟩ := Go.Joins.ownsRow_form o12 (by omega)
        go_wp2_with fail
        go_meet
        exact ⟨_, _, rfl, o12, H5⟩
    · refine ⟨_, rfl, fun K hK => ?_⟩
      go_simp
      refine hK.out _ _ (Ge.alloc hH0 _) (fun _ => ?_)
      clear hK K
      (try simp only [Act.put, List.setIfInBounds_toArray, List.set_cons_zero, List.set_cons_succ])
      have hH1 := Ge.alloc hH0 (.cells #[.int .i64 x, .int .i64 y, .int .i64 s] 27)
      have R11 : (v0.alloc (.cells #[.int .i64 x, .int .i64 y, .int .i64 s] 27)).ownsRow 0 27 3 (.slice (some ⟨v0.heap.size, 0, none⟩) 1 1) 1 (icells [x, y, s]) := World.ownsRow_lit v0 (base := 0) (e := 27) (size := 3) #[.int .i64 x, .int .i64 y, .int .i64 s] 1 (by omega) (by unfold maxLen; omega) (by simp)
      have z11 : v0.heap.size < (v0.alloc (.cells #[.int .i64 x, .int .i64 y, .int .i64 s] 27)).heap.size := by simp
      generalize hwv1 : (v0.alloc (.cells #[.int .i64 x, .int .i64 y, .int .i64 s] 27)) = v1 at *
      clear hwv1
      generalize hb11 : v0.heap.size = b11 at *
      refine head_many [0] (by kernel_rfl) ?_
      intro i hi
      simp only [List.mem_cons, List.not_mem_nil, or_false] at hi
      subst hi
      refine ⟨_, rfl, fun K hK => ?_⟩
      go_simp
      refine hK.out _ _ (Ge.alloc hH1 _) (fun _ => ?_)
      clear hK K
      (try simp only [Act.put, List.setIfInBounds_toArray, List.set_cons_zero, List.set_cons_succ])
      have hH2 := Ge.alloc hH1 (.cells #[] 27)
      have E7 : (v1.alloc (.cells #[] 27)).ownsRow W0.heap.size 27 3 (.slice (some ⟨v1.heap.size, 0, none⟩) 0 0) 0 (icells []) := owns_mono (owns_lit0 v1 27 3) hH1.size
      have z7 : v1.heap.size < (v1.alloc (.cells #[] 27)).heap.size := by simp
      replace R11 := R11.alloc (.cells #[] 27)
      have hne : v1.heap.size ≠ b11 := by omega
      generalize hwv2 : (v1.alloc (.cells #[] 27)) = v2 at *
      clear hwv2
      generalize hb7 : v1.heap.size = b7 at *
      refine head_many [2] (by kernel_rfl) ?_
      intro i hi
      simp only [List.mem_cons, List.not_mem_nil, or_false] at hi
      subst hi
      refine ⟨_, rfl, fun K hK => ?_⟩
      rw [if_pos (by rfl)]
      refine ap_sqsK _ _ rfl W0.heap.size (.slice (some ⟨b7, 0, none⟩) 0 0) 0 [] rfl E7 hH2.size ad k c l rfl (HV.out.ge hH2) (by omega) ?_
      intro v9 v3 o9 m9 n9
      have hH3 : Ge W0 v3 := hH2.mine E7 (Nat.le_refl _) m9
      rw [Nat.zero_add, List.nil_append] at o9
      replace R11 := R11.kept m9 (.inr (fun e => by simp [Value.ownBlock] at e; omega))
      obtain ⟨g9, c9, rfl⟩ : ∃ g9 c9, v9 = .slice (some ⟨g9, 0, none⟩) k c9 := by
        rcases o9.2 with ⟨h1, _⟩ | ⟨g9, c9, cur, h1, _⟩
        · exact absurd (n9.1 h1).1 (by simp)
        · exact ⟨g9, c9, h1⟩
      refine hK.out _ _ hH3 (fun _ => ?_)
      clear hK K
      (try simp only [Act.put, List.setIfInBounds_toArray, List.set_cons_zero, List.set_cons_succ])
      refine head_done (by kernel_rfl) ?_
      (try simp only [Act.put, List.setIfInBounds_toArray, List.set_cons_zero, List.set_cons_succ])
      refine wpList_plain rfl fun _ hK => ap_sqsK _ _ rfl W0.heap.size _ k l rfl o9 hH3.size ⟨b11, 0, none⟩ 1 1 [x, y, s] rfl (SlF.of_owns R11) (by omega) (fun v12 v5 o12 m12 _ => hK _ _ ?_)
      clear hK
      have H5 : Ge W0 v5 := hH3.mine o9 (Nat.le_refl _) m12
      obtain ⟨g12, c12, rfl⟩ := Go.Joins.ownsRow_form o12 (by omega)
      go_wp2_with fail
      go_meet
      exact ⟨_, _, rfl, o12, H5⟩
  obtain ⟨g', c2, rfl, hown, hG⟩ := hcut
  have zW : w.heap.size < (w.alloc (.cells #[.int .i64 x, .int .i64 y, .int .i64 s] 27)).heap.size := by simp
  have HO := Lib.hid (owns_mono hown (Nat.le_of_lt zW))
  have HG := Lib.hid (Ge.trans GW hG)
  have n0 := hG.keep N0
  have n1 := hG.keep N1
  have hll : l.length = k * 3 := by have := HLn.out; rwa [icells_length] at this
  have HC := Lib.hid (fun j (hj : j < k) (r : Nat) (hr : r < 3) => (by
    have h1 := hown.cellAt (j * 3 + r) (by omega)
    rw [h1]
    simp only [icells, List.getElem?_map]
    rw [List.getElem?_append_left (by omega), List.getElem?_eq_getElem (by omega)]
    simp only [Option.map_some]
    rw [nth_eq l (j * 3 + r) (by omega)] : wc.cell? ⟨g', j * 3 + r, none⟩ = some (.int .i64 (nth l (j * 3 + r)))))
  clear hown hG N0 N1 N2 GW HV HLc HLn zW hll
  go_wp2_with fail
  go_loopw [6] (fun i wr => i = .int .i64 (k : Int) ∧ wr = wc) (fun _ _ => 0)
  case atStart => exact ⟨by go_num, rfl⟩
  case round =>
    obtain ⟨rfl, rfl⟩ := hrel
    by_cases hk0 : k = 0
    · subst hk0
      go_wp2_with fail
      go_quiet (fail)
      go_wp2_with fail
      go_ret
      exact ⟨_, _, rfl, (Ge.drewN (Ge.refl _) _).owns HO.out, Ge.drewN HG.out _⟩
    · obtain ⟨k', rfl⟩ : ∃ k', k = k' + 1 := ⟨k - 1, by omega⟩
      have hc := ho k' rfl
      have c0 := HC.out k' (by omega) 0 (by omega)
      have c1 := HC.out k' (by omega) 1 (by omega)
      rw [Nat.add_zero] at c0
      generalize nth l (k' * 3) = LX at *
      generalize nth l (k' * 3 + 1) = LY at *
      have i1 : (k' : Int) < ((k' + 1 + 1 : Nat) : Int) := by omega
      have i2 : (0 : Int) ≤ (k' : Int) := by omega
      have i3 : (0 : Int) < (k' : Int) + 1 := by omega
      have i4 : (k' : Int) < (k' : Int) + 1 + 1 := by omega
      have i5 : k' < k' + 1 + 1 := by omega
      have tw : IntKind.i64.wrap ((k' : Int) + 1 - 1) = (k' : Int) := by rw [show (k' : Int) + 1 - 1 = (k' : Int) by omega]; exact IntWalk.i64_in _ (by omega)
      have tw2 : IntKind.i64.wrap (k' : Int) = (k' : Int) := IntWalk.i64_in _ (by omega)
      clear HC ho
      have u1 : decide (y < LY) = false := decide_eq_false (by omega)
      have v1 : ¬ y < LY := by omega
      have v1' : LY ≤ y := by omega
      by_cases he : LY = y
      · subst he
        have u2 : (LY == LY) = true := by simp
        have u3 : decide (x < LX) = false := decide_eq_false (by omega)
        have v3 : LX ≤ x := by omega
        clear hc
        go_wp2_with fail
        go_quiet (fail)
        go_wp2_with fail
        go_ret
        exact ⟨_, _, rfl, (Ge.drewN (Ge.refl _) _).owns HO.out, Ge.drewN HG.out _⟩
      · have u2 : (LY == y) = false := by simpa using he
        clear hc
        go_wp2_with fail
        go_quiet (fail)
        go_wp2_with fail
        go_ret
        exact ⟨_, _, rfl, (Ge.drewN (Ge.refl _) _).owns HO.out, Ge.drewN HG.out _⟩
end Go.Proofs.YtckjkfcphcnpdaaGreat

namespace Go.Proofs.YtckjkfcphcnpdaaGreat
set_option maxRecDepth 100000
open Go.ChangeShapes Go.WideShapes Go.ChangeAt Go.RowKit Go.Joins

theorem cut_last {a b k : Nat} (hs : ∀ j, j < k → ¬ stopC a b j) : ∀ j, j + 1 = k → nth (cutX a b k) (j * 3 + 1) < ((stC a b k).y : Int) ∨ nth (cutX a b k) (j * 3 + 1) = ((stC a b k).y : Int) ∧ nth (cutX a b k) (j * 3) < ((stC a b k).x : Int) := fun j hj => by
  subst hj
  obtain ⟨a1, a2⟩ := cutX_nth (w := a) (h := b) (k := j + 1) (j := j) (by omega)
  rw [a1, a2]
  have := stC_next (hs j (by omega))
  omega
set_option maxHeartbeats 1600000 in
theorem sCutT (a b : Nat) (w : World) (ha : 1 ≤ a ∧ a ≤ 200) (hb : 1 ≤ b ∧ b ≤ 200) :
    Calls Tryz.prog 42 #[.int .i64 (a : Int), .int .i64 (b : Int)] w fun e w' => GivesC w (cutO a b) a b e w' ∧ Ge w w' := by
  rw [cutO_t ha hb]
  have HB := Lib.hid (stC_bd ha.2 hb.2)
  have HX := Lib.hid (cutX_succ a b)
  have HS := Lib.hid (stC_succ a b)
  have HR := Lib.hid (fun k (hk : k ≤ 12) hs h1 => cutR_some (w := a) (h := b) (k := k) hk hs h1)
  have HLa := Lib.hid (fun k (h : ∀ j, j < k → ¬ stopC a b j) => cut_last h)
  have ta : inB (a : Int) 1 200 = true := by simp [inB]; omega
  have tb : inB (b : Int) 1 200 = true := by simp [inB]; omega
  have HN : Hid ((∀ j, j < 13 → ¬ stopC a b j) → cutR a b = none) := cutR_none
  have HSt : Hid (∀ k, stopC a b k ↔ (stC a b k).w = 0 ∨ (stC a b k).h = 0) := fun _ => Iff.rfl
  have H0 : Hid ((stC a b 0).w = a ∧ (stC a b 0).h = b ∧ (stC a b 0).x = 0 ∧ (stC a b 0).y = 0 ∧ cutX a b 0 = []) := ⟨rfl, rfl, rfl, rfl, rfl⟩
  generalize cutR a b = CR at *
  go_enter Tryz.func42, Tryz.ntmps42
  go_wp2_with ((go_at_call 47; ((with_reducible refine (sL01In _ _ _ _).mono ?_); rintro e w0 ⟨rfl, rfl⟩)))
  go_loopw [0, 1, 6, 7, 8] (fun p q o x y wr => ∃ (k g c : Nat), k ≤ 12 ∧ p = .int .i64 ((stC a b k).w : Int) ∧ q = .int .i64 ((stC a b k).h : Int) ∧ o = .slice (some ⟨g, 0, none⟩) k c ∧ x = .int .i64 ((stC a b k).x : Int) ∧ y = .int .i64 ((stC a b k).y : Int) ∧
    wr.ownsRow w.heap.size 27 3 (.slice (some ⟨g, 0, none⟩) k c) k (icells (cutX a b k)) ∧ Hid (∀ j, j < k → ¬ stopC a b j) ∧ Ge w wr) (fun p q _ _ _ _ => (intOf p).toNat + (intOf q).toNat)
  case atStart => exact ⟨0, _, _, Nat.zero_le _, by rw [H0.out.1], by rw [H0.out.2.1], rfl, by rw [H0.out.2.2.1]; rfl, by rw [H0.out.2.2.2.1]; rfl, by rw [H0.out.2.2.2.2]; exact owns_lit0 _ _ _, fun j hj => by omega, by (repeat (first | with_reducible exact Ge.refl _ | assumption | with_reducible refine Ge.drew ?_ | with_reducible refine Ge.drewN ?_ _ | with_reducible refine Ge.alloc ?_ _ | (with_reducible refine Ge.setCell ?_ (by first | (simp; done) | omega | (simp; omega)) _) | with_reducible refine Ge.trans ?_ (by assumption)))⟩
  case round =>
    obtain ⟨k, gq, cq, hk, rfl, rfl, rfl, rfl, rfl, hown, HA, hg⟩ := hrel
    obtain ⟨b1, b2⟩ := HB.out k
    have HXk := Lib.hid (HX.out k)
    have HSk := Lib.hid (HS.out k)
    have HStk := Lib.hid (HSt.out k)
    have HRk := Lib.hid (fun h => HR.out k hk HA.out h)
    have HAn : Hid (¬ stopC a b k → ∀ j, j < k + 1 → ¬ stopC a b j) := fun g j hj => by
      by_cases e : j = k
      · subst e; exact g
      · exact HA.out j (by omega)
    have hlast := HLa.out k HA.out
    have HOw := Lib.hid hown
    have zg := hg.size
    clear hown
    generalize hst : stC a b k = st at *
    obtain ⟨W, H, X, Y⟩ := st
    simp only at b1 b2 HXk HSk HStk hlast ⊢
    have HLs := Lib.hid hlast
    clear hlast
    by_cases hs : W = 0 ∨ H = 0
    · have HF := Lib.hid (HRk.out (HStk.out.2 hs))
      clear HRk HAn HXk HSk HStk HLs
      by_cases hw : W = 0
      · subst hw
        clear hs b1 b2
        go_wp2_with fail
        exact bodyPost_ret (v := .tuple #[.slice (some ⟨gq, 0, none⟩) k cq, .bool true]) (by simp [results, Tryz.results42, go_sem]) rfl ⟨by rw [HF.out]; exact ⟨_, rfl, HOw.out⟩, hg⟩
      · have hh : H = 0 := by omega
        subst hh
        have hw2 : (0 : Int) < (W : Int) := by omega
        clear hs b1 b2
        go_wp2_with fail
        exact bodyPost_ret (v := .tuple #[.slice (some ⟨gq, 0, none⟩) k cq, .bool true]) (by simp [results, Tryz.results42, go_sem]) rfl ⟨by rw [HF.out]; exact ⟨_, rfl, HOw.out⟩, hg⟩
    · have HA2 := Lib.hid (HAn.out (fun h => hs (HStk.out.1 h)))
      have hw : (0 : Int) < (W : Int) := by omega
      have hh : (0 : Int) < (H : Int) := by omega
      clear HRk HAn HStk
      by_cases hk12 : k = 12
      · have HF := Lib.hid (HN.out (fun j hj => HA2.out j (by omega)))
        have tk : ((k : Int) == 12) = true := by simp; omega
        clear HXk HSk HA2 HA HLs
        generalize cutX a b k = L at *
        go_wp2_with fail
        exact bodyPost_ret (v := .tuple #[.slice none 0 0, .bool false]) (by simp [results, Tryz.results42, go_sem]) rfl ⟨by rw [HF.out]; exact rfl, hg⟩
      · have tk : ((k : Int) == 12) = false := by simp; omega
        by_cases hwh : H < W
        · have tm : min (W : Int) (H : Int) = (H : Int) := by omega
          have e1 : min W H = H := by omega
          have tg : (H : Int) < (W : Int) := by omega
          have HXe := Lib.hid (HXk.out)
          rw [e1] at HXe
          have HSe : Hid (stC a b (k + 1) = ⟨W - H, H, X + H, Y⟩) := by
            show _ = _
            rw [HSk.out]; simp [stepC, hwh]
          clear HXk HSk e1
          have HIn := Lib.hid (sL13Insert ⟨gq, 0, none⟩ k cq (cutX a b k) (X : Int) (Y : Int) (H : Int) wr (SlF.of_owns HOw.out) hk HLs.out)
          generalize cutX a b k = L at *
          go_wp2_with ((go_at_call 60; ((with_reducible refine (HIn.out).mono ?_); rintro e w4 ⟨g4, c4, rfl, o4, G4⟩)))
          go_roundw
          case rel => exact ⟨k + 1, _, _, by omega, by rw [HSe.out]; simp only; congr 1; omega, by rw [HSe.out], rfl, by rw [HSe.out]; simp only; congr 1, by rw [HSe.out], by rw [HXe.out]; exact owns_mono o4 zg, HA2, Ge.trans hg G4⟩
          case measure => simp [intOf]; omega
        · have tm : min (W : Int) (H : Int) = (W : Int) := by omega
          have e1 : min W H = W := by omega
          have tg : ¬ (H : Int) < (W : Int) := by omega
          have HXe := Lib.hid (HXk.out)
          rw [e1] at HXe
          have HSe : Hid (stC a b (k + 1) = ⟨W, H - W, X, Y + W⟩) := by
            show _ = _
            rw [HSk.out]; simp [stepC, hwh]
          clear HXk HSk e1
          have HIn := Lib.hid (sL13Insert ⟨gq, 0, none⟩ k cq (cutX a b k) (X : Int) (Y : Int) (W : Int) wr (SlF.of_owns HOw.out) hk HLs.out)
          generalize cutX a b k = L at *
          go_wp2_with ((go_at_call 60; ((with_reducible refine (HIn.out).mono ?_); rintro e w4 ⟨g4, c4, rfl, o4, G4⟩)))
          go_roundw
          case rel => exact ⟨k + 1, _, _, by omega, by rw [HSe.out], by rw [HSe.out]; simp only; congr 1; omega, rfl, by rw [HSe.out], by rw [HSe.out]; simp only; congr 1, by rw [HXe.out]; exact owns_mono o4 zg, HA2, Ge.trans hg G4⟩
          case measure => simp [intOf]; omega

set_option maxHeartbeats 1600000 in
theorem sCut (a b : Int) (w : World) : Calls Tryz.prog 42 #[.int .i64 a, .int .i64 b] w fun e w' => GivesC w (cutO a b) a b e w' ∧ Ge w w' := by
  by_cases h : (1 ≤ a ∧ a ≤ 200) ∧ (1 ≤ b ∧ b ≤ 200)
  · obtain ⟨p, rfl⟩ : ∃ p : Nat, a = p := ⟨a.toNat, by omega⟩
    obtain ⟨q, rfl⟩ : ∃ q : Nat, b = q := ⟨b.toNat, by omega⟩
    exact sCutT p q w ⟨by omega, by omega⟩ ⟨by omega, by omega⟩
  · rw [cutO_f h]
    cases ta : inB a 1 200 with
    | false =>
      go_enter Tryz.func42, Tryz.ntmps42
      go_wp2_with ((go_at_call 47; ((with_reducible refine (sL01In _ _ _ _).mono ?_); rintro e w0 ⟨rfl, rfl⟩)))
      exact bodyPost_ret (v := .tuple #[.slice none 0 0, .bool false]) (by simp [results, Tryz.results42, go_sem]) rfl ⟨rfl, Ge.refl _⟩
    | true =>
      have tb : inB b 1 200 = false := by
        simp only [inB, Bool.and_eq_true, decide_eq_true_eq] at ta
        unfold inB
        rw [Bool.and_eq_false_iff]
        by_cases e : 1 ≤ b
        · right; simp; omega
        · left; simp; omega
      clear h
      go_enter Tryz.func42, Tryz.ntmps42
      go_wp2_with ((go_at_call 47; ((with_reducible refine (sL01In _ _ _ _).mono ?_); rintro e w0 ⟨rfl, rfl⟩)))
      exact bodyPost_ret (v := .tuple #[.slice none 0 0, .bool false]) (by simp [results, Tryz.results42, go_sem]) rfl ⟨rfl, Ge.refl _⟩
end Go.Proofs.YtckjkfcphcnpdaaGreat

namespace Go.Proofs.YtckjkfcphcnpdaaGreat
set_option maxRecDepth 100000
open Go.ChangeShapes Go.WideShapes Go.ChangeAt Go.RowKit Go.Joins

/-- A slice of bytes. -/
def SlB (w : World) (p : Option Addr) (n : Nat) : Prop := ∀ i, i < n → ∃ (b o : Nat) (x : Int), p = some ⟨b, o, none⟩ ∧ w.cell? ⟨b, o + i, none⟩ = some (.int .u8 x) ∧ 0 ≤ x ∧ x ≤ 255
theorem SlB.ge {w w' : World} {p : Option Addr} {n : Nat} (h : SlB w p n) (hg : Ge w w') : SlB w' p n := fun i hi => by
  obtain ⟨b, o, x, hp, hc, h0, h1⟩ := h i hi
  exact ⟨b, o, x, hp, hg.keep hc, h0, h1⟩

/-- A cursor at block g; the bytes lie in blocks below g. -/
def Cur (w : World) (g : Nat) : Prop := ∃ (p : Option Addr) (n cap : Nat) (i h : Int) (c : World), w.cell? ⟨g, 0, none⟩ = some (.slice p n cap) ∧ w.cell? ⟨g, 1, none⟩ = some (.int .i64 i) ∧ w.cell? ⟨g, 2, none⟩ = some (.int .i64 h) ∧
  w.frozen? ⟨g, 0, none⟩ = false ∧ w.frozen? ⟨g, 1, none⟩ = false ∧ w.frozen? ⟨g, 2, none⟩ = false ∧ 0 ≤ i ∧ i ≤ n ∧ n ≤ 1048576 ∧ SlB c p n ∧ c.heap.size ≤ g ∧ Ge c w

theorem mask255 (z : Int) : 0 ≤ bits .and .i64 z 255 ∧ bits .and .i64 z 255 ≤ 255 := by
  have h : (BitVec.ofInt 64 z &&& BitVec.ofInt 64 255).toNat ≤ 255 := by
    rw [BitVec.toNat_and]
    exact Nat.le_trans Nat.and_le_right (by decide)
  have e : bits .and .i64 z 255 = IntKind.i64.wrap ((BitVec.ofInt 64 z &&& BitVec.ofInt 64 255).toNat : Int) := rfl
  rw [e, IntWalk.i64_in _ (by omega)]
  omega

theorem Cur.mk {w : World} {g : Nat} {p : Option Addr} {n cap : Nat} (i : Int) {h : Int} {c : World} (hb : SlB c p n) (hcg : c.heap.size ≤ g) (i0 : 0 ≤ i) (i1 : i ≤ n) (n1 : n ≤ 1048576)
    (c2 : w.cell? ⟨g, 2, none⟩ = some (.int .i64 h)) (c0 : w.cell? ⟨g, 0, none⟩ = some (.slice p n cap)) (c1 : w.cell? ⟨g, 1, none⟩ = some (.int .i64 i))
    (f0 : w.frozen? ⟨g, 0, none⟩ = false) (f1 : w.frozen? ⟨g, 1, none⟩ = false) (f2 : w.frozen? ⟨g, 2, none⟩ = false) (hg : Ge c w) : Cur w g :=
  ⟨p, n, cap, i, h, c, c0, c1, c2, f0, f1, f2, i0, i1, n1, hb, hcg, hg⟩
theorem gb_set {w w1 : World} {g i : Nat} {u : Value} (h : w.grownBy w1 (some g)) : w.grownBy (w1.setCell ⟨g, i, none⟩ u) (some g) :=
  ⟨h.os, h.tape, h.output, by simpa using h.size, fun k hk hne => by
    rw [← h.block k hk hne]
    exact Below.heap_setCell w1 ⟨g, i, none⟩ u k (fun e => hne (by rw [e]))⟩
theorem gb_drewN {w w1 : World} {g n : Nat} (h : w.grownBy w1 (some g)) : w.grownBy (w1.drewN n) (some g) := ⟨h.os, h.tape, h.output, h.size, h.block⟩

set_option maxHeartbeats 800000 in
theorem sL01Byte (g : Nat) (w : World) (hc : Cur w g) :
    Calls Tryz.prog 59 #[.pointer (some ⟨g, 0, none⟩)] w fun e w' => ∃ x, e = .returned (.int .i64 x) ∧ 0 ≤ x ∧ x ≤ 255 ∧ Cur w' g ∧ w.grownBy w' (some g) := by
  obtain ⟨p, n, cap, i, h, c, c0, c1, c2, f0, f1, f2, i0, i1, n1, hb, hcg, hg⟩ := hc
  have lg := World.block_lt_of_cell? w _ c0
  by_cases hi : i < n
  · obtain ⟨k, rfl⟩ : ∃ k : Nat, i = k := ⟨i.toNat, by omega⟩
    obtain ⟨b, o, x, rfl, hx, x0, x1⟩ := hb k (by omega)
    have lb := World.block_lt_of_cell? c _ hx
    have hx' := hg.keep hx
    simp at lb lg
    have HB := Lib.hid hb
    have HG := Lib.hid hg
    clear hb hx hg
    have hne : b ≠ g := by omega
    have hne' : g ≠ b := by omega
    go_enter Tryz.func59, Tryz.ntmps59
    go_wp2_with fail
    go_quiet (fail)
    go_wp2_with fail
    go_quiet (fail)
    go_wp2_with fail
    go_quiet (fail)
    go_wp2_with fail
    go_ret
    exact ⟨_, rfl, (mask255 _).1, (mask255 _).2, Cur.mk (k + 1) HB.out hcg (by omega) (by omega) n1 (cell_set2 (by simp) (cell_drewN (cell_same c2))) (cell_set2 (by simp) (cell_drewN (cell_set2 (by simp) c0)))
      (cell_same (cell_drewN (cell_set2 (by simp) c1))) (froz_set (froz_set f0)) (froz_set (froz_set f1)) (froz_set (froz_set f2)) ((((HG.out).setCell (by exact hcg) _).drewN _).setCell (by exact hcg) _),
      gb_set (gb_drewN (gb_set (World.grownBy.refl _ _)))⟩
  · have HB := Lib.hid hb
    have HG := Lib.hid hg
    clear hb hg
    go_enter Tryz.func59, Tryz.ntmps59
    go_wp2_with fail
    go_quiet (fail)
    go_wp2_with fail
    go_quiet (fail)
    go_wp2_with fail
    go_ret
    exact ⟨_, rfl, (mask255 _).1, (mask255 _).2, Cur.mk i HB.out hcg i0 i1 n1 (cell_drewN (cell_drewN (cell_same c2))) (cell_drewN (cell_drewN (cell_set2 (by simp) c0))) (cell_drewN (cell_drewN (cell_set2 (by simp) c1))) (froz_set f0) (froz_set f1) (froz_set f2)
      ((((HG.out).setCell (by exact hcg) _).drewN _).drewN _), gb_drewN (gb_drewN (gb_set (World.grownBy.refl _ _)))⟩

/-- What a draw leaves: a cursor, and all blocks but the cursor's. -/
def Drew (w w' : World) (g : Nat) : Prop := Cur w' g ∧ w.grownBy w' (some g)
theorem Drew.trans {a b c : World} {g : Nat} (h : Drew a b g) (k : Drew b c g) : Drew a c g := ⟨k.1, grown_trans h.2 k.2⟩
theorem Drew.ge {a b : World} {c : World} {g : Nat} (h : Drew a b g) (hg : Ge c a) (hb : c.heap.size ≤ g) : Ge c b := hg.grown h.2 (fun k hk => by cases hk; exact hb)

set_option maxHeartbeats 800000 in
theorem sL01Below (g : Nat) (n : Int) (w : World) (hc : Cur w g) (h0 : 0 < n) (h1 : n ≤ 256) :
    Calls Tryz.prog 41 #[.pointer (some ⟨g, 0, none⟩), .int .i64 n] w fun e w' => ∃ x, e = .returned (.int .i64 x) ∧ 0 ≤ x ∧ x < n ∧ Drew w w' g := by
  have HC := Lib.hid hc
  clear hc
  go_enter Tryz.func41, Tryz.ntmps41
  go_wp2_with (go_at_call 59; ((with_reducible refine (sL01Byte _ _ HC.out).mono ?_); rintro e w' ⟨x, rfl, x0, x1, hc', hg'⟩))
  go_ret
  exact ⟨_, rfl, Int.emod_nonneg _ (by omega), Int.emod_lt_of_pos _ h0, hc', hg'⟩

theorem cur_new {w : World} {p : Option Addr} {n cap : Nat} {z : Int} {t : TypeId} (hb : SlB w p n) (hn : n ≤ 1048576) :
    ∃ g, Ending.returned (.pointer (some ⟨w.heap.size, 0, none⟩)) = .returned (.pointer (some ⟨g, 0, none⟩)) ∧ Cur (w.alloc (.cells #[.slice p n cap, .int .i64 0, .int .i64 z] t)) g ∧ w.heap.size ≤ g ∧ Ge w (w.alloc (.cells #[.slice p n cap, .int .i64 0, .int .i64 z] t)) :=
  ⟨_, rfl, Cur.mk 0 hb (Nat.le_refl _) (Int.le_refl _) (by omega) hn (cell_new rfl rfl) (cell_new rfl rfl) (cell_new rfl rfl) (froz_new (i := 0) rfl rfl) (froz_new (i := 1) rfl rfl) (froz_new (i := 2) rfl rfl) ((Ge.refl w).alloc _), Nat.le_refl _, (Ge.refl w).alloc _⟩

set_option maxHeartbeats 800000 in
theorem sL01New (p : Option Addr) (n cap : Nat) (w : World) (hb : SlB w p n) (hn : n ≤ 1048576) :
    Calls Tryz.prog 17 #[.slice p n cap] w fun e w' => ∃ g, e = .returned (.pointer (some ⟨g, 0, none⟩)) ∧ Cur w' g ∧ w.heap.size ≤ g ∧ Ge w w' := by
  have HB := Lib.hid hb
  clear hb
  go_enter Tryz.func17, Tryz.ntmps17
  go_wp2_with fail
  go_loop [3, 4] (fun h i => ∃ (z : Int) (k : Nat), h = .int .i64 z ∧ i = .int .i64 k ∧ k ≤ n) (fun _ i => n - (intOf i).toNat)
  case atStart => exact ⟨_, 0, rfl, rfl, Nat.zero_le _⟩
  case round =>
    obtain ⟨z, k, rfl, rfl, hk⟩ := hrel
    by_cases hlt : k < n
    · by_cases h4 : k < 4000
      · obtain ⟨b, o, x, rfl, hx, x0, x1⟩ := HB.out k hlt
        go_wp2_with fail
        go_round
        case rel => exact ⟨_, k + 1, rfl, by go_num, by omega⟩
        case measure => simp [intOf]; omega
      · go_wp2_with fail
        go_ret
        exact cur_new HB.out hn
    · go_wp2_with fail
      go_ret
      exact cur_new HB.out hn

end Go.Proofs.YtckjkfcphcnpdaaGreat

namespace Go.Proofs.YtckjkfcphcnpdaaGreat
set_option maxRecDepth 100000
open Go.ChangeShapes Go.WideShapes Go.ChangeAt Go.RowKit Go.Joins

theorem CurD.mine {w w' : World} {g : Nat} {v : Value} (h : Cur w g) (hm : Mine w w' v) (hne : ∀ k, v.ownBlock = some k → g < k) : Cur w' g := by
  obtain ⟨p, n, cap, i, z, c, c0, c1, c2, f0, f1, f2, i0, i1, n1, hb, hcg, hg⟩ := h
  have lg := World.block_lt_of_cell? w _ c0
  have hno : ∀ k, v.ownBlock = some k → g ≠ k := fun k hk => by have := hne k hk; omega
  have hf : ∀ i, w'.frozen? ⟨g, i, none⟩ = w.frozen? ⟨g, i, none⟩ := fun i => by
    have hbk := hm.block g lg (fun e => hno g e.symm rfl)
    unfold World.frozen?
    simp only [hbk]
  exact Cur.mk i hb hcg i0 i1 n1 (mine_cell hm c2 hno) (mine_cell hm c0 hno) (mine_cell hm c1 hno) ((hf 0).trans f0) ((hf 1).trans f1) ((hf 2).trans f2) (hg.grown hm (fun k hk => by have := hne k hk; omega))
theorem CurD.ge {w w' : World} {g : Nat} (h : Cur w g) (hg : Ge w w') : Cur w' g := by
  have hm : Mine w w' (.slice none 0 0) := ⟨hg.os, hg.tape, hg.output, hg.size, fun k hk _ => hg.below.block k hk⟩
  exact CurD.mine h hm (fun k hk => by simp [Value.ownBlock] at hk)
theorem CurD.set {w : World} {g b i : Nat} {x : Value} (h : Cur w g) (hb : g < b) : Cur (w.setCell ⟨b, i, none⟩ x) g := by
  obtain ⟨p, n, cap, j, z, c, c0, c1, c2, f0, f1, f2, i0, i1, n1, hB, hcg, hg⟩ := h
  have ne : ∀ j : Nat, (⟨b, i, none⟩ : Addr) ≠ ⟨g, j, none⟩ := fun j e => by have := congrArg Addr.block e; simp at this; omega
  exact Cur.mk j hB hcg i0 i1 n1 (cell_set2 (ne 2) c2) (cell_set2 (ne 0) c0) (cell_set2 (ne 1) c1) (froz_set f0) (froz_set f1) (froz_set f2) (hg.setCell (by show c.heap.size ≤ b; omega) _)
theorem Drew.cur {a b : World} {g : Nat} (h : Drew a b g) : Cur b g := h.1
theorem Drew.geN {a b c : World} {g : Nat} (h : Drew a b g) (hg : Ge b c) : Drew a c g :=
  ⟨CurD.ge h.1 hg, grown_trans h.2 ⟨hg.os, hg.tape, hg.output, hg.size, fun k hk _ => hg.below.block k hk⟩⟩
theorem Drew.setN {a b : World} {g k i : Nat} {x : Value} (h : Drew a b g) (hk : a.heap.size ≤ k) (hg : g < k) : Drew a (b.setCell ⟨k, i, none⟩ x) g :=
  ⟨CurD.set h.1 hg, ⟨h.2.os, h.2.tape, h.2.output, by simpa using h.2.size, fun j hj hne => by
    rw [← h.2.block j hj hne]
    exact Below.heap_setCell b ⟨k, i, none⟩ x j (fun e => by simp at e; omega)⟩⟩
theorem Drew.self {a : World} {g : Nat} (h : Cur a g) : Drew a a g := ⟨h, ⟨rfl, rfl, rfl, Nat.le_refl _, fun _ _ _ => rfl⟩⟩
theorem Drew.cellN {a b : World} {g : Nat} (h : Drew a b g) {c : Addr} {v : Value} (hc : a.cell? c = some v) (hne : c.block ≠ g) : b.cell? c = some v :=
  World.grownBy.cell h.2 hc (fun e => hne (by simpa using e))
theorem Drew.frozN {a b : World} {g : Nat} (h : Drew a b g) {c : Addr} {v : Value} (hc : a.cell? c = some v) (hne : c.block ≠ g) (hf : a.frozen? c = false) : b.frozen? c = false := by
  rw [World.frozen?_of_block (World.grownBy.block h.2 c.block (World.block_lt_of_cell? _ _ hc) (fun e => hne (by simpa using e)))]
  exact hf
theorem Drew.ownsN {a b : World} {g : Nat} (h : Drew a b g) {base e sz n : Nat} {v : Value} {xs : List Value} (ho : a.ownsRow base e sz v n xs) (hb : g < base) : b.ownsRow base e sz v n xs := by
  refine ho.kept h.2 ?_
  cases hv : v.ownBlock with
  | none => exact .inl rfl
  | some k =>
    right
    intro e'
    have := (ho.lt k hv).1
    simp at e'
    omega
theorem NetAt.drew {w w' : World} {R G n g : Nat} {E S : Int} {v : Value} {l : List Wr} (h : NetAt w R G n E S v l) (hd : Drew w w' g) (hR : g < R) (hG : g < G) : NetAt w' R G n E S v l :=
  have k : ∀ i : Nat, (⟨G, i, none⟩ : Addr).block ≠ g := fun i => by show G ≠ g; omega
  ⟨hd.cellN h.c0 (k 0), hd.cellN h.c1 (k 1), hd.cellN h.c2 (k 2), hd.cellN h.c3 (k 3), hd.frozN h.c3 (k 3) h.f3, hd.ownsN h.own (by omega), fun i hi => by
    obtain ⟨u, h1, h2⟩ := h.res i hi
    have kr : (⟨R, i, none⟩ : Addr).block ≠ g := by show R ≠ g; omega
    exact ⟨u, hd.cellN h1 kr, hd.frozN h1 kr h2⟩⟩
end Go.Proofs.YtckjkfcphcnpdaaGreat

namespace Go.Proofs.YtckjkfcphcnpdaaGreat
set_option maxRecDepth 100000
open Go.ChangeShapes Go.WideShapes Go.ChangeAt Go.RowKit Go.Joins

theorem tile_in {n : Nat} {xs : List Int} (h : tileB n xs = true) (hl : xs.length = n * 3) : ∀ j, -9223372036854775808 ≤ nth xs j ∧ nth xs j ≤ 9223372036854775807 := fun j => by
  obtain ⟨_, _, hsq, _⟩ : tileP n xs := by
    unfold tileB at h
    split at h
    · assumption
    · cases h
  by_cases hj : j < n * 3
  · have hk : j / 3 < n := by omega
    obtain ⟨a, b, c, d, e, f⟩ := (hsq (j / 3) hk).1
    unfold sx at a b
    unfold sy at c d
    unfold ss at e f
    rcases (show j = j / 3 * 3 ∨ j = j / 3 * 3 + 1 ∨ j = j / 3 * 3 + 2 by omega) with h0 | h0 | h0 <;> rw [h0] <;> omega
  · unfold nth
    rw [List.getD_eq_getElem?_getD, List.getElem?_eq_none (by omega)]
    simp
theorem capT {w : World} {base : Nat} {e : TypeId} {sz : Nat} {v : Value} {n : Nat} {xs : List Value} (h : w.ownsRow base e sz v n xs) : ∀ p c, v = .slice p n c → n ≤ c := by
  rintro p c rfl
  rcases h.2 with ⟨h1, h2⟩ | ⟨g, cap, cur, h1, _, _, h2, _⟩
  · simp only [Value.slice.injEq] at h1; omega
  · simp only [Value.slice.injEq] at h1; omega
theorem tilePart_pos (n : Nat) (xs : List Int) (k : Nat) : 1 ≤ (tilePart n xs k).length := by
  cases k with
  | zero => unfold tilePart; simp; omega
  | succ k => rw [tilePart_succ]; simp; omega
theorem loop_neT (bs : ByteArray) : ∀ (d i : Nat) (r : List UInt8), bs.size - i = d → r ≠ [] → ByteArray.toList.loop bs i r ≠ [] := by
  intro d
  induction d with
  | zero =>
    intro i r hd hr
    rw [ByteArray.toList.loop, if_neg (by omega)]
    simpa using hr
  | succ d ih =>
    intro i r hd hr
    rw [ByteArray.toList.loop, if_pos (by omega)]
    exact ih (i + 1) _ (by omega) (by simp)
theorem bstr_neT {l : List UInt8} (h : ¬ l = []) : (bstr l).toList.isEmpty = false := by
  have hs : 0 < (bstr l).size := by rw [bstr_size]; exact List.length_pos_iff.2 h
  have : (bstr l).toList ≠ [] := by
    unfold ByteArray.toList
    rw [ByteArray.toList.loop, if_pos hs]
    exact loop_neT _ _ _ _ rfl (by simp)
  cases e : (bstr l).toList with
  | nil => exact absurd e this
  | cons => rfl
/-- A drawn tiling in memory of its own. -/
def OwnT (w : World) (base : Nat) (v : Value) : Prop := ∃ n xs, tilP n xs ∧ xs.length = n * 3 ∧ w.ownsRow base 27 3 v n (icells xs)
theorem OwnT.of {w : World} {base n : Nat} {v : Value} {xs : List Int} (ht : tilP n xs) (ho : w.ownsRow base 27 3 v n (icells xs)) : OwnT w base v :=
  ⟨n, xs, ht, by have := ho.1; rwa [icells_length] at this, ho⟩
theorem OwnT.ge {w w' : World} {base : Nat} {v : Value} (h : OwnT w base v) (hg : Ge w w') : OwnT w' base v := by
  obtain ⟨n, xs, h1, h2, h3⟩ := h
  exact ⟨n, xs, h1, h2, hg.owns h3⟩
theorem OwnT.mono {w : World} {b base : Nat} {v : Value} (h : OwnT w base v) (hb : b ≤ base) : OwnT w b v := by
  obtain ⟨n, xs, h1, h2, h3⟩ := h
  exact ⟨n, xs, h1, h2, owns_mono h3 hb⟩
theorem tilA_lit (w : World) : OwnT (w.alloc (.cells #[.int .i64 0, .int .i64 0, .int .i64 18, .int .i64 18, .int .i64 0, .int .i64 15, .int .i64 18, .int .i64 15, .int .i64 7, .int .i64 25, .int .i64 15, .int .i64 8, .int .i64 0, .int .i64 18, .int .i64 14, .int .i64 14, .int .i64 18, .int .i64 4, .int .i64 14, .int .i64 22, .int .i64 10, .int .i64 24, .int .i64 22, .int .i64 1, .int .i64 24, .int .i64 23, .int .i64 9] 27)) w.heap.size (.slice (some ⟨w.heap.size, 0, none⟩) 9 9) :=
  OwnT.of tilA_p (World.ownsRow_lit w _ 9 (by omega) (by unfold maxLen; omega) (by simp))
theorem tilB_lit (w : World) : OwnT (w.alloc (.cells #[.int .i64 0, .int .i64 0, .int .i64 2, .int .i64 2, .int .i64 0, .int .i64 1, .int .i64 3, .int .i64 0, .int .i64 1, .int .i64 2, .int .i64 1, .int .i64 1, .int .i64 3, .int .i64 1, .int .i64 1] 27)) w.heap.size (.slice (some ⟨w.heap.size, 0, none⟩) 5 5) :=
  OwnT.of tilB_p (World.ownsRow_lit w _ 5 (by omega) (by unfold maxLen; omega) (by simp))

set_option maxHeartbeats 1600000 in
theorem sL13Draw (g : Nat) (w : World) (hc : Cur w g) : Calls Tryz.prog 16 #[.pointer (some ⟨g, 0, none⟩)] w fun e w' => ∃ v, e = .returned v ∧ OwnT w' w.heap.size v ∧ Drew w w' g := by
  have lg : g < w.heap.size := by obtain ⟨_, _, _, _, _, _, c0, _⟩ := hc; exact World.block_lt_of_cell? _ _ c0
  have HC := Lib.hid hc
  clear hc
  go_enter Tryz.func16, Tryz.ntmps16
  go_upto_region 2 with ((go_at_call 41; ((with_reducible refine (sL01Below _ _ _ HC.out (by omega) (by omega)).mono ?_); rintro e w1 ⟨x, rfl, x0, x1, hd1⟩)); have HD1 := Lib.hid hd1; have z1 := World.grownBy.size hd1.2; clear hd1)
  by_cases h0 : x = 0
  · have t0 : (x == 0) = true := by simp [h0]
    clear h0
    go_wp2_with fail
    go_ret
    exact ⟨_, rfl, (tilA_lit w1).mono z1, HD1.out.geN (Ge.alloc (Ge.refl _) _)⟩
  have t0 : (x == 0) = false := by simp [h0]
  by_cases h1 : x = 1
  · have t1 : (x == 1) = true := by simp [h1]
    clear h0 h1
    go_wp2_with fail
    go_ret
    exact ⟨_, rfl, (tilB_lit w1).mono z1, HD1.out.geN (Ge.alloc (Ge.refl _) _)⟩
  have t1 : (x == 1) = false := by simp [h1]
  clear h0 h1
  go_wp2_with (first
    | ((go_at_call 41; ((with_reducible refine (sL01Below _ _ _ HD1.out.cur (by omega) (by omega)).mono ?_); rintro e w2 ⟨y, rfl, y0, y1, hd2⟩)); have HD2 := Lib.hid (HD1.out.trans hd2); have z2 := World.grownBy.size hd2.2; clear hd2 HD1)
    | ((go_at_call 41; ((with_reducible refine (sL01Below _ _ _ HD2.out.cur (by omega) (by omega)).mono ?_); rintro e w3 ⟨z, rfl, z0, z1', hd3⟩)); have HD3 := Lib.hid (HD2.out.trans hd3); have z3 := World.grownBy.size hd3.2; clear hd3 HD2))
  have ha : 1 ≤ 1 + y ∧ 1 + y ≤ 9 := by omega
  have hb : 1 ≤ 1 + z ∧ 1 + z ≤ 9 := by omega
  generalize 1 + y = A at *
  generalize 1 + z = B at *
  obtain ⟨a, rfl⟩ := Int.eq_ofNat_of_zero_le (show 0 ≤ A by omega)
  obtain ⟨b, rfl⟩ := Int.eq_ofNat_of_zero_le (show 0 ≤ B by omega)
  obtain ⟨n, hn, ht⟩ := til_all (a := a) (b := b) (by omega) (by omega) (by omega) (by omega)
  have HCt := Lib.hid (sCut (a : Int) (b : Int) w3)
  rw [cutO_t (a := a) (b := b) (by omega) (by omega), hn] at HCt
  have HC2 : Hid (Calls Tryz.prog 42 #[.int .i64 (a : Int), .int .i64 (b : Int)] w3 fun e w' => ∃ v, e = .returned (.tuple #[v, .bool true]) ∧ OwnT w' w.heap.size v ∧ Ge w3 w') := HCt.out.mono (fun e w' h => by
    obtain ⟨⟨v, h1, h2⟩, h3⟩ := h
    exact ⟨v, h1, (OwnT.of ht (by simpa using h2)).mono (by omega), h3⟩)
  clear HCt ha hb hn ht
  go_wp2_with ((go_at_call 42; ((with_reducible refine (HC2.out).mono ?_); rintro e w4 ⟨v, rfl, o4, g4⟩)); have HO := Lib.hid o4; have HD4 := Lib.hid (HD3.out.geN g4); clear o4 g4)
  go_ret
  exact ⟨_, rfl, HO.out, HD4.out⟩
set_option maxHeartbeats 1600000 in
theorem sMakeTiling (p : Option Addr) (n cap : Nat) (w : World) (hb : SlB w p n) (hn : n ≤ 1048576) : Calls Tryz.prog 4 #[.slice p n cap] w fun e w' => ∃ v, e = .returned v ∧ OwnT w' w.heap.size v ∧ Ge w w' := by
  have HB := Lib.hid hb
  clear hb
  go_enter Tryz.func4, Tryz.ntmps4
  go_wp2_with (first
    | ((go_at_call 17; ((with_reducible refine (sL01New _ _ _ _ HB.out hn).mono ?_); rintro e w1 ⟨g, rfl, hc1, hg, g1⟩)); have HC := Lib.hid hc1; clear hc1; have z1 := g1.size)
    | ((go_at_call 16; ((with_reducible refine (sL13Draw _ _ HC.out).mono ?_); rintro e w2 ⟨v, rfl, o2, hd2⟩)); have HO := Lib.hid (o2.mono z1); have HG := Lib.hid (hd2.ge g1 hg); clear o2 hd2))
  go_ret
  exact ⟨_, rfl, HO.out, HG.out⟩

set_option maxHeartbeats 6400000 in
theorem lFnTilings (p : Option Addr) (n0 cap : Nat) (w : World) (hb : SlB w p n0) (hm0 : n0 ≤ 9223372036854775807) : Calls Tryz.prog 3 #[.slice p n0 cap] w fun e w' => e = .returned (.bool true) ∧ Ge w w' := by
  by_cases hbig : 1048576 < n0
  · clear hb
    go_enter Tryz.func3, Tryz.ntmps3
    go_wp2_with fail
    go_ret
    exact ⟨rfl, Ge.refl _⟩
  have hn0 : n0 ≤ 1048576 := by omega
  have HB := Lib.hid hb
  clear hb hm0
  go_enter Tryz.func3, Tryz.ntmps3
  go_upto_region 4 with ((go_at_call 4; ((with_reducible refine (sMakeTiling _ _ _ _ HB.out hn0).mono ?_); rintro e w1 ⟨v, rfl, o1, g1⟩)))
  obtain ⟨n, xs, ht, hl, ho⟩ := o1
  have hv := SlF.of_owns ho
  have hcap := capT ho
  obtain ⟨pv, cv, rfl, hc3⟩ := hv.open
  have HC3 := Lib.hid hc3
  clear hc3
  obtain ⟨hT, hlev, hsiz, hnet⟩ := ht
  have hin := tile_in hT hl
  obtain ⟨h0, h12, hsq, _, _, hArea⟩ : tileP n xs := by
    unfold tileB at hT
    split at hT
    · assumption
    · cases hT
  have hok : ∀ i, i < n → okSq xs i := fun i hi => (hsq i hi).1
  have hm : n ≤ 9223372036854775807 := by omega
  have HV := Lib.hid hv
  have HCap := Lib.hid hcap
  have HIn := Lib.hid hin
  have HOK := Lib.hid hok
  have hrb := right_bd n hok
  have hlb := low_bd n hok
  have hr1 : 1 ≤ rightSq xs n := by have := right_ge (xs := xs) (k := n) (j := 0) (by omega); have := hok 0 (by omega); unfold okSq at this; omega
  have HAr := Lib.hid (fun k (hk : k ≤ n) => area_bd k (fun j hj => HOK.out j (by omega)))
  have HA0 : Hid (areaSq xs 0 = 0) := rfl
  have HA1 : Hid (∀ k, areaSq xs (k + 1) = areaSq xs k + ss xs k * ss xs k) := fun k => rfl
  have HW := Lib.hid (fun w' (g : Ge w1 w') => iWidthOf (.slice pv n cv) n xs w' (HV.out.ge g) hm HIn.out HCap.out)
  have HH := Lib.hid (fun w' (g : Ge w1 w') => iHeightOf (.slice pv n cv) n xs w' (HV.out.ge g) hm HIn.out HCap.out)
  have HSN := Lib.hid (fun w' (g : Ge w1 w') => sNetOfTiling (.slice pv n cv) n xs w' (HV.out.ge g) hm HIn.out HCap.out)
  have HIN := Lib.hid (fun w' (g : Ge w1 w') => iNetOfTiling (.slice pv n cv) n xs w' (HV.out.ge g) hm HIn.out HCap.out)
  have HL := Lib.hid (fun w' (g : Ge w1 w') => iLevelsOf (.slice pv n cv) n xs w' (HV.out.ge g) hm HIn.out HCap.out)
  have HSz := Lib.hid (fun w' (g : Ge w1 w') => iSizesOf (.slice pv n cv) n xs w' (HV.out.ge g) hm HIn.out HCap.out)
  have HTk := Lib.hid (fun w' (g : Ge w1 w') => iTilingOk (.slice pv n cv) n xs w' (HV.out.ge g) hm HIn.out HCap.out)
  have HEq := Lib.hid (fun w' (g : Ge w1 w') => iHasEqualSquares (.slice pv n cv) n xs w' (HV.out.ge g) hm HIn.out HCap.out)
  have HTL := Lib.hid (fun w' (g : Ge w1 w') => iTilingLine (.slice pv n cv) n xs w' (HV.out.ge g) hm HIn.out HCap.out)
  rw [widthQ_t hT] at HW
  rw [heightQ_t hT] at HH
  rw [hT] at HTk
  have hq : equalB n xs = decide ((sizesV n xs).length < n) := by unfold equalB; rw [hT]; rfl
  rw [hq] at HEq
  rw [tileLine_t hT] at HTL
  rw [heightQ_t hT, widthQ_t hT] at hnet
  have htx : (bstr (tilePart n xs n)).toList.isEmpty = false := bstr_neT (by intro h; have h2 := tilePart_pos n xs n; rw [h] at h2; simp at h2)
  obtain ⟨N, hN⟩ : ∃ N, notN n xs = N := ⟨_, rfl⟩
  have hLN : (levQ n xs).length = N := hN
  have hNl : N ≤ 1000000 := by have := levQ_len n xs; omega
  rw [hN] at HSN HIN hlev hnet
  generalize notW n xs = LW at *
  generalize tilePart n xs n = TX at *
  generalize sizesV n xs = SZ at *
  generalize levQ n xs = LV at *
  obtain ⟨k, hk⟩ : ∃ k, SZ.length = k := ⟨_, rfl⟩
  rw [hk] at hsiz HEq
  have HKL := Lib.hid hk
  have HLN := Lib.hid hLN
  generalize rightSq xs n = W at *
  generalize lowSq xs n = H at *
  have hWH : 0 ≤ W * H ∧ W * H ≤ 400 * 400 := ⟨Int.mul_nonneg hrb.1 hlb.1, Int.mul_le_mul hrb.2 hlb.2 hlb.1 (by omega)⟩
  have HO := Lib.hid ho
  have HAn := Lib.hid hArea
  have tWH : wrap64 (W * H) = W * H := IntWalk.wrap64_in _ ⟨by omega, by omega⟩
  have tW1 : decide (W < 1) = false := by simp; omega
  have tNe : (W * H != W * H) = false := by simp
  have tN2 : decide ((N : Int) < 2) = false := by simp; omega
  have tk0 : ((k : Int) == 0) = false := by simp; omega
  obtain ⟨q, hq3⟩ : ∃ q : Bool, decide (k < n) = q := ⟨_, rfl⟩
  rw [hq3] at HEq
  have tq : (q != q) = false := by simp
  clear hv ho hcap hin hsq hok hArea hk hLN hq
  go_wp2_with (first
    | ((go_at_call 5; ((with_reducible refine (HW.out _ (Ge.refl _)).mono ?_); rintro e w2 ⟨rfl, g2⟩)))
    | ((go_at_call 6; ((with_reducible refine (HH.out _ g2).mono ?_); rintro e w3 ⟨rfl, g3⟩)); have G3 := Lib.hid (g2.trans g3); clear g2 g3))
  go_loopw [6, 28] (fun a i wr => ∃ j : Nat, j ≤ n ∧ i = .int .i64 (j : Int) ∧ a = .int .i64 (areaSq xs j) ∧ Hid (Ge w1 wr)) (fun _ i _ => n - (intOf i).toNat)
  case atStart => exact ⟨0, Nat.zero_le _, rfl, by rw [HA0.out], G3.out⟩
  case round =>
    clear G3
    obtain ⟨j, hj, rfl, rfl, HG⟩ := hrel
    by_cases hlt : j < n
    · obtain ⟨b, o, rfl, x0, x1, x2⟩ := three_cells HC3.out hlt
      have y0 := HG.out.keep x0
      have y1 := HG.out.keep x1
      have y2 := HG.out.keep x2
      change wr.cell? ⟨b, o + j * 3, none⟩ = some (.int .i64 (sx xs j)) at y0
      change wr.cell? ⟨b, o + j * 3 + 1, none⟩ = some (.int .i64 (sy xs j)) at y1
      change wr.cell? ⟨b, o + j * 3 + 2, none⟩ = some (.int .i64 (ss xs j)) at y2
      obtain ⟨c1, c2, c3, c4, c5, c6⟩ := HOK.out j hlt
      have HAj := Lib.hid (HA1.out j)
      have hab := HAr.out j (by omega)
      clear x0 x1 x2
      generalize areaSq xs j = AJ at *
      generalize sx xs j = X at *
      generalize sy xs j = Y at *
      generalize ss xs j = Z at *
      have hz : 0 ≤ Z * Z ∧ Z * Z ≤ 200 * 200 := ⟨Int.mul_nonneg (by omega) (by omega), Int.mul_le_mul c6 c6 (by omega) (by omega)⟩
      have tz : wrap64 (Z * Z) = Z * Z := IntWalk.wrap64_in _ ⟨by omega, by omega⟩
      have tz2 : wrap64 (AJ + Z * Z) = AJ + Z * Z := IntWalk.wrap64_in _ ⟨by omega, by omega⟩
      have HG2 := Lib.hid (HG.out.trans (Ge.alloc (Ge.refl wr) (.cells #[.int .i64 X, .int .i64 Y, .int .i64 Z] 27)))
      go_wp2_with fail
      go_roundw
      case rel => exact ⟨j + 1, by omega, by go_num, by rw [HAj.out], HG2.out⟩
      case measure => simp [intOf]; omega
    · have hjn : j = n := by omega
      subst hjn
      rw [HAn.out]
      clear HA0 HA1 HAr HOK HC3
      rcases hnet with h5 | ⟨hB, hR⟩
      · have tB5 : decide ((5 : Int) < N) = true := by simp; omega
        rw [netB_big (by omega)] at HSN HIN
        have HS := Lib.hid (fun w' g => (HSN.out w' g).mono (fun _ _ h => h.ff))
        have HI := Lib.hid (fun w' g => (HIN.out w' g).mono (fun _ _ h => h.ff))
        clear HSN HIN
        go_wp2_with (first
          | ((go_at_call 7; ((with_reducible refine (HS.out _ HG.out).mono ?_); rintro e w4 ⟨rfl, g4⟩)); have G4 : Ge w1 w4 := HG.out.trans g4)
          | ((go_at_call 8; ((with_reducible refine (HI.out _ (by (repeat (first | with_reducible exact Ge.refl _ | assumption | with_reducible refine Ge.drew ?_ | with_reducible refine Ge.drewN ?_ _ | with_reducible refine Ge.alloc ?_ _ | (with_reducible refine Ge.setCell ?_ (by first | (simp; done) | omega | (simp; omega)) _) | with_reducible refine Ge.trans ?_ (by assumption))))).mono ?_); rintro e w5 ⟨rfl, g5⟩)); have G5 : Ge w1 w5 := Ge.trans (by (repeat (first | with_reducible exact Ge.refl _ | assumption | with_reducible refine Ge.drew ?_ | with_reducible refine Ge.drewN ?_ _ | with_reducible refine Ge.alloc ?_ _ | (with_reducible refine Ge.setCell ?_ (by first | (simp; done) | omega | (simp; omega)) _) | with_reducible refine Ge.trans ?_ (by assumption)))) g5)
          | ((go_at_call 9; ((with_reducible refine (HL.out _ (by (repeat (first | with_reducible exact Ge.refl _ | assumption | with_reducible refine Ge.drew ?_ | with_reducible refine Ge.drewN ?_ _ | with_reducible refine Ge.alloc ?_ _ | (with_reducible refine Ge.setCell ?_ (by first | (simp; done) | omega | (simp; omega)) _) | with_reducible refine Ge.trans ?_ (by assumption))))).mono ?_); rintro e w6 ⟨v6, rfl, o6, g6⟩)); have G6 : Ge w1 w6 := Ge.trans (by (repeat (first | with_reducible exact Ge.refl _ | assumption | with_reducible refine Ge.drew ?_ | with_reducible refine Ge.drewN ?_ _ | with_reducible refine Ge.alloc ?_ _ | (with_reducible refine Ge.setCell ?_ (by first | (simp; done) | omega | (simp; omega)) _) | with_reducible refine Ge.trans ?_ (by assumption)))) g6; obtain ⟨pL, cL, hfL⟩ := o6.form; rw [HLN.out] at hfL; subst hfL; clear o6)
          | ((go_at_call 10; ((with_reducible refine (HSz.out _ G6).mono ?_); rintro e w7 ⟨v7, rfl, o7, g7⟩)); have G7 : Ge w1 w7 := G6.trans g7; rw [HKL.out] at o7; obtain ⟨pz, cz, rfl⟩ := owns_form o7; clear o7)
          | ((go_at_call 11; ((with_reducible refine (HTk.out _ G7).mono ?_); rintro e w8 ⟨rfl, g8⟩)); have G8 : Ge w1 w8 := G7.trans g8)
          | ((go_at_call 12; ((with_reducible refine (HEq.out _ G8).mono ?_); rintro e w9 ⟨rfl, g9⟩)); have G9 : Ge w1 w9 := G8.trans g9)
          | ((go_at_call 13; ((with_reducible refine (HTL.out _ G9).mono ?_); rintro e w10 ⟨rfl, g10⟩)); have G10 : Ge w1 w10 := G9.trans g10))
        go_ret
        exact ⟨rfl, g1.trans G10⟩
      · have hN5 := (netP_of hB).1
        have hN2 : (2 : Int) ≤ N := by omega
        have hm10 : LW.length ≤ 10 := prs_len (by omega) (netP_of hB).2.2.2.1
        rw [hB] at HSN HIN
        have HS := Lib.hid (fun w' g => (HSN.out w' g).mono (fun _ _ h => h.tt))
        have HI := Lib.hid (fun w' g => (HIN.out w' g).mono (fun _ _ h => h.tt))
        have hnd : node2B N 2 1 LW.length (flatW LW) 0 1 = true := node2_t hB ⟨by omega, by omega⟩ ⟨by omega, by omega⟩
        have HRs := Lib.hid (fun s w' (h : SlF w' s LW.length 3 (flatW LW)) => iResistanceOf N 2 1 s LW.length (flatW LW) 0 1 w' h (by omega))
        rw [hR, hnd] at HRs
        have HRo := Lib.hid (fun w' => iRatioOf H W w' (mid (by omega) (by omega)) (mid (by omega) (by omega)))
        generalize ratioOf H W = R at *
        clear HSN HIN hB hR hnd
        go_wp2_with (first
          | ((go_at_call 7; ((with_reducible refine (HS.out _ HG.out).mono ?_); rintro e w4 ⟨u4, rfl, o4, g4⟩)); obtain ⟨p4, c4, rfl⟩ := owns_form o4; have G4 : Ge w1 w4 := HG.out.trans g4)
          | ((go_at_call 8; ((with_reducible refine (HI.out _ (by (repeat (first | with_reducible exact Ge.refl _ | assumption | with_reducible refine Ge.drew ?_ | with_reducible refine Ge.drewN ?_ _ | with_reducible refine Ge.alloc ?_ _ | (with_reducible refine Ge.setCell ?_ (by first | (simp; done) | omega | (simp; omega)) _) | with_reducible refine Ge.trans ?_ (by assumption))))).mono ?_); rintro e w5 ⟨u5, rfl, o5, g5⟩)); obtain ⟨p5, c5, rfl⟩ := owns_form o5; have G5 : Ge w1 w5 := Ge.trans (by (repeat (first | with_reducible exact Ge.refl _ | assumption | with_reducible refine Ge.drew ?_ | with_reducible refine Ge.drewN ?_ _ | with_reducible refine Ge.alloc ?_ _ | (with_reducible refine Ge.setCell ?_ (by first | (simp; done) | omega | (simp; omega)) _) | with_reducible refine Ge.trans ?_ (by assumption)))) g5)
          | ((go_at_call 9; ((with_reducible refine (HL.out _ (by (repeat (first | with_reducible exact Ge.refl _ | assumption | with_reducible refine Ge.drew ?_ | with_reducible refine Ge.drewN ?_ _ | with_reducible refine Ge.alloc ?_ _ | (with_reducible refine Ge.setCell ?_ (by first | (simp; done) | omega | (simp; omega)) _) | with_reducible refine Ge.trans ?_ (by assumption))))).mono ?_); rintro e w6 ⟨v6, rfl, o6, g6⟩)); have G6 : Ge w1 w6 := Ge.trans (by (repeat (first | with_reducible exact Ge.refl _ | assumption | with_reducible refine Ge.drew ?_ | with_reducible refine Ge.drewN ?_ _ | with_reducible refine Ge.alloc ?_ _ | (with_reducible refine Ge.setCell ?_ (by first | (simp; done) | omega | (simp; omega)) _) | with_reducible refine Ge.trans ?_ (by assumption)))) g6; have G56 : Ge w5 w6 := Ge.trans (by (repeat (first | with_reducible exact Ge.refl _ | assumption | with_reducible refine Ge.drew ?_ | with_reducible refine Ge.drewN ?_ _ | with_reducible refine Ge.alloc ?_ _ | (with_reducible refine Ge.setCell ?_ (by first | (simp; done) | omega | (simp; omega)) _) | with_reducible refine Ge.trans ?_ (by assumption)))) g6; obtain ⟨pL, cL, hfL⟩ := o6.form; rw [HLN.out] at hfL; subst hfL; clear o6; have A0 := Ge.keep g6 (a := ⟨w5.heap.size, 0, none⟩) (v := .int .i64 (N : Int)) (by simp); have A1 := Ge.keep g6 (a := ⟨w5.heap.size, 1, none⟩) (v := .int .i64 2) (by simp); have A2 := Ge.keep g6 (a := ⟨w5.heap.size, 2, none⟩) (v := .int .i64 1) (by simp); have A3 := Ge.keep g6 (a := ⟨w5.heap.size, 3, none⟩) (v := .slice p5 LW.length c5) (by simp))
          | ((go_at_call 10; ((with_reducible refine (HSz.out _ G6).mono ?_); rintro e w7 ⟨v7, rfl, o7, g7⟩)); have G7 : Ge w1 w7 := G6.trans g7; rw [HKL.out] at o7; obtain ⟨pz, cz, rfl⟩ := owns_form o7; clear o7; have A0 := Ge.keep g7 A0; have A1 := Ge.keep g7 A1; have A2 := Ge.keep g7 A2; have A3 := Ge.keep g7 A3)
          | ((go_at_call 11; ((with_reducible refine (HTk.out _ G7).mono ?_); rintro e w8 ⟨rfl, g8⟩)); have G8 : Ge w1 w8 := G7.trans g8; have A0 := Ge.keep g8 A0; have A1 := Ge.keep g8 A1; have A2 := Ge.keep g8 A2; have A3 := Ge.keep g8 A3)
          | ((go_at_call 12; ((with_reducible refine (HEq.out _ G8).mono ?_); rintro e w9 ⟨rfl, g9⟩)); have G9 : Ge w1 w9 := G8.trans g9; have A0 := Ge.keep g9 A0; have A1 := Ge.keep g9 A1; have A2 := Ge.keep g9 A2; have A3 := Ge.keep g9 A3)
          | ((go_at_call 13; ((with_reducible refine (HTL.out _ G9).mono ?_); rintro e w10 ⟨rfl, g10⟩)); have G10 : Ge w1 w10 := G9.trans g10; have A0 := Ge.keep g10 A0; have A1 := Ge.keep g10 A1; have A2 := Ge.keep g10 A2; have A3 := Ge.keep g10 A3; have G510 : Ge w5 w10 := (((G56.trans g7).trans g8).trans g9).trans g10; have HO5 := Lib.hid (SlF.of_owns (G510.owns o5)))
          | ((go_at_call 14; ((with_reducible refine (HRs.out _ _ HO5.out).mono ?_); rintro e w11 ⟨rfl, g11⟩)); have G11 : Ge w1 w11 := G10.trans g11; have A0 := Ge.keep g11 A0; have A1 := Ge.keep g11 A1; have A2 := Ge.keep g11 A2; have A3 := Ge.keep g11 A3; have z11 := World.block_lt_of_cell? _ _ A0))
        have tNN : ((N : Int) == (N : Int)) = true := by simp
        have hS : ∀ w', Ge (w11.alloc (.cells #[.int .i64 R.n, .int .i64 R.d] 40)) w' → (w'.cell? ⟨w11.heap.size, 0, none⟩ = some (.int .i64 R.n) ∧ w'.cell? ⟨w11.heap.size, 1, none⟩ = some (.int .i64 R.d) ∧ w'.cell? ⟨w5.heap.size, 0, none⟩ = some (.int .i64 (N : Int)) ∧ Ge w11 w') := fun w' g => ⟨g.keep (by (repeat (first | assumption | with_reducible exact Ge.refl _ | with_reducible refine cv_drew ?_ | with_reducible refine cv_alloc ?_ | with_reducible refine cv_set ?_ | (with_reducible apply cv_some; assumption) | with_reducible refine cell_drew ?_ | with_reducible refine cell_drewN ?_ | ((with_reducible refine cell_new ?_ ?_); (focus (simp; done)); rfl) | with_reducible refine cell_alloc ?_ | with_reducible refine cell_same2 ?_ | ((with_reducible refine cell_set2 ?_ ?_); focus (first | (simp; done) | (intro hE; simp at hE; done) | (intro hE; simp at hE; omega))) | with_reducible refine Ge.drew ?_ | with_reducible refine Ge.drewN ?_ _ | with_reducible refine Ge.alloc ?_ _ | ((with_reducible refine Ge.setCell ?_ ?_ _); rotate_left; focus (first | (simp; done) | omega | (simp; omega))) | with_reducible refine Ge.trans ?_ (by assumption) | with_reducible refine Ge.keep (by assumption) ?_))), g.keep (by (repeat (first | assumption | with_reducible exact Ge.refl _ | with_reducible refine cv_drew ?_ | with_reducible refine cv_alloc ?_ | with_reducible refine cv_set ?_ | (with_reducible apply cv_some; assumption) | with_reducible refine cell_drew ?_ | with_reducible refine cell_drewN ?_ | ((with_reducible refine cell_new ?_ ?_); (focus (simp; done)); rfl) | with_reducible refine cell_alloc ?_ | with_reducible refine cell_same2 ?_ | ((with_reducible refine cell_set2 ?_ ?_); focus (first | (simp; done) | (intro hE; simp at hE; done) | (intro hE; simp at hE; omega))) | with_reducible refine Ge.drew ?_ | with_reducible refine Ge.drewN ?_ _ | with_reducible refine Ge.alloc ?_ _ | ((with_reducible refine Ge.setCell ?_ ?_ _); rotate_left; focus (first | (simp; done) | omega | (simp; omega))) | with_reducible refine Ge.trans ?_ (by assumption) | with_reducible refine Ge.keep (by assumption) ?_))), g.keep (by (repeat (first | assumption | with_reducible exact Ge.refl _ | with_reducible refine cv_drew ?_ | with_reducible refine cv_alloc ?_ | with_reducible refine cv_set ?_ | (with_reducible apply cv_some; assumption) | with_reducible refine cell_drew ?_ | with_reducible refine cell_drewN ?_ | ((with_reducible refine cell_new ?_ ?_); (focus (simp; done)); rfl) | with_reducible refine cell_alloc ?_ | with_reducible refine cell_same2 ?_ | ((with_reducible refine cell_set2 ?_ ?_); focus (first | (simp; done) | (intro hE; simp at hE; done) | (intro hE; simp at hE; omega))) | with_reducible refine Ge.drew ?_ | with_reducible refine Ge.drewN ?_ _ | with_reducible refine Ge.alloc ?_ _ | ((with_reducible refine Ge.setCell ?_ ?_ _); rotate_left; focus (first | (simp; done) | omega | (simp; omega))) | with_reducible refine Ge.trans ?_ (by assumption) | with_reducible refine Ge.keep (by assumption) ?_))), Ge.trans (by (repeat (first | assumption | with_reducible exact Ge.refl _ | with_reducible refine cv_drew ?_ | with_reducible refine cv_alloc ?_ | with_reducible refine cv_set ?_ | (with_reducible apply cv_some; assumption) | with_reducible refine cell_drew ?_ | with_reducible refine cell_drewN ?_ | ((with_reducible refine cell_new ?_ ?_); (focus (simp; done)); rfl) | with_reducible refine cell_alloc ?_ | with_reducible refine cell_same2 ?_ | ((with_reducible refine cell_set2 ?_ ?_); focus (first | (simp; done) | (intro hE; simp at hE; done) | (intro hE; simp at hE; omega))) | with_reducible refine Ge.drew ?_ | with_reducible refine Ge.drewN ?_ _ | with_reducible refine Ge.alloc ?_ _ | ((with_reducible refine Ge.setCell ?_ ?_ _); rotate_left; focus (first | (simp; done) | omega | (simp; omega))) | with_reducible refine Ge.trans ?_ (by assumption) | with_reducible refine Ge.keep (by assumption) ?_))) g⟩
        go_region_held3 (fun w' => w'.cell? ⟨w11.heap.size, 0, none⟩ = some (.int .i64 R.n) ∧ w'.cell? ⟨w11.heap.size, 1, none⟩ = some (.int .i64 R.d) ∧ w'.cell? ⟨w5.heap.size, 0, none⟩ = some (.int .i64 (N : Int)) ∧ Ge w11 w') (first | ((with_reducible refine hS _ ?_); (repeat (first | assumption | with_reducible exact Ge.refl _ | with_reducible refine cv_drew ?_ | with_reducible refine cv_alloc ?_ | with_reducible refine cv_set ?_ | (with_reducible apply cv_some; assumption) | with_reducible refine cell_drew ?_ | with_reducible refine cell_drewN ?_ | ((with_reducible refine cell_new ?_ ?_); (focus (simp; done)); rfl) | with_reducible refine cell_alloc ?_ | with_reducible refine cell_same2 ?_ | ((with_reducible refine cell_set2 ?_ ?_); focus (first | (simp; done) | (intro hE; simp at hE; done) | (intro hE; simp at hE; omega))) | with_reducible refine Ge.drew ?_ | with_reducible refine Ge.drewN ?_ _ | with_reducible refine Ge.alloc ?_ _ | ((with_reducible refine Ge.setCell ?_ ?_ _); rotate_left; focus (first | (simp; done) | omega | (simp; omega))) | with_reducible refine Ge.trans ?_ (by assumption) | with_reducible refine Ge.keep (by assumption) ?_)); done) | fail) (first | (go_at_call 15; ((with_reducible refine (HRo.out _).mono ?_); rintro e w12 ⟨rfl, hb⟩)) | fail)
        rename_i hHeldX
        obtain ⟨q0, q1, q2, G12⟩ := hHeldX
        clear hS
        go_wp2_with fail
        go_ret
        exact ⟨rfl, (g1.trans G11).trans G12⟩
end Go.Proofs.YtckjkfcphcnpdaaGreat
