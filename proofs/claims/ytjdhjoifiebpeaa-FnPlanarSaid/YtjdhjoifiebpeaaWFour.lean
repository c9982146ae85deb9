/- A region that makes four rows in a drawn order. No condition. -/
import Derived.Test.YtjdhjoifiebpeaaWTail
import Derived.Test.YtjdhjoifiebpeaaWLists
namespace Go.Proofs.Ytjdhjoifiebpeaa
set_option maxRecDepth 100000
open Go.ChangeShapes Go.WideShapes Go.ChangeAt Go.RowKit Go.Joins

theorem row_made (w : World) (xs : List Int) (n : Nat) (h : xs.length = n) (hn : n ≤ 1000) : (w.alloc (.cells (icells xs).toArray 3)).ownsRow 0 3 1 (.slice (some ⟨w.heap.size, 0, none⟩) n n) n (icells xs) := by
  have := World.ownsRow_lit w (base := 0) (e := 3) (size := 1) (icells xs).toArray n (by omega) (by unfold maxLen; omega) (by simp [icells_length, h])
  simpa using this
section
variable {P : Program} {l : List Oper} {Q : Exit → Act → World → Prop} {S : World → Prop}
/-- Some may come up. -/
theorem head_many {n f : Nat} {listed : Array Bool} {a : Act} {w : World} (L : List Nat)
    (hr : (decide (Region.ready .any l.toArray listed = L) && (L.all (fun i => decide (i < n)) && !L.isEmpty)) = true)
    (h : ∀ i, i ∈ L → ∃ o, l[i]? = some o ∧ ∀ K : Act → World → Prop, Shut (∀ a w, S w → (S w → Head P l Q S n f (listed.setIfInBounds i true) a w) → K a w) → if Region.wanted o (yielded l.toArray a.tmps) = true then Oper.wp P o a w K Q else K (a.put o.dst undef) w) :
    Head P l Q S n (f + 1) listed a w := fun inv => by
  simp only [Bool.and_eq_true, decide_eq_true_eq, List.all_eq_true] at hr
  obtain ⟨h1, h2, h3⟩ := hr
  refine ⟨fun h0 => (by rw [h1] at h0; subst h0; simp at h3), fun k hk => ?_⟩
  have hkL : k ∈ L := by rw [h1] at hk; exact hk
  have hkn := h2 k hkL
  have inv' := inv.set hk (by omega)
  obtain ⟨o, hi, hs⟩ := h k hkL
  exact ⟨by omega, wpOp_step (by simpa using hi) (fun K hK => hs K (fun a' w' hS hW => hK a' w' ⟨hS, hW hS inv'⟩))⟩
end
/-- The list of what is done, in another form. -/
theorem head_listed {P : Program} {l : List Oper} {Q : Exit → Act → World → Prop} {S : World → Prop} {n f : Nat} {listed : Array Bool} {a : Act} {w : World} (L : Array Bool) (h : decide (listed = L) = true) (H : Head P l Q S n f L a w) : Head P l Q S n f listed a w := by
  rw [of_decide_eq_true h]; exact H
/-- Four rows that a region makes in a drawn order. -/
theorem four_rows {P : Program} {l : List Oper} {Q : Exit → Act → World → Prop} {n : Nat} {listed : Array Bool} {a0 : Act} {w0 wr : World} (Good : Act → Prop) (c23 c47 c71 c95 : List Int) {o23 o47 o71 o95 : Oper}
    (h23 : c23.length = 4) (h47 : c47.length = 4) (h71 : c71.length = 4) (h95 : c95.length = 4)
    (hg0 : Good a0) (hputs : ∀ a d x, Good a → (d = 49 ∨ d = 73 ∨ d = 97 ∨ d = 121) → Good (a.put (some d) x)) (hH0 : Ge wr w0)
    (e23 : l[23]? = some o23)
    (e47 : l[47]? = some o47)
    (e71 : l[71]? = some o71)
    (e95 : l[95]? = some o95)
    (hr0 : (decide (Region.ready .any l.toArray listed = [23, 47, 71, 95]) && (List.all [23, 47, 71, 95] (fun i => decide (i < n)) && !List.isEmpty [23, 47, 71, 95])) = true)
    (hr23 : (decide (Region.ready .any l.toArray (listed.setIfInBounds 23 true) = [47, 71, 95]) && (List.all [47, 71, 95] (fun i => decide (i < n)) && !List.isEmpty [47, 71, 95])) = true)
    (hr47 : (decide (Region.ready .any l.toArray (listed.setIfInBounds 47 true) = [23, 71, 95]) && (List.all [23, 71, 95] (fun i => decide (i < n)) && !List.isEmpty [23, 71, 95])) = true)
    (hr71 : (decide (Region.ready .any l.toArray (listed.setIfInBounds 71 true) = [23, 47, 95]) && (List.all [23, 47, 95] (fun i => decide (i < n)) && !List.isEmpty [23, 47, 95])) = true)
    (hr95 : (decide (Region.ready .any l.toArray (listed.setIfInBounds 95 true) = [23, 47, 71]) && (List.all [23, 47, 71] (fun i => decide (i < n)) && !List.isEmpty [23, 47, 71])) = true)
    (hr23_47 : (decide (Region.ready .any l.toArray ((listed.setIfInBounds 23 true).setIfInBounds 47 true) = [71, 95]) && (List.all [71, 95] (fun i => decide (i < n)) && !List.isEmpty [71, 95])) = true)
    (hr23_71 : (decide (Region.ready .any l.toArray ((listed.setIfInBounds 23 true).setIfInBounds 71 true) = [47, 95]) && (List.all [47, 95] (fun i => decide (i < n)) && !List.isEmpty [47, 95])) = true)
    (hr23_95 : (decide (Region.ready .any l.toArray ((listed.setIfInBounds 23 true).setIfInBounds 95 true) = [47, 71]) && (List.all [47, 71] (fun i => decide (i < n)) && !List.isEmpty [47, 71])) = true)
    (hr47_71 : (decide (Region.ready .any l.toArray ((listed.setIfInBounds 47 true).setIfInBounds 71 true) = [23, 95]) && (List.all [23, 95] (fun i => decide (i < n)) && !List.isEmpty [23, 95])) = true)
    (hr47_95 : (decide (Region.ready .any l.toArray ((listed.setIfInBounds 47 true).setIfInBounds 95 true) = [23, 71]) && (List.all [23, 71] (fun i => decide (i < n)) && !List.isEmpty [23, 71])) = true)
    (hr71_95 : (decide (Region.ready .any l.toArray ((listed.setIfInBounds 71 true).setIfInBounds 95 true) = [23, 47]) && (List.all [23, 47] (fun i => decide (i < n)) && !List.isEmpty [23, 47])) = true)
    (hr23_47_71 : (decide (Region.ready .any l.toArray (((listed.setIfInBounds 23 true).setIfInBounds 47 true).setIfInBounds 71 true) = [95]) && (List.all [95] (fun i => decide (i < n)) && !List.isEmpty [95])) = true)
    (hr23_47_95 : (decide (Region.ready .any l.toArray (((listed.setIfInBounds 23 true).setIfInBounds 47 true).setIfInBounds 95 true) = [71]) && (List.all [71] (fun i => decide (i < n)) && !List.isEmpty [71])) = true)
    (hr23_71_95 : (decide (Region.ready .any l.toArray (((listed.setIfInBounds 23 true).setIfInBounds 71 true).setIfInBounds 95 true) = [47]) && (List.all [47] (fun i => decide (i < n)) && !List.isEmpty [47])) = true)
    (hr47_71_95 : (decide (Region.ready .any l.toArray (((listed.setIfInBounds 47 true).setIfInBounds 71 true).setIfInBounds 95 true) = [23]) && (List.all [23] (fun i => decide (i < n)) && !List.isEmpty [23])) = true)
    (s23 : ∀ (a : Act) (w : World) (K : Act → World → Prop), Good a → K (a.put (some 49) (.slice (some ⟨w.heap.size, 0, none⟩) 4 4)) (w.alloc (.cells (icells c23).toArray 3)) → if Region.wanted o23 (yielded l.toArray a.tmps) = true then Oper.wp P o23 a w K Q else K (a.put o23.dst undef) w)
    (s47 : ∀ (a : Act) (w : World) (K : Act → World → Prop), Good a → K (a.put (some 73) (.slice (some ⟨w.heap.size, 0, none⟩) 4 4)) (w.alloc (.cells (icells c47).toArray 3)) → if Region.wanted o47 (yielded l.toArray a.tmps) = true then Oper.wp P o47 a w K Q else K (a.put o47.dst undef) w)
    (s71 : ∀ (a : Act) (w : World) (K : Act → World → Prop), Good a → K (a.put (some 97) (.slice (some ⟨w.heap.size, 0, none⟩) 4 4)) (w.alloc (.cells (icells c71).toArray 3)) → if Region.wanted o71 (yielded l.toArray a.tmps) = true then Oper.wp P o71 a w K Q else K (a.put o71.dst undef) w)
    (s95 : ∀ (a : Act) (w : World) (K : Act → World → Prop), Good a → K (a.put (some 121) (.slice (some ⟨w.heap.size, 0, none⟩) 4 4)) (w.alloc (.cells (icells c95).toArray 3)) → if Region.wanted o95 (yielded l.toArray a.tmps) = true then Oper.wp P o95 a w K Q else K (a.put o95.dst undef) w)
    (cont : ∀ (b23 b47 b71 b95 : Nat) (v : World), Ge wr v → v.ownsRow 0 3 1 (.slice (some ⟨b23, 0, none⟩) 4 4) 4 (icells c23) → v.ownsRow 0 3 1 (.slice (some ⟨b47, 0, none⟩) 4 4) 4 (icells c47) → v.ownsRow 0 3 1 (.slice (some ⟨b71, 0, none⟩) 4 4) 4 (icells c71) → v.ownsRow 0 3 1 (.slice (some ⟨b95, 0, none⟩) 4 4) 4 (icells c95) → Head P l Q (fun w' => Ge wr w') n 0 ((((listed.setIfInBounds 23 true).setIfInBounds 47 true).setIfInBounds 71 true).setIfInBounds 95 true) ((((a0.put (some 49) (.slice (some ⟨b23, 0, none⟩) 4 4)).put (some 73) (.slice (some ⟨b47, 0, none⟩) 4 4)).put (some 97) (.slice (some ⟨b71, 0, none⟩) 4 4)).put (some 121) (.slice (some ⟨b95, 0, none⟩) 4 4)) v) :
    Head P l Q (fun w' => Ge wr w') n 4 listed a0 w0 := by
  have L47_23 : ∀ (A : Array Bool), (A.setIfInBounds 47 true).setIfInBounds 23 true = (A.setIfInBounds 23 true).setIfInBounds 47 true := fun A => Array.setIfInBounds_comm _ _ (by decide)
  have A47_23 : ∀ (A : Act) (u v : Value), (A.put (some 73) u).put (some 49) v = (A.put (some 49) v).put (some 73) u := fun A u v => by unfold Act.put; simp only; rw [Array.setIfInBounds_comm _ _ (by decide)]
  have L71_23 : ∀ (A : Array Bool), (A.setIfInBounds 71 true).setIfInBounds 23 true = (A.setIfInBounds 23 true).setIfInBounds 71 true := fun A => Array.setIfInBounds_comm _ _ (by decide)
  have A71_23 : ∀ (A : Act) (u v : Value), (A.put (some 97) u).put (some 49) v = (A.put (some 49) v).put (some 97) u := fun A u v => by unfold Act.put; simp only; rw [Array.setIfInBounds_comm _ _ (by decide)]
  have L71_47 : ∀ (A : Array Bool), (A.setIfInBounds 71 true).setIfInBounds 47 true = (A.setIfInBounds 47 true).setIfInBounds 71 true := fun A => Array.setIfInBounds_comm _ _ (by decide)
  have A71_47 : ∀ (A : Act) (u v : Value), (A.put (some 97) u).put (some 73) v = (A.put (some 73) v).put (some 97) u := fun A u v => by unfold Act.put; simp only; rw [Array.setIfInBounds_comm _ _ (by decide)]
  have L95_23 : ∀ (A : Array Bool), (A.setIfInBounds 95 true).setIfInBounds 23 true = (A.setIfInBounds 23 true).setIfInBounds 95 true := fun A => Array.setIfInBounds_comm _ _ (by decide)
  have A95_23 : ∀ (A : Act) (u v : Value), (A.put (some 121) u).put (some 49) v = (A.put (some 49) v).put (some 121) u := fun A u v => by unfold Act.put; simp only; rw [Array.setIfInBounds_comm _ _ (by decide)]
  have L95_47 : ∀ (A : Array Bool), (A.setIfInBounds 95 true).setIfInBounds 47 true = (A.setIfInBounds 47 true).setIfInBounds 95 true := fun A => Array.setIfInBounds_comm _ _ (by decide)
  have A95_47 : ∀ (A : Act) (u v : Value), (A.put (some 121) u).put (some 73) v = (A.put (some 73) v).put (some 121) u := fun A u v => by unfold Act.put; simp only; rw [Array.setIfInBounds_comm _ _ (by decide)]
  have L95_71 : ∀ (A : Array Bool), (A.setIfInBounds 95 true).setIfInBounds 71 true = (A.setIfInBounds 71 true).setIfInBounds 95 true := fun A => Array.setIfInBounds_comm _ _ (by decide)
  have A95_71 : ∀ (A : Act) (u v : Value), (A.put (some 121) u).put (some 97) v = (A.put (some 97) v).put (some 121) u := fun A u v => by unfold Act.put; simp only; rw [Array.setIfInBounds_comm _ _ (by decide)]
  refine head_many [23, 47, 71, 95] hr0 ?_
  intro i hi
  simp only [List.mem_cons, List.not_mem_nil, or_false] at hi
  rcases hi with rfl | rfl | rfl | rfl
  · refine ⟨_, e23, fun K hK => s23 _ _ K hg0 ?_⟩
    refine hK.out _ _ (Ge.alloc hH0 _) (fun _ => ?_)
    clear hK K
    have hg1 := hputs _ 49 (.slice (some ⟨w0.heap.size, 0, none⟩) 4 4) hg0 (by decide)
    have hH1 := Ge.alloc hH0 (.cells (icells c23).toArray 3)
    have r23 := row_made w0 c23 4 h23 (by omega)
    have g0 : Ge w0 (w0.alloc (.cells (icells c23).toArray 3)) := Ge.alloc (Ge.refl _) _
    clear g0
    generalize (w0.alloc (.cells (icells c23).toArray 3)) = v1 at *
    generalize w0.heap.size = b23 at *
    refine head_many [47, 71, 95] hr23 ?_
    intro i hi
    simp only [List.mem_cons, List.not_mem_nil, or_false] at hi
    rcases hi with rfl | rfl | rfl
    · refine ⟨_, e47, fun K hK => s47 _ _ K hg1 ?_⟩
      refine hK.out _ _ (Ge.alloc hH1 _) (fun _ => ?_)
      clear hK K
      have hg2 := hputs _ 73 (.slice (some ⟨v1.heap.size, 0, none⟩) 4 4) hg1 (by decide)
      have hH2 := Ge.alloc hH1 (.cells (icells c47).toArray 3)
      have r47 := row_made v1 c47 4 h47 (by omega)
      have g1 : Ge v1 (v1.alloc (.cells (icells c47).toArray 3)) := Ge.alloc (Ge.refl _) _
      replace r23 := g1.owns r23
      clear g1
      generalize (v1.alloc (.cells (icells c47).toArray 3)) = v2 at *
      generalize v1.heap.size = b47 at *
      refine head_many [71, 95] hr23_47 ?_
      intro i hi
      simp only [List.mem_cons, List.not_mem_nil, or_false] at hi
      rcases hi with rfl | rfl
      · refine ⟨_, e71, fun K hK => s71 _ _ K hg2 ?_⟩
        refine hK.out _ _ (Ge.alloc hH2 _) (fun _ => ?_)
        clear hK K
        have hg3 := hputs _ 97 (.slice (some ⟨v2.heap.size, 0, none⟩) 4 4) hg2 (by decide)
        have hH3 := Ge.alloc hH2 (.cells (icells c71).toArray 3)
        have r71 := row_made v2 c71 4 h71 (by omega)
        have g2 : Ge v2 (v2.alloc (.cells (icells c71).toArray 3)) := Ge.alloc (Ge.refl _) _
        replace r23 := g2.owns r23
        replace r47 := g2.owns r47
        clear g2
        generalize (v2.alloc (.cells (icells c71).toArray 3)) = v3 at *
        generalize v2.heap.size = b71 at *
        refine head_many [95] hr23_47_71 ?_
        intro i hi
        simp only [List.mem_cons, List.not_mem_nil, or_false] at hi
        subst hi
        refine ⟨_, e95, fun K hK => s95 _ _ K hg3 ?_⟩
        refine hK.out _ _ (Ge.alloc hH3 _) (fun _ => ?_)
        clear hK K
        have hg4 := hputs _ 121 (.slice (some ⟨v3.heap.size, 0, none⟩) 4 4) hg3 (by decide)
        have hH4 := Ge.alloc hH3 (.cells (icells c95).toArray 3)
        have r95 := row_made v3 c95 4 h95 (by omega)
        have g3 : Ge v3 (v3.alloc (.cells (icells c95).toArray 3)) := Ge.alloc (Ge.refl _) _
        replace r23 := g3.owns r23
        replace r47 := g3.owns r47
        replace r71 := g3.owns r71
        clear g3
        generalize (v3.alloc (.cells (icells c95).toArray 3)) = v4 at *
        generalize v3.heap.size = b95 at *
        exact cont b23 b47 b71 b95 v4 hH4 r23 r47 r71 r95
      · refine ⟨_, e95, fun K hK => s95 _ _ K hg2 ?_⟩
        refine hK.out _ _ (Ge.alloc hH2 _) (fun _ => ?_)
        clear hK K
        have hg3 := hputs _ 121 (.slice (some ⟨v2.heap.size, 0, none⟩) 4 4) hg2 (by decide)
        have hH3 := Ge.alloc hH2 (.cells (icells c95).toArray 3)
        have r95 := row_made v2 c95 4 h95 (by omega)
        have g2 : Ge v2 (v2.alloc (.cells (icells c95).toArray 3)) := Ge.alloc (Ge.refl _) _
        replace r23 := g2.owns r23
        replace r47 := g2.owns r47
        clear g2
        generalize (v2.alloc (.cells (icells c95).toArray 3)) = v3 at *
        generalize v2.heap.size = b95 at *
        refine head_many [71] hr23_47_95 ?_
        intro i hi
        simp only [List.mem_cons, List.not_mem_nil, or_false] at hi
        subst hi
        refine ⟨_, e71, fun K hK => s71 _ _ K hg3 ?_⟩
        refine hK.out _ _ (Ge.alloc hH3 _) (fun _ => ?_)
        clear hK K
        have hg4 := hputs _ 97 (.slice (some ⟨v3.heap.size, 0, none⟩) 4 4) hg3 (by decide)
        have hH4 := Ge.alloc hH3 (.cells (icells c71).toArray 3)
        have r71 := row_made v3 c71 4 h71 (by omega)
        have g3 : Ge v3 (v3.alloc (.cells (icells c71).toArray 3)) := Ge.alloc (Ge.refl _) _
        replace r23 := g3.owns r23
        replace r47 := g3.owns r47
        replace r95 := g3.owns r95
        clear g3
        generalize (v3.alloc (.cells (icells c71).toArray 3)) = v4 at *
        generalize v3.heap.size = b71 at *
        rw [A95_71] at hg4
        rw [L95_71, A95_71]
        exact cont b23 b47 b71 b95 v4 hH4 r23 r47 r71 r95
    · refine ⟨_, e71, fun K hK => s71 _ _ K hg1 ?_⟩
      refine hK.out _ _ (Ge.alloc hH1 _) (fun _ => ?_)
      clear hK K
      have hg2 := hputs _ 97 (.slice (some ⟨v1.heap.size, 0, none⟩) 4 4) hg1 (by decide)
      have hH2 := Ge.alloc hH1 (.cells (icells c71).toArray 3)
      have r71 := row_made v1 c71 4 h71 (by omega)
      have g1 : Ge v1 (v1.alloc (.cells (icells c71).toArray 3)) := Ge.alloc (Ge.refl _) _
      replace r23 := g1.owns r23
      clear g1
      generalize (v1.alloc (.cells (icells c71).toArray 3)) = v2 at *
      generalize v1.heap.size = b71 at *
      refine head_many [47, 95] hr23_71 ?_
      intro i hi
      simp only [List.mem_cons, List.not_mem_nil, or_false] at hi
      rcases hi with rfl | rfl
      · refine ⟨_, e47, fun K hK => s47 _ _ K hg2 ?_⟩
        refine hK.out _ _ (Ge.alloc hH2 _) (fun _ => ?_)
        clear hK K
        have hg3 := hputs _ 73 (.slice (some ⟨v2.heap.size, 0, none⟩) 4 4) hg2 (by decide)
        have hH3 := Ge.alloc hH2 (.cells (icells c47).toArray 3)
        have r47 := row_made v2 c47 4 h47 (by omega)
        have g2 : Ge v2 (v2.alloc (.cells (icells c47).toArray 3)) := Ge.alloc (Ge.refl _) _
        replace r23 := g2.owns r23
        replace r71 := g2.owns r71
        clear g2
        generalize (v2.alloc (.cells (icells c47).toArray 3)) = v3 at *
        generalize v2.heap.size = b47 at *
        rw [A71_47] at hg3
        rw [L71_47, A71_47]
        refine head_many [95] hr23_47_71 ?_
        intro i hi
        simp only [List.mem_cons, List.not_mem_nil, or_false] at hi
        subst hi
        refine ⟨_, e95, fun K hK => s95 _ _ K hg3 ?_⟩
        refine hK.out _ _ (Ge.alloc hH3 _) (fun _ => ?_)
        clear hK K
        have hg4 := hputs _ 121 (.slice (some ⟨v3.heap.size, 0, none⟩) 4 4) hg3 (by decide)
        have hH4 := Ge.alloc hH3 (.cells (icells c95).toArray 3)
        have r95 := row_made v3 c95 4 h95 (by omega)
        have g3 : Ge v3 (v3.alloc (.cells (icells c95).toArray 3)) := Ge.alloc (Ge.refl _) _
        replace r23 := g3.owns r23
        replace r71 := g3.owns r71
        replace r47 := g3.owns r47
        clear g3
        generalize (v3.alloc (.cells (icells c95).toArray 3)) = v4 at *
        generalize v3.heap.size = b95 at *
        exact cont b23 b47 b71 b95 v4 hH4 r23 r47 r71 r95
      · refine ⟨_, e95, fun K hK => s95 _ _ K hg2 ?_⟩
        refine hK.out _ _ (Ge.alloc hH2 _) (fun _ => ?_)
        clear hK K
        have hg3 := hputs _ 121 (.slice (some ⟨v2.heap.size, 0, none⟩) 4 4) hg2 (by decide)
        have hH3 := Ge.alloc hH2 (.cells (icells c95).toArray 3)
        have r95 := row_made v2 c95 4 h95 (by omega)
        have g2 : Ge v2 (v2.alloc (.cells (icells c95).toArray 3)) := Ge.alloc (Ge.refl _) _
        replace r23 := g2.owns r23
        replace r71 := g2.owns r71
        clear g2
        generalize (v2.alloc (.cells (icells c95).toArray 3)) = v3 at *
        generalize v2.heap.size = b95 at *
        refine head_many [47] hr23_71_95 ?_
        intro i hi
        simp only [List.mem_cons, List.not_mem_nil, or_false] at hi
        subst hi
        refine ⟨_, e47, fun K hK => s47 _ _ K hg3 ?_⟩
        refine hK.out _ _ (Ge.alloc hH3 _) (fun _ => ?_)
        clear hK K
        have hg4 := hputs _ 73 (.slice (some ⟨v3.heap.size, 0, none⟩) 4 4) hg3 (by decide)
        have hH4 := Ge.alloc hH3 (.cells (icells c47).toArray 3)
        have r47 := row_made v3 c47 4 h47 (by omega)
        have g3 : Ge v3 (v3.alloc (.cells (icells c47).toArray 3)) := Ge.alloc (Ge.refl _) _
        replace r23 := g3.owns r23
        replace r71 := g3.owns r71
        replace r95 := g3.owns r95
        clear g3
        generalize (v3.alloc (.cells (icells c47).toArray 3)) = v4 at *
        generalize v3.heap.size = b47 at *
        rw [A95_47, A71_47] at hg4
        rw [L95_47, L71_47, A95_47, A71_47]
        exact cont b23 b47 b71 b95 v4 hH4 r23 r47 r71 r95
    · refine ⟨_, e95, fun K hK => s95 _ _ K hg1 ?_⟩
      refine hK.out _ _ (Ge.alloc hH1 _) (fun _ => ?_)
      clear hK K
      have hg2 := hputs _ 121 (.slice (some ⟨v1.heap.size, 0, none⟩) 4 4) hg1 (by decide)
      have hH2 := Ge.alloc hH1 (.cells (icells c95).toArray 3)
      have r95 := row_made v1 c95 4 h95 (by omega)
      have g1 : Ge v1 (v1.alloc (.cells (icells c95).toArray 3)) := Ge.alloc (Ge.refl _) _
      replace r23 := g1.owns r23
      clear g1
      generalize (v1.alloc (.cells (icells c95).toArray 3)) = v2 at *
      generalize v1.heap.size = b95 at *
      refine head_many [47, 71] hr23_95 ?_
      intro i hi
      simp only [List.mem_cons, List.not_mem_nil, or_false] at hi
      rcases hi with rfl | rfl
      · refine ⟨_, e47, fun K hK => s47 _ _ K hg2 ?_⟩
        refine hK.out _ _ (Ge.alloc hH2 _) (fun _ => ?_)
        clear hK K
        have hg3 := hputs _ 73 (.slice (some ⟨v2.heap.size, 0, none⟩) 4 4) hg2 (by decide)
        have hH3 := Ge.alloc hH2 (.cells (icells c47).toArray 3)
        have r47 := row_made v2 c47 4 h47 (by omega)
        have g2 : Ge v2 (v2.alloc (.cells (icells c47).toArray 3)) := Ge.alloc (Ge.refl _) _
        replace r23 := g2.owns r23
        replace r95 := g2.owns r95
        clear g2
        generalize (v2.alloc (.cells (icells c47).toArray 3)) = v3 at *
        generalize v2.heap.size = b47 at *
        rw [A95_47] at hg3
        rw [L95_47, A95_47]
        refine head_many [71] hr23_47_95 ?_
        intro i hi
        simp only [List.mem_cons, List.not_mem_nil, or_false] at hi
        subst hi
        refine ⟨_, e71, fun K hK => s71 _ _ K hg3 ?_⟩
        refine hK.out _ _ (Ge.alloc hH3 _) (fun _ => ?_)
        clear hK K
        have hg4 := hputs _ 97 (.slice (some ⟨v3.heap.size, 0, none⟩) 4 4) hg3 (by decide)
        have hH4 := Ge.alloc hH3 (.cells (icells c71).toArray 3)
        have r71 := row_made v3 c71 4 h71 (by omega)
        have g3 : Ge v3 (v3.alloc (.cells (icells c71).toArray 3)) := Ge.alloc (Ge.refl _) _
        replace r23 := g3.owns r23
        replace r95 := g3.owns r95
        replace r47 := g3.owns r47
        clear g3
        generalize (v3.alloc (.cells (icells c71).toArray 3)) = v4 at *
        generalize v3.heap.size = b71 at *
        rw [A95_71] at hg4
        rw [L95_71, A95_71]
        exact cont b23 b47 b71 b95 v4 hH4 r23 r47 r71 r95
      · refine ⟨_, e71, fun K hK => s71 _ _ K hg2 ?_⟩
        refine hK.out _ _ (Ge.alloc hH2 _) (fun _ => ?_)
        clear hK K
        have hg3 := hputs _ 97 (.slice (some ⟨v2.heap.size, 0, none⟩) 4 4) hg2 (by decide)
        have hH3 := Ge.alloc hH2 (.cells (icells c71).toArray 3)
        have r71 := row_made v2 c71 4 h71 (by omega)
        have g2 : Ge v2 (v2.alloc (.cells (icells c71).toArray 3)) := Ge.alloc (Ge.refl _) _
        replace r23 := g2.owns r23
        replace r95 := g2.owns r95
        clear g2
        generalize (v2.alloc (.cells (icells c71).toArray 3)) = v3 at *
        generalize v2.heap.size = b71 at *
        rw [A95_71] at hg3
        rw [L95_71, A95_71]
        refine head_many [47] hr23_71_95 ?_
        intro i hi
        simp only [List.mem_cons, List.not_mem_nil, or_false] at hi
        subst hi
        refine ⟨_, e47, fun K hK => s47 _ _ K hg3 ?_⟩
        refine hK.out _ _ (Ge.alloc hH3 _) (fun _ => ?_)
        clear hK K
        have hg4 := hputs _ 73 (.slice (some ⟨v3.heap.size, 0, none⟩) 4 4) hg3 (by decide)
        have hH4 := Ge.alloc hH3 (.cells (icells c47).toArray 3)
        have r47 := row_made v3 c47 4 h47 (by omega)
        have g3 : Ge v3 (v3.alloc (.cells (icells c47).toArray 3)) := Ge.alloc (Ge.refl _) _
        replace r23 := g3.owns r23
        replace r95 := g3.owns r95
        replace r71 := g3.owns r71
        clear g3
        generalize (v3.alloc (.cells (icells c47).toArray 3)) = v4 at *
        generalize v3.heap.size = b47 at *
        rw [A95_47, A71_47] at hg4
        rw [L95_47, L71_47, A95_47, A71_47]
        exact cont b23 b47 b71 b95 v4 hH4 r23 r47 r71 r95
  · refine ⟨_, e47, fun K hK => s47 _ _ K hg0 ?_⟩
    refine hK.out _ _ (Ge.alloc hH0 _) (fun _ => ?_)
    clear hK K
    have hg1 := hputs _ 73 (.slice (some ⟨w0.heap.size, 0, none⟩) 4 4) hg0 (by decide)
    have hH1 := Ge.alloc hH0 (.cells (icells c47).toArray 3)
    have r47 := row_made w0 c47 4 h47 (by omega)
    have g0 : Ge w0 (w0.alloc (.cells (icells c47).toArray 3)) := Ge.alloc (Ge.refl _) _
    clear g0
    generalize (w0.alloc (.cells (icells c47).toArray 3)) = v1 at *
    generalize w0.heap.size = b47 at *
    refine head_many [23, 71, 95] hr47 ?_
    intro i hi
    simp only [List.mem_cons, List.not_mem_nil, or_false] at hi
    rcases hi with rfl | rfl | rfl
    · refine ⟨_, e23, fun K hK => s23 _ _ K hg1 ?_⟩
      refine hK.out _ _ (Ge.alloc hH1 _) (fun _ => ?_)
      clear hK K
      have hg2 := hputs _ 49 (.slice (some ⟨v1.heap.size, 0, none⟩) 4 4) hg1 (by decide)
      have hH2 := Ge.alloc hH1 (.cells (icells c23).toArray 3)
      have r23 := row_made v1 c23 4 h23 (by omega)
      have g1 : Ge v1 (v1.alloc (.cells (icells c23).toArray 3)) := Ge.alloc (Ge.refl _) _
      replace r47 := g1.owns r47
      clear g1
      generalize (v1.alloc (.cells (icells c23).toArray 3)) = v2 at *
      generalize v1.heap.size = b23 at *
      rw [A47_23] at hg2
      rw [L47_23, A47_23]
      refine head_many [71, 95] hr23_47 ?_
      intro i hi
      simp only [List.mem_cons, List.not_mem_nil, or_false] at hi
      rcases hi with rfl | rfl
      · refine ⟨_, e71, fun K hK => s71 _ _ K hg2 ?_⟩
        refine hK.out _ _ (Ge.alloc hH2 _) (fun _ => ?_)
        clear hK K
        have hg3 := hputs _ 97 (.slice (some ⟨v2.heap.size, 0, none⟩) 4 4) hg2 (by decide)
        have hH3 := Ge.alloc hH2 (.cells (icells c71).toArray 3)
        have r71 := row_made v2 c71 4 h71 (by omega)
        have g2 : Ge v2 (v2.alloc (.cells (icells c71).toArray 3)) := Ge.alloc (Ge.refl _) _
        replace r47 := g2.owns r47
        replace r23 := g2.owns r23
        clear g2
        generalize (v2.alloc (.cells (icells c71).toArray 3)) = v3 at *
        generalize v2.heap.size = b71 at *
        refine head_many [95] hr23_47_71 ?_
        intro i hi
        simp only [List.mem_cons, List.not_mem_nil, or_false] at hi
        subst hi
        refine ⟨_, e95, fun K hK => s95 _ _ K hg3 ?_⟩
        refine hK.out _ _ (Ge.alloc hH3 _) (fun _ => ?_)
        clear hK K
        have hg4 := hputs _ 121 (.slice (some ⟨v3.heap.size, 0, none⟩) 4 4) hg3 (by decide)
        have hH4 := Ge.alloc hH3 (.cells (icells c95).toArray 3)
        have r95 := row_made v3 c95 4 h95 (by omega)
        have g3 : Ge v3 (v3.alloc (.cells (icells c95).toArray 3)) := Ge.alloc (Ge.refl _) _
        replace r47 := g3.owns r47
        replace r23 := g3.owns r23
        replace r71 := g3.owns r71
        clear g3
        generalize (v3.alloc (.cells (icells c95).toArray 3)) = v4 at *
        generalize v3.heap.size = b95 at *
        exact cont b23 b47 b71 b95 v4 hH4 r23 r47 r71 r95
      · refine ⟨_, e95, fun K hK => s95 _ _ K hg2 ?_⟩
        refine hK.out _ _ (Ge.alloc hH2 _) (fun _ => ?_)
        clear hK K
        have hg3 := hputs _ 121 (.slice (some ⟨v2.heap.size, 0, none⟩) 4 4) hg2 (by decide)
        have hH3 := Ge.alloc hH2 (.cells (icells c95).toArray 3)
        have r95 := row_made v2 c95 4 h95 (by omega)
        have g2 : Ge v2 (v2.alloc (.cells (icells c95).toArray 3)) := Ge.alloc (Ge.refl _) _
        replace r47 := g2.owns r47
        replace r23 := g2.owns r23
        clear g2
        generalize (v2.alloc (.cells (icells c95).toArray 3)) = v3 at *
        generalize v2.heap.size = b95 at *
        refine head_many [71] hr23_47_95 ?_
        intro i hi
        simp only [List.mem_cons, List.not_mem_nil, or_false] at hi
        subst hi
        refine ⟨_, e71, fun K hK => s71 _ _ K hg3 ?_⟩
        refine hK.out _ _ (Ge.alloc hH3 _) (fun _ => ?_)
        clear hK K
        have hg4 := hputs _ 97 (.slice (some ⟨v3.heap.size, 0, none⟩) 4 4) hg3 (by decide)
        have hH4 := Ge.alloc hH3 (.cells (icells c71).toArray 3)
        have r71 := row_made v3 c71 4 h71 (by omega)
        have g3 : Ge v3 (v3.alloc (.cells (icells c71).toArray 3)) := Ge.alloc (Ge.refl _) _
        replace r47 := g3.owns r47
        replace r23 := g3.owns r23
        replace r95 := g3.owns r95
        clear g3
        generalize (v3.alloc (.cells (icells c71).toArray 3)) = v4 at *
        generalize v3.heap.size = b71 at *
        rw [A95_71] at hg4
        rw [L95_71, A95_71]
        exact cont b23 b47 b71 b95 v4 hH4 r23 r47 r71 r95
    · refine ⟨_, e71, fun K hK => s71 _ _ K hg1 ?_⟩
      refine hK.out _ _ (Ge.alloc hH1 _) (fun _ => ?_)
      clear hK K
      have hg2 := hputs _ 97 (.slice (some ⟨v1.heap.size, 0, none⟩) 4 4) hg1 (by decide)
      have hH2 := Ge.alloc hH1 (.cells (icells c71).toArray 3)
      have r71 := row_made v1 c71 4 h71 (by omega)
      have g1 : Ge v1 (v1.alloc (.cells (icells c71).toArray 3)) := Ge.alloc (Ge.refl _) _
      replace r47 := g1.owns r47
      clear g1
      generalize (v1.alloc (.cells (icells c71).toArray 3)) = v2 at *
      generalize v1.heap.size = b71 at *
      refine head_many [23, 95] hr47_71 ?_
      intro i hi
      simp only [List.mem_cons, List.not_mem_nil, or_false] at hi
      rcases hi with rfl | rfl
      · refine ⟨_, e23, fun K hK => s23 _ _ K hg2 ?_⟩
        refine hK.out _ _ (Ge.alloc hH2 _) (fun _ => ?_)
        clear hK K
        have hg3 := hputs _ 49 (.slice (some ⟨v2.heap.size, 0, none⟩) 4 4) hg2 (by decide)
        have hH3 := Ge.alloc hH2 (.cells (icells c23).toArray 3)
        have r23 := row_made v2 c23 4 h23 (by omega)
        have g2 : Ge v2 (v2.alloc (.cells (icells c23).toArray 3)) := Ge.alloc (Ge.refl _) _
        replace r47 := g2.owns r47
        replace r71 := g2.owns r71
        clear g2
        generalize (v2.alloc (.cells (icells c23).toArray 3)) = v3 at *
        generalize v2.heap.size = b23 at *
        rw [A71_23, A47_23] at hg3
        rw [L71_23, L47_23, A71_23, A47_23]
        refine head_many [95] hr23_47_71 ?_
        intro i hi
        simp only [List.mem_cons, List.not_mem_nil, or_false] at hi
        subst hi
        refine ⟨_, e95, fun K hK => s95 _ _ K hg3 ?_⟩
        refine hK.out _ _ (Ge.alloc hH3 _) (fun _ => ?_)
        clear hK K
        have hg4 := hputs _ 121 (.slice (some ⟨v3.heap.size, 0, none⟩) 4 4) hg3 (by decide)
        have hH4 := Ge.alloc hH3 (.cells (icells c95).toArray 3)
        have r95 := row_made v3 c95 4 h95 (by omega)
        have g3 : Ge v3 (v3.alloc (.cells (icells c95).toArray 3)) := Ge.alloc (Ge.refl _) _
        replace r47 := g3.owns r47
        replace r71 := g3.owns r71
        replace r23 := g3.owns r23
        clear g3
        generalize (v3.alloc (.cells (icells c95).toArray 3)) = v4 at *
        generalize v3.heap.size = b95 at *
        exact cont b23 b47 b71 b95 v4 hH4 r23 r47 r71 r95
      · refine ⟨_, e95, fun K hK => s95 _ _ K hg2 ?_⟩
        refine hK.out _ _ (Ge.alloc hH2 _) (fun _ => ?_)
        clear hK K
        have hg3 := hputs _ 121 (.slice (some ⟨v2.heap.size, 0, none⟩) 4 4) hg2 (by decide)
        have hH3 := Ge.alloc hH2 (.cells (icells c95).toArray 3)
        have r95 := row_made v2 c95 4 h95 (by omega)
        have g2 : Ge v2 (v2.alloc (.cells (icells c95).toArray 3)) := Ge.alloc (Ge.refl _) _
        replace r47 := g2.owns r47
        replace r71 := g2.owns r71
        clear g2
        generalize (v2.alloc (.cells (icells c95).toArray 3)) = v3 at *
        generalize v2.heap.size = b95 at *
        refine head_many [23] hr47_71_95 ?_
        intro i hi
        simp only [List.mem_cons, List.not_mem_nil, or_false] at hi
        subst hi
        refine ⟨_, e23, fun K hK => s23 _ _ K hg3 ?_⟩
        refine hK.out _ _ (Ge.alloc hH3 _) (fun _ => ?_)
        clear hK K
        have hg4 := hputs _ 49 (.slice (some ⟨v3.heap.size, 0, none⟩) 4 4) hg3 (by decide)
        have hH4 := Ge.alloc hH3 (.cells (icells c23).toArray 3)
        have r23 := row_made v3 c23 4 h23 (by omega)
        have g3 : Ge v3 (v3.alloc (.cells (icells c23).toArray 3)) := Ge.alloc (Ge.refl _) _
        replace r47 := g3.owns r47
        replace r71 := g3.owns r71
        replace r95 := g3.owns r95
        clear g3
        generalize (v3.alloc (.cells (icells c23).toArray 3)) = v4 at *
        generalize v3.heap.size = b23 at *
        rw [A95_23, A71_23, A47_23] at hg4
        rw [L95_23, L71_23, L47_23, A95_23, A71_23, A47_23]
        exact cont b23 b47 b71 b95 v4 hH4 r23 r47 r71 r95
    · refine ⟨_, e95, fun K hK => s95 _ _ K hg1 ?_⟩
      refine hK.out _ _ (Ge.alloc hH1 _) (fun _ => ?_)
      clear hK K
      have hg2 := hputs _ 121 (.slice (some ⟨v1.heap.size, 0, none⟩) 4 4) hg1 (by decide)
      have hH2 := Ge.alloc hH1 (.cells (icells c95).toArray 3)
      have r95 := row_made v1 c95 4 h95 (by omega)
      have g1 : Ge v1 (v1.alloc (.cells (icells c95).toArray 3)) := Ge.alloc (Ge.refl _) _
      replace r47 := g1.owns r47
      clear g1
      generalize (v1.alloc (.cells (icells c95).toArray 3)) = v2 at *
      generalize v1.heap.size = b95 at *
      refine head_many [23, 71] hr47_95 ?_
      intro i hi
      simp only [List.mem_cons, List.not_mem_nil, or_false] at hi
      rcases hi with rfl | rfl
      · refine ⟨_, e23, fun K hK => s23 _ _ K hg2 ?_⟩
        refine hK.out _ _ (Ge.alloc hH2 _) (fun _ => ?_)
        clear hK K
        have hg3 := hputs _ 49 (.slice (some ⟨v2.heap.size, 0, none⟩) 4 4) hg2 (by decide)
        have hH3 := Ge.alloc hH2 (.cells (icells c23).toArray 3)
        have r23 := row_made v2 c23 4 h23 (by omega)
        have g2 : Ge v2 (v2.alloc (.cells (icells c23).toArray 3)) := Ge.alloc (Ge.refl _) _
        replace r47 := g2.owns r47
        replace r95 := g2.owns r95
        clear g2
        generalize (v2.alloc (.cells (icells c23).toArray 3)) = v3 at *
        generalize v2.heap.size = b23 at *
        rw [A95_23, A47_23] at hg3
        rw [L95_23, L47_23, A95_23, A47_23]
        refine head_many [71] hr23_47_95 ?_
        intro i hi
        simp only [List.mem_cons, List.not_mem_nil, or_false] at hi
        subst hi
        refine ⟨_, e71, fun K hK => s71 _ _ K hg3 ?_⟩
        refine hK.out _ _ (Ge.alloc hH3 _) (fun _ => ?_)
        clear hK K
        have hg4 := hputs _ 97 (.slice (some ⟨v3.heap.size, 0, none⟩) 4 4) hg3 (by decide)
        have hH4 := Ge.alloc hH3 (.cells (icells c71).toArray 3)
        have r71 := row_made v3 c71 4 h71 (by omega)
        have g3 : Ge v3 (v3.alloc (.cells (icells c71).toArray 3)) := Ge.alloc (Ge.refl _) _
        replace r47 := g3.owns r47
        replace r95 := g3.owns r95
        replace r23 := g3.owns r23
        clear g3
        generalize (v3.alloc (.cells (icells c71).toArray 3)) = v4 at *
        generalize v3.heap.size = b71 at *
        rw [A95_71] at hg4
        rw [L95_71, A95_71]
        exact cont b23 b47 b71 b95 v4 hH4 r23 r47 r71 r95
      · refine ⟨_, e71, fun K hK => s71 _ _ K hg2 ?_⟩
        refine hK.out _ _ (Ge.alloc hH2 _) (fun _ => ?_)
        clear hK K
        have hg3 := hputs _ 97 (.slice (some ⟨v2.heap.size, 0, none⟩) 4 4) hg2 (by decide)
        have hH3 := Ge.alloc hH2 (.cells (icells c71).toArray 3)
        have r71 := row_made v2 c71 4 h71 (by omega)
        have g2 : Ge v2 (v2.alloc (.cells (icells c71).toArray 3)) := Ge.alloc (Ge.refl _) _
        replace r47 := g2.owns r47
        replace r95 := g2.owns r95
        clear g2
        generalize (v2.alloc (.cells (icells c71).toArray 3)) = v3 at *
        generalize v2.heap.size = b71 at *
        rw [A95_71] at hg3
        rw [L95_71, A95_71]
        refine head_many [23] hr47_71_95 ?_
        intro i hi
        simp only [List.mem_cons, List.not_mem_nil, or_false] at hi
        subst hi
        refine ⟨_, e23, fun K hK => s23 _ _ K hg3 ?_⟩
        refine hK.out _ _ (Ge.alloc hH3 _) (fun _ => ?_)
        clear hK K
        have hg4 := hputs _ 49 (.slice (some ⟨v3.heap.size, 0, none⟩) 4 4) hg3 (by decide)
        have hH4 := Ge.alloc hH3 (.cells (icells c23).toArray 3)
        have r23 := row_made v3 c23 4 h23 (by omega)
        have g3 : Ge v3 (v3.alloc (.cells (icells c23).toArray 3)) := Ge.alloc (Ge.refl _) _
        replace r47 := g3.owns r47
        replace r95 := g3.owns r95
        replace r71 := g3.owns r71
        clear g3
        generalize (v3.alloc (.cells (icells c23).toArray 3)) = v4 at *
        generalize v3.heap.size = b23 at *
        rw [A95_23, A71_23, A47_23] at hg4
        rw [L95_23, L71_23, L47_23, A95_23, A71_23, A47_23]
        exact cont b23 b47 b71 b95 v4 hH4 r23 r47 r71 r95
  · refine ⟨_, e71, fun K hK => s71 _ _ K hg0 ?_⟩
    refine hK.out _ _ (Ge.alloc hH0 _) (fun _ => ?_)
    clear hK K
    have hg1 := hputs _ 97 (.slice (some ⟨w0.heap.size, 0, none⟩) 4 4) hg0 (by decide)
    have hH1 := Ge.alloc hH0 (.cells (icells c71).toArray 3)
    have r71 := row_made w0 c71 4 h71 (by omega)
    have g0 : Ge w0 (w0.alloc (.cells (icells c71).toArray 3)) := Ge.alloc (Ge.refl _) _
    clear g0
    generalize (w0.alloc (.cells (icells c71).toArray 3)) = v1 at *
    generalize w0.heap.size = b71 at *
    refine head_many [23, 47, 95] hr71 ?_
    intro i hi
    simp only [List.mem_cons, List.not_mem_nil, or_false] at hi
    rcases hi with rfl | rfl | rfl
    · refine ⟨_, e23, fun K hK => s23 _ _ K hg1 ?_⟩
      refine hK.out _ _ (Ge.alloc hH1 _) (fun _ => ?_)
      clear hK K
      have hg2 := hputs _ 49 (.slice (some ⟨v1.heap.size, 0, none⟩) 4 4) hg1 (by decide)
      have hH2 := Ge.alloc hH1 (.cells (icells c23).toArray 3)
      have r23 := row_made v1 c23 4 h23 (by omega)
      have g1 : Ge v1 (v1.alloc (.cells (icells c23).toArray 3)) := Ge.alloc (Ge.refl _) _
      replace r71 := g1.owns r71
      clear g1
      generalize (v1.alloc (.cells (icells c23).toArray 3)) = v2 at *
      generalize v1.heap.size = b23 at *
      rw [A71_23] at hg2
      rw [L71_23, A71_23]
      refine head_many [47, 95] hr23_71 ?_
      intro i hi
      simp only [List.mem_cons, List.not_mem_nil, or_false] at hi
      rcases hi with rfl | rfl
      · refine ⟨_, e47, fun K hK => s47 _ _ K hg2 ?_⟩
        refine hK.out _ _ (Ge.alloc hH2 _) (fun _ => ?_)
        clear hK K
        have hg3 := hputs _ 73 (.slice (some ⟨v2.heap.size, 0, none⟩) 4 4) hg2 (by decide)
        have hH3 := Ge.alloc hH2 (.cells (icells c47).toArray 3)
        have r47 := row_made v2 c47 4 h47 (by omega)
        have g2 : Ge v2 (v2.alloc (.cells (icells c47).toArray 3)) := Ge.alloc (Ge.refl _) _
        replace r71 := g2.owns r71
        replace r23 := g2.owns r23
        clear g2
        generalize (v2.alloc (.cells (icells c47).toArray 3)) = v3 at *
        generalize v2.heap.size = b47 at *
        rw [A71_47] at hg3
        rw [L71_47, A71_47]
        refine head_many [95] hr23_47_71 ?_
        intro i hi
        simp only [List.mem_cons, List.not_mem_nil, or_false] at hi
        subst hi
        refine ⟨_, e95, fun K hK => s95 _ _ K hg3 ?_⟩
        refine hK.out _ _ (Ge.alloc hH3 _) (fun _ => ?_)
        clear hK K
        have hg4 := hputs _ 121 (.slice (some ⟨v3.heap.size, 0, none⟩) 4 4) hg3 (by decide)
        have hH4 := Ge.alloc hH3 (.cells (icells c95).toArray 3)
        have r95 := row_made v3 c95 4 h95 (by omega)
        have g3 : Ge v3 (v3.alloc (.cells (icells c95).toArray 3)) := Ge.alloc (Ge.refl _) _
        replace r71 := g3.owns r71
        replace r23 := g3.owns r23
        replace r47 := g3.owns r47
        clear g3
        generalize (v3.alloc (.cells (icells c95).toArray 3)) = v4 at *
        generalize v3.heap.size = b95 at *
        exact cont b23 b47 b71 b95 v4 hH4 r23 r47 r71 r95
      · refine ⟨_, e95, fun K hK => s95 _ _ K hg2 ?_⟩
        refine hK.out _ _ (Ge.alloc hH2 _) (fun _ => ?_)
        clear hK K
        have hg3 := hputs _ 121 (.slice (some ⟨v2.heap.size, 0, none⟩) 4 4) hg2 (by decide)
        have hH3 := Ge.alloc hH2 (.cells (icells c95).toArray 3)
        have r95 := row_made v2 c95 4 h95 (by omega)
        have g2 : Ge v2 (v2.alloc (.cells (icells c95).toArray 3)) := Ge.alloc (Ge.refl _) _
        replace r71 := g2.owns r71
        replace r23 := g2.owns r23
        clear g2
        generalize (v2.alloc (.cells (icells c95).toArray 3)) = v3 at *
        generalize v2.heap.size = b95 at *
        refine head_many [47] hr23_71_95 ?_
        intro i hi
        simp only [List.mem_cons, List.not_mem_nil, or_false] at hi
        subst hi
        refine ⟨_, e47, fun K hK => s47 _ _ K hg3 ?_⟩
        refine hK.out _ _ (Ge.alloc hH3 _) (fun _ => ?_)
        clear hK K
        have hg4 := hputs _ 73 (.slice (some ⟨v3.heap.size, 0, none⟩) 4 4) hg3 (by decide)
        have hH4 := Ge.alloc hH3 (.cells (icells c47).toArray 3)
        have r47 := row_made v3 c47 4 h47 (by omega)
        have g3 : Ge v3 (v3.alloc (.cells (icells c47).toArray 3)) := Ge.alloc (Ge.refl _) _
        replace r71 := g3.owns r71
        replace r23 := g3.owns r23
        replace r95 := g3.owns r95
        clear g3
        generalize (v3.alloc (.cells (icells c47).toArray 3)) = v4 at *
        generalize v3.heap.size = b47 at *
        rw [A95_47, A71_47] at hg4
        rw [L95_47, L71_47, A95_47, A71_47]
        exact cont b23 b47 b71 b95 v4 hH4 r23 r47 r71 r95
    · refine ⟨_, e47, fun K hK => s47 _ _ K hg1 ?_⟩
      refine hK.out _ _ (Ge.alloc hH1 _) (fun _ => ?_)
      clear hK K
      have hg2 := hputs _ 73 (.slice (some ⟨v1.heap.size, 0, none⟩) 4 4) hg1 (by decide)
      have hH2 := Ge.alloc hH1 (.cells (icells c47).toArray 3)
      have r47 := row_made v1 c47 4 h47 (by omega)
      have g1 : Ge v1 (v1.alloc (.cells (icells c47).toArray 3)) := Ge.alloc (Ge.refl _) _
      replace r71 := g1.owns r71
      clear g1
      generalize (v1.alloc (.cells (icells c47).toArray 3)) = v2 at *
      generalize v1.heap.size = b47 at *
      rw [A71_47] at hg2
      rw [L71_47, A71_47]
      refine head_many [23, 95] hr47_71 ?_
      intro i hi
      simp only [List.mem_cons, List.not_mem_nil, or_false] at hi
      rcases hi with rfl | rfl
      · refine ⟨_, e23, fun K hK => s23 _ _ K hg2 ?_⟩
        refine hK.out _ _ (Ge.alloc hH2 _) (fun _ => ?_)
        clear hK K
        have hg3 := hputs _ 49 (.slice (some ⟨v2.heap.size, 0, none⟩) 4 4) hg2 (by decide)
        have hH3 := Ge.alloc hH2 (.cells (icells c23).toArray 3)
        have r23 := row_made v2 c23 4 h23 (by omega)
        have g2 : Ge v2 (v2.alloc (.cells (icells c23).toArray 3)) := Ge.alloc (Ge.refl _) _
        replace r71 := g2.owns r71
        replace r47 := g2.owns r47
        clear g2
        generalize (v2.alloc (.cells (icells c23).toArray 3)) = v3 at *
        generalize v2.heap.size = b23 at *
        rw [A71_23, A47_23] at hg3
        rw [L71_23, L47_23, A71_23, A47_23]
        refine head_many [95] hr23_47_71 ?_
        intro i hi
        simp only [List.mem_cons, List.not_mem_nil, or_false] at hi
        subst hi
        refine ⟨_, e95, fun K hK => s95 _ _ K hg3 ?_⟩
        refine hK.out _ _ (Ge.alloc hH3 _) (fun _ => ?_)
        clear hK K
        have hg4 := hputs _ 121 (.slice (some ⟨v3.heap.size, 0, none⟩) 4 4) hg3 (by decide)
        have hH4 := Ge.alloc hH3 (.cells (icells c95).toArray 3)
        have r95 := row_made v3 c95 4 h95 (by omega)
        have g3 : Ge v3 (v3.alloc (.cells (icells c95).toArray 3)) := Ge.alloc (Ge.refl _) _
        replace r71 := g3.owns r71
        replace r47 := g3.owns r47
        replace r23 := g3.owns r23
        clear g3
        generalize (v3.alloc (.cells (icells c95).toArray 3)) = v4 at *
        generalize v3.heap.size = b95 at *
        exact cont b23 b47 b71 b95 v4 hH4 r23 r47 r71 r95
      · refine ⟨_, e95, fun K hK => s95 _ _ K hg2 ?_⟩
        refine hK.out _ _ (Ge.alloc hH2 _) (fun _ => ?_)
        clear hK K
        have hg3 := hputs _ 121 (.slice (some ⟨v2.heap.size, 0, none⟩) 4 4) hg2 (by decide)
        have hH3 := Ge.alloc hH2 (.cells (icells c95).toArray 3)
        have r95 := row_made v2 c95 4 h95 (by omega)
        have g2 : Ge v2 (v2.alloc (.cells (icells c95).toArray 3)) := Ge.alloc (Ge.refl _) _
        replace r71 := g2.owns r71
        replace r47 := g2.owns r47
        clear g2
        generalize (v2.alloc (.cells (icells c95).toArray 3)) = v3 at *
        generalize v2.heap.size = b95 at *
        refine head_many [23] hr47_71_95 ?_
        intro i hi
        simp only [List.mem_cons, List.not_mem_nil, or_false] at hi
        subst hi
        refine ⟨_, e23, fun K hK => s23 _ _ K hg3 ?_⟩
        refine hK.out _ _ (Ge.alloc hH3 _) (fun _ => ?_)
        clear hK K
        have hg4 := hputs _ 49 (.slice (some ⟨v3.heap.size, 0, none⟩) 4 4) hg3 (by decide)
        have hH4 := Ge.alloc hH3 (.cells (icells c23).toArray 3)
        have r23 := row_made v3 c23 4 h23 (by omega)
        have g3 : Ge v3 (v3.alloc (.cells (icells c23).toArray 3)) := Ge.alloc (Ge.refl _) _
        replace r71 := g3.owns r71
        replace r47 := g3.owns r47
        replace r95 := g3.owns r95
        clear g3
        generalize (v3.alloc (.cells (icells c23).toArray 3)) = v4 at *
        generalize v3.heap.size = b23 at *
        rw [A95_23, A71_23, A47_23] at hg4
        rw [L95_23, L71_23, L47_23, A95_23, A71_23, A47_23]
        exact cont b23 b47 b71 b95 v4 hH4 r23 r47 r71 r95
    · refine ⟨_, e95, fun K hK => s95 _ _ K hg1 ?_⟩
      refine hK.out _ _ (Ge.alloc hH1 _) (fun _ => ?_)
      clear hK K
      have hg2 := hputs _ 121 (.slice (some ⟨v1.heap.size, 0, none⟩) 4 4) hg1 (by decide)
      have hH2 := Ge.alloc hH1 (.cells (icells c95).toArray 3)
      have r95 := row_made v1 c95 4 h95 (by omega)
      have g1 : Ge v1 (v1.alloc (.cells (icells c95).toArray 3)) := Ge.alloc (Ge.refl _) _
      replace r71 := g1.owns r71
      clear g1
      generalize (v1.alloc (.cells (icells c95).toArray 3)) = v2 at *
      generalize v1.heap.size = b95 at *
      refine head_many [23, 47] hr71_95 ?_
      intro i hi
      simp only [List.mem_cons, List.not_mem_nil, or_false] at hi
      rcases hi with rfl | rfl
      · refine ⟨_, e23, fun K hK => s23 _ _ K hg2 ?_⟩
        refine hK.out _ _ (Ge.alloc hH2 _) (fun _ => ?_)
        clear hK K
        have hg3 := hputs _ 49 (.slice (some ⟨v2.heap.size, 0, none⟩) 4 4) hg2 (by decide)
        have hH3 := Ge.alloc hH2 (.cells (icells c23).toArray 3)
        have r23 := row_made v2 c23 4 h23 (by omega)
        have g2 : Ge v2 (v2.alloc (.cells (icells c23).toArray 3)) := Ge.alloc (Ge.refl _) _
        replace r71 := g2.owns r71
        replace r95 := g2.owns r95
        clear g2
        generalize (v2.alloc (.cells (icells c23).toArray 3)) = v3 at *
        generalize v2.heap.size = b23 at *
        rw [A95_23, A71_23] at hg3
        rw [L95_23, L71_23, A95_23, A71_23]
        refine head_many [47] hr23_71_95 ?_
        intro i hi
        simp only [List.mem_cons, List.not_mem_nil, or_false] at hi
        subst hi
        refine ⟨_, e47, fun K hK => s47 _ _ K hg3 ?_⟩
        refine hK.out _ _ (Ge.alloc hH3 _) (fun _ => ?_)
        clear hK K
        have hg4 := hputs _ 73 (.slice (some ⟨v3.heap.size, 0, none⟩) 4 4) hg3 (by decide)
        have hH4 := Ge.alloc hH3 (.cells (icells c47).toArray 3)
        have r47 := row_made v3 c47 4 h47 (by omega)
        have g3 : Ge v3 (v3.alloc (.cells (icells c47).toArray 3)) := Ge.alloc (Ge.refl _) _
        replace r71 := g3.owns r71
        replace r95 := g3.owns r95
        replace r23 := g3.owns r23
        clear g3
        generalize (v3.alloc (.cells (icells c47).toArray 3)) = v4 at *
        generalize v3.heap.size = b47 at *
        rw [A95_47, A71_47] at hg4
        rw [L95_47, L71_47, A95_47, A71_47]
        exact cont b23 b47 b71 b95 v4 hH4 r23 r47 r71 r95
      · refine ⟨_, e47, fun K hK => s47 _ _ K hg2 ?_⟩
        refine hK.out _ _ (Ge.alloc hH2 _) (fun _ => ?_)
        clear hK K
        have hg3 := hputs _ 73 (.slice (some ⟨v2.heap.size, 0, none⟩) 4 4) hg2 (by decide)
        have hH3 := Ge.alloc hH2 (.cells (icells c47).toArray 3)
        have r47 := row_made v2 c47 4 h47 (by omega)
        have g2 : Ge v2 (v2.alloc (.cells (icells c47).toArray 3)) := Ge.alloc (Ge.refl _) _
        replace r71 := g2.owns r71
        replace r95 := g2.owns r95
        clear g2
        generalize (v2.alloc (.cells (icells c47).toArray 3)) = v3 at *
        generalize v2.heap.size = b47 at *
        rw [A95_47, A71_47] at hg3
        rw [L95_47, L71_47, A95_47, A71_47]
        refine head_many [23] hr47_71_95 ?_
        intro i hi
        simp only [List.mem_cons, List.not_mem_nil, or_false] at hi
        subst hi
        refine ⟨_, e23, fun K hK => s23 _ _ K hg3 ?_⟩
        refine hK.out _ _ (Ge.alloc hH3 _) (fun _ => ?_)
        clear hK K
        have hg4 := hputs _ 49 (.slice (some ⟨v3.heap.size, 0, none⟩) 4 4) hg3 (by decide)
        have hH4 := Ge.alloc hH3 (.cells (icells c23).toArray 3)
        have r23 := row_made v3 c23 4 h23 (by omega)
        have g3 : Ge v3 (v3.alloc (.cells (icells c23).toArray 3)) := Ge.alloc (Ge.refl _) _
        replace r71 := g3.owns r71
        replace r95 := g3.owns r95
        replace r47 := g3.owns r47
        clear g3
        generalize (v3.alloc (.cells (icells c23).toArray 3)) = v4 at *
        generalize v3.heap.size = b23 at *
        rw [A95_23, A71_23, A47_23] at hg4
        rw [L95_23, L71_23, L47_23, A95_23, A71_23, A47_23]
        exact cont b23 b47 b71 b95 v4 hH4 r23 r47 r71 r95
  · refine ⟨_, e95, fun K hK => s95 _ _ K hg0 ?_⟩
    refine hK.out _ _ (Ge.alloc hH0 _) (fun _ => ?_)
    clear hK K
    have hg1 := hputs _ 121 (.slice (some ⟨w0.heap.size, 0, none⟩) 4 4) hg0 (by decide)
    have hH1 := Ge.alloc hH0 (.cells (icells c95).toArray 3)
    have r95 := row_made w0 c95 4 h95 (by omega)
    have g0 : Ge w0 (w0.alloc (.cells (icells c95).toArray 3)) := Ge.alloc (Ge.refl _) _
    clear g0
    generalize (w0.alloc (.cells (icells c95).toArray 3)) = v1 at *
    generalize w0.heap.size = b95 at *
    refine head_many [23, 47, 71] hr95 ?_
    intro i hi
    simp only [List.mem_cons, List.not_mem_nil, or_false] at hi
    rcases hi with rfl | rfl | rfl
    · refine ⟨_, e23, fun K hK => s23 _ _ K hg1 ?_⟩
      refine hK.out _ _ (Ge.alloc hH1 _) (fun _ => ?_)
      clear hK K
      have hg2 := hputs _ 49 (.slice (some ⟨v1.heap.size, 0, none⟩) 4 4) hg1 (by decide)
      have hH2 := Ge.alloc hH1 (.cells (icells c23).toArray 3)
      have r23 := row_made v1 c23 4 h23 (by omega)
      have g1 : Ge v1 (v1.alloc (.cells (icells c23).toArray 3)) := Ge.alloc (Ge.refl _) _
      replace r95 := g1.owns r95
      clear g1
      generalize (v1.alloc (.cells (icells c23).toArray 3)) = v2 at *
      generalize v1.heap.size = b23 at *
      rw [A95_23] at hg2
      rw [L95_23, A95_23]
      refine head_many [47, 71] hr23_95 ?_
      intro i hi
      simp only [List.mem_cons, List.not_mem_nil, or_false] at hi
      rcases hi with rfl | rfl
      · refine ⟨_, e47, fun K hK => s47 _ _ K hg2 ?_⟩
        refine hK.out _ _ (Ge.alloc hH2 _) (fun _ => ?_)
        clear hK K
        have hg3 := hputs _ 73 (.slice (some ⟨v2.heap.size, 0, none⟩) 4 4) hg2 (by decide)
        have hH3 := Ge.alloc hH2 (.cells (icells c47).toArray 3)
        have r47 := row_made v2 c47 4 h47 (by omega)
        have g2 : Ge v2 (v2.alloc (.cells (icells c47).toArray 3)) := Ge.alloc (Ge.refl _) _
        replace r95 := g2.owns r95
        replace r23 := g2.owns r23
        clear g2
        generalize (v2.alloc (.cells (icells c47).toArray 3)) = v3 at *
        generalize v2.heap.size = b47 at *
        rw [A95_47] at hg3
        rw [L95_47, A95_47]
        refine head_many [71] hr23_47_95 ?_
        intro i hi
        simp only [List.mem_cons, List.not_mem_nil, or_false] at hi
        subst hi
        refine ⟨_, e71, fun K hK => s71 _ _ K hg3 ?_⟩
        refine hK.out _ _ (Ge.alloc hH3 _) (fun _ => ?_)
        clear hK K
        have hg4 := hputs _ 97 (.slice (some ⟨v3.heap.size, 0, none⟩) 4 4) hg3 (by decide)
        have hH4 := Ge.alloc hH3 (.cells (icells c71).toArray 3)
        have r71 := row_made v3 c71 4 h71 (by omega)
        have g3 : Ge v3 (v3.alloc (.cells (icells c71).toArray 3)) := Ge.alloc (Ge.refl _) _
        replace r95 := g3.owns r95
        replace r23 := g3.owns r23
        replace r47 := g3.owns r47
        clear g3
        generalize (v3.alloc (.cells (icells c71).toArray 3)) = v4 at *
        generalize v3.heap.size = b71 at *
        rw [A95_71] at hg4
        rw [L95_71, A95_71]
        exact cont b23 b47 b71 b95 v4 hH4 r23 r47 r71 r95
      · refine ⟨_, e71, fun K hK => s71 _ _ K hg2 ?_⟩
        refine hK.out _ _ (Ge.alloc hH2 _) (fun _ => ?_)
        clear hK K
        have hg3 := hputs _ 97 (.slice (some ⟨v2.heap.size, 0, none⟩) 4 4) hg2 (by decide)
        have hH3 := Ge.alloc hH2 (.cells (icells c71).toArray 3)
        have r71 := row_made v2 c71 4 h71 (by omega)
        have g2 : Ge v2 (v2.alloc (.cells (icells c71).toArray 3)) := Ge.alloc (Ge.refl _) _
        replace r95 := g2.owns r95
        replace r23 := g2.owns r23
        clear g2
        generalize (v2.alloc (.cells (icells c71).toArray 3)) = v3 at *
        generalize v2.heap.size = b71 at *
        rw [A95_71] at hg3
        rw [L95_71, A95_71]
        refine head_many [47] hr23_71_95 ?_
        intro i hi
        simp only [List.mem_cons, List.not_mem_nil, or_false] at hi
        subst hi
        refine ⟨_, e47, fun K hK => s47 _ _ K hg3 ?_⟩
        refine hK.out _ _ (Ge.alloc hH3 _) (fun _ => ?_)
        clear hK K
        have hg4 := hputs _ 73 (.slice (some ⟨v3.heap.size, 0, none⟩) 4 4) hg3 (by decide)
        have hH4 := Ge.alloc hH3 (.cells (icells c47).toArray 3)
        have r47 := row_made v3 c47 4 h47 (by omega)
        have g3 : Ge v3 (v3.alloc (.cells (icells c47).toArray 3)) := Ge.alloc (Ge.refl _) _
        replace r95 := g3.owns r95
        replace r23 := g3.owns r23
        replace r71 := g3.owns r71
        clear g3
        generalize (v3.alloc (.cells (icells c47).toArray 3)) = v4 at *
        generalize v3.heap.size = b47 at *
        rw [A95_47, A71_47] at hg4
        rw [L95_47, L71_47, A95_47, A71_47]
        exact cont b23 b47 b71 b95 v4 hH4 r23 r47 r71 r95
    · refine ⟨_, e47, fun K hK => s47 _ _ K hg1 ?_⟩
      refine hK.out _ _ (Ge.alloc hH1 _) (fun _ => ?_)
      clear hK K
      have hg2 := hputs _ 73 (.slice (some ⟨v1.heap.size, 0, none⟩) 4 4) hg1 (by decide)
      have hH2 := Ge.alloc hH1 (.cells (icells c47).toArray 3)
      have r47 := row_made v1 c47 4 h47 (by omega)
      have g1 : Ge v1 (v1.alloc (.cells (icells c47).toArray 3)) := Ge.alloc (Ge.refl _) _
      replace r95 := g1.owns r95
      clear g1
      generalize (v1.alloc (.cells (icells c47).toArray 3)) = v2 at *
      generalize v1.heap.size = b47 at *
      rw [A95_47] at hg2
      rw [L95_47, A95_47]
      refine head_many [23, 71] hr47_95 ?_
      intro i hi
      simp only [List.mem_cons, List.not_mem_nil, or_false] at hi
      rcases hi with rfl | rfl
      · refine ⟨_, e23, fun K hK => s23 _ _ K hg2 ?_⟩
        refine hK.out _ _ (Ge.alloc hH2 _) (fun _ => ?_)
        clear hK K
        have hg3 := hputs _ 49 (.slice (some ⟨v2.heap.size, 0, none⟩) 4 4) hg2 (by decide)
        have hH3 := Ge.alloc hH2 (.cells (icells c23).toArray 3)
        have r23 := row_made v2 c23 4 h23 (by omega)
        have g2 : Ge v2 (v2.alloc (.cells (icells c23).toArray 3)) := Ge.alloc (Ge.refl _) _
        replace r95 := g2.owns r95
        replace r47 := g2.owns r47
        clear g2
        generalize (v2.alloc (.cells (icells c23).toArray 3)) = v3 at *
        generalize v2.heap.size = b23 at *
        rw [A95_23, A47_23] at hg3
        rw [L95_23, L47_23, A95_23, A47_23]
        refine head_many [71] hr23_47_95 ?_
        intro i hi
        simp only [List.mem_cons, List.not_mem_nil, or_false] at hi
        subst hi
        refine ⟨_, e71, fun K hK => s71 _ _ K hg3 ?_⟩
        refine hK.out _ _ (Ge.alloc hH3 _) (fun _ => ?_)
        clear hK K
        have hg4 := hputs _ 97 (.slice (some ⟨v3.heap.size, 0, none⟩) 4 4) hg3 (by decide)
        have hH4 := Ge.alloc hH3 (.cells (icells c71).toArray 3)
        have r71 := row_made v3 c71 4 h71 (by omega)
        have g3 : Ge v3 (v3.alloc (.cells (icells c71).toArray 3)) := Ge.alloc (Ge.refl _) _
        replace r95 := g3.owns r95
        replace r47 := g3.owns r47
        replace r23 := g3.owns r23
        clear g3
        generalize (v3.alloc (.cells (icells c71).toArray 3)) = v4 at *
        generalize v3.heap.size = b71 at *
        rw [A95_71] at hg4
        rw [L95_71, A95_71]
        exact cont b23 b47 b71 b95 v4 hH4 r23 r47 r71 r95
      · refine ⟨_, e71, fun K hK => s71 _ _ K hg2 ?_⟩
        refine hK.out _ _ (Ge.alloc hH2 _) (fun _ => ?_)
        clear hK K
        have hg3 := hputs _ 97 (.slice (some ⟨v2.heap.size, 0, none⟩) 4 4) hg2 (by decide)
        have hH3 := Ge.alloc hH2 (.cells (icells c71).toArray 3)
        have r71 := row_made v2 c71 4 h71 (by omega)
        have g2 : Ge v2 (v2.alloc (.cells (icells c71).toArray 3)) := Ge.alloc (Ge.refl _) _
        replace r95 := g2.owns r95
        replace r47 := g2.owns r47
        clear g2
        generalize (v2.alloc (.cells (icells c71).toArray 3)) = v3 at *
        generalize v2.heap.size = b71 at *
        rw [A95_71] at hg3
        rw [L95_71, A95_71]
        refine head_many [23] hr47_71_95 ?_
        intro i hi
        simp only [List.mem_cons, List.not_mem_nil, or_false] at hi
        subst hi
        refine ⟨_, e23, fun K hK => s23 _ _ K hg3 ?_⟩
        refine hK.out _ _ (Ge.alloc hH3 _) (fun _ => ?_)
        clear hK K
        have hg4 := hputs _ 49 (.slice (some ⟨v3.heap.size, 0, none⟩) 4 4) hg3 (by decide)
        have hH4 := Ge.alloc hH3 (.cells (icells c23).toArray 3)
        have r23 := row_made v3 c23 4 h23 (by omega)
        have g3 : Ge v3 (v3.alloc (.cells (icells c23).toArray 3)) := Ge.alloc (Ge.refl _) _
        replace r95 := g3.owns r95
        replace r47 := g3.owns r47
        replace r71 := g3.owns r71
        clear g3
        generalize (v3.alloc (.cells (icells c23).toArray 3)) = v4 at *
        generalize v3.heap.size = b23 at *
        rw [A95_23, A71_23, A47_23] at hg4
        rw [L95_23, L71_23, L47_23, A95_23, A71_23, A47_23]
        exact cont b23 b47 b71 b95 v4 hH4 r23 r47 r71 r95
    · refine ⟨_, e71, fun K hK => s71 _ _ K hg1 ?_⟩
      refine hK.out _ _ (Ge.alloc hH1 _) (fun _ => ?_)
      clear hK K
      have hg2 := hputs _ 97 (.slice (some ⟨v1.heap.size, 0, none⟩) 4 4) hg1 (by decide)
      have hH2 := Ge.alloc hH1 (.cells (icells c71).toArray 3)
      have r71 := row_made v1 c71 4 h71 (by omega)
      have g1 : Ge v1 (v1.alloc (.cells (icells c71).toArray 3)) := Ge.alloc (Ge.refl _) _
      replace r95 := g1.owns r95
      clear g1
      generalize (v1.alloc (.cells (icells c71).toArray 3)) = v2 at *
      generalize v1.heap.size = b71 at *
      rw [A95_71] at hg2
      rw [L95_71, A95_71]
      refine head_many [23, 47] hr71_95 ?_
      intro i hi
      simp only [List.mem_cons, List.not_mem_nil, or_false] at hi
      rcases hi with rfl | rfl
      · refine ⟨_, e23, fun K hK => s23 _ _ K hg2 ?_⟩
        refine hK.out _ _ (Ge.alloc hH2 _) (fun _ => ?_)
        clear hK K
        have hg3 := hputs _ 49 (.slice (some ⟨v2.heap.size, 0, none⟩) 4 4) hg2 (by decide)
        have hH3 := Ge.alloc hH2 (.cells (icells c23).toArray 3)
        have r23 := row_made v2 c23 4 h23 (by omega)
        have g2 : Ge v2 (v2.alloc (.cells (icells c23).toArray 3)) := Ge.alloc (Ge.refl _) _
        replace r95 := g2.owns r95
        replace r71 := g2.owns r71
        clear g2
        generalize (v2.alloc (.cells (icells c23).toArray 3)) = v3 at *
        generalize v2.heap.size = b23 at *
        rw [A95_23, A71_23] at hg3
        rw [L95_23, L71_23, A95_23, A71_23]
        refine head_many [47] hr23_71_95 ?_
        intro i hi
        simp only [List.mem_cons, List.not_mem_nil, or_false] at hi
        subst hi
        refine ⟨_, e47, fun K hK => s47 _ _ K hg3 ?_⟩
        refine hK.out _ _ (Ge.alloc hH3 _) (fun _ => ?_)
        clear hK K
        have hg4 := hputs _ 73 (.slice (some ⟨v3.heap.size, 0, none⟩) 4 4) hg3 (by decide)
        have hH4 := Ge.alloc hH3 (.cells (icells c47).toArray 3)
        have r47 := row_made v3 c47 4 h47 (by omega)
        have g3 : Ge v3 (v3.alloc (.cells (icells c47).toArray 3)) := Ge.alloc (Ge.refl _) _
        replace r95 := g3.owns r95
        replace r71 := g3.owns r71
        replace r23 := g3.owns r23
        clear g3
        generalize (v3.alloc (.cells (icells c47).toArray 3)) = v4 at *
        generalize v3.heap.size = b47 at *
        rw [A95_47, A71_47] at hg4
        rw [L95_47, L71_47, A95_47, A71_47]
        exact cont b23 b47 b71 b95 v4 hH4 r23 r47 r71 r95
      · refine ⟨_, e47, fun K hK => s47 _ _ K hg2 ?_⟩
        refine hK.out _ _ (Ge.alloc hH2 _) (fun _ => ?_)
        clear hK K
        have hg3 := hputs _ 73 (.slice (some ⟨v2.heap.size, 0, none⟩) 4 4) hg2 (by decide)
        have hH3 := Ge.alloc hH2 (.cells (icells c47).toArray 3)
        have r47 := row_made v2 c47 4 h47 (by omega)
        have g2 : Ge v2 (v2.alloc (.cells (icells c47).toArray 3)) := Ge.alloc (Ge.refl _) _
        replace r95 := g2.owns r95
        replace r71 := g2.owns r71
        clear g2
        generalize (v2.alloc (.cells (icells c47).toArray 3)) = v3 at *
        generalize v2.heap.size = b47 at *
        rw [A95_47, A71_47] at hg3
        rw [L95_47, L71_47, A95_47, A71_47]
        refine head_many [23] hr47_71_95 ?_
        intro i hi
        simp only [List.mem_cons, List.not_mem_nil, or_false] at hi
        subst hi
        refine ⟨_, e23, fun K hK => s23 _ _ K hg3 ?_⟩
        refine hK.out _ _ (Ge.alloc hH3 _) (fun _ => ?_)
        clear hK K
        have hg4 := hputs _ 49 (.slice (some ⟨v3.heap.size, 0, none⟩) 4 4) hg3 (by decide)
        have hH4 := Ge.alloc hH3 (.cells (icells c23).toArray 3)
        have r23 := row_made v3 c23 4 h23 (by omega)
        have g3 : Ge v3 (v3.alloc (.cells (icells c23).toArray 3)) := Ge.alloc (Ge.refl _) _
        replace r95 := g3.owns r95
        replace r71 := g3.owns r71
        replace r47 := g3.owns r47
        clear g3
        generalize (v3.alloc (.cells (icells c23).toArray 3)) = v4 at *
        generalize v3.heap.size = b23 at *
        rw [A95_23, A71_23, A47_23] at hg4
        rw [L95_23, L71_23, L47_23, A95_23, A71_23, A47_23]
        exact cont b23 b47 b71 b95 v4 hH4 r23 r47 r71 r95
theorem put_own (a : Act) (d : Nat) (h : d < a.tmps.size) : a.put (some d) (a.tmps[d]'h) = a := by
  obtain ⟨T, D⟩ := a
  unfold Act.put
  simp only
  congr 1
  apply Array.ext_getElem?
  intro k
  by_cases e : d = k
  · subst e
    simp only at h
    simp [h]
  · rw [Array.getElem?_setIfInBounds, if_neg e]
theorem put_comm (a : Act) {i j : Nat} {u v : Value} (h : i ≠ j) : (a.put (some i) u).put (some j) v = (a.put (some j) v).put (some i) u := by
  unfold Act.put
  simp only
  rw [Array.setIfInBounds_comm _ _ h]
theorem put_put (a : Act) {i : Nat} {u v : Value} : (a.put (some i) u).put (some i) v = a.put (some i) v := by
  unfold Act.put
  simp
/-- The same, where the four slots may hold anything. -/
theorem four_rows2 {P : Program} {l : List Oper} {Q : Exit → Act → World → Prop} {n : Nat} {listed : Array Bool} {a0 : Act} {w0 wr : World} (c23 c47 c71 c95 : List Int) {o23 o47 o71 o95 : Oper}
    (h23 : c23.length = 4) (h47 : c47.length = 4) (h71 : c71.length = 4) (h95 : c95.length = 4)
    (hsz : 121 < a0.tmps.size) (hH0 : Ge wr w0)
    (e23 : l[23]? = some o23)
    (e47 : l[47]? = some o47)
    (e71 : l[71]? = some o71)
    (e95 : l[95]? = some o95)
    (hr0 : (decide (Region.ready .any l.toArray listed = [23, 47, 71, 95]) && (List.all [23, 47, 71, 95] (fun i => decide (i < n)) && !List.isEmpty [23, 47, 71, 95])) = true)
    (hr23 : (decide (Region.ready .any l.toArray (listed.setIfInBounds 23 true) = [47, 71, 95]) && (List.all [47, 71, 95] (fun i => decide (i < n)) && !List.isEmpty [47, 71, 95])) = true)
    (hr47 : (decide (Region.ready .any l.toArray (listed.setIfInBounds 47 true) = [23, 71, 95]) && (List.all [23, 71, 95] (fun i => decide (i < n)) && !List.isEmpty [23, 71, 95])) = true)
    (hr71 : (decide (Region.ready .any l.toArray (listed.setIfInBounds 71 true) = [23, 47, 95]) && (List.all [23, 47, 95] (fun i => decide (i < n)) && !List.isEmpty [23, 47, 95])) = true)
    (hr95 : (decide (Region.ready .any l.toArray (listed.setIfInBounds 95 true) = [23, 47, 71]) && (List.all [23, 47, 71] (fun i => decide (i < n)) && !List.isEmpty [23, 47, 71])) = true)
    (hr23_47 : (decide (Region.ready .any l.toArray ((listed.setIfInBounds 23 true).setIfInBounds 47 true) = [71, 95]) && (List.all [71, 95] (fun i => decide (i < n)) && !List.isEmpty [71, 95])) = true)
    (hr23_71 : (decide (Region.ready .any l.toArray ((listed.setIfInBounds 23 true).setIfInBounds 71 true) = [47, 95]) && (List.all [47, 95] (fun i => decide (i < n)) && !List.isEmpty [47, 95])) = true)
    (hr23_95 : (decide (Region.ready .any l.toArray ((listed.setIfInBounds 23 true).setIfInBounds 95 true) = [47, 71]) && (List.all [47, 71] (fun i => decide (i < n)) && !List.isEmpty [47, 71])) = true)
    (hr47_71 : (decide (Region.ready .any l.toArray ((listed.setIfInBounds 47 true).setIfInBounds 71 true) = [23, 95]) && (List.all [23, 95] (fun i => decide (i < n)) && !List.isEmpty [23, 95])) = true)
    (hr47_95 : (decide (Region.ready .any l.toArray ((listed.setIfInBounds 47 true).setIfInBounds 95 true) = [23, 71]) && (List.all [23, 71] (fun i => decide (i < n)) && !List.isEmpty [23, 71])) = true)
    (hr71_95 : (decide (Region.ready .any l.toArray ((listed.setIfInBounds 71 true).setIfInBounds 95 true) = [23, 47]) && (List.all [23, 47] (fun i => decide (i < n)) && !List.isEmpty [23, 47])) = true)
    (hr23_47_71 : (decide (Region.ready .any l.toArray (((listed.setIfInBounds 23 true).setIfInBounds 47 true).setIfInBounds 71 true) = [95]) && (List.all [95] (fun i => decide (i < n)) && !List.isEmpty [95])) = true)
    (hr23_47_95 : (decide (Region.ready .any l.toArray (((listed.setIfInBounds 23 true).setIfInBounds 47 true).setIfInBounds 95 true) = [71]) && (List.all [71] (fun i => decide (i < n)) && !List.isEmpty [71])) = true)
    (hr23_71_95 : (decide (Region.ready .any l.toArray (((listed.setIfInBounds 23 true).setIfInBounds 71 true).setIfInBounds 95 true) = [47]) && (List.all [47] (fun i => decide (i < n)) && !List.isEmpty [47])) = true)
    (hr47_71_95 : (decide (Region.ready .any l.toArray (((listed.setIfInBounds 47 true).setIfInBounds 71 true).setIfInBounds 95 true) = [23]) && (List.all [23] (fun i => decide (i < n)) && !List.isEmpty [23])) = true)
    (s23 : ∀ (u1 u2 u3 u4 : Value) (a : Act) (w : World) (K : Act → World → Prop), a = (((a0.put (some 49) u1).put (some 73) u2).put (some 97) u3).put (some 121) u4 → K (a.put (some 49) (.slice (some ⟨w.heap.size, 0, none⟩) 4 4)) (w.alloc (.cells (icells c23).toArray 3)) → if Region.wanted o23 (yielded l.toArray a.tmps) = true then Oper.wp P o23 a w K Q else K (a.put o23.dst undef) w)
    (s47 : ∀ (u1 u2 u3 u4 : Value) (a : Act) (w : World) (K : Act → World → Prop), a = (((a0.put (some 49) u1).put (some 73) u2).put (some 97) u3).put (some 121) u4 → K (a.put (some 73) (.slice (some ⟨w.heap.size, 0, none⟩) 4 4)) (w.alloc (.cells (icells c47).toArray 3)) → if Region.wanted o47 (yielded l.toArray a.tmps) = true then Oper.wp P o47 a w K Q else K (a.put o47.dst undef) w)
    (s71 : ∀ (u1 u2 u3 u4 : Value) (a : Act) (w : World) (K : Act → World → Prop), a = (((a0.put (some 49) u1).put (some 73) u2).put (some 97) u3).put (some 121) u4 → K (a.put (some 97) (.slice (some ⟨w.heap.size, 0, none⟩) 4 4)) (w.alloc (.cells (icells c71).toArray 3)) → if Region.wanted o71 (yielded l.toArray a.tmps) = true then Oper.wp P o71 a w K Q else K (a.put o71.dst undef) w)
    (s95 : ∀ (u1 u2 u3 u4 : Value) (a : Act) (w : World) (K : Act → World → Prop), a = (((a0.put (some 49) u1).put (some 73) u2).put (some 97) u3).put (some 121) u4 → K (a.put (some 121) (.slice (some ⟨w.heap.size, 0, none⟩) 4 4)) (w.alloc (.cells (icells c95).toArray 3)) → if Region.wanted o95 (yielded l.toArray a.tmps) = true then Oper.wp P o95 a w K Q else K (a.put o95.dst undef) w)
    (cont : ∀ (b23 b47 b71 b95 : Nat) (v : World), Ge wr v → v.ownsRow 0 3 1 (.slice (some ⟨b23, 0, none⟩) 4 4) 4 (icells c23) → v.ownsRow 0 3 1 (.slice (some ⟨b47, 0, none⟩) 4 4) 4 (icells c47) → v.ownsRow 0 3 1 (.slice (some ⟨b71, 0, none⟩) 4 4) 4 (icells c71) → v.ownsRow 0 3 1 (.slice (some ⟨b95, 0, none⟩) 4 4) 4 (icells c95) → Head P l Q (fun w' => Ge wr w') n 0 ((((listed.setIfInBounds 23 true).setIfInBounds 47 true).setIfInBounds 71 true).setIfInBounds 95 true) ((((a0.put (some 49) (.slice (some ⟨b23, 0, none⟩) 4 4)).put (some 73) (.slice (some ⟨b47, 0, none⟩) 4 4)).put (some 97) (.slice (some ⟨b71, 0, none⟩) 4 4)).put (some 121) (.slice (some ⟨b95, 0, none⟩) 4 4)) v) :
    Head P l Q (fun w' => Ge wr w') n 4 listed a0 w0 := by
  refine four_rows (fun A => ∃ u1 u2 u3 u4, A = (((a0.put (some 49) u1).put (some 73) u2).put (some 97) u3).put (some 121) u4) c23 c47 c71 c95 h23 h47 h71 h95 ?_ ?_ hH0 e23 e47 e71 e95 hr0 hr23 hr47 hr71 hr95 hr23_47 hr23_71 hr23_95 hr47_71 hr47_95 hr71_95 hr23_47_71 hr23_47_95 hr23_71_95 hr47_71_95
    (fun a w K ⟨u1, u2, u3, u4, hA⟩ hK => s23 u1 u2 u3 u4 a w K hA hK) (fun a w K ⟨u1, u2, u3, u4, hA⟩ hK => s47 u1 u2 u3 u4 a w K hA hK) (fun a w K ⟨u1, u2, u3, u4, hA⟩ hK => s71 u1 u2 u3 u4 a w K hA hK) (fun a w K ⟨u1, u2, u3, u4, hA⟩ hK => s95 u1 u2 u3 u4 a w K hA hK) cont
  · exact ⟨_, _, _, _, by rw [put_own a0 49 (by omega), put_own a0 73 (by omega), put_own a0 97 (by omega), put_own a0 121 (by omega)]⟩
  · rintro a d x ⟨u1, u2, u3, u4, rfl⟩ hd
    rcases hd with rfl | rfl | rfl | rfl
    · exact ⟨x, u2, u3, u4, by rw [put_comm _ (by decide : (121 : Nat) ≠ 49), put_comm _ (by decide : (97 : Nat) ≠ 49), put_comm _ (by decide : (73 : Nat) ≠ 49), put_put]⟩
    · exact ⟨u1, x, u3, u4, by rw [put_comm _ (by decide : (121 : Nat) ≠ 73), put_comm _ (by decide : (97 : Nat) ≠ 73), put_put]⟩
    · exact ⟨u1, u2, x, u4, by rw [put_comm _ (by decide : (121 : Nat) ≠ 97), put_put]⟩
    · exact ⟨u1, u2, u3, x, by rw [put_put]⟩
end Go.Proofs.Ytjdhjoifiebpeaa
