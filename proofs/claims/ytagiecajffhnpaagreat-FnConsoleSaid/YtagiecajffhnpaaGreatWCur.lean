/- The cursor of the draws: what l01New makes, and that l01Byte and l01Below keep it and give small numbers. No condition. -/
import Derived.Test.YtagiecajffhnpaaGreatWLaw
import Derived.Test.YtagiecajffhnpaaGreatWSl
import Derived.Test.YtagiecajffhnpaaGreatWEqInt
namespace Go.Proofs.YtagiecajffhnpaaGreat
set_option maxRecDepth 100000
open Go.ChangeShapes Go.WideShapes Go.ChangeAt Go.RowKit Go.Joins

/-- A slice of bytes. -/
def SlB (w : World) (p : Option Addr) (n : Nat) : Prop := ∀ i, i < n → ∃ (b o : Nat) (x : Int), p = some ⟨b, o, none⟩ ∧ w.cell? ⟨b, o + i, none⟩ = some (.int .u8 x) ∧ 0 ≤ x ∧ x ≤ 255
theorem SlB.ge {w w' : World} {p : Option Addr} {n : Nat} (h : SlB w p n) (hg : Ge w w') : SlB w' p n := fun i hi => by
  obtain ⟨b, o, x, hp, hc, h0, h1⟩ := h i hi
  exact ⟨b, o, x, hp, hg.keep hc, h0, h1⟩

/-- A cursor at block g; the bytes lie in blocks below g. -/
def Cur (w : World) (g : Nat) : Prop := ∃ (p : Option Addr) (n cap : Nat) (i h : Int) (c : World), w.cell? ⟨g, 0, none⟩ = some (.slice p n cap) ∧ w.cell? ⟨g, 1, none⟩ = some (.int .i64 i) ∧ w.cell? ⟨g, 2, none⟩ = some (.int .i64 h) ∧
  w.frozen? ⟨g, 0, none⟩ = false ∧ w.frozen? ⟨g, 1, none⟩ = false ∧ w.frozen? ⟨g, 2, none⟩ = false ∧ 0 ≤ i ∧ i ≤ n ∧ n ≤ 1048576 ∧ SlB c p n ∧ c.heap.size ≤ g ∧ Ge c w

theorem mask255 (z : Int) : 0 ≤ bits .and .i64 z 255 ∧ bits .and .i64 z 255 ≤ 255 := by
  have h : (BitVec.ofInt 64 z &&& BitVec.ofInt 64 255).toNat ≤ 255 := by
    rw [BitVec.toNat_and]
    exact Nat.le_trans Nat.and_le_right (by decide)
  have e : bits .and .i64 z 255 = IntKind.i64.wrap ((BitVec.ofInt 64 z &&& BitVec.ofInt 64 255).toNat : Int) := rfl
  rw [e, IntWalk.i64_in _ (by omega)]
  omega

theorem Cur.mk {w : World} {g : Nat} {p : Option Addr} {n cap : Nat} (i : Int) {h : Int} {c : World} (hb : SlB c p n) (hcg : c.heap.size ≤ g) (i0 : 0 ≤ i) (i1 : i ≤ n) (n1 : n ≤ 1048576)
    (c2 : w.cell? ⟨g, 2, none⟩ = some (.int .i64 h)) (c0 : w.cell? ⟨g, 0, none⟩ = some (.slice p n cap)) (c1 : w.cell? ⟨g, 1, none⟩ = some (.int .i64 i))
    (f0 : w.frozen? ⟨g, 0, none⟩ = false) (f1 : w.frozen? ⟨g, 1, none⟩ = false) (f2 : w.frozen? ⟨g, 2, none⟩ = false) (hg : Ge c w) : Cur w g :=
  ⟨p, n, cap, i, h, c, c0, c1, c2, f0, f1, f2, i0, i1, n1, hb, hcg, hg⟩
theorem gb_set {w w1 : World} {g i : Nat} {u : Value} (h : w.grownBy w1 (some g)) : w.grownBy (w1.setCell ⟨g, i, none⟩ u) (some g) :=
  ⟨h.os, h.tape, h.output, by simpa using h.size, fun k hk hne => by
    rw [← h.block k hk hne]
    exact Below.heap_setCell w1 ⟨g, i, none⟩ u k (fun e => hne (by rw [e]))⟩
theorem gb_drewN {w w1 : World} {g n : Nat} (h : w.grownBy w1 (some g)) : w.grownBy (w1.drewN n) (some g) := ⟨h.os, h.tape, h.output, h.size, h.block⟩

set_option maxHeartbeats 800000 in
theorem sL01Byte (g : Nat) (w : World) (hc : Cur w g) :
    Calls Tryz.prog 14 #[.pointer (some ⟨g, 0, none⟩)] w fun e w' => ∃ x, e = .returned (.int .i64 x) ∧ 0 ≤ x ∧ x ≤ 255 ∧ Cur w' g ∧ w.grownBy w' (some g) := by
  obtain ⟨p, n, cap, i, h, c, c0, c1, c2, f0, f1, f2, i0, i1, n1, hb, hcg, hg⟩ := hc
  have lg := World.block_lt_of_cell? w _ c0
  by_cases hi : i < n
  · obtain ⟨k, rfl⟩ : ∃ k : Nat, i = k := ⟨i.toNat, by omega⟩
    obtain ⟨b, o, x, rfl, hx, x0, x1⟩ := hb k (by omega)
    have lb := World.block_lt_of_cell? c _ hx
    have hx' := hg.keep hx
    simp at lb lg
    have HB := Lib.hid hb
    have HG := Lib.hid hg
    clear hb hx hg
    have hne : b ≠ g := by omega
    have hne' : g ≠ b := by omega
    go_enter Tryz.func14, Tryz.ntmps14
    go_wp2_with fail
    go_quiet (fail)
    go_wp2_with fail
    go_quiet (fail)
    go_wp2_with fail
    go_quiet (fail)
    go_wp2_with fail
    go_ret
    exact ⟨_, rfl, (mask255 _).1, (mask255 _).2, Cur.mk (k + 1) HB.out hcg (by omega) (by omega) n1 (cell_set2 (by simp) (cell_drewN (cell_same c2))) (cell_set2 (by simp) (cell_drewN (cell_set2 (by simp) c0)))
      (cell_same (cell_drewN (cell_set2 (by simp) c1))) (froz_set (froz_set f0)) (froz_set (froz_set f1)) (froz_set (froz_set f2)) ((((HG.out).setCell (by exact hcg) _).drewN _).setCell (by exact hcg) _),
      gb_set (gb_drewN (gb_set (World.grownBy.refl _ _)))⟩
  · have HB := Lib.hid hb
    have HG := Lib.hid hg
    clear hb hg
    go_enter Tryz.func14, Tryz.ntmps14
    go_wp2_with fail
    go_quiet (fail)
    go_wp2_with fail
    go_quiet (fail)
    go_wp2_with fail
    go_ret
    exact ⟨_, rfl, (mask255 _).1, (mask255 _).2, Cur.mk i HB.out hcg i0 i1 n1 (cell_drewN (cell_drewN (cell_same c2))) (cell_drewN (cell_drewN (cell_set2 (by simp) c0))) (cell_drewN (cell_drewN (cell_set2 (by simp) c1))) (froz_set f0) (froz_set f1) (froz_set f2)
      ((((HG.out).setCell (by exact hcg) _).drewN _).drewN _), gb_drewN (gb_drewN (gb_set (World.grownBy.refl _ _)))⟩

/-- What a draw leaves: a cursor, and all blocks but the cursor's. -/
def Drew (w w' : World) (g : Nat) : Prop := Cur w' g ∧ w.grownBy w' (some g)
theorem Drew.trans {a b c : World} {g : Nat} (h : Drew a b g) (k : Drew b c g) : Drew a c g := ⟨k.1, grown_trans h.2 k.2⟩
theorem Drew.ge {a b : World} {c : World} {g : Nat} (h : Drew a b g) (hg : Ge c a) (hb : c.heap.size ≤ g) : Ge c b := hg.grown h.2 (fun k hk => by cases hk; exact hb)

set_option maxHeartbeats 800000 in
theorem sL01Below (g : Nat) (n : Int) (w : World) (hc : Cur w g) (h0 : 0 < n) (h1 : n ≤ 256) :
    Calls Tryz.prog 28 #[.pointer (some ⟨g, 0, none⟩), .int .i64 n] w fun e w' => ∃ x, e = .returned (.int .i64 x) ∧ 0 ≤ x ∧ x < n ∧ Drew w w' g := by
  have HC := Lib.hid hc
  clear hc
  go_enter Tryz.func28, Tryz.ntmps28
  go_wp2_with (go_at_call 14; ((with_reducible refine (sL01Byte _ _ HC.out).mono ?_); rintro e w' ⟨x, rfl, x0, x1, hc', hg'⟩))
  go_ret
  exact ⟨_, rfl, Int.emod_nonneg _ (by omega), Int.emod_lt_of_pos _ h0, hc', hg'⟩

theorem cur_new {w : World} {p : Option Addr} {n cap : Nat} {z : Int} {t : TypeId} (hb : SlB w p n) (hn : n ≤ 1048576) :
    ∃ g, Ending.returned (.pointer (some ⟨w.heap.size, 0, none⟩)) = .returned (.pointer (some ⟨g, 0, none⟩)) ∧ Cur (w.alloc (.cells #[.slice p n cap, .int .i64 0, .int .i64 z] t)) g ∧ w.heap.size ≤ g ∧ Ge w (w.alloc (.cells #[.slice p n cap, .int .i64 0, .int .i64 z] t)) :=
  ⟨_, rfl, Cur.mk 0 hb (Nat.le_refl _) (Int.le_refl _) (by omega) hn (cell_new rfl rfl) (cell_new rfl rfl) (cell_new rfl rfl) (froz_new (i := 0) rfl rfl) (froz_new (i := 1) rfl rfl) (froz_new (i := 2) rfl rfl) ((Ge.refl w).alloc _), Nat.le_refl _, (Ge.refl w).alloc _⟩

set_option maxHeartbeats 800000 in
theorem sL01New (p : Option Addr) (n cap : Nat) (w : World) (hb : SlB w p n) (hn : n ≤ 1048576) :
    Calls Tryz.prog 17 #[.slice p n cap] w fun e w' => ∃ g, e = .returned (.pointer (some ⟨g, 0, none⟩)) ∧ Cur w' g ∧ w.heap.size ≤ g ∧ Ge w w' := by
  have HB := Lib.hid hb
  clear hb
  go_enter Tryz.func17, Tryz.ntmps17
  go_wp2_with fail
  go_loop [3, 4] (fun h i => ∃ (z : Int) (k : Nat), h = .int .i64 z ∧ i = .int .i64 k ∧ k ≤ n) (fun _ i => n - (intOf i).toNat)
  case atStart => exact ⟨_, 0, rfl, rfl, Nat.zero_le _⟩
  case round =>
    obtain ⟨z, k, rfl, rfl, hk⟩ := hrel
    by_cases hlt : k < n
    · by_cases h4 : k < 4000
      · obtain ⟨b, o, x, rfl, hx, x0, x1⟩ := HB.out k hlt
        go_wp2_with fail
        go_round
        case rel => exact ⟨_, k + 1, rfl, by go_num, by omega⟩
        case measure => simp [intOf]; omega
      · go_wp2_with fail
        go_ret
        exact cur_new HB.out hn
    · go_wp2_with fail
      go_ret
      exact cur_new HB.out hn

end Go.Proofs.YtagiecajffhnpaaGreat
