/- The greatest squares again and again: plain law. No condition. CutTiling of impl. No condition. Regions that draw their order: several operations ready at once. No program in sight. l13Insert of the reference at a square behind all others. No condition. CutTiling of both sides. No condition. Tilings: sides of impl. No condition. Tilings: l13Right, l13Low, l13Overlap, l13Squares of spec. No condition. Tilings: l13Squares of spec. No condition. -/
import Derived.Test.YtagiecajffhnpaaGreatJAt
import Derived.Test.YtagiecajffhnpaaGreatJAb
import Derived.Test.YtagiecajffhnpaaGreatWIn
import Derived.Test.YtagiecajffhnpaaGreatJAc
import Derived.Deep.DeepCutAuto
namespace Go.Proofs.YtagiecajffhnpaaGreat

open Go.RowKit

structure CutS where
  w : Nat
  h : Nat
  x : Nat
  y : Nat
def stepC (s : CutS) : CutS := if s.h < s.w then ⟨s.w - s.h, s.h, s.x + s.h, s.y⟩ else ⟨s.w, s.h - s.w, s.x, s.y + s.w⟩
def stC (w h : Nat) : Nat → CutS
  | 0 => ⟨w, h, 0, 0⟩
  | k + 1 => stepC (stC w h k)
def stopC (w h k : Nat) : Prop := (stC w h k).w = 0 ∨ (stC w h k).h = 0
instance (w h k : Nat) : Decidable (stopC w h k) := by unfold stopC; exact inferInstance
/-- The first k squares: x, y and size of each. -/
def cutX (w h : Nat) : Nat → List Int
  | 0 => []
  | k + 1 => cutX w h k ++ [((stC w h k).x : Int), ((stC w h k).y : Int), ((min (stC w h k).w (stC w h k).h : Nat) : Int)]
theorem cutX_length (w h : Nat) : ∀ k, (cutX w h k).length = k * 3
  | 0 => rfl
  | k + 1 => by simp [cutX, cutX_length w h k]; omega
theorem cutX_nth {w h : Nat} : ∀ {k j : Nat}, j < k → nth (cutX w h k) (j * 3) = (stC w h j).x ∧ nth (cutX w h k) (j * 3 + 1) = (stC w h j).y
  | 0, j, hj => by omega
  | k + 1, j, hj => by
    have hl := cutX_length w h k
    have e1 : cutX w h (k + 1) = cutX w h k ++ [((stC w h k).x : Int), ((stC w h k).y : Int), ((min (stC w h k).w (stC w h k).h : Nat) : Int)] := rfl
    rw [e1]
    by_cases e : j = k
    · subst e
      unfold nth
      constructor
      · rw [List.getD_eq_getElem?_getD, List.getElem?_append_right (by omega), hl, Nat.sub_self]; rfl
      · rw [List.getD_eq_getElem?_getD, List.getElem?_append_right (by omega), hl, show j * 3 + 1 - j * 3 = 1 by omega]; rfl
    · have h1 := cutX_nth (w := w) (h := h) (k := k) (j := j) (by omega)
      unfold nth at *
      rw [List.getD_eq_getElem?_getD, List.getD_eq_getElem?_getD, List.getElem?_append_left (by omega), List.getElem?_append_left (by omega), ← List.getD_eq_getElem?_getD, ← List.getD_eq_getElem?_getD]
      exact h1
theorem stC_bd {w h : Nat} (hw : w ≤ 200) (hh : h ≤ 200) : ∀ k, (stC w h k).w + (stC w h k).x = w ∧ (stC w h k).h + (stC w h k).y = h
  | 0 => ⟨rfl, rfl⟩
  | k + 1 => by
    obtain ⟨h1, h2⟩ := stC_bd hw hh k
    unfold stC stepC
    split
    · constructor <;> simp only <;> omega
    · constructor <;> simp only <;> omega
theorem stC_next {w h k : Nat} (hs : ¬ stopC w h k) : (stC w h (k + 1)).y > (stC w h k).y ∨ (stC w h (k + 1)).y = (stC w h k).y ∧ (stC w h (k + 1)).x > (stC w h k).x := by
  unfold stopC at hs
  show (stepC (stC w h k)).y > _ ∨ _
  have e : stC w h (k + 1) = stepC (stC w h k) := rfl
  rw [e]
  unfold stepC
  split
  · right; exact ⟨rfl, by show _ + _ > _; omega⟩
  · left; show _ + _ > _; omega
theorem cut_ord {w h n : Nat} (hs : ∀ j, j < n → ¬ stopC w h j) : ordC n (cutX w h n) := fun k hk => by
  obtain ⟨a1, a2⟩ := cutX_nth (w := w) (h := h) (k := n) (j := k) (by omega)
  obtain ⟨b1, b2⟩ := cutX_nth (w := w) (h := h) (k := n) (j := k + 1) (by omega)
  rw [a1, a2, b1, b2]
  have := stC_next (hs k (by omega))
  intro hlt
  rw [cmpSq_lt] at hlt
  omega
/-- How many squares there are, if there are at most 12. -/
def cutR (w h : Nat) : Option Nat := (List.range 13).find? (fun k => decide (stopC w h k))
theorem cutR_some {w h k : Nat} (hk : k ≤ 12) (hs : ∀ j, j < k → ¬ stopC w h j) (h1 : stopC w h k) : cutR w h = some k := by
  unfold cutR
  rw [List.find?_range_eq_some]
  refine ⟨by simpa using h1, by simp; omega, fun j hj => by simpa using hs j hj⟩
theorem cutR_none {w h : Nat} (hs : ∀ j, j < 13 → ¬ stopC w h j) : cutR w h = none := by
  unfold cutR
  rw [List.find?_eq_none]
  intro x hx
  simp at hx
  simpa using hs x hx
def cutO (a b : Int) : Option Nat := if (1 ≤ a ∧ a ≤ 200) ∧ (1 ≤ b ∧ b ≤ 200) then cutR a.toNat b.toNat else none
end Go.Proofs.YtagiecajffhnpaaGreat

namespace Go.Proofs.YtagiecajffhnpaaGreat
set_option maxRecDepth 100000
open Go.ChangeShapes Go.WideShapes Go.ChangeAt Go.RowKit Go.Joins

theorem inf_SqC : (Tryz.prog.info? 143).map (fun i => (i.zero, i.size, i.bytes)) = some (some (Value.agg #[.int .i64 0, .int .i64 0, .int .i64 0]), 3, 24) := by kernel_rfl
theorem ap_sq {w : World} {ops : Array Oper} {rest : List Oper} {o : Oper} {a : Act} {Q : Exit → Act → World → Prop} (hgd : o.guard = none) (s x : Operand)
    (ho : o.op = .call { callee := .builtin .append, args := #[s, x], argTypes := #[98, 98] })
    (base : Nat) (v : Value) (n : Nat) (l : List Int) (hs : a.eval s = v) (hown : w.ownsRow base 143 3 v n (icells l))
    (y0 y1 y2 : Int) (hx : a.eval x = .slice (some ⟨w.heap.size, 0, none⟩) 1 1) (hn : n < 1099511627776) (hbase : base ≤ w.heap.size)
    (h : ∀ v' w', w'.ownsRow base 143 3 v' (n + 1) (icells (l ++ [y0, y1, y2])) → Mine w w' v → wpList Tryz.prog ops Q rest (a.put o.dst v') w') :
    wpList Tryz.prog ops Q (o :: rest) a (w.alloc (.cells #[.int .i64 y0, .int .i64 y1, .int .i64 y2] 143)) :=
  ap1 hgd s x 98 ho 143 _ 3 24 Tryz.underlying98 inf_SqC rfl (by decide) (by decide) base v _ _ hs hown #[.int .i64 y0, .int .i64 y1, .int .i64 y2] hx rfl (by simp [Value.oneCell']) hn hbase
    (fun v' w' h2 h3 => h v' w' (by simpa [icells] using h2) h3)
def GivesC (w : World) (o : Option Nat) (a b : Int) (e : Ending) (w' : World) : Prop :=
  match o with
  | none => e = .returned (.tuple #[.slice none 0 0, .bool false])
  | some k => ∃ v, e = .returned (.tuple #[v, .bool true]) ∧ w'.ownsRow w.heap.size 143 3 v k (icells (cutX a.toNat b.toNat k))
theorem cutO_f {a b : Int} (h : ¬ ((1 ≤ a ∧ a ≤ 200) ∧ (1 ≤ b ∧ b ≤ 200))) : cutO a b = none := by unfold cutO; rw [if_neg h]
theorem cutO_t {a b : Nat} (ha : 1 ≤ a ∧ a ≤ 200) (hb : 1 ≤ b ∧ b ≤ 200) : cutO a b = cutR a b := by
  unfold cutO
  rw [if_pos ⟨⟨by omega, by omega⟩, by omega, by omega⟩]
  simp
theorem cutX_succ (w h k : Nat) : cutX w h (k + 1) = cutX w h k ++ [((stC w h k).x : Int), ((stC w h k).y : Int), ((min (stC w h k).w (stC w h k).h : Nat) : Int)] := rfl
theorem stC_succ (w h k : Nat) : stC w h (k + 1) = stepC (stC w h k) := rfl

set_option maxHeartbeats 1600000 in
theorem iCutT (a b : Nat) (w : World) (ha : 1 ≤ a ∧ a ≤ 200) (hb : 1 ≤ b ∧ b ≤ 200) :
    Calls Tryz.prog 59 #[.int .i64 (a : Int), .int .i64 (b : Int)] w fun e w' => GivesC w (cutO a b) a b e w' ∧ Ge w w' := by
  rw [cutO_t ha hb]
  have HB := Lib.hid (stC_bd ha.2 hb.2)
  have HX := Lib.hid (cutX_succ a b)
  have HS := Lib.hid (stC_succ a b)
  have HO := Lib.hid (fun n (h : ∀ j, j < n → ¬ stopC a b j) => cut_ord h)
  have HR := Lib.hid (fun k (hk : k ≤ 12) hs h1 => cutR_some (w := a) (h := b) (k := k) hk hs h1)
  have HN : Hid ((∀ j, j < 13 → ¬ stopC a b j) → cutR a b = none) := cutR_none
  have HSt : Hid (∀ k, stopC a b k ↔ (stC a b k).w = 0 ∨ (stC a b k).h = 0) := fun _ => Iff.rfl
  have H0 : Hid ((stC a b 0).w = a ∧ (stC a b 0).h = b ∧ (stC a b 0).x = 0 ∧ (stC a b 0).y = 0 ∧ cutX a b 0 = []) := ⟨rfl, rfl, rfl, rfl, rfl⟩
  generalize cutR a b = CR at *
  go_enter Tryz.func59, Tryz.ntmps59
  go_wp2_with fail
  go_loopw [0, 1, 6, 7, 8] (fun p q o x y wr => ∃ (k : Nat) (u : Value), k ≤ 12 ∧ p = .int .i64 ((stC a b k).w : Int) ∧ q = .int .i64 ((stC a b k).h : Int) ∧ o = u ∧ x = .int .i64 ((stC a b k).x : Int) ∧ y = .int .i64 ((stC a b k).y : Int) ∧
    wr.ownsRow w.heap.size 143 3 u k (icells (cutX a b k)) ∧ Hid (∀ j, j < k → ¬ stopC a b j) ∧ Ge w wr) (fun p q _ _ _ _ => (intOf p).toNat + (intOf q).toNat)
  case atStart => exact ⟨0, _, Nat.zero_le _, by rw [H0.out.1], by rw [H0.out.2.1], rfl, by rw [H0.out.2.2.1]; rfl, by rw [H0.out.2.2.2.1]; rfl, by rw [H0.out.2.2.2.2]; exact owns_lit0 _ _ _, fun j hj => by omega, kge⟩
  case round =>
    obtain ⟨k, u, hk, rfl, rfl, rfl, rfl, rfl, hown, HA, hg⟩ := hrel
    obtain ⟨b1, b2⟩ := HB.out k
    have HXk := Lib.hid (HX.out k)
    have HSk := Lib.hid (HS.out k)
    have HStk := Lib.hid (HSt.out k)
    have HRk := Lib.hid (fun h => HR.out k hk HA.out h)
    have HAn : Hid (¬ stopC a b k → ∀ j, j < k + 1 → ¬ stopC a b j) := fun g j hj => by
      by_cases e : j = k
      · subst e; exact g
      · exact HA.out j (by omega)
    have HOk := Lib.hid (HO.out k HA.out)
    have HOw := Lib.hid hown
    have zg := hg.size
    clear hown
    generalize hst : stC a b k = st at *
    obtain ⟨W, H, X, Y⟩ := st
    simp only at b1 b2 HXk HSk HStk ⊢
    by_cases hs : W = 0 ∨ H = 0
    · have HF := Lib.hid (HRk.out (HStk.out.2 hs))
      obtain ⟨p1, c1, rfl⟩ := owns_form HOw.out
      have HSo := Lib.hid (sortSq (.slice p1 k c1) k (cutX a b k) wr (SlF.of_owns HOw.out) hk HOk.out (.func (.func 95) #[] #[]) rfl)
      clear HRk HAn HOk HXk HSk HStk
      by_cases hw : W = 0
      · subst hw
        clear hs b1 b2
        go_wp2_with (go_at_call 94; ((with_reducible refine (HSo.out).mono ?_); rintro e w' ⟨rfl, g⟩))
        exact bodyPost_ret (v := .tuple #[.slice p1 k c1, .bool true]) (by simp [results, Tryz.results59, go_sem]) rfl ⟨by rw [HF.out]; exact ⟨_, rfl, Ge.owns g HOw.out⟩, Ge.trans hg g⟩
      · have hh : H = 0 := by omega
        subst hh
        have hw2 : (0 : Int) < (W : Int) := by omega
        clear hs b1 b2
        go_wp2_with (go_at_call 94; ((with_reducible refine (HSo.out).mono ?_); rintro e w' ⟨rfl, g⟩))
        exact bodyPost_ret (v := .tuple #[.slice p1 k c1, .bool true]) (by simp [results, Tryz.results59, go_sem]) rfl ⟨by rw [HF.out]; exact ⟨_, rfl, Ge.owns g HOw.out⟩, Ge.trans hg g⟩
    · have HA2 := Lib.hid (HAn.out (fun h => hs (HStk.out.1 h)))
      have hw : (0 : Int) < (W : Int) := by omega
      have hh : (0 : Int) < (H : Int) := by omega
      obtain ⟨p1, c1, rfl⟩ := owns_form HOw.out
      clear HRk HAn HOk HStk
      by_cases hk12 : k = 12
      · have HF := Lib.hid (HN.out (fun j hj => HA2.out j (by omega)))
        have tk : ((k : Int) == 12) = true := by simp; omega
        clear HXk HSk HA2 HA
        generalize cutX a b k = L at *
        go_wp2_with fail
        exact bodyPost_ret (v := .tuple #[.slice none 0 0, .bool false]) (by simp [results, Tryz.results59, go_sem]) rfl ⟨by rw [HF.out]; exact rfl, hg⟩
      · have tk : ((k : Int) == 12) = false := by simp; omega
        by_cases hwh : H < W
        · have tm : min (W : Int) (H : Int) = (H : Int) := by omega
          have e1 : min W H = H := by omega
          have tg : (H : Int) < (W : Int) := by omega
          have HXe := Lib.hid (HXk.out)
          rw [e1] at HXe
          have HSe : Hid (stC a b (k + 1) = ⟨W - H, H, X + H, Y⟩) := by
            show _ = _
            rw [HSk.out]; simp [stepC, hwh]
          clear HXk HSk e1
          generalize cutX a b k = L at *
          go_wp2_with (at_builtin; refine ap_sq rfl _ _ rfl w.heap.size _ k L rfl HOw.out _ _ _ rfl (by omega) zg ?_; intro v' w6 own6 hm6)
          go_roundw
          case rel => exact ⟨k + 1, _, by omega, by rw [HSe.out]; simp only; congr 1; omega, by rw [HSe.out], rfl, by rw [HSe.out]; simp only; congr 1, by rw [HSe.out], by rw [HXe.out]; exact own6, HA2, hg.mine HOw.out (Nat.le_refl _) hm6⟩
          case measure => simp [intOf]; omega
        · have tm : min (W : Int) (H : Int) = (W : Int) := by omega
          have e1 : min W H = W := by omega
          have tg : ¬ (H : Int) < (W : Int) := by omega
          have HXe := Lib.hid (HXk.out)
          rw [e1] at HXe
          have HSe : Hid (stC a b (k + 1) = ⟨W, H - W, X, Y + W⟩) := by
            show _ = _
            rw [HSk.out]; simp [stepC, hwh]
          clear HXk HSk e1
          generalize cutX a b k = L at *
          go_wp2_with (at_builtin; refine ap_sq rfl _ _ rfl w.heap.size _ k L rfl HOw.out _ _ _ rfl (by omega) zg ?_; intro v' w6 own6 hm6)
          go_roundw
          case rel => exact ⟨k + 1, _, by omega, by rw [HSe.out], by rw [HSe.out]; simp only; congr 1; omega, rfl, by rw [HSe.out], by rw [HSe.out]; simp only; congr 1, by rw [HXe.out]; exact own6, HA2, hg.mine HOw.out (Nat.le_refl _) hm6⟩
          case measure => simp [intOf]; omega
end Go.Proofs.YtagiecajffhnpaaGreat

namespace Go.Proofs.YtagiecajffhnpaaGreat

open Go

section
variable {P : Program} {l : List Oper} {Q : Exit → Act → World → Prop} {S : World → Prop}
end

end Go.Proofs.YtagiecajffhnpaaGreat

namespace Go.Proofs.YtagiecajffhnpaaGreat
set_option maxRecDepth 100000
open Go.ChangeShapes Go.WideShapes Go.ChangeAt Go.RowKit Go.Joins

end Go.Proofs.YtagiecajffhnpaaGreat

namespace Go.Proofs.YtagiecajffhnpaaGreat
set_option maxRecDepth 100000
open Go.ChangeShapes Go.WideShapes Go.ChangeAt Go.RowKit Go.Joins

set_option maxHeartbeats 1600000 in
theorem iCut (a b : Int) (w : World) : Calls Tryz.prog 59 #[.int .i64 a, .int .i64 b] w fun e w' => GivesC w (cutO a b) a b e w' ∧ Ge w w' := by
  by_cases h : (1 ≤ a ∧ a ≤ 200) ∧ (1 ≤ b ∧ b ≤ 200)
  · obtain ⟨p, rfl⟩ : ∃ p : Nat, a = p := ⟨a.toNat, by omega⟩
    obtain ⟨q, rfl⟩ : ∃ q : Nat, b = q := ⟨b.toNat, by omega⟩
    exact iCutT p q w ⟨by omega, by omega⟩ ⟨by omega, by omega⟩
  · rw [cutO_f h]
    by_cases h1 : a < 1
    · go_enter Tryz.func59, Tryz.ntmps59
      go_wp2_with fail
      exact bodyPost_ret (v := .tuple #[.slice none 0 0, .bool false]) (by simp [results, Tryz.results59, go_sem]) rfl ⟨rfl, Ge.refl _⟩
    · by_cases h2 : 200 < a
      · go_enter Tryz.func59, Tryz.ntmps59
        go_wp2_with fail
        exact bodyPost_ret (v := .tuple #[.slice none 0 0, .bool false]) (by simp [results, Tryz.results59, go_sem]) rfl ⟨rfl, Ge.refl _⟩
      · by_cases h3 : b < 1
        · go_enter Tryz.func59, Tryz.ntmps59
          go_wp2_with fail
          exact bodyPost_ret (v := .tuple #[.slice none 0 0, .bool false]) (by simp [results, Tryz.results59, go_sem]) rfl ⟨rfl, Ge.refl _⟩
        · have h4 : 200 < b := by omega
          go_enter Tryz.func59, Tryz.ntmps59
          go_wp2_with fail
          exact bodyPost_ret (v := .tuple #[.slice none 0 0, .bool false]) (by simp [results, Tryz.results59, go_sem]) rfl ⟨rfl, Ge.refl _⟩
end Go.Proofs.YtagiecajffhnpaaGreat

namespace Go.Proofs.YtagiecajffhnpaaGreat
set_option maxRecDepth 100000
open Go.ChangeShapes Go.WideShapes Go.ChangeAt Go.RowKit Go.Joins

set_option maxHeartbeats 800000 in
theorem iSides (v : Value) (n : Nat) (xs : List Int) (w : World) (hv : SlF w v n 3 xs) (hn : n ≤ 12) (hok : ∀ k, k < n → okSq xs k) :
    Calls Tryz.prog 125 #[v] w fun e w' => e = .returned (.tuple #[.int .i64 (rightSq xs n), .int .i64 (lowSq xs n)]) ∧ Ge w w' := by
  obtain ⟨p, cap, rfl, hc⟩ := hv.open
  have HC := Lib.hid hc
  have HK := Lib.hid hok
  clear hv hc hok
  go_enter Tryz.func125, Tryz.ntmps125
  go_wp2_with fail
  go_loopw [4, 5, 10] (fun a b i wr => ∃ k : Nat, k ≤ n ∧ i = .int .i64 k ∧ a = .int .i64 (rightSq xs k) ∧ b = .int .i64 (lowSq xs k) ∧ Ge w wr) (fun _ _ i _ => n - (intOf i).toNat)
  case atStart => exact ⟨0, Nat.zero_le _, rfl, rfl, rfl, Ge.refl _⟩
  case round =>
    obtain ⟨k, hk, rfl, rfl, rfl, hg⟩ := hrel
    by_cases hlt : k < n
    · obtain ⟨b, o, rfl, x0, x1, x2⟩ := three_cells HC.out hlt
      have y0 := hg.keep x0
      have y1 := hg.keep x1
      have y2 := hg.keep x2
      clear x0 x1 x2
      obtain ⟨q0, q1, q2, q3, q4, q5⟩ := HK.out k hlt
      obtain ⟨r0, r1⟩ := right_bd k (fun j hj => HK.out j (by omega))
      obtain ⟨s0, s1⟩ := low_bd k (fun j hj => HK.out j (by omega))
      have H1 : Hid (rightSq xs (k + 1) = max (rightSq xs k) (sx xs k + ss xs k)) := rfl
      have H2 : Hid (lowSq xs (k + 1) = max (lowSq xs k) (sy xs k + ss xs k)) := rfl
      change wr.cell? _ = some (.int .i64 (sx xs k)) at y0
      change wr.cell? _ = some (.int .i64 (sy xs k)) at y1
      change wr.cell? _ = some (.int .i64 (ss xs k)) at y2
      generalize sx xs k = X at *
      generalize sy xs k = Y at *
      generalize ss xs k = Z at *
      go_wp2_with fail
      go_roundw
      case rel => exact ⟨k + 1, by omega, by go_num, congrArg _ (by rw [H1.out] <;> (split <;> omega)), congrArg _ (by rw [H2.out] <;> (split <;> omega)), kge⟩
      case measure => simp [intOf]; omega
    · have hkn : k = n := by omega
      subst hkn
      go_wp2_with fail
      exact bodyPost_ret (v := .tuple #[.int .i64 (rightSq xs k), .int .i64 (lowSq xs k)]) (by simp [results, Tryz.results125, go_sem, *]) rfl ⟨rfl, kge⟩

end Go.Proofs.YtagiecajffhnpaaGreat

namespace Go.Proofs.YtagiecajffhnpaaGreat
set_option maxRecDepth 100000
open Go.ChangeShapes Go.WideShapes Go.ChangeAt Go.RowKit Go.Joins

end Go.Proofs.YtagiecajffhnpaaGreat

namespace Go.Proofs.YtagiecajffhnpaaGreat
set_option maxRecDepth 100000
open Go.ChangeShapes Go.WideShapes Go.ChangeAt Go.RowKit Go.Joins

end Go.Proofs.YtagiecajffhnpaaGreat
