/- CutTiling of impl. No condition. -/
import Derived.Test.YtjogeicoofdlgaaPlCut
namespace Go.Proofs.Ytjogeicoofdlgaa
set_option maxRecDepth 100000
open Go.ChangeShapes Go.WideShapes Go.ChangeAt Go.RowKit Go.Joins

theorem inf_SqC : (Try.prog.info? 52).map (fun i => (i.zero, i.size, i.bytes)) = some (some (Value.agg #[.int .i64 0, .int .i64 0, .int .i64 0]), 3, 24) := by kernel_rfl
theorem ap_sq {w : World} {ops : Array Oper} {rest : List Oper} {o : Oper} {a : Act} {Q : Exit → Act → World → Prop} (hgd : o.guard = none) (s x : Operand)
    (ho : o.op = .call { callee := .builtin .append, args := #[s, x], argTypes := #[22, 22] })
    (base : Nat) (v : Value) (n : Nat) (l : List Int) (hs : a.eval s = v) (hown : w.ownsRow base 52 3 v n (icells l))
    (y0 y1 y2 : Int) (hx : a.eval x = .slice (some ⟨w.heap.size, 0, none⟩) 1 1) (hn : n < 1099511627776) (hbase : base ≤ w.heap.size)
    (h : ∀ v' w', w'.ownsRow base 52 3 v' (n + 1) (icells (l ++ [y0, y1, y2])) → Mine w w' v → wpList Try.prog ops Q rest (a.put o.dst v') w') :
    wpList Try.prog ops Q (o :: rest) a (w.alloc (.cells #[.int .i64 y0, .int .i64 y1, .int .i64 y2] 52)) :=
  ap1 hgd s x 22 ho 52 _ 3 24 Try.underlying22 inf_SqC rfl (by decide) (by decide) base v _ _ hs hown #[.int .i64 y0, .int .i64 y1, .int .i64 y2] hx rfl (by simp [Value.oneCell']) hn hbase
    (fun v' w' h2 h3 => h v' w' (by simpa [icells] using h2) h3)
def GivesC (w : World) (o : Option Nat) (a b : Int) (e : Ending) (w' : World) : Prop :=
  match o with
  | none => e = .returned (.tuple #[.slice none 0 0, .bool false])
  | some k => ∃ v, e = .returned (.tuple #[v, .bool true]) ∧ w'.ownsRow w.heap.size 52 3 v k (icells (cutX a.toNat b.toNat k))
theorem cutO_f {a b : Int} (h : ¬ ((1 ≤ a ∧ a ≤ 200) ∧ (1 ≤ b ∧ b ≤ 200))) : cutO a b = none := by unfold cutO; rw [if_neg h]
theorem cutO_t {a b : Nat} (ha : 1 ≤ a ∧ a ≤ 200) (hb : 1 ≤ b ∧ b ≤ 200) : cutO a b = cutR a b := by
  unfold cutO
  rw [if_pos ⟨⟨by omega, by omega⟩, by omega, by omega⟩]
  simp
theorem cutX_succ (w h k : Nat) : cutX w h (k + 1) = cutX w h k ++ [((stC w h k).x : Int), ((stC w h k).y : Int), ((min (stC w h k).w (stC w h k).h : Nat) : Int)] := rfl
theorem stC_succ (w h k : Nat) : stC w h (k + 1) = stepC (stC w h k) := rfl

set_option maxHeartbeats 1600000 in
theorem iCutT (a b : Nat) (w : World) (ha : 1 ≤ a ∧ a ≤ 200) (hb : 1 ≤ b ∧ b ≤ 200) :
    Calls Try.prog 8 #[.int .i64 (a : Int), .int .i64 (b : Int)] w fun e w' => GivesC w (cutO a b) a b e w' ∧ Ge w w' := by
  rw [cutO_t ha hb]
  have HB := Lib.hid (stC_bd ha.2 hb.2)
  have HX := Lib.hid (cutX_succ a b)
  have HS := Lib.hid (stC_succ a b)
  have HO := Lib.hid (fun n (h : ∀ j, j < n → ¬ stopC a b j) => cut_ord h)
  have HR := Lib.hid (fun k (hk : k ≤ 12) hs h1 => cutR_some (w := a) (h := b) (k := k) hk hs h1)
  have HN : Hid ((∀ j, j < 13 → ¬ stopC a b j) → cutR a b = none) := cutR_none
  have HSt : Hid (∀ k, stopC a b k ↔ (stC a b k).w = 0 ∨ (stC a b k).h = 0) := fun _ => Iff.rfl
  have H0 : Hid ((stC a b 0).w = a ∧ (stC a b 0).h = b ∧ (stC a b 0).x = 0 ∧ (stC a b 0).y = 0 ∧ cutX a b 0 = []) := ⟨rfl, rfl, rfl, rfl, rfl⟩
  generalize cutR a b = CR at *
  go_enter Try.func8, Try.ntmps8
  go_wp2_with fail
  go_loopw [0, 1, 6, 7, 8] (fun p q o x y wr => ∃ (k : Nat) (u : Value), k ≤ 12 ∧ p = .int .i64 ((stC a b k).w : Int) ∧ q = .int .i64 ((stC a b k).h : Int) ∧ o = u ∧ x = .int .i64 ((stC a b k).x : Int) ∧ y = .int .i64 ((stC a b k).y : Int) ∧
    wr.ownsRow w.heap.size 52 3 u k (icells (cutX a b k)) ∧ Hid (∀ j, j < k → ¬ stopC a b j) ∧ Ge w wr) (fun p q _ _ _ _ => (intOf p).toNat + (intOf q).toNat)
  case atStart => exact ⟨0, _, Nat.zero_le _, by rw [H0.out.1], by rw [H0.out.2.1], rfl, by rw [H0.out.2.2.1]; rfl, by rw [H0.out.2.2.2.1]; rfl, by rw [H0.out.2.2.2.2]; exact owns_lit0 _ _ _, fun j hj => by omega, by (repeat (first | with_reducible exact Ge.refl _ | assumption | with_reducible refine Ge.drew ?_ | with_reducible refine Ge.drewN ?_ _ | with_reducible refine Ge.alloc ?_ _ | (with_reducible refine Ge.setCell ?_ (by first | (simp; done) | omega | (simp; omega)) _) | with_reducible refine Ge.trans ?_ (by assumption)))⟩
  case round =>
    obtain ⟨k, u, hk, rfl, rfl, rfl, rfl, rfl, hown, HA, hg⟩ := hrel
    obtain ⟨b1, b2⟩ := HB.out k
    have HXk := Lib.hid (HX.out k)
    have HSk := Lib.hid (HS.out k)
    have HStk := Lib.hid (HSt.out k)
    have HRk := Lib.hid (fun h => HR.out k hk HA.out h)
    have HAn : Hid (¬ stopC a b k → ∀ j, j < k + 1 → ¬ stopC a b j) := fun g j hj => by
      by_cases e : j = k
      · subst e; exact g
      · exact HA.out j (by omega)
    have HOk := Lib.hid (HO.out k HA.out)
    have HOw := Lib.hid hown
    have zg := hg.size
    clear hown
    generalize hst : stC a b k = st at *
    obtain ⟨W, H, X, Y⟩ := st
    simp only at b1 b2 HXk HSk HStk ⊢
    by_cases hs : W = 0 ∨ H = 0
    · have HF := Lib.hid (HRk.out (HStk.out.2 hs))
      obtain ⟨p1, c1, rfl⟩ := owns_form HOw.out
      have HSo := Lib.hid (sortSq (.slice p1 k c1) k (cutX a b k) wr (SlF.of_owns HOw.out) hk HOk.out (.func (.func 32) #[] #[]) rfl)
      clear HRk HAn HOk HXk HSk HStk
      by_cases hw : W = 0
      · subst hw
        clear hs b1 b2
        go_wp2_with (go_at_call 31; ((with_reducible refine (HSo.out).mono ?_); rintro e w' ⟨rfl, g⟩))
        exact bodyPost_ret (v := .tuple #[.slice p1 k c1, .bool true]) (by simp [results, Try.results8, go_sem]) rfl ⟨by rw [HF.out]; exact ⟨_, rfl, Ge.owns g HOw.out⟩, Ge.trans hg g⟩
      · have hh : H = 0 := by omega
        subst hh
        have hw2 : (0 : Int) < (W : Int) := by omega
        clear hs b1 b2
        go_wp2_with (go_at_call 31; ((with_reducible refine (HSo.out).mono ?_); rintro e w' ⟨rfl, g⟩))
        exact bodyPost_ret (v := .tuple #[.slice p1 k c1, .bool true]) (by simp [results, Try.results8, go_sem]) rfl ⟨by rw [HF.out]; exact ⟨_, rfl, Ge.owns g HOw.out⟩, Ge.trans hg g⟩
    · have HA2 := Lib.hid (HAn.out (fun h => hs (HStk.out.1 h)))
      have hw : (0 : Int) < (W : Int) := by omega
      have hh : (0 : Int) < (H : Int) := by omega
      obtain ⟨p1, c1, rfl⟩ := owns_form HOw.out
      clear HRk HAn HOk HStk
      by_cases hk12 : k = 12
      · have HF := Lib.hid (HN.out (fun j hj => HA2.out j (by omega)))
        have tk : ((k : Int) == 12) = true := by simp; omega
        clear HXk HSk HA2 HA
        generalize cutX a b k = L at *
        go_wp2_with fail
        exact bodyPost_ret (v := .tuple #[.slice none 0 0, .bool false]) (by simp [results, Try.results8, go_sem]) rfl ⟨by rw [HF.out]; exact rfl, hg⟩
      · have tk : ((k : Int) == 12) = false := by simp; omega
        by_cases hwh : H < W
        · have tm : min (W : Int) (H : Int) = (H : Int) := by omega
          have e1 : min W H = H := by omega
          have tg : (H : Int) < (W : Int) := by omega
          have HXe := Lib.hid (HXk.out)
          rw [e1] at HXe
          have HSe : Hid (stC a b (k + 1) = ⟨W - H, H, X + H, Y⟩) := by
            show _ = _
            rw [HSk.out]; simp [stepC, hwh]
          clear HXk HSk e1
          generalize cutX a b k = L at *
          go_wp2_with (at_builtin; refine ap_sq rfl _ _ rfl w.heap.size _ k L rfl HOw.out _ _ _ rfl (by omega) zg ?_; intro v' w6 own6 hm6)
          go_roundw
          case rel => exact ⟨k + 1, _, by omega, by rw [HSe.out]; simp only; congr 1; omega, by rw [HSe.out], rfl, by rw [HSe.out]; simp only; congr 1, by rw [HSe.out], by rw [HXe.out]; exact own6, HA2, hg.mine HOw.out (Nat.le_refl _) hm6⟩
          case measure => simp [intOf]; omega
        · have tm : min (W : Int) (H : Int) = (W : Int) := by omega
          have e1 : min W H = W := by omega
          have tg : ¬ (H : Int) < (W : Int) := by omega
          have HXe := Lib.hid (HXk.out)
          rw [e1] at HXe
          have HSe : Hid (stC a b (k + 1) = ⟨W, H - W, X, Y + W⟩) := by
            show _ = _
            rw [HSk.out]; simp [stepC, hwh]
          clear HXk HSk e1
          generalize cutX a b k = L at *
          go_wp2_with (at_builtin; refine ap_sq rfl _ _ rfl w.heap.size _ k L rfl HOw.out _ _ _ rfl (by omega) zg ?_; intro v' w6 own6 hm6)
          go_roundw
          case rel => exact ⟨k + 1, _, by omega, by rw [HSe.out], by rw [HSe.out]; simp only; congr 1; omega, rfl, by rw [HSe.out], by rw [HSe.out]; simp only; congr 1, by rw [HXe.out]; exact own6, HA2, hg.mine HOw.out (Nat.le_refl _) hm6⟩
          case measure => simp [intOf]; omega
end Go.Proofs.Ytjogeicoofdlgaa
