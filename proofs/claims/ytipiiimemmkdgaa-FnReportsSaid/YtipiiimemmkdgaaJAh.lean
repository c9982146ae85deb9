/- NetLines of impl and of the reference. No condition. FnReports, the plain law. No condition. left of impl, l04Minor of the reference; TreeSum, ForestSum of both. No condition. StepChance of impl and of spec. No condition. TreeSum, ForestSum of impl and of the reference. No condition. differ, l11Ok, EscapeChance of impl and of the reference. No condition. -/
import Derived.Test.YtipiiimemmkdgaaJAg
import Derived.Test.YtipiiimemmkdgaaJAd
import Derived.Test.YtipiiimemmkdgaaJAf
import Derived.Test.YtipiiimemmkdgaaJAc
import Derived.Test.YtipiiimemmkdgaaJAb
import Derived.Test.YtipiiimemmkdgaaWLapS
import Derived.Test.YtipiiimemmkdgaaWWeightS
import Derived.Test.YtipiiimemmkdgaaJAa
import Derived.Test.YtipiiimemmkdgaaWNetOkS
import Derived.Test.YtipiiimemmkdgaaWRes
import Derived.Test.YtipiiimemmkdgaaPlChance
namespace Go.Proofs.Ytipiiimemmkdgaa
set_option maxRecDepth 100000
open Go.ChangeShapes Go.WideShapes Go.ChangeAt Go.RowKit Go.Joins

theorem ratioOf_inR (n d : Int) : (-9223372036854775808 ≤ (ratioOf n d).n ∧ (ratioOf n d).n ≤ 9223372036854775807) ∧ (-9223372036854775808 ≤ (ratioOf n d).d ∧ (ratioOf n d).d ≤ 9223372036854775807) := by
  rcases ratioOf_ok n d with h | h
  · rw [h]; decide
  · exact ratio_sm h
theorem respL_in (n e m : Nat) (S : Int) (xs : List Int) (a : Nat) : ∀ k, ∀ x ∈ respL n e m S xs a k, -9223372036854775808 ≤ x ∧ x ≤ 9223372036854775807
  | 0 => fun x hx => by simp [respL] at hx
  | k + 1 => fun x hx => by
    simp only [respL, List.mem_append, List.mem_cons, List.not_mem_nil, or_false] at hx
    have := ratioOf_inR (topZ n e m xs a k) (S * dwnZ n e m xs)
    rcases hx with h | h | h
    · exact respL_in n e m S xs a k x h
    · rw [h]; exact this.1
    · rw [h]; exact this.2
theorem nth_inR {l : List Int} (h : ∀ x ∈ l, -9223372036854775808 ≤ x ∧ x ≤ 9223372036854775807) (j : Nat) : -9223372036854775808 ≤ nth l j ∧ nth l j ≤ 9223372036854775807 := by
  by_cases hj : j < l.length
  · rw [nth_eq l j hj]; exact h _ (List.getElem_mem hj)
  · have : nth l j = 0 := by unfold nth; simp [List.getD_eq_getElem?_getD, List.getElem?_eq_none (by omega : l.length ≤ j)]
    omega
def termT (F R : List UInt8) : List UInt8 := [116, 101, 114, 109, 105, 110, 97, 108, 32] ++ F ++ [58, 32] ++ R
theorem term_eq (F R : List UInt8) : (⟨#[116, 101, 114, 109, 105, 110, 97, 108, 32]⟩ : ByteArray) ++ bstr F ++ ⟨#[58, 32]⟩ ++ bstr R = bstr (termT F R) := by
  rw [show (⟨#[116, 101, 114, 109, 105, 110, 97, 108, 32]⟩ : ByteArray) = bstr [116, 101, 114, 109, 105, 110, 97, 108, 32] from rfl, show (⟨#[58, 32]⟩ : ByteArray) = bstr [58, 32] from rfl, bstr_append, bstr_append, bstr_append]; rfl
/-- The first lines. -/
noncomputable def netLs (n e m : Nat) (S : Int) (xs : List Int) : Nat → List (List UInt8)
  | 0 => [netTxt n e S m xs]
  | k + 1 => netLs n e m S xs k ++ [termT (fmtInt (k : Int)) (rowLine e (respL n e m S xs k e))]
theorem netLs_length (n e m : Nat) (S : Int) (xs : List Int) : ∀ k, (netLs n e m S xs k).length = k + 1
  | 0 => rfl
  | k + 1 => by simp [netLs, netLs_length n e m S xs k]
noncomputable def netLines (N E S : Int) (m : Nat) (xs : List Int) : List (List UInt8) := if netB N E S m xs = true then netLs N.toNat E.toNat m S xs E.toNat else []
theorem netLines_f {N E S : Int} {m : Nat} {xs : List Int} (h : netB N E S m xs = false) : netLines N E S m xs = [] := by simp [netLines, h]
theorem netLines_t {n e : Nat} {S : Int} {m : Nat} {xs : List Int} (h : netB n e S m xs = true) : netLines n e S m xs = netLs n e m S xs e := by simp [netLines, h]
theorem netLines_le (N E S : Int) (m : Nat) (xs : List Int) : (netLines N E S m xs).length ≤ 6 := by
  unfold netLines
  split
  · rename_i h
    obtain ⟨⟨_, h5⟩, ⟨_, h6⟩, _⟩ := netP_of h
    rw [netLs_length]; omega
  · exact Nat.zero_le _
/-- Lines of its own memory. -/
def GivesT (w : World) (l : List (List UInt8)) (e : Ending) (w' : World) : Prop := ∃ v, e = .returned v ∧ w'.ownsRow w.heap.size 9 1 v l.length (scells l) ∧ Ge w w'
theorem owns_oneS {w : World} {b base : Nat} {y : List UInt8} (hb : b = w.heap.size) (h : base ≤ b) : (w.alloc (.cells #[.string (bstr y)] 9)).ownsRow base 9 1 (.slice (some ⟨b, 0, none⟩) 1 1) 1 (scells [y]) := by
  subst hb
  exact ⟨rfl, .inr ⟨w.heap.size, 1, _, rfl, h, heap_alloc_new w _, Nat.le_refl _, by unfold maxLen; omega, rfl, rfl⟩⟩
theorem ap_strX {w : World} {ops : Array Oper} {rest : List Oper} {o : Oper} {a : Act} {Q : Exit → Act → World → Prop} (hgd : o.guard = none) (s x : Operand)
    (ho : o.op = .call { callee := .builtin .append, args := #[s, x], argTypes := #[34, 34] })
    (base : Nat) (v : Value) (l : List (List UInt8)) (k : Nat) (hk : l.length = k) (hs : a.eval s = v) (hown : w.ownsRow base 9 1 v k (scells l))
    (X : ByteArray) (y : List UInt8) (hX : X = bstr y) (hx : a.eval x = .slice (some ⟨w.heap.size, 0, none⟩) 1 1) (hn : k < 1099511627776) (hbase : base ≤ w.heap.size)
    (h : ∀ v' w', w'.ownsRow base 9 1 v' (k + 1) (scells (l ++ [y])) → Mine w w' v → wpList Try.prog ops Q rest (a.put o.dst v') w') :
    wpList Try.prog ops Q (o :: rest) a (w.alloc (.cells #[.string X] 9)) := by
  subst hX
  subst hk
  exact ap_str hgd s x ho base v l hs hown y hx hn hbase (fun v' w' h1 h2 => h v' w' (by simpa using h1) h2)

set_option maxHeartbeats 1600000 in
theorem iNetLinesF (N E S : Int) (s : Value) (m : Nat) (xs : List Int) (w : World) (hs : SlF w s m 3 xs) (hm : m ≤ 9223372036854775807) (hB : netB N E S m xs = false) :
    Calls Try.prog 7 #[.agg #[.int .i64 N, .int .i64 E, .int .i64 S, s]] w (GivesT w (netLines N E S m xs)) := by
  obtain ⟨p, cap, rfl, hc⟩ := hs.open
  have HV := Lib.hid hs
  clear hs hc
  have HR := Lib.hid (fun w' (g : Ge w w') => iResponseOfF N E S (.slice p m cap) m xs w' (HV.out.ge g) hm hB)
  rw [netLines_f hB]
  go_enter Try.func7, Try.ntmps7
  go_wp2_with (go_at_call 25; ((with_reducible refine (HR.out _ (by (repeat (first | with_reducible exact Ge.refl _ | assumption | with_reducible refine Ge.drew ?_ | with_reducible refine Ge.drewN ?_ _ | with_reducible refine Ge.alloc ?_ _ | (with_reducible refine Ge.setCell ?_ (by first | (simp; done) | omega | (simp; omega)) _) | with_reducible refine Ge.trans ?_ (by assumption))))).mono ?_); rintro r w1 ⟨rfl, g1⟩))
  go_ret
  exact ⟨_, rfl, ⟨rfl, .inl ⟨rfl, rfl⟩⟩, by (repeat (first | with_reducible exact Ge.refl _ | assumption | with_reducible refine Ge.drew ?_ | with_reducible refine Ge.drewN ?_ _ | with_reducible refine Ge.alloc ?_ _ | (with_reducible refine Ge.setCell ?_ (by first | (simp; done) | omega | (simp; omega)) _) | with_reducible refine Ge.trans ?_ (by assumption)))⟩

set_option maxHeartbeats 3200000 in
theorem iNetLinesT (n e : Nat) (S : Int) (s : Value) (m : Nat) (xs : List Int) (w : World) (hs : SlF w s m 3 xs) (hm : m ≤ 9223372036854775807) (hB : netB n e S m xs = true) :
    Calls Try.prog 7 #[.agg #[.int .i64 (n : Int), .int .i64 (e : Int), .int .i64 S, s]] w (GivesT w (netLines n e S m xs)) := by
  obtain ⟨⟨h1, h5⟩, ⟨e1, e2⟩, ⟨s1, s2⟩, hok, _⟩ := netP_of hB
  obtain ⟨p, cap, rfl, hc⟩ := hs.open
  have HV := Lib.hid hs
  have HR := Lib.hid (fun w' (g : Ge w w') => iResponseOfT n e S (.slice p m cap) m xs w' (HV.out.ge g) hm hB)
  have HF := Lib.hid (fun w' (g : Ge w w') => iFormatNet n e S (.slice p m cap) m xs w' (HV.out.ge g) hm)
  have HL := Lib.hid (netLines_t hB)
  have HL0 : Hid (netLs n e m S xs 0 = [netTxt n e S m xs]) := rfl
  have HLs : Hid (∀ k : Nat, netLs n e m S xs (k + 1) = netLs n e m S xs k ++ [termT (fmtInt (k : Int)) (rowLine e (respL n e m S xs k e))]) := fun _ => rfl
  have HLn := Lib.hid (netLs_length n e m S xs)
  have HIn := Lib.hid (fun a => nth_inR (respL_in n e m S xs a e))
  clear hs hc hok hB
  obtain ⟨L, hL⟩ : ∃ L, netLs n e m S xs = L := ⟨_, rfl⟩
  obtain ⟨R, hR⟩ : ∃ R : Nat → List Int, R = fun a => respL n e m S xs a e := ⟨_, rfl⟩
  have hR' : ∀ a, respL n e m S xs a e = R a := fun a => by rw [hR]
  rw [hL] at HL0 HLs HLn HL
  simp only [hR'] at HLs HIn HR
  clear hL hR hR'
  generalize netTxt n e S m xs = NT at *
  go_enter Try.func7, Try.ntmps7
  go_wp2_with (first
    | ((go_at_call 25; ((with_reducible refine (HR.out _ (by (repeat (first | with_reducible exact Ge.refl _ | assumption | with_reducible refine Ge.drew ?_ | with_reducible refine Ge.drewN ?_ _ | with_reducible refine Ge.alloc ?_ _ | (with_reducible refine Ge.setCell ?_ (by first | (simp; done) | omega | (simp; omega)) _) | with_reducible refine Ge.trans ?_ (by assumption))))).mono ?_); rintro r w1 ⟨vm, rfl, hM, g1⟩)); obtain ⟨bm, om, cm, rfl, hrow⟩ := hM; replace hrow := Lib.hid hrow; have b0 := Ge.keep g1 (cell_new (i := 0) rfl rfl); have b1 := Ge.keep g1 (cell_new (i := 1) rfl rfl); have b2 := Ge.keep g1 (cell_new (i := 2) rfl rfl); have b3 := Ge.keep g1 (cell_new (i := 3) rfl rfl); have z1 := g1.size; (simp at b0 b1 b2 b3 z1); have G1 : Ge w w1 := (by (repeat (first | with_reducible exact Ge.refl _ | assumption | with_reducible refine Ge.drew ?_ | with_reducible refine Ge.drewN ?_ _ | with_reducible refine Ge.alloc ?_ _ | (with_reducible refine Ge.setCell ?_ (by first | (simp; done) | omega | (simp; omega)) _) | with_reducible refine Ge.trans ?_ (by assumption)))))
    | ((go_at_call 8; ((with_reducible refine (HF.out _ (by (repeat (first | with_reducible exact Ge.refl _ | assumption | with_reducible refine Ge.drew ?_ | with_reducible refine Ge.drewN ?_ _ | with_reducible refine Ge.alloc ?_ _ | (with_reducible refine Ge.setCell ?_ (by first | (simp; done) | omega | (simp; omega)) _) | with_reducible refine Ge.trans ?_ (by assumption))))).mono ?_); rintro r w2 ⟨rfl, g2⟩)); have G2 : Ge w w2 := (by (repeat (first | with_reducible exact Ge.refl _ | assumption | with_reducible refine Ge.drew ?_ | with_reducible refine Ge.drewN ?_ _ | with_reducible refine Ge.alloc ?_ _ | (with_reducible refine Ge.setCell ?_ (by first | (simp; done) | omega | (simp; omega)) _) | with_reducible refine Ge.trans ?_ (by assumption)))); have z2 := g2.size))
  go_loopw [5, 20] (fun o i wr => ∃ a : Nat, a ≤ e ∧ i = .int .i64 a ∧ wr.ownsRow w2.heap.size 9 1 o (a + 1) (scells (L a)) ∧ Ge w2 wr) (fun _ i _ => e - (intOf i).toNat)
  case atStart => exact ⟨0, Nat.zero_le _, rfl, by rw [HL0.out]; exact owns_oneS rfl (Nat.le_refl _), Ge.alloc (Ge.refl _) _⟩
  case round =>
    obtain ⟨a, ha, rfl, hown, hg⟩ := hrel
    have zg := hg.size
    by_cases hlt : a < e
    · obtain ⟨pr, cr, x0, hrw⟩ := hrow.out a hlt
      have x0r := hg.keep (g2.keep x0)
      have HRw := Lib.hid (Sl.ge hrw (Ge.trans g2 hg))
      have HO := Lib.hid hown
      have HS := Lib.hid (HLs.out a)
      have hLn := Lib.hid (HLn.out a)
      have HFr := Lib.hid (fun w' (g : Ge wr w') => iFormatRow (.slice pr e cr) e (R a) w' (HRw.out.ge g) (by omega) (HIn.out a))
      have HFi := Lib.hid (fun w' => iFormatInt (a : Int) w' (by omega) (by omega))
      have f1 := fmtInt_length (a : Int)
      have f2 := rowLine_le e (R a)
      rw [← bstr_size] at f1 f2
      clear hown x0 hrw
      generalize rowLine e (R a) = TR at *
      generalize fmtInt (a : Int) = TF at *
      have HTm := Lib.hid (term_eq TF TR)
      have u0 : ¬ (9223372036854775807 < 9 + (bstr TF).size) := by omega
      have u1 : ¬ (9223372036854775807 < 9 + (bstr TF).size + 2) := by omega
      have u2 : ¬ (9223372036854775807 < 9 + (bstr TF).size + 2 + (bstr TR).size) := by omega
      generalize L a = LA at *
      go_wp2_with (first
        | (go_at_call 11; ((with_reducible refine (HFi.out _).mono ?_); rintro r w5 ⟨rfl, rfl⟩))
        | ((go_at_call 14; ((with_reducible refine (HFr.out _ (Ge.refl _)).mono ?_); rintro r w6 ⟨rfl, g6⟩)); have G6 : Ge wr w6 := g6; have own6 := G6.owns HO.out; have z6 := G6.size)
        | (at_builtin; refine ap_strX rfl _ _ rfl w2.heap.size _ LA (a + 1) hLn.out rfl own6 _ (termT TF TR) HTm.out rfl (by omega) (by omega) ?_; intro v8 w8 own8 m8))
      go_roundw
      case rel => exact ⟨a + 1, by omega, by go_num, by rw [HS.out]; exact own8, (Ge.trans hg G6).mine own6 (Nat.le_refl _) m8⟩
      case measure => simp [intOf]; omega
    · have hae : a = e := by omega
      subst hae
      have HO := Lib.hid hown
      clear hown
      go_wp2_with fail
      go_ret
      exact ⟨_, rfl, by rw [HL.out, HLn.out]; exact owns_mono HO.out G2.size, by (repeat (first | with_reducible exact Ge.refl _ | assumption | with_reducible refine Ge.drew ?_ | with_reducible refine Ge.drewN ?_ _ | with_reducible refine Ge.alloc ?_ _ | (with_reducible refine Ge.setCell ?_ (by first | (simp; done) | omega | (simp; omega)) _) | with_reducible refine Ge.trans ?_ (by assumption)))⟩

theorem iNetLines (N E S : Int) (s : Value) (m : Nat) (xs : List Int) (w : World) (hs : SlF w s m 3 xs) (hm : m ≤ 9223372036854775807) :
    Calls Try.prog 7 #[.agg #[.int .i64 N, .int .i64 E, .int .i64 S, s]] w (GivesT w (netLines N E S m xs)) := by
  cases hB : netB N E S m xs with
  | false => exact iNetLinesF N E S s m xs w hs hm hB
  | true =>
    obtain ⟨⟨h1, h5⟩, ⟨e1, e2⟩, _⟩ := netP_of hB
    obtain ⟨n, rfl⟩ : ∃ n : Nat, N = (n : Int) := ⟨N.toNat, by omega⟩
    obtain ⟨e, rfl⟩ : ∃ e : Nat, E = (e : Int) := ⟨E.toNat, by omega⟩
    exact iNetLinesT n e S s m xs w hs hm hB

end Go.Proofs.Ytipiiimemmkdgaa

namespace Go.Proofs.Ytipiiimemmkdgaa

theorem redV_lt {e : Nat} {x : NwR} (h : ¬ redV e x < 0) : 1 ≤ x.n := by
  unfold redV at h
  split at h
  · rcases firstN_bd x.n e x.l.length (flatW x.l) 2 with h1 | ⟨_, h1, _⟩ <;> omega
  · rcases firstN_bd x.n e x.l.length (flatW x.l) 1 with h1 | ⟨_, h1, _⟩ <;> omega
theorem redN_less {e : Nat} {x y : NwR} (h : redN e x = some y) : y.n < x.n := by
  unfold redN at h
  split at h
  · cases h
  · rename_i hv
    have := redV_lt hv
    split at h
    · simp only [Option.some.injEq] at h
      subst h
      show x.n - 1 < x.n
      omega
    · cases h
theorem redK_add {e : Nat} {x y z : NwR} (h : redN e x = some y) : ∀ {k : Nat}, redK e y k = some z → redK e x (k + 1) = some z
  | 0, h1 => by simp only [redK, Option.some.injEq] at h1; subst h1; simp [redK, h]
  | k + 1, h1 => by
    simp only [redK] at h1
    cases hk : redK e y k with
    | none => rw [hk] at h1; cases h1
    | some u =>
      rw [hk] at h1
      have := redK_add h hk
      exact redK_succ this (by simpa using h1)
theorem red_end (e : Nat) : ∀ (n : Nat) (x : NwR), x.n ≤ n → ∃ k y, redK e x k = some y ∧ redN e y = none
  | n, x, hn => by
    cases h : redN e x with
    | none => exact ⟨0, x, rfl, h⟩
    | some y =>
      have hl := redN_less h
      match n, hn with
      | 0, hn => omega
      | n + 1, hn =>
        obtain ⟨k, z, h1, h2⟩ := red_end e n y (by omega)
        exact ⟨k + 1, z, redK_add h h1, h2⟩
theorem redLine_ne (e : Nat) (x : NwR) : ¬ redLine e x = [] := by
  obtain ⟨k, y, h1, h2⟩ := red_end e x.n x (Nat.le_refl _)
  rw [redLine_eq h1 h2]
  unfold redT
  have := fmtInt_pos (k : Int)
  intro h
  have h3 := congrArg List.length h
  simp at h3
theorem reduceTxt_ne {N E S : Int} {m : Nat} {xs : List Int} (h : netB N E S m xs = true) : ¬ reduceTxt N E S m xs = [] := by
  unfold reduceTxt
  rw [if_pos h]
  exact redLine_ne _ _
theorem netLs_first (n e m : Nat) (S : Int) (xs : List Int) : ∀ k, (netLs n e m S xs k)[0]? = some (netTxt n e S m xs)
  | 0 => rfl
  | k + 1 => by
    simp only [netLs]
    rw [List.getElem?_append_left (by rw [netLs_length]; omega)]
    exact netLs_first n e m S xs k
end Go.Proofs.Ytipiiimemmkdgaa

namespace Go.Proofs.Ytipiiimemmkdgaa
set_option maxRecDepth 100000
open Go.ChangeShapes Go.WideShapes Go.ChangeAt Go.RowKit Go.Joins

set_option maxHeartbeats 1600000 in
theorem iLeft (n : Nat) (E S : Int) (s : Value) (m : Nat) (xs : List Int) (vr vc : Value) (r c : List Int) (w : World) (hs : SlF w s m 3 xs) (hB : netB n E S m xs = true)
    (hr : SlI w vr r) (hc : SlI w vc c) (lr : r.length ≤ 1000) (lc : c.length ≤ 1000) (h4 : (without n r).length ≤ 4) :
    Calls Try.prog 27 #[.agg #[.int .i64 (n : Int), .int .i64 E, .int .i64 S, s], vr, vc] w fun e w' => e = .returned (.int .i64 (minorV n m xs r c)) ∧ Ge w w' := by
  obtain ⟨⟨h1, h5⟩, _, _, hok, _⟩ := netP_of hB
  have hm : m ≤ 10 := prs_len (by omega) hok
  have HV := Lib.hid hs
  have HR := Lib.hid hr
  have HC := Lib.hid hc
  obtain ⟨p, cap, rfl, _⟩ := hs.open
  have HL := Lib.hid (fun w' (g : Ge w w') => iLaplacianOf n E S (.slice p m cap) m xs w' (HV.out.ge g) hB)
  have HOr := Lib.hid (fun w' (g : Ge w w') => iOthers n E S (.slice p m cap) vr r w' rfl (by omega) (HR.out.ge g) lr)
  have HOc := Lib.hid (fun w' (g : Ge w w') => iOthers n E S (.slice p m cap) vc c w' rfl (by omega) (HC.out.ge g) lc)
  have HD := Lib.hid (fun vL vR vC w' (hL : SlMM w' vL n (lapZ xs m)) (hR : SlI w' vR (without n r)) (hC : SlI w' vC (without n c)) (hvr : ∀ p k c, vR = .slice p k c → k ≤ c) (hvc : ∀ p k c, vC = .slice p k c → k ≤ c) => iDet n (lapZ xs m) (lapZ_bd hok hm) (without n r) (without n c) vL vR vC w' hL hR hC hvr h4 (Nat.le_trans (without_len n c) (by omega)) without_below without_below)
  have HM : Hid (detF (lapZ xs m) (without n r) (without n c) = minorV n m xs r c) := rfl
  clear hs hok hB hr hc
  go_enter Try.func27, Try.ntmps27
  go_wp2_with fail
  have hS : ∀ w', Ge (w.alloc (.cells #[.int .i64 (n : Int), .int .i64 E, .int .i64 S, .slice p m cap] 25)) w' → (w'.cell? ⟨w.heap.size, 0, none⟩ = some (.int .i64 (n : Int)) ∧ w'.cell? ⟨w.heap.size, 1, none⟩ = some (.int .i64 E) ∧ w'.cell? ⟨w.heap.size, 2, none⟩ = some (.int .i64 S) ∧ w'.cell? ⟨w.heap.size, 3, none⟩ = some (.slice p m cap) ∧ Ge w w') := fun w' g => ⟨g.keep (by (repeat (first | assumption | with_reducible exact Ge.refl _ | with_reducible refine cv_drew ?_ | with_reducible refine cv_alloc ?_ | with_reducible refine cv_set ?_ | (with_reducible apply cv_some; assumption) | with_reducible refine cell_drew ?_ | with_reducible refine cell_drewN ?_ | ((with_reducible refine cell_new ?_ ?_); (focus (simp; done)); rfl) | with_reducible refine cell_alloc ?_ | with_reducible refine cell_same2 ?_ | ((with_reducible refine cell_set2 ?_ ?_); focus (first | (simp; done) | (intro hE; simp at hE; done) | (intro hE; simp at hE; omega))) | with_reducible refine Ge.drew ?_ | with_reducible refine Ge.drewN ?_ _ | with_reducible refine Ge.alloc ?_ _ | ((with_reducible refine Ge.setCell ?_ ?_ _); rotate_left; focus (first | (simp; done) | omega | (simp; omega))) | with_reducible refine Ge.trans ?_ (by assumption) | with_reducible refine Ge.keep (by assumption) ?_))), g.keep (by (repeat (first | assumption | with_reducible exact Ge.refl _ | with_reducible refine cv_drew ?_ | with_reducible refine cv_alloc ?_ | with_reducible refine cv_set ?_ | (with_reducible apply cv_some; assumption) | with_reducible refine cell_drew ?_ | with_reducible refine cell_drewN ?_ | ((with_reducible refine cell_new ?_ ?_); (focus (simp; done)); rfl) | with_reducible refine cell_alloc ?_ | with_reducible refine cell_same2 ?_ | ((with_reducible refine cell_set2 ?_ ?_); focus (first | (simp; done) | (intro hE; simp at hE; done) | (intro hE; simp at hE; omega))) | with_reducible refine Ge.drew ?_ | with_reducible refine Ge.drewN ?_ _ | with_reducible refine Ge.alloc ?_ _ | ((with_reducible refine Ge.setCell ?_ ?_ _); rotate_left; focus (first | (simp; done) | omega | (simp; omega))) | with_reducible refine Ge.trans ?_ (by assumption) | with_reducible refine Ge.keep (by assumption) ?_))), g.keep (by (repeat (first | assumption | with_reducible exact Ge.refl _ | with_reducible refine cv_drew ?_ | with_reducible refine cv_alloc ?_ | with_reducible refine cv_set ?_ | (with_reducible apply cv_some; assumption) | with_reducible refine cell_drew ?_ | with_reducible refine cell_drewN ?_ | ((with_reducible refine cell_new ?_ ?_); (focus (simp; done)); rfl) | with_reducible refine cell_alloc ?_ | with_reducible refine cell_same2 ?_ | ((with_reducible refine cell_set2 ?_ ?_); focus (first | (simp; done) | (intro hE; simp at hE; done) | (intro hE; simp at hE; omega))) | with_reducible refine Ge.drew ?_ | with_reducible refine Ge.drewN ?_ _ | with_reducible refine Ge.alloc ?_ _ | ((with_reducible refine Ge.setCell ?_ ?_ _); rotate_left; focus (first | (simp; done) | omega | (simp; omega))) | with_reducible refine Ge.trans ?_ (by assumption) | with_reducible refine Ge.keep (by assumption) ?_))), g.keep (by (repeat (first | assumption | with_reducible exact Ge.refl _ | with_reducible refine cv_drew ?_ | with_reducible refine cv_alloc ?_ | with_reducible refine cv_set ?_ | (with_reducible apply cv_some; assumption) | with_reducible refine cell_drew ?_ | with_reducible refine cell_drewN ?_ | ((with_reducible refine cell_new ?_ ?_); (focus (simp; done)); rfl) | with_reducible refine cell_alloc ?_ | with_reducible refine cell_same2 ?_ | ((with_reducible refine cell_set2 ?_ ?_); focus (first | (simp; done) | (intro hE; simp at hE; done) | (intro hE; simp at hE; omega))) | with_reducible refine Ge.drew ?_ | with_reducible refine Ge.drewN ?_ _ | with_reducible refine Ge.alloc ?_ _ | ((with_reducible refine Ge.setCell ?_ ?_ _); rotate_left; focus (first | (simp; done) | omega | (simp; omega))) | with_reducible refine Ge.trans ?_ (by assumption) | with_reducible refine Ge.keep (by assumption) ?_))), Ge.trans (by (repeat (first | assumption | with_reducible exact Ge.refl _ | with_reducible refine cv_drew ?_ | with_reducible refine cv_alloc ?_ | with_reducible refine cv_set ?_ | (with_reducible apply cv_some; assumption) | with_reducible refine cell_drew ?_ | with_reducible refine cell_drewN ?_ | ((with_reducible refine cell_new ?_ ?_); (focus (simp; done)); rfl) | with_reducible refine cell_alloc ?_ | with_reducible refine cell_same2 ?_ | ((with_reducible refine cell_set2 ?_ ?_); focus (first | (simp; done) | (intro hE; simp at hE; done) | (intro hE; simp at hE; omega))) | with_reducible refine Ge.drew ?_ | with_reducible refine Ge.drewN ?_ _ | with_reducible refine Ge.alloc ?_ _ | ((with_reducible refine Ge.setCell ?_ ?_ _); rotate_left; focus (first | (simp; done) | omega | (simp; omega))) | with_reducible refine Ge.trans ?_ (by assumption) | with_reducible refine Ge.keep (by assumption) ?_))) g⟩
  go_region_held3 (fun w' => w'.cell? ⟨w.heap.size, 0, none⟩ = some (.int .i64 (n : Int)) ∧ w'.cell? ⟨w.heap.size, 1, none⟩ = some (.int .i64 E) ∧ w'.cell? ⟨w.heap.size, 2, none⟩ = some (.int .i64 S) ∧ w'.cell? ⟨w.heap.size, 3, none⟩ = some (.slice p m cap) ∧ Ge w w') (first | ((with_reducible refine hS _ ?_); (repeat (first | assumption | with_reducible exact Ge.refl _ | with_reducible refine cv_drew ?_ | with_reducible refine cv_alloc ?_ | with_reducible refine cv_set ?_ | (with_reducible apply cv_some; assumption) | with_reducible refine cell_drew ?_ | with_reducible refine cell_drewN ?_ | ((with_reducible refine cell_new ?_ ?_); (focus (simp; done)); rfl) | with_reducible refine cell_alloc ?_ | with_reducible refine cell_same2 ?_ | ((with_reducible refine cell_set2 ?_ ?_); focus (first | (simp; done) | (intro hE; simp at hE; done) | (intro hE; simp at hE; omega))) | with_reducible refine Ge.drew ?_ | with_reducible refine Ge.drewN ?_ _ | with_reducible refine Ge.alloc ?_ _ | ((with_reducible refine Ge.setCell ?_ ?_ _); rotate_left; focus (first | (simp; done) | omega | (simp; omega))) | with_reducible refine Ge.trans ?_ (by assumption) | with_reducible refine Ge.keep (by assumption) ?_)); done) | fail) (first | (go_at_call 40; ((with_reducible refine (HL.out _ (by (repeat (first | assumption | with_reducible exact Ge.refl _ | with_reducible refine cv_drew ?_ | with_reducible refine cv_alloc ?_ | with_reducible refine cv_set ?_ | (with_reducible apply cv_some; assumption) | with_reducible refine cell_drew ?_ | with_reducible refine cell_drewN ?_ | ((with_reducible refine cell_new ?_ ?_); (focus (simp; done)); rfl) | with_reducible refine cell_alloc ?_ | with_reducible refine cell_same2 ?_ | ((with_reducible refine cell_set2 ?_ ?_); focus (first | (simp; done) | (intro hE; simp at hE; done) | (intro hE; simp at hE; omega))) | with_reducible refine Ge.drew ?_ | with_reducible refine Ge.drewN ?_ _ | with_reducible refine Ge.alloc ?_ _ | ((with_reducible refine Ge.setCell ?_ ?_ _); rotate_left; focus (first | (simp; done) | omega | (simp; omega))) | with_reducible refine Ge.trans ?_ (by assumption) | with_reducible refine Ge.keep (by assumption) ?_)))).mono ?_); rintro e wL ⟨vL, rfl, hL, hb⟩)) | (go_at_call 41; ((with_reducible refine (HOr.out _ (by (repeat (first | assumption | with_reducible exact Ge.refl _ | with_reducible refine cv_drew ?_ | with_reducible refine cv_alloc ?_ | with_reducible refine cv_set ?_ | (with_reducible apply cv_some; assumption) | with_reducible refine cell_drew ?_ | with_reducible refine cell_drewN ?_ | ((with_reducible refine cell_new ?_ ?_); (focus (simp; done)); rfl) | with_reducible refine cell_alloc ?_ | with_reducible refine cell_same2 ?_ | ((with_reducible refine cell_set2 ?_ ?_); focus (first | (simp; done) | (intro hE; simp at hE; done) | (intro hE; simp at hE; omega))) | with_reducible refine Ge.drew ?_ | with_reducible refine Ge.drewN ?_ _ | with_reducible refine Ge.alloc ?_ _ | ((with_reducible refine Ge.setCell ?_ ?_ _); rotate_left; focus (first | (simp; done) | omega | (simp; omega))) | with_reducible refine Ge.trans ?_ (by assumption) | with_reducible refine Ge.keep (by assumption) ?_)))).mono ?_); rintro e wR ⟨vR, rfl, hR, cR, hb⟩)) | (go_at_call 41; ((with_reducible refine (HOc.out _ (by (repeat (first | assumption | with_reducible exact Ge.refl _ | with_reducible refine cv_drew ?_ | with_reducible refine cv_alloc ?_ | with_reducible refine cv_set ?_ | (with_reducible apply cv_some; assumption) | with_reducible refine cell_drew ?_ | with_reducible refine cell_drewN ?_ | ((with_reducible refine cell_new ?_ ?_); (focus (simp; done)); rfl) | with_reducible refine cell_alloc ?_ | with_reducible refine cell_same2 ?_ | ((with_reducible refine cell_set2 ?_ ?_); focus (first | (simp; done) | (intro hE; simp at hE; done) | (intro hE; simp at hE; omega))) | with_reducible refine Ge.drew ?_ | with_reducible refine Ge.drewN ?_ _ | with_reducible refine Ge.alloc ?_ _ | ((with_reducible refine Ge.setCell ?_ ?_ _); rotate_left; focus (first | (simp; done) | omega | (simp; omega))) | with_reducible refine Ge.trans ?_ (by assumption) | with_reducible refine Ge.keep (by assumption) ?_)))).mono ?_); rintro e wC ⟨vC, rfl, hC, cC, hb⟩)) | (go_at_call 39; ((with_reducible refine (HD.out vL vR vC _ (SlMM.ge hL (by (repeat (first | assumption | with_reducible exact Ge.refl _ | with_reducible refine cv_drew ?_ | with_reducible refine cv_alloc ?_ | with_reducible refine cv_set ?_ | (with_reducible apply cv_some; assumption) | with_reducible refine cell_drew ?_ | with_reducible refine cell_drewN ?_ | ((with_reducible refine cell_new ?_ ?_); (focus (simp; done)); rfl) | with_reducible refine cell_alloc ?_ | with_reducible refine cell_same2 ?_ | ((with_reducible refine cell_set2 ?_ ?_); focus (first | (simp; done) | (intro hE; simp at hE; done) | (intro hE; simp at hE; omega))) | with_reducible refine Ge.drew ?_ | with_reducible refine Ge.drewN ?_ _ | with_reducible refine Ge.alloc ?_ _ | ((with_reducible refine Ge.setCell ?_ ?_ _); rotate_left; focus (first | (simp; done) | omega | (simp; omega))) | with_reducible refine Ge.trans ?_ (by assumption) | with_reducible refine Ge.keep (by assumption) ?_)))) (SlI.ge hR (by (repeat (first | assumption | with_reducible exact Ge.refl _ | with_reducible refine cv_drew ?_ | with_reducible refine cv_alloc ?_ | with_reducible refine cv_set ?_ | (with_reducible apply cv_some; assumption) | with_reducible refine cell_drew ?_ | with_reducible refine cell_drewN ?_ | ((with_reducible refine cell_new ?_ ?_); (focus (simp; done)); rfl) | with_reducible refine cell_alloc ?_ | with_reducible refine cell_same2 ?_ | ((with_reducible refine cell_set2 ?_ ?_); focus (first | (simp; done) | (intro hE; simp at hE; done) | (intro hE; simp at hE; omega))) | with_reducible refine Ge.drew ?_ | with_reducible refine Ge.drewN ?_ _ | with_reducible refine Ge.alloc ?_ _ | ((with_reducible refine Ge.setCell ?_ ?_ _); rotate_left; focus (first | (simp; done) | omega | (simp; omega))) | with_reducible refine Ge.trans ?_ (by assumption) | with_reducible refine Ge.keep (by assumption) ?_)))) (SlI.ge hC (by (repeat (first | assumption | with_reducible exact Ge.refl _ | with_reducible refine cv_drew ?_ | with_reducible refine cv_alloc ?_ | with_reducible refine cv_set ?_ | (with_reducible apply cv_some; assumption) | with_reducible refine cell_drew ?_ | with_reducible refine cell_drewN ?_ | ((with_reducible refine cell_new ?_ ?_); (focus (simp; done)); rfl) | with_reducible refine cell_alloc ?_ | with_reducible refine cell_same2 ?_ | ((with_reducible refine cell_set2 ?_ ?_); focus (first | (simp; done) | (intro hE; simp at hE; done) | (intro hE; simp at hE; omega))) | with_reducible refine Ge.drew ?_ | with_reducible refine Ge.drewN ?_ _ | with_reducible refine Ge.alloc ?_ _ | ((with_reducible refine Ge.setCell ?_ ?_ _); rotate_left; focus (first | (simp; done) | omega | (simp; omega))) | with_reducible refine Ge.trans ?_ (by assumption) | with_reducible refine Ge.keep (by assumption) ?_)))) cR cC).mono ?_); rintro e wD ⟨rfl, hb⟩)) | fail)
  rename_i hHeldX
  obtain ⟨q0, q1, q2, q3, G7⟩ := hHeldX
  clear hS
  all_goals
    go_wp2_with fail
    go_ret
    exact ⟨ret_int HM.out, by (repeat (first | with_reducible exact Ge.refl _ | assumption | with_reducible refine Ge.drew ?_ | with_reducible refine Ge.drewN ?_ _ | with_reducible refine Ge.alloc ?_ _ | (with_reducible refine Ge.setCell ?_ (by first | (simp; done) | omega | (simp; omega)) _) | with_reducible refine Ge.trans ?_ (by assumption)))⟩

end Go.Proofs.Ytipiiimemmkdgaa

namespace Go.Proofs.Ytipiiimemmkdgaa
set_option maxRecDepth 100000
open Go.ChangeShapes Go.WideShapes Go.ChangeAt Go.RowKit Go.Joins

/-- a and b are nodes of a valid network. -/
noncomputable def node2B (N E S : Int) (m : Nat) (xs : List Int) (a b : Int) : Bool := netB N E S m xs && (decide (0 ≤ a ∧ a < N) && decide (0 ≤ b ∧ b < N))
theorem node2_f0 {N E S : Int} {m : Nat} {xs : List Int} {a b : Int} (h : netB N E S m xs = false) : node2B N E S m xs a b = false := by simp [node2B, h]
theorem node2_f1 {N E S : Int} {m : Nat} {xs : List Int} {a b : Int} (h : ¬ (0 ≤ a ∧ a < N)) : node2B N E S m xs a b = false := by simp [node2B, h]
theorem node2_f2 {N E S : Int} {m : Nat} {xs : List Int} {a b : Int} (h : ¬ (0 ≤ b ∧ b < N)) : node2B N E S m xs a b = false := by simp [node2B, h]
theorem node2_t {N E S : Int} {m : Nat} {xs : List Int} {a b : Int} (h : netB N E S m xs = true) (h1 : 0 ≤ a ∧ a < N) (h2 : 0 ≤ b ∧ b < N) : node2B N E S m xs a b = true := by simp [node2B, h, h1, h2]

noncomputable def stepR (N E S : Int) (m : Nat) (xs : List Int) (v u : Int) : Rt := if node2B N E S m xs v u = true ∧ N ≠ 1 then ratioOf (wbet xs m v u) (wat xs v m) else zeroR
noncomputable def stepB (N E S : Int) (m : Nat) (xs : List Int) (v u : Int) : Bool := node2B N E S m xs v u && decide (N ≠ 1)
theorem step_f {N E S : Int} {m : Nat} {xs : List Int} {v u : Int} (h : node2B N E S m xs v u = false) : stepR N E S m xs v u = ⟨0, 0⟩ ∧ stepB N E S m xs v u = false := by simp [stepR, stepB, h, zeroR]
theorem step_1 {N E S : Int} {m : Nat} {xs : List Int} {v u : Int} (h : N = 1) : stepR N E S m xs v u = ⟨0, 0⟩ ∧ stepB N E S m xs v u = false := by simp [stepR, stepB, h, zeroR]
theorem step_t {N E S : Int} {m : Nat} {xs : List Int} {v u : Int} (h : node2B N E S m xs v u = true) (h1 : ¬ N = 1) : stepR N E S m xs v u = ratioOf (wbet xs m v u) (wat xs v m) ∧ stepB N E S m xs v u = true := by simp [stepR, stepB, h, h1]

end Go.Proofs.Ytipiiimemmkdgaa

namespace Go.Proofs.Ytipiiimemmkdgaa
set_option maxRecDepth 100000
open Go.ChangeShapes Go.WideShapes Go.ChangeAt Go.RowKit Go.Joins

theorem slI_lit {w : World} {b : Nat} (hb : b = w.heap.size) (l : List Int) {cs : Array Value} (hcs : cs = (icells l).toArray) {k : Nat} (hk : k = l.length) : SlI (w.alloc (.cells cs 3)) (.slice (some ⟨b, 0, none⟩) k k) l := by
  subst hb hcs hk
  refine ⟨by simp [icells_length], _, _, rfl, fun j u hu => ⟨_, 0, rfl, ?_⟩⟩
  rw [Nat.zero_add]
  exact cell_new rfl (by simpa using hu)
theorem slI_one {w : World} {b : Nat} (hb : b = w.heap.size) (x : Int) : SlI (w.alloc (.cells #[.int .i64 x] 3)) (.slice (some ⟨b, 0, none⟩) 1 1) [x] := slI_lit hb [x] rfl rfl
theorem slI_two {w : World} {b : Nat} (hb : b = w.heap.size) (x y : Int) : SlI (w.alloc (.cells #[.int .i64 x, .int .i64 y] 3)) (.slice (some ⟨b, 0, none⟩) 2 2) [x, y] := slI_lit hb [x, y] rfl rfl
theorem without_4 {n : Nat} {l : List Int} {x : Int} (hn : n ≤ 5) (hx : x ∈ l) (h0 : 0 ≤ x) (h1 : x < n) : (without n l).length ≤ 4 := by
  have := without_lt hx h0 h1
  omega

set_option maxHeartbeats 1600000 in
theorem iTreeSum1 (n : Nat) (E S : Int) (s : Value) (m : Nat) (xs : List Int) (w : World) (hs : SlF w s m 3 xs) (hm : m ≤ 9223372036854775807) (hB : netB n E S m xs = true) :
    Calls Try.prog 12 #[.agg #[.int .i64 (n : Int), .int .i64 E, .int .i64 S, s]] w fun e w' => e = .returned (.int .i64 (treeT n m xs)) ∧ Ge w w' := by
  obtain ⟨p, cap, rfl, hc⟩ := hs.open
  have HV := Lib.hid hs
  clear hs hc
  obtain ⟨⟨n1, n2⟩, _⟩ := netP_of hB
  have HL := Lib.hid (fun v1 v2 w' (g : Ge w w') (h1 : SlI w' v1 [0]) (h2 : SlI w' v2 [0]) => iLeft n E S (.slice p m cap) m xs v1 v2 [0] [0] w' (HV.out.ge g) hB h1 h2 (by simp) (by simp) (without_4 (x := 0) (by omega) (by simp) (by omega) (by omega)))
  go_enter Try.func12, Try.ntmps12
  go_wp2_with (first
    | ((go_at_call 20; ((with_reducible refine (iNetOk n E S _ m xs _ (HV.out.ge (Ge.alloc (Ge.refl w) _)) hm).mono ?_); rintro e w1 ⟨rfl, gw1⟩); have Gw1 : Ge w w1 := (Ge.trans (by (repeat (first | with_reducible exact Ge.refl _ | assumption | with_reducible refine Ge.drew ?_ | with_reducible refine Ge.drewN ?_ _ | with_reducible refine Ge.alloc ?_ _ | (with_reducible refine Ge.setCell ?_ (by first | (simp; done) | omega | (simp; omega)) _) | with_reducible refine Ge.trans ?_ (by assumption)))) gw1); have c0_0 : World.cell? w1 ⟨w.heap.size, 0, none⟩ = some (.int .i64 (n : Int)) := Ge.keep gw1 (by repeat (first | assumption | exact (own_new (by simp) rfl).1 | with_reducible refine cell_drew ?_ | with_reducible refine cell_drewN ?_ | with_reducible refine cell_alloc ?_ | (simp [*]; done))); have c0_1 : World.cell? w1 ⟨w.heap.size, 1, none⟩ = some (.int .i64 E) := Ge.keep gw1 (by repeat (first | assumption | exact (own_new (by simp) rfl).1 | with_reducible refine cell_drew ?_ | with_reducible refine cell_drewN ?_ | with_reducible refine cell_alloc ?_ | (simp [*]; done))); have c0_2 : World.cell? w1 ⟨w.heap.size, 2, none⟩ = some (.int .i64 S) := Ge.keep gw1 (by repeat (first | assumption | exact (own_new (by simp) rfl).1 | with_reducible refine cell_drew ?_ | with_reducible refine cell_drewN ?_ | with_reducible refine cell_alloc ?_ | (simp [*]; done))); have c0_3 : World.cell? w1 ⟨w.heap.size, 3, none⟩ = some (.slice p m cap) := Ge.keep gw1 (by repeat (first | assumption | exact (own_new (by simp) rfl).1 | with_reducible refine cell_drew ?_ | with_reducible refine cell_drewN ?_ | with_reducible refine cell_alloc ?_ | (simp [*]; done))); have zw1 : w.heap.size + 1 ≤ w1.heap.size := (by have := Ge.size gw1; (try simp at this); omega)); rw [hB])
    | (go_at_call 27; ((with_reducible refine (HL.out _ _ _ (by (repeat (first | with_reducible exact Ge.refl _ | assumption | with_reducible refine Ge.drew ?_ | with_reducible refine Ge.drewN ?_ _ | with_reducible refine Ge.alloc ?_ _ | (with_reducible refine Ge.setCell ?_ (by first | (simp; done) | omega | (simp; omega)) _) | with_reducible refine Ge.trans ?_ (by assumption)))) (SlI.ge (slI_one rfl 0) (Ge.alloc (Ge.refl _) _)) (slI_one (by simp) 0)).mono ?_); rintro e w2 ⟨rfl, g2⟩)))
  go_ret
  exact ⟨rfl, by (repeat (first | with_reducible exact Ge.refl _ | assumption | with_reducible refine Ge.drew ?_ | with_reducible refine Ge.drewN ?_ _ | with_reducible refine Ge.alloc ?_ _ | (with_reducible refine Ge.setCell ?_ (by first | (simp; done) | omega | (simp; omega)) _) | with_reducible refine Ge.trans ?_ (by assumption)))⟩
theorem iTreeSum (N E S : Int) (s : Value) (m : Nat) (xs : List Int) (w : World) (hs : SlF w s m 3 xs) (hm : m ≤ 9223372036854775807) :
    Calls Try.prog 12 #[.agg #[.int .i64 N, .int .i64 E, .int .i64 S, s]] w fun e w' => e = .returned (.int .i64 (treeV N E S m xs)) ∧ Ge w w' := by
  cases hB : netB N E S m xs with
  | true =>
    obtain ⟨⟨n1, n2⟩, _⟩ := netP_of hB
    obtain ⟨n, rfl⟩ : ∃ n : Nat, N = (n : Int) := ⟨N.toNat, by omega⟩
    rw [treeV_t hB]
    exact iTreeSum1 n E S s m xs w hs hm hB
  | false =>
    have HF : Hid (treeV N E S m xs = 0) := treeV_f hB
    obtain ⟨p, cap, rfl, hc⟩ := hs.open
    have HV := Lib.hid hs
    clear hs hc
    go_enter Try.func12, Try.ntmps12
    go_wp2_with ((go_at_call 20; ((with_reducible refine (iNetOk N E S _ m xs _ (HV.out.ge (Ge.alloc (Ge.refl w) _)) hm).mono ?_); rintro e w1 ⟨rfl, gw1⟩); have Gw1 : Ge w w1 := (Ge.trans (by (repeat (first | with_reducible exact Ge.refl _ | assumption | with_reducible refine Ge.drew ?_ | with_reducible refine Ge.drewN ?_ _ | with_reducible refine Ge.alloc ?_ _ | (with_reducible refine Ge.setCell ?_ (by first | (simp; done) | omega | (simp; omega)) _) | with_reducible refine Ge.trans ?_ (by assumption)))) gw1); have c0_0 : World.cell? w1 ⟨w.heap.size, 0, none⟩ = some (.int .i64 N) := Ge.keep gw1 (by repeat (first | assumption | exact (own_new (by simp) rfl).1 | with_reducible refine cell_drew ?_ | with_reducible refine cell_drewN ?_ | with_reducible refine cell_alloc ?_ | (simp [*]; done))); have c0_1 : World.cell? w1 ⟨w.heap.size, 1, none⟩ = some (.int .i64 E) := Ge.keep gw1 (by repeat (first | assumption | exact (own_new (by simp) rfl).1 | with_reducible refine cell_drew ?_ | with_reducible refine cell_drewN ?_ | with_reducible refine cell_alloc ?_ | (simp [*]; done))); have c0_2 : World.cell? w1 ⟨w.heap.size, 2, none⟩ = some (.int .i64 S) := Ge.keep gw1 (by repeat (first | assumption | exact (own_new (by simp) rfl).1 | with_reducible refine cell_drew ?_ | with_reducible refine cell_drewN ?_ | with_reducible refine cell_alloc ?_ | (simp [*]; done))); have c0_3 : World.cell? w1 ⟨w.heap.size, 3, none⟩ = some (.slice p m cap) := Ge.keep gw1 (by repeat (first | assumption | exact (own_new (by simp) rfl).1 | with_reducible refine cell_drew ?_ | with_reducible refine cell_drewN ?_ | with_reducible refine cell_alloc ?_ | (simp [*]; done))); have zw1 : w.heap.size + 1 ≤ w1.heap.size := (by have := Ge.size gw1; (try simp at this); omega)); rw [hB])
    go_ret
    exact ⟨ret_int HF.out.symm, by (repeat (first | with_reducible exact Ge.refl _ | assumption | with_reducible refine Ge.drew ?_ | with_reducible refine Ge.drewN ?_ _ | with_reducible refine Ge.alloc ?_ _ | (with_reducible refine Ge.setCell ?_ (by first | (simp; done) | omega | (simp; omega)) _) | with_reducible refine Ge.trans ?_ (by assumption)))⟩

set_option maxHeartbeats 3200000 in
theorem iForestSum1 (n : Nat) (E S : Int) (s : Value) (m : Nat) (xs : List Int) (a b : Int) (w : World) (hs : SlF w s m 3 xs) (hm : m ≤ 9223372036854775807) (hB : netB n E S m xs = true) :
    Calls Try.prog 23 #[.agg #[.int .i64 (n : Int), .int .i64 E, .int .i64 S, s], .int .i64 a, .int .i64 b] w fun e w' => e = .returned (.int .i64 (forV n E S m xs a b)) ∧ Ge w w' := by
  obtain ⟨p, cap, rfl, hc⟩ := hs.open
  have HV := Lib.hid hs
  clear hs hc
  obtain ⟨⟨n1, n2⟩, _⟩ := netP_of hB
  have HL := Lib.hid (fun v1 v2 w' (g : Ge w w') (h0 : 0 ≤ a) (h0' : a < n) (h1 : SlI w' v1 [a, b]) (h2 : SlI w' v2 [a, b]) => iLeft n E S (.slice p m cap) m xs v1 v2 [a, b] [a, b] w' (HV.out.ge g) hB h1 h2 (by simp) (by simp) (without_4 (x := a) (by omega) (by simp) h0 h0'))
  by_cases ha : 0 ≤ a ∧ a < (n : Int)
  · have ia : nodeB n a = true := nodeB_t ⟨ha.1, ha.2⟩
    by_cases hb : 0 ≤ b ∧ b < (n : Int)
    · have ib : nodeB n b = true := nodeB_t ⟨hb.1, hb.2⟩
      by_cases hab : a = b
      · have HF : Hid (forV n E S m xs a b = 0) := forV_f (fun h => h.2.2.2 hab)
        subst hab
        have t : (a == a) = true := by simp
        clear ha hb
        go_enter Try.func23, Try.ntmps23
        go_wp2_with (first | ((go_at_call 20; ((with_reducible refine (iNetOk n E S _ m xs _ (HV.out.ge (Ge.alloc (Ge.refl w) _)) hm).mono ?_); rintro e w1 ⟨rfl, gw1⟩); have Gw1 : Ge w w1 := (Ge.trans (by (repeat (first | with_reducible exact Ge.refl _ | assumption | with_reducible refine Ge.drew ?_ | with_reducible refine Ge.drewN ?_ _ | with_reducible refine Ge.alloc ?_ _ | (with_reducible refine Ge.setCell ?_ (by first | (simp; done) | omega | (simp; omega)) _) | with_reducible refine Ge.trans ?_ (by assumption)))) gw1); have c0_0 : World.cell? w1 ⟨w.heap.size, 0, none⟩ = some (.int .i64 (n : Int)) := Ge.keep gw1 (by repeat (first | assumption | exact (own_new (by simp) rfl).1 | with_reducible refine cell_drew ?_ | with_reducible refine cell_drewN ?_ | with_reducible refine cell_alloc ?_ | (simp [*]; done))); have c0_1 : World.cell? w1 ⟨w.heap.size, 1, none⟩ = some (.int .i64 E) := Ge.keep gw1 (by repeat (first | assumption | exact (own_new (by simp) rfl).1 | with_reducible refine cell_drew ?_ | with_reducible refine cell_drewN ?_ | with_reducible refine cell_alloc ?_ | (simp [*]; done))); have c0_2 : World.cell? w1 ⟨w.heap.size, 2, none⟩ = some (.int .i64 S) := Ge.keep gw1 (by repeat (first | assumption | exact (own_new (by simp) rfl).1 | with_reducible refine cell_drew ?_ | with_reducible refine cell_drewN ?_ | with_reducible refine cell_alloc ?_ | (simp [*]; done))); have c0_3 : World.cell? w1 ⟨w.heap.size, 3, none⟩ = some (.slice p m cap) := Ge.keep gw1 (by repeat (first | assumption | exact (own_new (by simp) rfl).1 | with_reducible refine cell_drew ?_ | with_reducible refine cell_drewN ?_ | with_reducible refine cell_alloc ?_ | (simp [*]; done))); have zw1 : w.heap.size + 1 ≤ w1.heap.size := (by have := Ge.size gw1; (try simp at this); omega)); rw [hB]) | ((go_at_call 21; ((with_reducible refine (isNodeI n E S (.slice p m cap) _ _ rfl).mono ?_); rintro e wn ⟨rfl, gwn⟩); have Gwn : Ge w wn := (Ge.trans (by (repeat (first | with_reducible exact Ge.refl _ | assumption | with_reducible refine Ge.drew ?_ | with_reducible refine Ge.drewN ?_ _ | with_reducible refine Ge.alloc ?_ _ | (with_reducible refine Ge.setCell ?_ (by first | (simp; done) | omega | (simp; omega)) _) | with_reducible refine Ge.trans ?_ (by assumption)))) gwn); have c0_0 : World.cell? wn ⟨w.heap.size, 0, none⟩ = some (.int .i64 (n : Int)) := Ge.keep gwn (by repeat (first | assumption | exact (own_new (by simp) rfl).1 | with_reducible refine cell_drew ?_ | with_reducible refine cell_drewN ?_ | with_reducible refine cell_alloc ?_ | (simp [*]; done))); have c0_1 : World.cell? wn ⟨w.heap.size, 1, none⟩ = some (.int .i64 E) := Ge.keep gwn (by repeat (first | assumption | exact (own_new (by simp) rfl).1 | with_reducible refine cell_drew ?_ | with_reducible refine cell_drewN ?_ | with_reducible refine cell_alloc ?_ | (simp [*]; done))); have c0_2 : World.cell? wn ⟨w.heap.size, 2, none⟩ = some (.int .i64 S) := Ge.keep gwn (by repeat (first | assumption | exact (own_new (by simp) rfl).1 | with_reducible refine cell_drew ?_ | with_reducible refine cell_drewN ?_ | with_reducible refine cell_alloc ?_ | (simp [*]; done))); have c0_3 : World.cell? wn ⟨w.heap.size, 3, none⟩ = some (.slice p m cap) := Ge.keep gwn (by repeat (first | assumption | exact (own_new (by simp) rfl).1 | with_reducible refine cell_drew ?_ | with_reducible refine cell_drewN ?_ | with_reducible refine cell_alloc ?_ | (simp [*]; done))); have zwn : w.heap.size + 1 ≤ wn.heap.size := (by have := Ge.size gwn; (try simp at this); omega))))
        go_ret
        exact ⟨ret_int HF.out.symm, by (repeat (first | with_reducible exact Ge.refl _ | assumption | with_reducible refine Ge.drew ?_ | with_reducible refine Ge.drewN ?_ _ | with_reducible refine Ge.alloc ?_ _ | (with_reducible refine Ge.setCell ?_ (by first | (simp; done) | omega | (simp; omega)) _) | with_reducible refine Ge.trans ?_ (by assumption)))⟩
      · have HF : Hid (forV n E S m xs a b = forT n m xs a b) := forV_t hB ha hb hab
        replace HL := Lib.hid (fun v1 v2 w' (g : Ge w w') => HL.out v1 v2 w' g ha.1 ha.2)
        have t : (a == b) = false := by simp [hab]
        clear ha hb hab
        go_enter Try.func23, Try.ntmps23
        go_wp2_with (first | ((go_at_call 20; ((with_reducible refine (iNetOk n E S _ m xs _ (HV.out.ge (Ge.alloc (Ge.refl w) _)) hm).mono ?_); rintro e w1 ⟨rfl, gw1⟩); have Gw1 : Ge w w1 := (Ge.trans (by (repeat (first | with_reducible exact Ge.refl _ | assumption | with_reducible refine Ge.drew ?_ | with_reducible refine Ge.drewN ?_ _ | with_reducible refine Ge.alloc ?_ _ | (with_reducible refine Ge.setCell ?_ (by first | (simp; done) | omega | (simp; omega)) _) | with_reducible refine Ge.trans ?_ (by assumption)))) gw1); have c0_0 : World.cell? w1 ⟨w.heap.size, 0, none⟩ = some (.int .i64 (n : Int)) := Ge.keep gw1 (by repeat (first | assumption | exact (own_new (by simp) rfl).1 | with_reducible refine cell_drew ?_ | with_reducible refine cell_drewN ?_ | with_reducible refine cell_alloc ?_ | (simp [*]; done))); have c0_1 : World.cell? w1 ⟨w.heap.size, 1, none⟩ = some (.int .i64 E) := Ge.keep gw1 (by repeat (first | assumption | exact (own_new (by simp) rfl).1 | with_reducible refine cell_drew ?_ | with_reducible refine cell_drewN ?_ | with_reducible refine cell_alloc ?_ | (simp [*]; done))); have c0_2 : World.cell? w1 ⟨w.heap.size, 2, none⟩ = some (.int .i64 S) := Ge.keep gw1 (by repeat (first | assumption | exact (own_new (by simp) rfl).1 | with_reducible refine cell_drew ?_ | with_reducible refine cell_drewN ?_ | with_reducible refine cell_alloc ?_ | (simp [*]; done))); have c0_3 : World.cell? w1 ⟨w.heap.size, 3, none⟩ = some (.slice p m cap) := Ge.keep gw1 (by repeat (first | assumption | exact (own_new (by simp) rfl).1 | with_reducible refine cell_drew ?_ | with_reducible refine cell_drewN ?_ | with_reducible refine cell_alloc ?_ | (simp [*]; done))); have zw1 : w.heap.size + 1 ≤ w1.heap.size := (by have := Ge.size gw1; (try simp at this); omega)); rw [hB]) | ((go_at_call 21; ((with_reducible refine (isNodeI n E S (.slice p m cap) _ _ rfl).mono ?_); rintro e wn ⟨rfl, gwn⟩); have Gwn : Ge w wn := (Ge.trans (by (repeat (first | with_reducible exact Ge.refl _ | assumption | with_reducible refine Ge.drew ?_ | with_reducible refine Ge.drewN ?_ _ | with_reducible refine Ge.alloc ?_ _ | (with_reducible refine Ge.setCell ?_ (by first | (simp; done) | omega | (simp; omega)) _) | with_reducible refine Ge.trans ?_ (by assumption)))) gwn); have c0_0 : World.cell? wn ⟨w.heap.size, 0, none⟩ = some (.int .i64 (n : Int)) := Ge.keep gwn (by repeat (first | assumption | exact (own_new (by simp) rfl).1 | with_reducible refine cell_drew ?_ | with_reducible refine cell_drewN ?_ | with_reducible refine cell_alloc ?_ | (simp [*]; done))); have c0_1 : World.cell? wn ⟨w.heap.size, 1, none⟩ = some (.int .i64 E) := Ge.keep gwn (by repeat (first | assumption | exact (own_new (by simp) rfl).1 | with_reducible refine cell_drew ?_ | with_reducible refine cell_drewN ?_ | with_reducible refine cell_alloc ?_ | (simp [*]; done))); have c0_2 : World.cell? wn ⟨w.heap.size, 2, none⟩ = some (.int .i64 S) := Ge.keep gwn (by repeat (first | assumption | exact (own_new (by simp) rfl).1 | with_reducible refine cell_drew ?_ | with_reducible refine cell_drewN ?_ | with_reducible refine cell_alloc ?_ | (simp [*]; done))); have c0_3 : World.cell? wn ⟨w.heap.size, 3, none⟩ = some (.slice p m cap) := Ge.keep gwn (by repeat (first | assumption | exact (own_new (by simp) rfl).1 | with_reducible refine cell_drew ?_ | with_reducible refine cell_drewN ?_ | with_reducible refine cell_alloc ?_ | (simp [*]; done))); have zwn : w.heap.size + 1 ≤ wn.heap.size := (by have := Ge.size gwn; (try simp at this); omega))) | (go_at_call 27; ((with_reducible refine (HL.out _ _ _ (by (repeat (first | with_reducible exact Ge.refl _ | assumption | with_reducible refine Ge.drew ?_ | with_reducible refine Ge.drewN ?_ _ | with_reducible refine Ge.alloc ?_ _ | (with_reducible refine Ge.setCell ?_ (by first | (simp; done) | omega | (simp; omega)) _) | with_reducible refine Ge.trans ?_ (by assumption)))) (SlI.ge (slI_two rfl a b) (Ge.alloc (Ge.refl _) _)) (slI_two (by simp) a b)).mono ?_); rintro e w2 ⟨rfl, g2⟩)))
        go_ret
        exact ⟨ret_int HF.out.symm, by (repeat (first | with_reducible exact Ge.refl _ | assumption | with_reducible refine Ge.drew ?_ | with_reducible refine Ge.drewN ?_ _ | with_reducible refine Ge.alloc ?_ _ | (with_reducible refine Ge.setCell ?_ (by first | (simp; done) | omega | (simp; omega)) _) | with_reducible refine Ge.trans ?_ (by assumption)))⟩
    · have ib : nodeB n b = false := nodeB_f hb
      have HF : Hid (forV n E S m xs a b = 0) := forV_f (fun h => hb h.2.2.1)
      clear ha hb
      go_enter Try.func23, Try.ntmps23
      go_wp2_with (first | ((go_at_call 20; ((with_reducible refine (iNetOk n E S _ m xs _ (HV.out.ge (Ge.alloc (Ge.refl w) _)) hm).mono ?_); rintro e w1 ⟨rfl, gw1⟩); have Gw1 : Ge w w1 := (Ge.trans (by (repeat (first | with_reducible exact Ge.refl _ | assumption | with_reducible refine Ge.drew ?_ | with_reducible refine Ge.drewN ?_ _ | with_reducible refine Ge.alloc ?_ _ | (with_reducible refine Ge.setCell ?_ (by first | (simp; done) | omega | (simp; omega)) _) | with_reducible refine Ge.trans ?_ (by assumption)))) gw1); have c0_0 : World.cell? w1 ⟨w.heap.size, 0, none⟩ = some (.int .i64 (n : Int)) := Ge.keep gw1 (by repeat (first | assumption | exact (own_new (by simp) rfl).1 | with_reducible refine cell_drew ?_ | with_reducible refine cell_drewN ?_ | with_reducible refine cell_alloc ?_ | (simp [*]; done))); have c0_1 : World.cell? w1 ⟨w.heap.size, 1, none⟩ = some (.int .i64 E) := Ge.keep gw1 (by repeat (first | assumption | exact (own_new (by simp) rfl).1 | with_reducible refine cell_drew ?_ | with_reducible refine cell_drewN ?_ | with_reducible refine cell_alloc ?_ | (simp [*]; done))); have c0_2 : World.cell? w1 ⟨w.heap.size, 2, none⟩ = some (.int .i64 S) := Ge.keep gw1 (by repeat (first | assumption | exact (own_new (by simp) rfl).1 | with_reducible refine cell_drew ?_ | with_reducible refine cell_drewN ?_ | with_reducible refine cell_alloc ?_ | (simp [*]; done))); have c0_3 : World.cell? w1 ⟨w.heap.size, 3, none⟩ = some (.slice p m cap) := Ge.keep gw1 (by repeat (first | assumption | exact (own_new (by simp) rfl).1 | with_reducible refine cell_drew ?_ | with_reducible refine cell_drewN ?_ | with_reducible refine cell_alloc ?_ | (simp [*]; done))); have zw1 : w.heap.size + 1 ≤ w1.heap.size := (by have := Ge.size gw1; (try simp at this); omega)); rw [hB]) | ((go_at_call 21; ((with_reducible refine (isNodeI n E S (.slice p m cap) _ _ rfl).mono ?_); rintro e wn ⟨rfl, gwn⟩); have Gwn : Ge w wn := (Ge.trans (by (repeat (first | with_reducible exact Ge.refl _ | assumption | with_reducible refine Ge.drew ?_ | with_reducible refine Ge.drewN ?_ _ | with_reducible refine Ge.alloc ?_ _ | (with_reducible refine Ge.setCell ?_ (by first | (simp; done) | omega | (simp; omega)) _) | with_reducible refine Ge.trans ?_ (by assumption)))) gwn); have c0_0 : World.cell? wn ⟨w.heap.size, 0, none⟩ = some (.int .i64 (n : Int)) := Ge.keep gwn (by repeat (first | assumption | exact (own_new (by simp) rfl).1 | with_reducible refine cell_drew ?_ | with_reducible refine cell_drewN ?_ | with_reducible refine cell_alloc ?_ | (simp [*]; done))); have c0_1 : World.cell? wn ⟨w.heap.size, 1, none⟩ = some (.int .i64 E) := Ge.keep gwn (by repeat (first | assumption | exact (own_new (by simp) rfl).1 | with_reducible refine cell_drew ?_ | with_reducible refine cell_drewN ?_ | with_reducible refine cell_alloc ?_ | (simp [*]; done))); have c0_2 : World.cell? wn ⟨w.heap.size, 2, none⟩ = some (.int .i64 S) := Ge.keep gwn (by repeat (first | assumption | exact (own_new (by simp) rfl).1 | with_reducible refine cell_drew ?_ | with_reducible refine cell_drewN ?_ | with_reducible refine cell_alloc ?_ | (simp [*]; done))); have c0_3 : World.cell? wn ⟨w.heap.size, 3, none⟩ = some (.slice p m cap) := Ge.keep gwn (by repeat (first | assumption | exact (own_new (by simp) rfl).1 | with_reducible refine cell_drew ?_ | with_reducible refine cell_drewN ?_ | with_reducible refine cell_alloc ?_ | (simp [*]; done))); have zwn : w.heap.size + 1 ≤ wn.heap.size := (by have := Ge.size gwn; (try simp at this); omega))))
      go_ret
      exact ⟨ret_int HF.out.symm, by (repeat (first | with_reducible exact Ge.refl _ | assumption | with_reducible refine Ge.drew ?_ | with_reducible refine Ge.drewN ?_ _ | with_reducible refine Ge.alloc ?_ _ | (with_reducible refine Ge.setCell ?_ (by first | (simp; done) | omega | (simp; omega)) _) | with_reducible refine Ge.trans ?_ (by assumption)))⟩
  · have ia : nodeB n a = false := nodeB_f ha
    have HF : Hid (forV n E S m xs a b = 0) := forV_f (fun h => ha h.2.1)
    clear ha
    go_enter Try.func23, Try.ntmps23
    go_wp2_with (first | ((go_at_call 20; ((with_reducible refine (iNetOk n E S _ m xs _ (HV.out.ge (Ge.alloc (Ge.refl w) _)) hm).mono ?_); rintro e w1 ⟨rfl, gw1⟩); have Gw1 : Ge w w1 := (Ge.trans (by (repeat (first | with_reducible exact Ge.refl _ | assumption | with_reducible refine Ge.drew ?_ | with_reducible refine Ge.drewN ?_ _ | with_reducible refine Ge.alloc ?_ _ | (with_reducible refine Ge.setCell ?_ (by first | (simp; done) | omega | (simp; omega)) _) | with_reducible refine Ge.trans ?_ (by assumption)))) gw1); have c0_0 : World.cell? w1 ⟨w.heap.size, 0, none⟩ = some (.int .i64 (n : Int)) := Ge.keep gw1 (by repeat (first | assumption | exact (own_new (by simp) rfl).1 | with_reducible refine cell_drew ?_ | with_reducible refine cell_drewN ?_ | with_reducible refine cell_alloc ?_ | (simp [*]; done))); have c0_1 : World.cell? w1 ⟨w.heap.size, 1, none⟩ = some (.int .i64 E) := Ge.keep gw1 (by repeat (first | assumption | exact (own_new (by simp) rfl).1 | with_reducible refine cell_drew ?_ | with_reducible refine cell_drewN ?_ | with_reducible refine cell_alloc ?_ | (simp [*]; done))); have c0_2 : World.cell? w1 ⟨w.heap.size, 2, none⟩ = some (.int .i64 S) := Ge.keep gw1 (by repeat (first | assumption | exact (own_new (by simp) rfl).1 | with_reducible refine cell_drew ?_ | with_reducible refine cell_drewN ?_ | with_reducible refine cell_alloc ?_ | (simp [*]; done))); have c0_3 : World.cell? w1 ⟨w.heap.size, 3, none⟩ = some (.slice p m cap) := Ge.keep gw1 (by repeat (first | assumption | exact (own_new (by simp) rfl).1 | with_reducible refine cell_drew ?_ | with_reducible refine cell_drewN ?_ | with_reducible refine cell_alloc ?_ | (simp [*]; done))); have zw1 : w.heap.size + 1 ≤ w1.heap.size := (by have := Ge.size gw1; (try simp at this); omega)); rw [hB]) | ((go_at_call 21; ((with_reducible refine (isNodeI n E S (.slice p m cap) _ _ rfl).mono ?_); rintro e wn ⟨rfl, gwn⟩); have Gwn : Ge w wn := (Ge.trans (by (repeat (first | with_reducible exact Ge.refl _ | assumption | with_reducible refine Ge.drew ?_ | with_reducible refine Ge.drewN ?_ _ | with_reducible refine Ge.alloc ?_ _ | (with_reducible refine Ge.setCell ?_ (by first | (simp; done) | omega | (simp; omega)) _) | with_reducible refine Ge.trans ?_ (by assumption)))) gwn); have c0_0 : World.cell? wn ⟨w.heap.size, 0, none⟩ = some (.int .i64 (n : Int)) := Ge.keep gwn (by repeat (first | assumption | exact (own_new (by simp) rfl).1 | with_reducible refine cell_drew ?_ | with_reducible refine cell_drewN ?_ | with_reducible refine cell_alloc ?_ | (simp [*]; done))); have c0_1 : World.cell? wn ⟨w.heap.size, 1, none⟩ = some (.int .i64 E) := Ge.keep gwn (by repeat (first | assumption | exact (own_new (by simp) rfl).1 | with_reducible refine cell_drew ?_ | with_reducible refine cell_drewN ?_ | with_reducible refine cell_alloc ?_ | (simp [*]; done))); have c0_2 : World.cell? wn ⟨w.heap.size, 2, none⟩ = some (.int .i64 S) := Ge.keep gwn (by repeat (first | assumption | exact (own_new (by simp) rfl).1 | with_reducible refine cell_drew ?_ | with_reducible refine cell_drewN ?_ | with_reducible refine cell_alloc ?_ | (simp [*]; done))); have c0_3 : World.cell? wn ⟨w.heap.size, 3, none⟩ = some (.slice p m cap) := Ge.keep gwn (by repeat (first | assumption | exact (own_new (by simp) rfl).1 | with_reducible refine cell_drew ?_ | with_reducible refine cell_drewN ?_ | with_reducible refine cell_alloc ?_ | (simp [*]; done))); have zwn : w.heap.size + 1 ≤ wn.heap.size := (by have := Ge.size gwn; (try simp at this); omega))))
    go_ret
    exact ⟨ret_int HF.out.symm, by (repeat (first | with_reducible exact Ge.refl _ | assumption | with_reducible refine Ge.drew ?_ | with_reducible refine Ge.drewN ?_ _ | with_reducible refine Ge.alloc ?_ _ | (with_reducible refine Ge.setCell ?_ (by first | (simp; done) | omega | (simp; omega)) _) | with_reducible refine Ge.trans ?_ (by assumption)))⟩
theorem iForestSum (N E S : Int) (s : Value) (m : Nat) (xs : List Int) (a b : Int) (w : World) (hs : SlF w s m 3 xs) (hm : m ≤ 9223372036854775807) :
    Calls Try.prog 23 #[.agg #[.int .i64 N, .int .i64 E, .int .i64 S, s], .int .i64 a, .int .i64 b] w fun e w' => e = .returned (.int .i64 (forV N E S m xs a b)) ∧ Ge w w' := by
  cases hB : netB N E S m xs with
  | true =>
    obtain ⟨⟨n1, n2⟩, _⟩ := netP_of hB
    obtain ⟨n, rfl⟩ : ∃ n : Nat, N = (n : Int) := ⟨N.toNat, by omega⟩
    exact iForestSum1 n E S s m xs a b w hs hm hB
  | false =>
    have HF : Hid (forV N E S m xs a b = 0) := forV_f (fun h => by rw [hB] at h; cases h.1)
    obtain ⟨p, cap, rfl, hc⟩ := hs.open
    have HV := Lib.hid hs
    clear hs hc
    go_enter Try.func23, Try.ntmps23
    go_wp2_with ((go_at_call 20; ((with_reducible refine (iNetOk N E S _ m xs _ (HV.out.ge (Ge.alloc (Ge.refl w) _)) hm).mono ?_); rintro e w1 ⟨rfl, gw1⟩); have Gw1 : Ge w w1 := (Ge.trans (by (repeat (first | with_reducible exact Ge.refl _ | assumption | with_reducible refine Ge.drew ?_ | with_reducible refine Ge.drewN ?_ _ | with_reducible refine Ge.alloc ?_ _ | (with_reducible refine Ge.setCell ?_ (by first | (simp; done) | omega | (simp; omega)) _) | with_reducible refine Ge.trans ?_ (by assumption)))) gw1); have c0_0 : World.cell? w1 ⟨w.heap.size, 0, none⟩ = some (.int .i64 N) := Ge.keep gw1 (by repeat (first | assumption | exact (own_new (by simp) rfl).1 | with_reducible refine cell_drew ?_ | with_reducible refine cell_drewN ?_ | with_reducible refine cell_alloc ?_ | (simp [*]; done))); have c0_1 : World.cell? w1 ⟨w.heap.size, 1, none⟩ = some (.int .i64 E) := Ge.keep gw1 (by repeat (first | assumption | exact (own_new (by simp) rfl).1 | with_reducible refine cell_drew ?_ | with_reducible refine cell_drewN ?_ | with_reducible refine cell_alloc ?_ | (simp [*]; done))); have c0_2 : World.cell? w1 ⟨w.heap.size, 2, none⟩ = some (.int .i64 S) := Ge.keep gw1 (by repeat (first | assumption | exact (own_new (by simp) rfl).1 | with_reducible refine cell_drew ?_ | with_reducible refine cell_drewN ?_ | with_reducible refine cell_alloc ?_ | (simp [*]; done))); have c0_3 : World.cell? w1 ⟨w.heap.size, 3, none⟩ = some (.slice p m cap) := Ge.keep gw1 (by repeat (first | assumption | exact (own_new (by simp) rfl).1 | with_reducible refine cell_drew ?_ | with_reducible refine cell_drewN ?_ | with_reducible refine cell_alloc ?_ | (simp [*]; done))); have zw1 : w.heap.size + 1 ≤ w1.heap.size := (by have := Ge.size gw1; (try simp at this); omega)); rw [hB])
    go_ret
    exact ⟨ret_int HF.out.symm, by (repeat (first | with_reducible exact Ge.refl _ | assumption | with_reducible refine Ge.drew ?_ | with_reducible refine Ge.drewN ?_ _ | with_reducible refine Ge.alloc ?_ _ | (with_reducible refine Ge.setCell ?_ (by first | (simp; done) | omega | (simp; omega)) _) | with_reducible refine Ge.trans ?_ (by assumption)))⟩

end Go.Proofs.Ytipiiimemmkdgaa

namespace Go.Proofs.Ytipiiimemmkdgaa
set_option maxRecDepth 100000
open Go.ChangeShapes Go.WideShapes Go.ChangeAt Go.RowKit Go.Joins

end Go.Proofs.Ytipiiimemmkdgaa
