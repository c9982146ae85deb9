/- NetLines of impl and of the reference. No condition. markWireS, markNet. No condition. The law FnExactNetLines, walked. No condition. The law FnExactNetLines returns true for all arguments. No condition. -/
import Derived.Test.YtppabikbepdobaaJResp
import Derived.Test.YtppabikbepdobaaWFormatRow
import Derived.Test.YtppabikbepdobaaWFormatNet
import Derived.Test.YtppabikbepdobaaWStr
import Derived.Test.YtppabikbepdobaaWFlat
import Derived.Test.YtppabikbepdobaaWEqInt
import Derived.Test.YtppabikbepdobaaWLaw
import Derived.Test.YtppabikbepdobaaWStrArg
import Derived.Test.YtppabikbepdobaaWNetArg
import Derived.Test.YtppabikbepdobaaRBase
import Derived.Test.YtppabikbepdobaaRNet
namespace Go.Proofs.Ytppabikbepdobaa
set_option maxRecDepth 100000
open Go.ChangeShapes Go.WideShapes Go.ChangeAt Go.RowKit Go.Joins

theorem ratioOf_inR (n d : Int) : (-9223372036854775808 ≤ (ratioOf n d).n ∧ (ratioOf n d).n ≤ 9223372036854775807) ∧ (-9223372036854775808 ≤ (ratioOf n d).d ∧ (ratioOf n d).d ≤ 9223372036854775807) := by
  rcases ratioOf_ok n d with h | h
  · rw [h]; decide
  · exact ratio_sm h
theorem respL_in (n e m : Nat) (S : Int) (xs : List Int) (a : Nat) : ∀ k, ∀ x ∈ respL n e m S xs a k, -9223372036854775808 ≤ x ∧ x ≤ 9223372036854775807
  | 0 => fun x hx => by simp [respL] at hx
  | k + 1 => fun x hx => by
    simp only [respL, List.mem_append, List.mem_cons, List.not_mem_nil, or_false] at hx
    have := ratioOf_inR (topZ n e m xs a k) (S * dwnZ n e m xs)
    rcases hx with h | h | h
    · exact respL_in n e m S xs a k x h
    · rw [h]; exact this.1
    · rw [h]; exact this.2
theorem nth_inR {l : List Int} (h : ∀ x ∈ l, -9223372036854775808 ≤ x ∧ x ≤ 9223372036854775807) (j : Nat) : -9223372036854775808 ≤ nth l j ∧ nth l j ≤ 9223372036854775807 := by
  by_cases hj : j < l.length
  · rw [nth_eq l j hj]; exact h _ (List.getElem_mem hj)
  · have : nth l j = 0 := by unfold nth; simp [List.getD_eq_getElem?_getD, List.getElem?_eq_none (by omega : l.length ≤ j)]
    omega
def termT (F R : List UInt8) : List UInt8 := [116, 101, 114, 109, 105, 110, 97, 108, 32] ++ F ++ [58, 32] ++ R
theorem term_eq (F R : List UInt8) : (⟨#[116, 101, 114, 109, 105, 110, 97, 108, 32]⟩ : ByteArray) ++ bstr F ++ ⟨#[58, 32]⟩ ++ bstr R = bstr (termT F R) := by
  rw [show (⟨#[116, 101, 114, 109, 105, 110, 97, 108, 32]⟩ : ByteArray) = bstr [116, 101, 114, 109, 105, 110, 97, 108, 32] from rfl, show (⟨#[58, 32]⟩ : ByteArray) = bstr [58, 32] from rfl, bstr_append, bstr_append, bstr_append]; rfl
/-- The first lines. -/
noncomputable def netLs (n e m : Nat) (S : Int) (xs : List Int) : Nat → List (List UInt8)
  | 0 => [netTxt n e S m xs]
  | k + 1 => netLs n e m S xs k ++ [termT (fmtInt (k : Int)) (rowLine e (respL n e m S xs k e))]
theorem netLs_length (n e m : Nat) (S : Int) (xs : List Int) : ∀ k, (netLs n e m S xs k).length = k + 1
  | 0 => rfl
  | k + 1 => by simp [netLs, netLs_length n e m S xs k]
noncomputable def netLines (N E S : Int) (m : Nat) (xs : List Int) : List (List UInt8) := if netB N E S m xs = true then netLs N.toNat E.toNat m S xs E.toNat else []
theorem netLines_f {N E S : Int} {m : Nat} {xs : List Int} (h : netB N E S m xs = false) : netLines N E S m xs = [] := by simp [netLines, h]
theorem netLines_t {n e : Nat} {S : Int} {m : Nat} {xs : List Int} (h : netB n e S m xs = true) : netLines n e S m xs = netLs n e m S xs e := by simp [netLines, h]
theorem netLines_le (N E S : Int) (m : Nat) (xs : List Int) : (netLines N E S m xs).length ≤ 6 := by
  unfold netLines
  split
  · rename_i h
    obtain ⟨⟨_, h5⟩, ⟨_, h6⟩, _⟩ := netP_of h
    rw [netLs_length]; omega
  · exact Nat.zero_le _
/-- Lines of its own memory. -/
def GivesT (w : World) (l : List (List UInt8)) (e : Ending) (w' : World) : Prop := ∃ v, e = .returned v ∧ w'.ownsRow w.heap.size 9 1 v l.length (scells l) ∧ Ge w w'
theorem owns_oneS {w : World} {b base : Nat} {y : List UInt8} (hb : b = w.heap.size) (h : base ≤ b) : (w.alloc (.cells #[.string (bstr y)] 9)).ownsRow base 9 1 (.slice (some ⟨b, 0, none⟩) 1 1) 1 (scells [y]) := by
  subst hb
  exact ⟨rfl, .inr ⟨w.heap.size, 1, _, rfl, h, heap_alloc_new w _, Nat.le_refl _, by unfold maxLen; omega, rfl, rfl⟩⟩
theorem ap_strX {w : World} {ops : Array Oper} {rest : List Oper} {o : Oper} {a : Act} {Q : Exit → Act → World → Prop} (hgd : o.guard = none) (s x : Operand)
    (ho : o.op = .call { callee := .builtin .append, args := #[s, x], argTypes := #[48, 48] })
    (base : Nat) (v : Value) (l : List (List UInt8)) (k : Nat) (hk : l.length = k) (hs : a.eval s = v) (hown : w.ownsRow base 9 1 v k (scells l))
    (X : ByteArray) (y : List UInt8) (hX : X = bstr y) (hx : a.eval x = .slice (some ⟨w.heap.size, 0, none⟩) 1 1) (hn : k < 1099511627776) (hbase : base ≤ w.heap.size)
    (h : ∀ v' w', w'.ownsRow base 9 1 v' (k + 1) (scells (l ++ [y])) → Mine w w' v → wpList Try.prog ops Q rest (a.put o.dst v') w') :
    wpList Try.prog ops Q (o :: rest) a (w.alloc (.cells #[.string X] 9)) := by
  subst hX
  subst hk
  exact ap_str hgd s x ho base v l hs hown y hx hn hbase (fun v' w' h1 h2 => h v' w' (by simpa using h1) h2)

set_option maxHeartbeats 1600000 in
theorem iNetLinesF (N E S : Int) (s : Value) (m : Nat) (xs : List Int) (w : World) (hs : SlF w s m 3 xs) (hm : m ≤ 9223372036854775807) (hB : netB N E S m xs = false) :
    Calls Try.prog 42 #[.agg #[.int .i64 N, .int .i64 E, .int .i64 S, s]] w (GivesT w (netLines N E S m xs)) := by
  obtain ⟨p, cap, rfl, hc⟩ := hs.open
  have HV := Lib.hid hs
  clear hs hc
  have HR := Lib.hid (fun w' (g : Ge w w') => iResponseOfF N E S (.slice p m cap) m xs w' (HV.out.ge g) hm hB)
  rw [netLines_f hB]
  go_enter Try.func42, Try.ntmps42
  go_wp2_with (go_at_call 91; ((with_reducible refine (HR.out _ (by (repeat (first | with_reducible exact Ge.refl _ | assumption | with_reducible refine Ge.drew ?_ | with_reducible refine Ge.drewN ?_ _ | with_reducible refine Ge.alloc ?_ _ | (with_reducible refine Ge.setCell ?_ (by first | (simp; done) | omega | (simp; omega)) _) | with_reducible refine Ge.trans ?_ (by assumption))))).mono ?_); rintro r w1 ⟨rfl, g1⟩))
  go_ret
  exact ⟨_, rfl, ⟨rfl, .inl ⟨rfl, rfl⟩⟩, by (repeat (first | with_reducible exact Ge.refl _ | assumption | with_reducible refine Ge.drew ?_ | with_reducible refine Ge.drewN ?_ _ | with_reducible refine Ge.alloc ?_ _ | (with_reducible refine Ge.setCell ?_ (by first | (simp; done) | omega | (simp; omega)) _) | with_reducible refine Ge.trans ?_ (by assumption)))⟩

set_option maxHeartbeats 3200000 in
theorem iNetLinesT (n e : Nat) (S : Int) (s : Value) (m : Nat) (xs : List Int) (w : World) (hs : SlF w s m 3 xs) (hm : m ≤ 9223372036854775807) (hB : netB n e S m xs = true) :
    Calls Try.prog 42 #[.agg #[.int .i64 (n : Int), .int .i64 (e : Int), .int .i64 S, s]] w (GivesT w (netLines n e S m xs)) := by
  obtain ⟨⟨h1, h5⟩, ⟨e1, e2⟩, ⟨s1, s2⟩, hok, _⟩ := netP_of hB
  obtain ⟨p, cap, rfl, hc⟩ := hs.open
  have HV := Lib.hid hs
  have HR := Lib.hid (fun w' (g : Ge w w') => iResponseOfT n e S (.slice p m cap) m xs w' (HV.out.ge g) hm hB)
  have HF := Lib.hid (fun w' (g : Ge w w') => iFormatNet n e S (.slice p m cap) m xs w' (HV.out.ge g) hm)
  have HL := Lib.hid (netLines_t hB)
  have HL0 : Hid (netLs n e m S xs 0 = [netTxt n e S m xs]) := rfl
  have HLs : Hid (∀ k : Nat, netLs n e m S xs (k + 1) = netLs n e m S xs k ++ [termT (fmtInt (k : Int)) (rowLine e (respL n e m S xs k e))]) := fun _ => rfl
  have HLn := Lib.hid (netLs_length n e m S xs)
  have HIn := Lib.hid (fun a => nth_inR (respL_in n e m S xs a e))
  clear hs hc hok hB
  obtain ⟨L, hL⟩ : ∃ L, netLs n e m S xs = L := ⟨_, rfl⟩
  obtain ⟨R, hR⟩ : ∃ R : Nat → List Int, R = fun a => respL n e m S xs a e := ⟨_, rfl⟩
  have hR' : ∀ a, respL n e m S xs a e = R a := fun a => by rw [hR]
  rw [hL] at HL0 HLs HLn HL
  simp only [hR'] at HLs HIn HR
  clear hL hR hR'
  generalize netTxt n e S m xs = NT at *
  go_enter Try.func42, Try.ntmps42
  go_wp2_with (first
    | ((go_at_call 91; ((with_reducible refine (HR.out _ (by (repeat (first | with_reducible exact Ge.refl _ | assumption | with_reducible refine Ge.drew ?_ | with_reducible refine Ge.drewN ?_ _ | with_reducible refine Ge.alloc ?_ _ | (with_reducible refine Ge.setCell ?_ (by first | (simp; done) | omega | (simp; omega)) _) | with_reducible refine Ge.trans ?_ (by assumption))))).mono ?_); rintro r w1 ⟨vm, rfl, hM, g1⟩)); obtain ⟨bm, om, cm, rfl, hrow⟩ := hM; replace hrow := Lib.hid hrow; have b0 := Ge.keep g1 (cell_new (i := 0) rfl rfl); have b1 := Ge.keep g1 (cell_new (i := 1) rfl rfl); have b2 := Ge.keep g1 (cell_new (i := 2) rfl rfl); have b3 := Ge.keep g1 (cell_new (i := 3) rfl rfl); have z1 := g1.size; (simp at b0 b1 b2 b3 z1); have G1 : Ge w w1 := (by (repeat (first | with_reducible exact Ge.refl _ | assumption | with_reducible refine Ge.drew ?_ | with_reducible refine Ge.drewN ?_ _ | with_reducible refine Ge.alloc ?_ _ | (with_reducible refine Ge.setCell ?_ (by first | (simp; done) | omega | (simp; omega)) _) | with_reducible refine Ge.trans ?_ (by assumption)))))
    | ((go_at_call 18; ((with_reducible refine (HF.out _ (by (repeat (first | with_reducible exact Ge.refl _ | assumption | with_reducible refine Ge.drew ?_ | with_reducible refine Ge.drewN ?_ _ | with_reducible refine Ge.alloc ?_ _ | (with_reducible refine Ge.setCell ?_ (by first | (simp; done) | omega | (simp; omega)) _) | with_reducible refine Ge.trans ?_ (by assumption))))).mono ?_); rintro r w2 ⟨rfl, g2⟩)); have G2 : Ge w w2 := (by (repeat (first | with_reducible exact Ge.refl _ | assumption | with_reducible refine Ge.drew ?_ | with_reducible refine Ge.drewN ?_ _ | with_reducible refine Ge.alloc ?_ _ | (with_reducible refine Ge.setCell ?_ (by first | (simp; done) | omega | (simp; omega)) _) | with_reducible refine Ge.trans ?_ (by assumption)))); have z2 := g2.size))
  go_loopw [5, 20] (fun o i wr => ∃ a : Nat, a ≤ e ∧ i = .int .i64 a ∧ wr.ownsRow w2.heap.size 9 1 o (a + 1) (scells (L a)) ∧ Ge w2 wr) (fun _ i _ => e - (intOf i).toNat)
  case atStart => exact ⟨0, Nat.zero_le _, rfl, by rw [HL0.out]; exact owns_oneS rfl (Nat.le_refl _), Ge.alloc (Ge.refl _) _⟩
  case round =>
    obtain ⟨a, ha, rfl, hown, hg⟩ := hrel
    have zg := hg.size
    by_cases hlt : a < e
    · obtain ⟨pr, cr, x0, hrw⟩ := hrow.out a hlt
      have x0r := hg.keep (g2.keep x0)
      have HRw := Lib.hid (Sl.ge hrw (Ge.trans g2 hg))
      have HO := Lib.hid hown
      have HS := Lib.hid (HLs.out a)
      have hLn := Lib.hid (HLn.out a)
      have HFr := Lib.hid (fun w' (g : Ge wr w') => iFormatRow (.slice pr e cr) e (R a) w' (HRw.out.ge g) (by omega) (HIn.out a))
      have HFi := Lib.hid (fun w' => iFormatInt (a : Int) w' (by omega) (by omega))
      have f1 := fmtInt_length (a : Int)
      have f2 := rowLine_le e (R a)
      rw [← bstr_size] at f1 f2
      clear hown x0 hrw
      generalize rowLine e (R a) = TR at *
      generalize fmtInt (a : Int) = TF at *
      have HTm := Lib.hid (term_eq TF TR)
      have u0 : ¬ (9223372036854775807 < 9 + (bstr TF).size) := by omega
      have u1 : ¬ (9223372036854775807 < 9 + (bstr TF).size + 2) := by omega
      have u2 : ¬ (9223372036854775807 < 9 + (bstr TF).size + 2 + (bstr TR).size) := by omega
      generalize L a = LA at *
      go_wp2_with (first
        | (go_at_call 53; ((with_reducible refine (HFi.out _).mono ?_); rintro r w5 ⟨rfl, rfl⟩))
        | ((go_at_call 89; ((with_reducible refine (HFr.out _ (Ge.refl _)).mono ?_); rintro r w6 ⟨rfl, g6⟩)); have G6 : Ge wr w6 := g6; have own6 := G6.owns HO.out; have z6 := G6.size)
        | (at_builtin; refine ap_strX rfl _ _ rfl w2.heap.size _ LA (a + 1) hLn.out rfl own6 _ (termT TF TR) HTm.out rfl (by omega) (by omega) ?_; intro v8 w8 own8 m8))
      go_roundw
      case rel => exact ⟨a + 1, by omega, by go_num, by rw [HS.out]; exact own8, (Ge.trans hg G6).mine own6 (Nat.le_refl _) m8⟩
      case measure => simp [intOf]; omega
    · have hae : a = e := by omega
      subst hae
      have HO := Lib.hid hown
      clear hown
      go_wp2_with fail
      go_ret
      exact ⟨_, rfl, by rw [HL.out, HLn.out]; exact owns_mono HO.out G2.size, by (repeat (first | with_reducible exact Ge.refl _ | assumption | with_reducible refine Ge.drew ?_ | with_reducible refine Ge.drewN ?_ _ | with_reducible refine Ge.alloc ?_ _ | (with_reducible refine Ge.setCell ?_ (by first | (simp; done) | omega | (simp; omega)) _) | with_reducible refine Ge.trans ?_ (by assumption)))⟩

theorem iNetLines (N E S : Int) (s : Value) (m : Nat) (xs : List Int) (w : World) (hs : SlF w s m 3 xs) (hm : m ≤ 9223372036854775807) :
    Calls Try.prog 42 #[.agg #[.int .i64 N, .int .i64 E, .int .i64 S, s]] w (GivesT w (netLines N E S m xs)) := by
  cases hB : netB N E S m xs with
  | false => exact iNetLinesF N E S s m xs w hs hm hB
  | true =>
    obtain ⟨⟨h1, h5⟩, ⟨e1, e2⟩, _⟩ := netP_of hB
    obtain ⟨n, rfl⟩ : ∃ n : Nat, N = (n : Int) := ⟨N.toNat, by omega⟩
    obtain ⟨e, rfl⟩ : ∃ e : Nat, E = (e : Int) := ⟨E.toNat, by omega⟩
    exact iNetLinesT n e S s m xs w hs hm hB

set_option maxHeartbeats 1600000 in
theorem sNetLinesF (N E S : Int) (s : Value) (m : Nat) (xs : List Int) (w : World) (hs : SlF w s m 3 xs) (hm : m ≤ 9223372036854775807) (hB : netB N E S m xs = false) :
    Calls Try.prog 41 #[.agg #[.int .i64 N, .int .i64 E, .int .i64 S, s]] w (GivesT w (netLines N E S m xs)) := by
  obtain ⟨p, cap, rfl, hc⟩ := hs.open
  have HV := Lib.hid hs
  clear hs hc
  have HR := Lib.hid (fun w' (g : Ge w w') => sResponseOfF N E S (.slice p m cap) m xs w' (HV.out.ge g) hm hB)
  rw [netLines_f hB]
  go_enter Try.func41, Try.ntmps41
  go_wp2_with (go_at_call 90; ((with_reducible refine (HR.out _ (by (repeat (first | with_reducible exact Ge.refl _ | assumption | with_reducible refine Ge.drew ?_ | with_reducible refine Ge.drewN ?_ _ | with_reducible refine Ge.alloc ?_ _ | (with_reducible refine Ge.setCell ?_ (by first | (simp; done) | omega | (simp; omega)) _) | with_reducible refine Ge.trans ?_ (by assumption))))).mono ?_); rintro r w1 ⟨rfl, g1⟩))
  go_ret
  exact ⟨_, rfl, ⟨rfl, .inl ⟨rfl, rfl⟩⟩, by (repeat (first | with_reducible exact Ge.refl _ | assumption | with_reducible refine Ge.drew ?_ | with_reducible refine Ge.drewN ?_ _ | with_reducible refine Ge.alloc ?_ _ | (with_reducible refine Ge.setCell ?_ (by first | (simp; done) | omega | (simp; omega)) _) | with_reducible refine Ge.trans ?_ (by assumption)))⟩

set_option maxHeartbeats 3200000 in
theorem sNetLinesT (n e : Nat) (S : Int) (s : Value) (m : Nat) (xs : List Int) (w : World) (hs : SlF w s m 3 xs) (hm : m ≤ 9223372036854775807) (hB : netB n e S m xs = true) :
    Calls Try.prog 41 #[.agg #[.int .i64 (n : Int), .int .i64 (e : Int), .int .i64 S, s]] w (GivesT w (netLines n e S m xs)) := by
  obtain ⟨⟨h1, h5⟩, ⟨e1, e2⟩, ⟨s1, s2⟩, hok, _⟩ := netP_of hB
  obtain ⟨p, cap, rfl, hc⟩ := hs.open
  have HV := Lib.hid hs
  have HR := Lib.hid (fun w' (g : Ge w w') => sResponseOfT n e S (.slice p m cap) m xs w' (HV.out.ge g) hm hB)
  have HF := Lib.hid (fun w' (g : Ge w w') => sFormatNet n e S (.slice p m cap) m xs w' (HV.out.ge g) hm)
  have HL := Lib.hid (netLines_t hB)
  have HL0 : Hid (netLs n e m S xs 0 = [netTxt n e S m xs]) := rfl
  have HLs : Hid (∀ k : Nat, netLs n e m S xs (k + 1) = netLs n e m S xs k ++ [termT (fmtInt (k : Int)) (rowLine e (respL n e m S xs k e))]) := fun _ => rfl
  have HLn := Lib.hid (netLs_length n e m S xs)
  have HIn := Lib.hid (fun a => nth_inR (respL_in n e m S xs a e))
  clear hs hc hok hB
  obtain ⟨L, hL⟩ : ∃ L, netLs n e m S xs = L := ⟨_, rfl⟩
  obtain ⟨R, hR⟩ : ∃ R : Nat → List Int, R = fun a => respL n e m S xs a e := ⟨_, rfl⟩
  have hR' : ∀ a, respL n e m S xs a e = R a := fun a => by rw [hR]
  rw [hL] at HL0 HLs HLn HL
  simp only [hR'] at HLs HIn HR
  clear hL hR hR'
  generalize netTxt n e S m xs = NT at *
  go_enter Try.func41, Try.ntmps41
  go_wp2_with (first
    | ((go_at_call 90; ((with_reducible refine (HR.out _ (by (repeat (first | with_reducible exact Ge.refl _ | assumption | with_reducible refine Ge.drew ?_ | with_reducible refine Ge.drewN ?_ _ | with_reducible refine Ge.alloc ?_ _ | (with_reducible refine Ge.setCell ?_ (by first | (simp; done) | omega | (simp; omega)) _) | with_reducible refine Ge.trans ?_ (by assumption))))).mono ?_); rintro r w1 ⟨vm, rfl, hM, g1⟩)); obtain ⟨bm, om, cm, rfl, hrow⟩ := hM; replace hrow := Lib.hid hrow; have b0 := Ge.keep g1 (cell_new (i := 0) rfl rfl); have b1 := Ge.keep g1 (cell_new (i := 1) rfl rfl); have b2 := Ge.keep g1 (cell_new (i := 2) rfl rfl); have b3 := Ge.keep g1 (cell_new (i := 3) rfl rfl); have z1 := g1.size; (simp at b0 b1 b2 b3 z1); have G1 : Ge w w1 := (by (repeat (first | with_reducible exact Ge.refl _ | assumption | with_reducible refine Ge.drew ?_ | with_reducible refine Ge.drewN ?_ _ | with_reducible refine Ge.alloc ?_ _ | (with_reducible refine Ge.setCell ?_ (by first | (simp; done) | omega | (simp; omega)) _) | with_reducible refine Ge.trans ?_ (by assumption)))))
    | ((go_at_call 16; ((with_reducible refine (HF.out _ (by (repeat (first | with_reducible exact Ge.refl _ | assumption | with_reducible refine Ge.drew ?_ | with_reducible refine Ge.drewN ?_ _ | with_reducible refine Ge.alloc ?_ _ | (with_reducible refine Ge.setCell ?_ (by first | (simp; done) | omega | (simp; omega)) _) | with_reducible refine Ge.trans ?_ (by assumption))))).mono ?_); rintro r w2 ⟨rfl, g2⟩)); have G2 : Ge w w2 := (by (repeat (first | with_reducible exact Ge.refl _ | assumption | with_reducible refine Ge.drew ?_ | with_reducible refine Ge.drewN ?_ _ | with_reducible refine Ge.alloc ?_ _ | (with_reducible refine Ge.setCell ?_ (by first | (simp; done) | omega | (simp; omega)) _) | with_reducible refine Ge.trans ?_ (by assumption)))); have z2 := g2.size))
  go_loopw [5, 20] (fun o i wr => ∃ a : Nat, a ≤ e ∧ i = .int .i64 a ∧ wr.ownsRow w2.heap.size 9 1 o (a + 1) (scells (L a)) ∧ Ge w2 wr) (fun _ i _ => e - (intOf i).toNat)
  case atStart => exact ⟨0, Nat.zero_le _, rfl, by rw [HL0.out]; exact owns_oneS rfl (Nat.le_refl _), Ge.alloc (Ge.refl _) _⟩
  case round =>
    obtain ⟨a, ha, rfl, hown, hg⟩ := hrel
    have zg := hg.size
    by_cases hlt : a < e
    · obtain ⟨pr, cr, x0, hrw⟩ := hrow.out a hlt
      have x0r := hg.keep (g2.keep x0)
      have HRw := Lib.hid (Sl.ge hrw (Ge.trans g2 hg))
      have HO := Lib.hid hown
      have HS := Lib.hid (HLs.out a)
      have hLn := Lib.hid (HLn.out a)
      have HFr := Lib.hid (fun w' (g : Ge wr w') => sFormatRow (.slice pr e cr) e (R a) w' (HRw.out.ge g) (by omega) (HIn.out a))
      have HFi := Lib.hid (fun w' => sFormatInt (a : Int) w' (by omega) (by omega))
      have f1 := fmtInt_length (a : Int)
      have f2 := rowLine_le e (R a)
      rw [← bstr_size] at f1 f2
      clear hown x0 hrw
      generalize rowLine e (R a) = TR at *
      generalize fmtInt (a : Int) = TF at *
      have HTm := Lib.hid (term_eq TF TR)
      have u0 : ¬ (9223372036854775807 < 9 + (bstr TF).size) := by omega
      have u1 : ¬ (9223372036854775807 < 9 + (bstr TF).size + 2) := by omega
      have u2 : ¬ (9223372036854775807 < 9 + (bstr TF).size + 2 + (bstr TR).size) := by omega
      generalize L a = LA at *
      go_wp2_with (first
        | (go_at_call 50; ((with_reducible refine (HFi.out _).mono ?_); rintro r w5 ⟨rfl, g5⟩))
        | ((go_at_call 87; ((with_reducible refine (HFr.out _ g5).mono ?_); rintro r w6 ⟨rfl, g6⟩)); have G6 : Ge wr w6 := (Ge.trans g5 g6); have own6 := G6.owns HO.out; have z6 := G6.size)
        | (at_builtin; refine ap_strX rfl _ _ rfl w2.heap.size _ LA (a + 1) hLn.out rfl own6 _ (termT TF TR) HTm.out rfl (by omega) (by omega) ?_; intro v8 w8 own8 m8))
      go_roundw
      case rel => exact ⟨a + 1, by omega, by go_num, by rw [HS.out]; exact own8, (Ge.trans hg G6).mine own6 (Nat.le_refl _) m8⟩
      case measure => simp [intOf]; omega
    · have hae : a = e := by omega
      subst hae
      have HO := Lib.hid hown
      clear hown
      go_wp2_with fail
      go_ret
      exact ⟨_, rfl, by rw [HL.out, HLn.out]; exact owns_mono HO.out G2.size, by (repeat (first | with_reducible exact Ge.refl _ | assumption | with_reducible refine Ge.drew ?_ | with_reducible refine Ge.drewN ?_ _ | with_reducible refine Ge.alloc ?_ _ | (with_reducible refine Ge.setCell ?_ (by first | (simp; done) | omega | (simp; omega)) _) | with_reducible refine Ge.trans ?_ (by assumption)))⟩

theorem sNetLines (N E S : Int) (s : Value) (m : Nat) (xs : List Int) (w : World) (hs : SlF w s m 3 xs) (hm : m ≤ 9223372036854775807) :
    Calls Try.prog 41 #[.agg #[.int .i64 N, .int .i64 E, .int .i64 S, s]] w (GivesT w (netLines N E S m xs)) := by
  cases hB : netB N E S m xs with
  | false => exact sNetLinesF N E S s m xs w hs hm hB
  | true =>
    obtain ⟨⟨h1, h5⟩, ⟨e1, e2⟩, _⟩ := netP_of hB
    obtain ⟨n, rfl⟩ : ∃ n : Nat, N = (n : Int) := ⟨N.toNat, by omega⟩
    obtain ⟨e, rfl⟩ : ∃ e : Nat, E = (e : Int) := ⟨E.toNat, by omega⟩
    exact sNetLinesT n e S s m xs w hs hm hB
end Go.Proofs.Ytppabikbepdobaa

namespace Go.Proofs.Ytppabikbepdobaa
set_option maxRecDepth 100000
open Go.ChangeShapes Go.WideShapes Go.ChangeAt Go.RowKit Go.Joins

theorem marked_step32 (l : List Int) (k : Int) (j : Nat) (h : j * 3 + 2 < l.length) :
    (((marked l k (j * 3)).set (j * 3) (k + j * 3)).set (j * 3 + 1) (k + j * 3 + 1)).set (j * 3 + 2) (k + j * 3 + 1 + 1) = marked l k ((j + 1) * 3) := by
  have e1 : k + (j : Int) * 3 = k + ((j * 3 : Nat) : Int) := by simp
  have e2 : k + (j : Int) * 3 + 1 = k + ((j * 3 + 1 : Nat) : Int) := by simp; omega
  have e3 : k + (j : Int) * 3 + 1 + 1 = k + ((j * 3 + 2 : Nat) : Int) := by simp; omega
  rw [e3, e2, e1, marked_step _ _ _ (by omega), marked_step _ _ _ (by omega), marked_step _ _ _ (by omega)]
  congr 1
  omega

set_option maxHeartbeats 800000 in
theorem lMarkWireS2 (base e : Nat) (v : Value) (n : Nat) (xs : List Int) (k : Int) (w : World) (h : w.ownsRow base e 3 v n (icells xs)) (hk0 : 0 ≤ k) (hk : k + n * 3 ≤ 4611686018427387904) :
    Calls Try.prog 68 #[v, .int .i64 k] w fun en w' => en = .returned (.int .i64 (k + n * 3)) ∧ Mine w w' v ∧ w'.ownsRow base e 3 v n (icells (upFrom k (n * 3))) := by
  have hlen : xs.length = n * 3 := by have := h.1; rwa [icells_length] at this
  rcases owns_cases h with ⟨rfl, rfl⟩ | ⟨g, cap, rfl⟩
  · go_enter Try.func68, Try.ntmps68
    go_wp2_with fail
    go_loopw [1, 5] (fun m i wr => m = .int .i64 k ∧ i = .int .i64 0 ∧ w = wr) (fun _ _ _ => 0)
    case atStart => exact ⟨rfl, rfl, rfl⟩
    case round =>
      obtain ⟨rfl, rfl, rfl⟩ := hrel
      go_wp2_with fail
      go_ret
      have hx : xs = upFrom k 0 := by simpa [upFrom] using hlen
      exact ⟨ret_int (by simp), World.grownBy.refl _ _, by rw [← hx]; exact h⟩
  · have HN := Lib.hid hlen
    clear hlen
    go_enter Try.func68, Try.ntmps68
    go_wp2_with fail
    go_loopw [1, 5] (fun m i wr => ∃ j : Nat, j ≤ n ∧ i = .int .i64 j ∧ m = .int .i64 (k + j * 3) ∧ wr.ownsRow base e 3 (.slice (some ⟨g, 0, none⟩) n cap) n (icells (marked xs k (j * 3))) ∧ w.grownBy wr (some g)) (fun _ i _ => n - (intOf i).toNat)
    case atStart => exact ⟨0, Nat.zero_le _, rfl, by simp, by rw [Nat.zero_mul, marked_zero]; exact h, World.grownBy.refl _ _⟩
    case round =>
      obtain ⟨j, hj, rfl, rfl, hown, hg⟩ := hrel
      by_cases hlt : j < n
      · have st1 := hown.stored (j * 3) (.int .i64 (k + j * 3))
        have st2 := st1.1.stored (j * 3 + 1) (.int .i64 (k + j * 3 + 1))
        have st3 := st2.1.stored (j * 3 + 2) (.int .i64 (k + j * 3 + 1 + 1))
        have f1 := hown.frozenAt (j * 3)
        have f2 := hown.frozenAt (j * 3 + 1)
        have f3 := hown.frozenAt (j * 3 + 2)
        obtain ⟨u1, c1⟩ : ∃ u, wr.cell? ⟨g, j * 3, none⟩ = some u := by
          rw [hown.cellAt (j * 3) (by omega)]; exact ⟨_, List.getElem?_eq_getElem (by have := hown.1; omega)⟩
        obtain ⟨u2, c2⟩ : ∃ u, wr.cell? ⟨g, j * 3 + 1, none⟩ = some u := by
          rw [hown.cellAt (j * 3 + 1) (by omega)]; exact ⟨_, List.getElem?_eq_getElem (by have := hown.1; omega)⟩
        obtain ⟨u3, c3⟩ : ∃ u, wr.cell? ⟨g, j * 3 + 2, none⟩ = some u := by
          rw [hown.cellAt (j * 3 + 2) (by omega)]; exact ⟨_, List.getElem?_eq_getElem (by have := hown.1; omega)⟩
        have T1 := Lib.hid st1.2
        have T2 := Lib.hid st2.2
        have T3 := Lib.hid st3
        clear st1 st2 st3
        go_wp2_with fail
        go_roundw
        case rel =>
          refine ⟨j + 1, by omega, by go_num, by go_num, ?_, grown_trans (grown_trans (grown_trans hg T1.out) T2.out) T3.out.2⟩
          have := T3.out.1
          rwa [icells_set, icells_set, icells_set, marked_step32 xs k j (by have := HN.out; omega)] at this
        case measure => simp [intOf]; omega
      · have hjn : j = n := by omega
        have hfin : marked xs k (j * 3) = upFrom k (n * 3) := by rw [hjn, ← HN.out, marked_all]
        rw [hfin] at hown
        clear hfin
        go_wp2_with fail
        go_ret
        exact ⟨ret_int (by omega), hg, hown⟩

set_option maxHeartbeats 800000 in
theorem lMarkNet2 (base : Nat) (a1 a2 a3 : Int) (s : Value) (n : Nat) (xs : List Int) (k : Int) (w : World) (h : w.ownsRow base 56 3 s n (icells xs)) (hk0 : 0 ≤ k) (hk : k + n * 3 ≤ 4611686018427387904) :
    Calls Try.prog 25 #[.agg #[.int .i64 a1, .int .i64 a2, .int .i64 a3, s], .int .i64 k] w fun en w' => en = .returned (.int .i64 (k + n * 3)) ∧ Mine w w' s ∧ w'.ownsRow base 56 3 s n (icells (upFrom k (n * 3))) := by
  have HO := Lib.hid h
  clear h
  go_enter Try.func25, Try.ntmps25
  go_wp2_with (go_at_call 68; ((with_reducible refine (lMarkWireS2 _ _ s n xs k _ (Ge.owns (by (repeat (first | with_reducible exact Ge.refl _ | assumption | with_reducible refine Ge.drew ?_ | with_reducible refine Ge.drewN ?_ _ | with_reducible refine Ge.alloc ?_ _ | (with_reducible refine Ge.setCell ?_ (by first | (simp; done) | omega | (simp; omega)) _) | with_reducible refine Ge.trans ?_ (by assumption)))) HO.out) hk0 hk).mono ?_); rintro e w' ⟨rfl, hm, ho⟩))
  go_ret
  exact ⟨rfl, Mine.alloc _ hm, ho⟩

end Go.Proofs.Ytppabikbepdobaa

namespace Go.Proofs.Ytppabikbepdobaa
set_option maxRecDepth 100000
open Go.ChangeShapes Go.WideShapes Go.ChangeAt Go.RowKit Go.Joins

theorem owns_behind {w2 w w' : World} {b1 b2 e1 e2 s1 s2 : Nat} {v1 v2 : Value} {n1 n2 : Nat} {x1 x2 : List Value}
    (h2 : w2.ownsRow b2 e2 s2 v2 n2 x2) (h1 : w.ownsRow b1 e1 s1 v1 n1 x1) (hb : w2.heap.size ≤ b1) (hm : Mine w w' v2) : w'.ownsRow b1 e1 s1 v1 n1 x1 := by
  refine h1.kept hm ?_
  cases hv : v1.ownBlock with
  | none => exact .inl rfl
  | some k =>
    right
    intro e
    have := (h1.lt k hv).1
    have := (h2.lt k e.symm).2
    omega

set_option maxHeartbeats 3200000 in
theorem lFnExactNetLines (N E S : Int) (p : Option Addr) (m cap : Nat) (xs : List Int) (w : World) (hv : SlF w (.slice p m cap) m 3 xs) (hm : m ≤ 9223372036854775807) :
    Calls Try.prog 13 #[.agg #[.int .i64 N, .int .i64 E, .int .i64 S, .slice p m cap]] w fun e w' => e = .returned (.bool true) ∧ Ge w w' := by
  by_cases hbig : 1048576 < m
  · clear hv
    have hz : ∀ w0, Calls Try.prog 15 #[.agg #[.int .i64 N, .int .i64 E, .int .i64 S, .slice p m cap], .int .i64 1048576] w0 fun e w' => e = .returned (.int .i64 (-1)) ∧ Ge w0 w' := fun w0 => by
      have := lSzNet N E S p m cap 1048576 w0 hm (by decide) (by decide)
      rwa [if_pos (by omega)] at this
    have HZ := Lib.hid hz
    clear hz
    go_enter Try.func13, Try.ntmps13
    go_wp2_with (go_at_call 15; ((with_reducible refine (HZ.out _).mono ?_); rintro e w' ⟨rfl, hb⟩))
    go_ret
    exact ⟨rfl, by (repeat (first | with_reducible exact Ge.refl _ | assumption | with_reducible refine Ge.drew ?_ | with_reducible refine Ge.drewN ?_ _ | with_reducible refine Ge.alloc ?_ _ | (with_reducible refine Ge.setCell ?_ (by first | (simp; done) | omega | (simp; omega)) _) | with_reducible refine Ge.trans ?_ (by assumption)))⟩
  have hle : m ≤ 1048576 := by omega
  have HV := Lib.hid hv
  have HLe := Lib.hid hle
  have hz : ∀ w0, Calls Try.prog 15 #[.agg #[.int .i64 N, .int .i64 E, .int .i64 S, .slice p m cap], .int .i64 1048576] w0 fun e w' => e = .returned (.int .i64 (1048576 - m)) ∧ Ge w0 w' := fun w0 => by
    have := lSzNet N E S p m cap 1048576 w0 hm (by decide) (by decide)
    rwa [if_neg (by omega)] at this
  have HZ := Lib.hid hz
  have z2 : ¬ (1048576 - (m : Int) < 0) := by omega
  have hsm2 : m ≤ 4611686018427387904 := by omega
  have HSm := Lib.hid hsm2
  have HM := Lib.hid hm
  have hk6 := netLines_le N E S m xs
  have HS := Lib.hid (fun s w' (h : SlF w' s m 3 xs) => sNetLines N E S s m xs w' h HM.out)
  have HI := Lib.hid (fun s w' (h : SlF w' s m 3 xs) => iNetLines N E S s m xs w' h HM.out)
  unfold GivesT at HS HI
  generalize netLines N E S m xs = LL at *
  obtain ⟨k, hk⟩ : ∃ k, LL.length = k := ⟨_, rfl⟩
  rw [hk] at hk6
  rw [hk] at HS HI
  have HK := Lib.hid hk
  have HEq := Lib.hid (fun va vb w' h1 h2 => lEqStringS va vb LL w' h1 h2 (by omega))
  clear hv hle hsm2 hz hm hk
  go_enter Try.func13, Try.ntmps13
  go_wp2_with ((go_at_call 15; ((with_reducible refine (HZ.out _).mono ?_); rintro e w0 ⟨rfl, g0⟩)); have A0 := Ge.keep g0 (a := ⟨w.heap.size, 0, none⟩) (v := .int .i64 N) (by simp); have A1 := Ge.keep g0 (a := ⟨w.heap.size, 1, none⟩) (v := .int .i64 E) (by simp); have A2 := Ge.keep g0 (a := ⟨w.heap.size, 2, none⟩) (v := .int .i64 S) (by simp); have A3 := Ge.keep g0 (a := ⟨w.heap.size, 3, none⟩) (v := .slice p m cap) (by simp); have G0 := Ge.trans (Ge.alloc (Ge.refl w) _) g0)
  go_wp2_with ((go_at_call 17; ((with_reducible refine (lToNet _ _ _ _ m xs _ (HV.out.ge G0) HLe.out).mono ?_); rintro e w1 ⟨s1, rfl, o1, g1⟩)); have A0 := Ge.keep g1 A0; have A1 := Ge.keep g1 A1; have A2 := Ge.keep g1 A2; have A3 := Ge.keep g1 A3; have G1 := Ge.trans G0 g1; obtain ⟨p1, c1, rfl⟩ := owns_form o1)
  go_wp2_with ((go_at_call 41; ((with_reducible refine (HS.out _ _ (SlF.of_owns o1)).mono ?_); rintro e w2 ⟨v2, rfl, o2, g2⟩)); have A0 := Ge.keep g2 A0; have A1 := Ge.keep g2 A1; have A2 := Ge.keep g2 A2; have A3 := Ge.keep g2 A3; have G2 := Ge.trans G1 g2)
  have HA2 := Lib.hid (And.intro A0 (And.intro A1 (And.intro A2 A3)))
  go_wp2_with ((go_at_call 17; ((with_reducible refine (lToNet _ _ _ _ m xs _ (HV.out.ge G2) HLe.out).mono ?_); rintro e w3 ⟨s3, rfl, o3, g3⟩)); have A0 := Ge.keep g3 A0; have A1 := Ge.keep g3 A1; have A2 := Ge.keep g3 A2; have A3 := Ge.keep g3 A3; have G3 := Ge.trans G2 g3; obtain ⟨p3, c3, rfl⟩ := owns_form o3)
  have zw3 := G3.size
  have zA := World.block_lt_of_cell? _ _ A0
  simp at zA
  go_wp2_with ((go_at_call 42; ((with_reducible refine (HI.out _ _ (SlF.ge (SlF.of_owns o3) (Ge.alloc (Ge.refl _) _))).mono ?_); rintro e w4 ⟨v4, rfl, o4, g4⟩)); have G34 := Ge.trans (Ge.alloc (Ge.refl w3) _) g4; have B0 := Ge.keep g4 (a := ⟨w3.heap.size, 0, none⟩) (v := .int .i64 N) (by simp); have B1 := Ge.keep g4 (a := ⟨w3.heap.size, 1, none⟩) (v := .int .i64 E) (by simp); have B2 := Ge.keep g4 (a := ⟨w3.heap.size, 2, none⟩) (v := .int .i64 S) (by simp); have B3 := Ge.keep g4 (a := ⟨w3.heap.size, 3, none⟩) (v := .slice p3 m c3) (by simp); have A0 := Ge.keep G34 A0; have A1 := Ge.keep G34 A1; have A2 := Ge.keep G34 A2; have A3 := Ge.keep G34 A3)
  have G4 : Ge w w4 := Ge.trans G3 G34
  have z34 := G34.size
  have q2 := Ge.owns (Ge.trans g3 G34) o2
  have q3 := Ge.owns G34 o3
  have l4 : SlS w4 v4 LL := SlS.of_owns (by rw [HK.out]; exact o4)
  have l2 : SlS w4 v2 LL := SlS.of_owns (by rw [HK.out]; exact q2)
  have L4 := Lib.hid l4
  have L2 := Lib.hid l2
  have Q4 := Lib.hid o4
  have Q2 := Lib.hid q2
  have Q3 := Lib.hid q3
  clear o4 q2 q3 l4 l2
  go_wp2_with ((go_at_call 43; ((with_reducible refine (HEq.out v4 v2 _ L4.out L2.out).mono ?_); rintro e w5 ⟨rfl, g5⟩)); have A0 := Ge.keep g5 A0; have A1 := Ge.keep g5 A1; have A2 := Ge.keep g5 A2; have A3 := Ge.keep g5 A3; have B0 := Ge.keep g5 B0; have B1 := Ge.keep g5 B1; have B2 := Ge.keep g5 B2; have B3 := Ge.keep g5 B3; have G5 := Ge.trans G4 g5)
  have HT := Lib.hid (fun w' (g : Ge w5 w') => lToNet N E S (.slice p m cap) m xs w' (HV.out.ge (Ge.trans G5 g)) HLe.out)
  have HQ := Lib.hid (fun s6 w' (g : Ge w5 w') (o6 : SlF w' s6 m 3 xs) => lEqNetA N E S (.slice p3 m c3) s6 m xs w' ((SlF.of_owns (Q3.out)).ge (Ge.trans g5 g)) o6 HSm.out)
  have hS : ∀ w', Ge w5 w' → (w'.cell? ⟨w.heap.size, 0, none⟩ = some (.int .i64 N) ∧ w'.cell? ⟨w.heap.size, 1, none⟩ = some (.int .i64 E) ∧ w'.cell? ⟨w.heap.size, 2, none⟩ = some (.int .i64 S) ∧ w'.cell? ⟨w.heap.size, 3, none⟩ = some (.slice p m cap) ∧ w'.cell? ⟨w3.heap.size, 0, none⟩ = some (.int .i64 N) ∧ w'.cell? ⟨w3.heap.size, 1, none⟩ = some (.int .i64 E) ∧ w'.cell? ⟨w3.heap.size, 2, none⟩ = some (.int .i64 S) ∧ w'.cell? ⟨w3.heap.size, 3, none⟩ = some (.slice p3 m c3) ∧ Ge w5 w') := fun w' g => ⟨g.keep (by (repeat (first | assumption | with_reducible exact Ge.refl _ | with_reducible refine cv_drew ?_ | with_reducible refine cv_alloc ?_ | with_reducible refine cv_set ?_ | (with_reducible apply cv_some; assumption) | with_reducible refine cell_drew ?_ | with_reducible refine cell_drewN ?_ | ((with_reducible refine cell_new ?_ ?_); (focus (simp; done)); rfl) | with_reducible refine cell_alloc ?_ | with_reducible refine cell_same2 ?_ | ((with_reducible refine cell_set2 ?_ ?_); focus (first | (simp; done) | (intro hE; simp at hE; done) | (intro hE; simp at hE; omega))) | with_reducible refine Ge.drew ?_ | with_reducible refine Ge.drewN ?_ _ | with_reducible refine Ge.alloc ?_ _ | ((with_reducible refine Ge.setCell ?_ ?_ _); rotate_left; focus (first | (simp; done) | omega | (simp; omega))) | with_reducible refine Ge.trans ?_ (by assumption) | with_reducible refine Ge.keep (by assumption) ?_))), g.keep (by (repeat (first | assumption | with_reducible exact Ge.refl _ | with_reducible refine cv_drew ?_ | with_reducible refine cv_alloc ?_ | with_reducible refine cv_set ?_ | (with_reducible apply cv_some; assumption) | with_reducible refine cell_drew ?_ | with_reducible refine cell_drewN ?_ | ((with_reducible refine cell_new ?_ ?_); (focus (simp; done)); rfl) | with_reducible refine cell_alloc ?_ | with_reducible refine cell_same2 ?_ | ((with_reducible refine cell_set2 ?_ ?_); focus (first | (simp; done) | (intro hE; simp at hE; done) | (intro hE; simp at hE; omega))) | with_reducible refine Ge.drew ?_ | with_reducible refine Ge.drewN ?_ _ | with_reducible refine Ge.alloc ?_ _ | ((with_reducible refine Ge.setCell ?_ ?_ _); rotate_left; focus (first | (simp; done) | omega | (simp; omega))) | with_reducible refine Ge.trans ?_ (by assumption) | with_reducible refine Ge.keep (by assumption) ?_))), g.keep (by (repeat (first | assumption | with_reducible exact Ge.refl _ | with_reducible refine cv_drew ?_ | with_reducible refine cv_alloc ?_ | with_reducible refine cv_set ?_ | (with_reducible apply cv_some; assumption) | with_reducible refine cell_drew ?_ | with_reducible refine cell_drewN ?_ | ((with_reducible refine cell_new ?_ ?_); (focus (simp; done)); rfl) | with_reducible refine cell_alloc ?_ | with_reducible refine cell_same2 ?_ | ((with_reducible refine cell_set2 ?_ ?_); focus (first | (simp; done) | (intro hE; simp at hE; done) | (intro hE; simp at hE; omega))) | with_reducible refine Ge.drew ?_ | with_reducible refine Ge.drewN ?_ _ | with_reducible refine Ge.alloc ?_ _ | ((with_reducible refine Ge.setCell ?_ ?_ _); rotate_left; focus (first | (simp; done) | omega | (simp; omega))) | with_reducible refine Ge.trans ?_ (by assumption) | with_reducible refine Ge.keep (by assumption) ?_))), g.keep (by (repeat (first | assumption | with_reducible exact Ge.refl _ | with_reducible refine cv_drew ?_ | with_reducible refine cv_alloc ?_ | with_reducible refine cv_set ?_ | (with_reducible apply cv_some; assumption) | with_reducible refine cell_drew ?_ | with_reducible refine cell_drewN ?_ | ((with_reducible refine cell_new ?_ ?_); (focus (simp; done)); rfl) | with_reducible refine cell_alloc ?_ | with_reducible refine cell_same2 ?_ | ((with_reducible refine cell_set2 ?_ ?_); focus (first | (simp; done) | (intro hE; simp at hE; done) | (intro hE; simp at hE; omega))) | with_reducible refine Ge.drew ?_ | with_reducible refine Ge.drewN ?_ _ | with_reducible refine Ge.alloc ?_ _ | ((with_reducible refine Ge.setCell ?_ ?_ _); rotate_left; focus (first | (simp; done) | omega | (simp; omega))) | with_reducible refine Ge.trans ?_ (by assumption) | with_reducible refine Ge.keep (by assumption) ?_))), g.keep (by (repeat (first | assumption | with_reducible exact Ge.refl _ | with_reducible refine cv_drew ?_ | with_reducible refine cv_alloc ?_ | with_reducible refine cv_set ?_ | (with_reducible apply cv_some; assumption) | with_reducible refine cell_drew ?_ | with_reducible refine cell_drewN ?_ | ((with_reducible refine cell_new ?_ ?_); (focus (simp; done)); rfl) | with_reducible refine cell_alloc ?_ | with_reducible refine cell_same2 ?_ | ((with_reducible refine cell_set2 ?_ ?_); focus (first | (simp; done) | (intro hE; simp at hE; done) | (intro hE; simp at hE; omega))) | with_reducible refine Ge.drew ?_ | with_reducible refine Ge.drewN ?_ _ | with_reducible refine Ge.alloc ?_ _ | ((with_reducible refine Ge.setCell ?_ ?_ _); rotate_left; focus (first | (simp; done) | omega | (simp; omega))) | with_reducible refine Ge.trans ?_ (by assumption) | with_reducible refine Ge.keep (by assumption) ?_))), g.keep (by (repeat (first | assumption | with_reducible exact Ge.refl _ | with_reducible refine cv_drew ?_ | with_reducible refine cv_alloc ?_ | with_reducible refine cv_set ?_ | (with_reducible apply cv_some; assumption) | with_reducible refine cell_drew ?_ | with_reducible refine cell_drewN ?_ | ((with_reducible refine cell_new ?_ ?_); (focus (simp; done)); rfl) | with_reducible refine cell_alloc ?_ | with_reducible refine cell_same2 ?_ | ((with_reducible refine cell_set2 ?_ ?_); focus (first | (simp; done) | (intro hE; simp at hE; done) | (intro hE; simp at hE; omega))) | with_reducible refine Ge.drew ?_ | with_reducible refine Ge.drewN ?_ _ | with_reducible refine Ge.alloc ?_ _ | ((with_reducible refine Ge.setCell ?_ ?_ _); rotate_left; focus (first | (simp; done) | omega | (simp; omega))) | with_reducible refine Ge.trans ?_ (by assumption) | with_reducible refine Ge.keep (by assumption) ?_))), g.keep (by (repeat (first | assumption | with_reducible exact Ge.refl _ | with_reducible refine cv_drew ?_ | with_reducible refine cv_alloc ?_ | with_reducible refine cv_set ?_ | (with_reducible apply cv_some; assumption) | with_reducible refine cell_drew ?_ | with_reducible refine cell_drewN ?_ | ((with_reducible refine cell_new ?_ ?_); (focus (simp; done)); rfl) | with_reducible refine cell_alloc ?_ | with_reducible refine cell_same2 ?_ | ((with_reducible refine cell_set2 ?_ ?_); focus (first | (simp; done) | (intro hE; simp at hE; done) | (intro hE; simp at hE; omega))) | with_reducible refine Ge.drew ?_ | with_reducible refine Ge.drewN ?_ _ | with_reducible refine Ge.alloc ?_ _ | ((with_reducible refine Ge.setCell ?_ ?_ _); rotate_left; focus (first | (simp; done) | omega | (simp; omega))) | with_reducible refine Ge.trans ?_ (by assumption) | with_reducible refine Ge.keep (by assumption) ?_))), g.keep (by (repeat (first | assumption | with_reducible exact Ge.refl _ | with_reducible refine cv_drew ?_ | with_reducible refine cv_alloc ?_ | with_reducible refine cv_set ?_ | (with_reducible apply cv_some; assumption) | with_reducible refine cell_drew ?_ | with_reducible refine cell_drewN ?_ | ((with_reducible refine cell_new ?_ ?_); (focus (simp; done)); rfl) | with_reducible refine cell_alloc ?_ | with_reducible refine cell_same2 ?_ | ((with_reducible refine cell_set2 ?_ ?_); focus (first | (simp; done) | (intro hE; simp at hE; done) | (intro hE; simp at hE; omega))) | with_reducible refine Ge.drew ?_ | with_reducible refine Ge.drewN ?_ _ | with_reducible refine Ge.alloc ?_ _ | ((with_reducible refine Ge.setCell ?_ ?_ _); rotate_left; focus (first | (simp; done) | omega | (simp; omega))) | with_reducible refine Ge.trans ?_ (by assumption) | with_reducible refine Ge.keep (by assumption) ?_))), Ge.trans (by (repeat (first | assumption | with_reducible exact Ge.refl _ | with_reducible refine cv_drew ?_ | with_reducible refine cv_alloc ?_ | with_reducible refine cv_set ?_ | (with_reducible apply cv_some; assumption) | with_reducible refine cell_drew ?_ | with_reducible refine cell_drewN ?_ | ((with_reducible refine cell_new ?_ ?_); (focus (simp; done)); rfl) | with_reducible refine cell_alloc ?_ | with_reducible refine cell_same2 ?_ | ((with_reducible refine cell_set2 ?_ ?_); focus (first | (simp; done) | (intro hE; simp at hE; done) | (intro hE; simp at hE; omega))) | with_reducible refine Ge.drew ?_ | with_reducible refine Ge.drewN ?_ _ | with_reducible refine Ge.alloc ?_ _ | ((with_reducible refine Ge.setCell ?_ ?_ _); rotate_left; focus (first | (simp; done) | omega | (simp; omega))) | with_reducible refine Ge.trans ?_ (by assumption) | with_reducible refine Ge.keep (by assumption) ?_))) g⟩
  go_region_held3 (fun w' => w'.cell? ⟨w.heap.size, 0, none⟩ = some (.int .i64 N) ∧ w'.cell? ⟨w.heap.size, 1, none⟩ = some (.int .i64 E) ∧ w'.cell? ⟨w.heap.size, 2, none⟩ = some (.int .i64 S) ∧ w'.cell? ⟨w.heap.size, 3, none⟩ = some (.slice p m cap) ∧ w'.cell? ⟨w3.heap.size, 0, none⟩ = some (.int .i64 N) ∧ w'.cell? ⟨w3.heap.size, 1, none⟩ = some (.int .i64 E) ∧ w'.cell? ⟨w3.heap.size, 2, none⟩ = some (.int .i64 S) ∧ w'.cell? ⟨w3.heap.size, 3, none⟩ = some (.slice p3 m c3) ∧ Ge w5 w') (first | ((with_reducible refine hS _ ?_); (repeat (first | assumption | with_reducible exact Ge.refl _ | with_reducible refine cv_drew ?_ | with_reducible refine cv_alloc ?_ | with_reducible refine cv_set ?_ | (with_reducible apply cv_some; assumption) | with_reducible refine cell_drew ?_ | with_reducible refine cell_drewN ?_ | ((with_reducible refine cell_new ?_ ?_); (focus (simp; done)); rfl) | with_reducible refine cell_alloc ?_ | with_reducible refine cell_same2 ?_ | ((with_reducible refine cell_set2 ?_ ?_); focus (first | (simp; done) | (intro hE; simp at hE; done) | (intro hE; simp at hE; omega))) | with_reducible refine Ge.drew ?_ | with_reducible refine Ge.drewN ?_ _ | with_reducible refine Ge.alloc ?_ _ | ((with_reducible refine Ge.setCell ?_ ?_ _); rotate_left; focus (first | (simp; done) | omega | (simp; omega))) | with_reducible refine Ge.trans ?_ (by assumption) | with_reducible refine Ge.keep (by assumption) ?_)); done) | fail) (first | (go_at_call 17; ((with_reducible refine (HT.out _ (‹_ ∧ _ ∧ _ ∧ _ ∧ _ ∧ _ ∧ _ ∧ _ ∧ Ge w5 _›.2.2.2.2.2.2.2.2)).mono ?_); rintro e w6 ⟨s6, rfl, o6, hb⟩); obtain ⟨p6, c6, rfl⟩ := owns_form o6; have hz := Ge.size hb; (try simp at hz)) | (go_at_call 19; ((with_reducible refine (HQ.out _ _ (‹_ ∧ _ ∧ _ ∧ _ ∧ _ ∧ _ ∧ _ ∧ _ ∧ Ge w5 _›.2.2.2.2.2.2.2.2) (by first | exact SlF.of_owns o6 | exact SlF.ge (SlF.of_owns o6) (Ge.drew (Ge.refl _)))).mono ?_); rintro e w7 ⟨rfl, hb⟩); have hz := Ge.size hb; (try simp at hz)) | fail)
  rename_i hHeldX
  obtain ⟨q0, q1, q2, q3, q4, q5, q6, q7, G7⟩ := hHeldX
  clear hS
  clear HT HQ
  have G47 : Ge w4 w7 := Ge.trans g5 G7
  have r3 := G47.owns Q3.out
  have g27 : Ge w2 w7 := Ge.trans g3 (Ge.trans G34 G47)
  clear A0 A1 A2 A3 B0 B1 B2 B3 hb hz q0 q1 q2 q3
  go_wp2_with ((go_at_call 25; ((with_reducible refine (lMarkNet2 _ _ _ _ _ m xs 1 _ r3 (by omega) (by have := HLe.out; omega)).mono ?_); rintro e w8 ⟨rfl, m8, t3⟩)); have g28 : Ge w2 w8 := g27.mine r3 (Nat.le_refl _) m8; have t4 := owns_behind o3 (G47.owns Q4.out) (by simp) m8)
  have l4 : SlS w8 v4 LL := SlS.of_owns (by rw [HK.out]; exact t4)
  have l2 : SlS w8 v2 LL := SlS.of_owns (by rw [HK.out]; exact g28.owns o2)
  have L4' := Lib.hid l4
  have L2' := Lib.hid l2
  have T4 := Lib.hid t4
  clear l4 l2 t3 t4 r3
  have tk : decide (1 + (m : Int) * 3 < 0) = false := by simp; omega
  go_wp2_with ((go_at_call 43; ((with_reducible refine (HEq.out v4 v2 _ L4'.out L2'.out).mono ?_); rintro e w9 ⟨rfl, g9⟩)); have g29 : Ge w2 w9 := Ge.trans g28 g9)
  have t9 := g9.owns T4.out
  go_wp2_with ((go_at_call 44; ((with_reducible refine (lMarkStringS _ _ v4 LL k 1 _ HK.out t9 (by omega) (by omega)).mono ?_); rintro e w10 ⟨rfl, hgm, t10⟩)); have g210 : Ge w2 w10 := hgm _ g29 (by simp; have := g3.size; omega))
  go_wp2_with ((go_at_call 45; ((with_reducible refine (lHeldStringS v4 k 1 _ (Sl.of_owns t10) (by omega) (by omega)).mono ?_); rintro e w11 ⟨rfl, g11⟩)); have g211 : Ge w2 w11 := Ge.trans g210 g11; have A0 := g211.keep HA2.out.1; have A1 := g211.keep HA2.out.2.1; have A2 := g211.keep HA2.out.2.2.1; have A3 := g211.keep HA2.out.2.2.2)
  go_wp2_with ((go_at_call 17; ((with_reducible refine (lToNet _ _ _ _ m xs _ (HV.out.ge (Ge.trans G2 g211)) HLe.out).mono ?_); rintro e w12 ⟨s12, rfl, o12, g12⟩)); obtain ⟨p12, c12, rfl⟩ := owns_form o12)
  go_wp2_with ((go_at_call 42; ((with_reducible refine (HI.out _ _ (SlF.of_owns o12)).mono ?_); rintro e w13 ⟨v13, rfl, o13, g13⟩)); have g213 : Ge w2 w13 := Ge.trans g211 (Ge.trans g12 g13); have t13 := g13.owns (g12.owns (g11.owns t10)))
  have l13 : SlS w13 v13 LL := SlS.of_owns (by rw [HK.out]; exact o13)
  have l2 : SlS w13 v2 LL := SlS.of_owns (by rw [HK.out]; exact g213.owns o2)
  have L13 := Lib.hid l13
  have L2'' := Lib.hid l2
  clear l13 l2
  go_wp2_with ((go_at_call 43; ((with_reducible refine (HEq.out v13 v2 _ L13.out L2''.out).mono ?_); rintro e w14 ⟨rfl, g14⟩)); have t14 := g14.owns t13)
  go_wp2_with ((go_at_call 45; ((with_reducible refine (lHeldStringS v4 k 1 _ (Sl.of_owns t14) (by omega) (by omega)).mono ?_); rintro e w15 ⟨rfl, g15⟩)))
  go_ret
  exact ⟨rfl, Ge.trans G2 (Ge.trans g213 (Ge.trans g14 g15))⟩
end Go.Proofs.Ytppabikbepdobaa

namespace Go.Proofs.Ytppabikbepdobaa

open Go.ChangeShapes Go.WideShapes Go.ChangeAt Go.RowKit Go.Joins

theorem fnExactNetLines_cells_net : Try.prog.cellsOf 24 = 4 := by kernel_rfl
theorem fnExactNetLines_cells_wire : Try.prog.cellsOf 85 = 3 := by kernel_rfl

set_option maxRecDepth 100000 in
theorem fnExactNetLines_lifted (os : Os) (started : os.Started) (H : Type) (enc : TypeId × Value → H) :
    ReturnsInHanded {} Try.checked os 13 .any (Rows.fnExactNetLinesSpec.pre6 enc Try.prog Try.f13 Rows.fnExactNetLinesRow.domain false) (Rows.fnExactNetLinesSpec.post enc Try.prog Try.f13 false true false false) := by
  refine returnsInHanded_of_change (C := Try.checked) own_knob started (by kernel_rfl) Try.func13
    (ChangeSpec.witness6 (enc := enc) (C := Try.checked) false ⟨#[], #[.agg #[.int .i64 0, .int .i64 0, .int .i64 0, .slice none 0 0]], []⟩ 8 (by kernel_rfl) (by kernel_rfl) (by kernel_rfl) (by kernel_rfl)) ?_
  intro W base args ds gs before hval0 hW hcnd _
  have hval : ∀ (j : Nat) t v, Try.f13.params[j]? = some t → args[j]? = some v → Value.okWide Try.prog W .any base t v := hval0
  have hW' := hW
  obtain ⟨p, q, hA0, hV, rfl, hfz, hnd⟩ := hW
  have hA : DataW.TrodAll enc Try.prog W 0 (fun _ => true) true Try.f13.params.toList args.toList ds p := hA0
  rw [Try.params13] at hA hval
  obtain ⟨v0, d0, rfl, rfl, h0⟩ := trodAll_one hA
  obtain ⟨rfl, rfl⟩ := trodVars_none hV
  obtain ⟨Nn, En, Sn, pn, nn, cn, ln, rfl, sn, mn, bn, hcn, iNn, iEn, iSn⟩ := arg_net Try.underlying24 (by kernel_rfl) fnExactNetLines_cells_net Try.underlying3 Try.underlying3 Try.underlying3 rfl Try.underlying22 Try.underlying85 (by kernel_rfl) fnExactNetLines_cells_wire Try.underlying3 Try.underlying3 Try.underlying3 (hval 0 24 v0 rfl rfl) h0
  clear hA0 hval0
  exact (lFnExactNetLines Nn En Sn pn nn cn ln W sn mn).mono fun e W' ⟨he, hg⟩ =>
    law_done (B := 4) he laid_out (by kernel_rfl) Try.underlying4 (by kernel_rfl) hW' rfl rfl hg

theorem fnExactNetLines_holds : Rows.FnExactNetLinesSaid :=
  OpenClaim.holds_of_wide 13 Try.f13 rfl rfl rfl rfl rfl rfl rfl ⟨rfl, rfl, rfl, rfl, rfl⟩ rfl rfl rfl rfl rfl (by kernel_rfl) Try.func13 (by kernel_rfl)
    (of_decide_eq_true (by kernel_rfl)) (by unfold Func.isWrapper; first | (rw [if_pos (by decide +kernel)]; kernel_rfl) | (rw [if_neg (by decide +kernel)]; exact ⟨rfl, rfl⟩))
    (fun os started H enc _ => fnExactNetLines_lifted os started H enc)
#print axioms fnExactNetLines_holds

end Go.Proofs.Ytppabikbepdobaa
