/- l14Insert of the reference: a fraction at its place in a list. Fractions in lowest terms, positive, up to 1000. -/
import Derived.Test.YtmcnfhpjjmbdmaaPlInsR
import Derived.Test.YtmcnfhpjjmbdmaaPlFr
import Derived.Test.YtmcnfhpjjmbdmaaWFlR
import Derived.Test.YtmcnfhpjjmbdmaaWRatCmpS
import Derived.Maps.AppendAt
namespace Go.Proofs.Ytmcnfhpjjmbdmaa
set_option maxRecDepth 100000
open Go.ChangeShapes Go.WideShapes Go.ChangeAt Go.RowKit Go.Joins

theorem inf_ratI : (Try.prog.info? 30).map (fun i => (i.zero, i.size, i.bytes)) = some (some (Value.agg #[.int .i64 0, .int .i64 0]), 2, 16) := by kernel_rfl
/-- A fraction in a block p of its own, which is not the row's. -/
def Side (w : World) (u : Value) (p : Nat) (x y : Int) : Prop := w.cell? ⟨p, 0, none⟩ = some (.int .i64 x) ∧ w.cell? ⟨p, 1, none⟩ = some (.int .i64 y) ∧ ∀ k, u.ownBlock = some k → p ≠ k
theorem Side.ge {w w' : World} {u : Value} {p : Nat} {x y : Int} (h : Side w u p x y) (hg : Ge w w') : Side w' u p x y := ⟨hg.keep h.1, hg.keep h.2.1, h.2.2⟩
/-- Appending one fraction. -/
theorem ap_ratS {w0 w : World} {ops : Array Oper} {rest : List Oper} {o : Oper} {a : Act} {Q : Exit → Act → World → Prop} (hgd : o.guard = none) (s x : Operand)
    (ho : o.op = .call { callee := .builtin .append, args := #[s, x], argTypes := #[22, 22] })
    (v : Value) (l : List Rt) (hs : a.eval s = v) (hg0 : Ge w0 w) (hown : OwR w w0.heap.size v l)
    (y z : Int) (hx : a.eval x = .slice (some ⟨w.heap.size, 0, none⟩) 1 1) (hn : l.length < 1000000)
    (h : ∀ v' w', OwR w' w0.heap.size v' (l ++ [⟨y, z⟩]) → Ge w0 w' → (∀ p x y, Side w v p x y → Side w' v' p x y) → wpList Try.prog ops Q rest (a.put o.dst v') w') :
    wpList Try.prog ops Q (o :: rest) a (w.alloc (.cells #[.int .i64 y, .int .i64 z] 30)) := by
  obtain ⟨i, hi1, hi2, hi3, hi4⟩ := info_parts inf_ratI
  have own2 : (w.alloc (.cells #[.int .i64 y, .int .i64 z] 30)).ownsRow w0.heap.size 30 2 v l.length (icells (fl l)) := World.ownsRow.alloc hown _
  have g2 : Ge w0 (w.alloc (.cells #[.int .i64 y, .int .i64 z] 30)) := Ge.alloc hg0 _
  refine wpList_append_own_at _ hgd s x 22 ho w0.heap.size 30 i _ 2 16 Try.underlying22 hi1 hi2 hi3 hi4 rfl (by decide) v l.length (icells (fl l)) hs own2 ⟨w.heap.size, 0, none⟩ 1 1 [.int .i64 y, .int .i64 z] hx rfl ?_ (by simp [Value.oneCell']) (by unfold maxLen; omega) ?_ g2.size ?_
  · intro j u hu
    have hadd : (⟨w.heap.size, 0, none⟩ : Addr).add j = ⟨w.heap.size, j, none⟩ := by unfold Addr.add; split <;> simp_all
    rw [hadd, cell_of_row (w.alloc (.cells #[.int .i64 y, .int .i64 z] 30)) w.heap.size j _ _ (0, 0) (heap_alloc_new w _)]
    simpa using hu
  · have : (l.length + 1) * 16 ≤ (l.length + 1) * 100 := Nat.mul_le_mul_left _ (by decide)
    omega
  · intro v' w' h2 h3 _ h5
    refine h v' w' ?_ (g2.mine own2 (Nat.le_refl _) h3) (fun p x y hs => ?_)
    · unfold OwR
      rw [fl_app]
      simpa [icells, fl] using h2
    · have hp := World.block_lt_of_cell? _ _ hs.1
      simp only at hp
      refine ⟨mine_cell h3 (cell_alloc hs.1) hs.2.2, mine_cell h3 (cell_alloc hs.2.1) hs.2.2, fun k hk => ?_⟩
      rcases h5 with h5 | h5
      · exact hs.2.2 k (by rw [← h5]; exact hk)
      · rw [h5] at hk
        simp only [World.size_alloc, Option.some.injEq] at hk
        omega
theorem OwR.mono {w : World} {b b' : Nat} {v : Value} {l : List Rt} (h : OwR w b v l) (hb : b' ≤ b) : OwR w b' v l := owns_mono h hb
/-- RatioCmp of the reference, of good fractions. -/
theorem sRatioCmpG (x y : Rt) (w : World) (hx : goodF x) (hy : goodF y) :
    Calls Try.prog 35 #[.agg #[.int .i64 x.n, .int .i64 x.d], .agg #[.int .i64 y.n, .int .i64 y.d]] w fun e w' => e = .returned (.int .i64 (sgnI (x.n * y.d - y.n * x.d))) ∧ Ge w w' := by
  obtain ⟨xn, xd⟩ := x
  obtain ⟨yn, yd⟩ := y
  obtain ⟨h1, h2, h3, h4, h5⟩ := hx
  obtain ⟨k1, k2, k3, k4, k5⟩ := hy
  simp only at h1 h2 h3 h4 h5 k1 k2 k3 k4 k5 ⊢
  obtain ⟨a, rfl⟩ := Int.eq_ofNat_of_zero_le (show 0 ≤ xn by omega)
  obtain ⟨b, rfl⟩ := Int.eq_ofNat_of_zero_le (show 0 ≤ xd by omega)
  obtain ⟨c, rfl⟩ := Int.eq_ofNat_of_zero_le (show 0 ≤ yn by omega)
  obtain ⟨d, rfl⟩ := Int.eq_ofNat_of_zero_le (show 0 ≤ yd by omega)
  exact sRatioCmp a b c d w (by omega) (by omega) (by omega) (by omega) (by omega) (by omega) h5 k5

set_option maxHeartbeats 3200000 in
theorem sL14Insert (base : Nat) (v : Value) (l : List Rt) (r : Rt) (w : World) (hv : OwR w base v l) (hll : l.length ≤ 100000) (hgl : ∀ x ∈ l, goodF x) (hgr : goodF r) :
    Calls Try.prog 21 #[v, .agg #[.int .i64 r.n, .int .i64 r.d]] w fun e w' => ∃ v', e = .returned v' ∧ OwR w' w.heap.size v' (insR l r) ∧ Ge w w' := by
  obtain ⟨pl, cl, rfl⟩ := owns_form hv
  obtain ⟨n, hn⟩ : ∃ n, l.length = n := ⟨_, rfl⟩
  rw [hn] at hll hv ⊢
  have HV := Lib.hid hv
  have HC : Hid (∀ k, k < n → ∀ w', Calls Try.prog 35 #[.agg #[.int .i64 l[k]!.n, .int .i64 l[k]!.d], .agg #[.int .i64 r.n, .int .i64 r.d]] w' fun e w2 => e = .returned (.int .i64 (sgnI (l[k]!.n * r.d - r.n * l[k]!.d))) ∧ Ge w' w2) :=
    fun k hk w' => sRatioCmpG l[k]! r w' (hgl _ (by rw [getElem!_pos l k (by omega)]; exact List.getElem_mem _)) hgr
  have H0 := Lib.hid (insF_start r l)
  have HE := Lib.hid (fun (o : List Rt) dn k (hk : ¬ k < n) => insF_end r (l := l) (o := o) (dn := dn) (k := k) (by omega))
  have HD := Lib.hid (fun (o : List Rt) k (hk : k < n) => insF_done r (l := l) (o := o) (k := k) (by omega))
  have HS := Lib.hid (fun (o : List Rt) k (hk : k < n) => insF_same r (l := l) (o := o) (k := k) (by omega))
  have HP := Lib.hid (fun (o : List Rt) k (hk : k < n) => insF_put r (l := l) (o := o) (k := k) (by omega))
  have HN := Lib.hid (fun (o : List Rt) k (hk : k < n) => insF_next r (l := l) (o := o) (k := k) (by omega))
  generalize insR l r = R at *
  have HLn := Lib.hid hn
  clear hv hn hgl hgr
  go_enter Try.func21, Try.ntmps21
  have HO : Hid (((w.alloc (.cells #[.int .i64 r.n, .int .i64 r.d] 30)).alloc (.cells #[] 30)).ownsRow (w.heap.size + 1) 30 2 (.slice (some ⟨w.heap.size + 1, 0, none⟩) 0 0) 0 []) := by
    have h := owns_lit0 (w.alloc (.cells #[.int .i64 r.n, .int .i64 r.d] 30)) 30 2
    simp only [World.size_alloc] at h
    exact h
  have gB := Ge.alloc (Ge.refl w) (.cells #[.int .i64 r.n, .int .i64 r.d] 30)
  have r0 : (w.alloc (.cells #[.int .i64 r.n, .int .i64 r.d] 30)).cell? ⟨w.heap.size, 0, none⟩ = some (.int .i64 r.n) := by simp
  have r1 : (w.alloc (.cells #[.int .i64 r.n, .int .i64 r.d] 30)).cell? ⟨w.heap.size, 1, none⟩ = some (.int .i64 r.d) := by simp
  have ZB : Hid (w.heap.size + 1 = (w.alloc (.cells #[.int .i64 r.n, .int .i64 r.d] 30)).heap.size) := by show _ = _; simp
  go_wp2_with fail
  generalize w.alloc (.cells #[.int .i64 r.n, .int .i64 r.d] 30) = wb at *
  have gC := Ge.alloc (Ge.refl wb) (.cells #[] 30)
  generalize wb.alloc (.cells #[] 30) = wc at *
  rw [ZB.out] at HO
  rw [ZB.out]
  obtain ⟨b0, hb0⟩ : ∃ b0, b0 = w.heap.size := ⟨_, rfl⟩
  rw [← hb0] at r0 r1 ⊢
  clear hb0
  go_loopw [5, 6, 12] (fun u dn i wr => ∃ (k : Nat) (o : List Rt) (b : Bool) (p : Value), u = p ∧ dn = .bool b ∧ i = .int .i64 (k : Int) ∧ k ≤ n ∧ o.length ≤ 2 * k ∧ OwR wr wb.heap.size p o ∧ Hid (R = insF r (l.drop k) o b) ∧ Ge wb wr) (fun _ _ i _ => 100001 - (intOf i).toNat)
  case atStart => exact ⟨0, [], false, _, rfl, rfl, rfl, Nat.zero_le _, Nat.le_refl _, HO.out, H0.out, gC⟩
  case round =>
    obtain ⟨k, o, b, p, rfl, rfl, rfl, hk, hol, hown, HR, hg⟩ := hrel
    clear HO gC
    by_cases hkn : k < n
    · obtain ⟨g, c, he⟩ := Go.Joins.ownsRow_form HV.out (by have := HLn.out; omega)
      simp only [Value.slice.injEq] at he
      obtain ⟨rfl, he2, rfl⟩ := he
      clear he2
      obtain ⟨xa, xb⟩ := (HV.out.ge (gB.trans hg)).cell (k := k) (by rw [HLn.out]; exact hkn)
      have HCk := Lib.hid (HC.out k hkn)
      have HDk := Lib.hid (HD.out o k hkn)
      have HSk := Lib.hid (HS.out o k hkn)
      have HPk := Lib.hid (HP.out o k hkn)
      have HNk := Lib.hid (HN.out o k hkn)
      obtain ⟨pv, cv, rfl⟩ := owns_form hown
      have HOw := Lib.hid hown
      have f0 := hg.keep r0
      have f1 := hg.keep r1
      have zb0 := World.block_lt_of_cell? _ _ f0
      simp only at zb0
      have HG := Lib.hid hg
      have zg := hg.size
      clear hown hg r0 r1 HD HS HP HN HC HE H0
      generalize l[k]! = X at *
      obtain ⟨xn, xd⟩ := X
      obtain ⟨rn, rd⟩ := r
      simp only at *
      go_upto_region 6 with (fail)
      have gX := Ge.alloc (Ge.refl wr) (.cells #[.int .i64 xn, .int .i64 xd] 30)
      have c0 : (wr.alloc (.cells #[.int .i64 xn, .int .i64 xd] 30)).cell? ⟨wr.heap.size, 0, none⟩ = some (.int .i64 xn) := by simp
      have c1 : (wr.alloc (.cells #[.int .i64 xn, .int .i64 xd] 30)).cell? ⟨wr.heap.size, 1, none⟩ = some (.int .i64 xd) := by simp
      have hsx : Side (wr.alloc (.cells #[.int .i64 xn, .int .i64 xd] 30)) (.slice pv o.length cv) wr.heap.size xn xd := ⟨c0, c1, fun k hk => by have := (HOw.out.lt k hk).2; omega⟩
      have HSx := Lib.hid hsx
      clear hsx
      have HOx := Lib.hid (HOw.out.ge gX)
      have f0 := gX.keep f0
      have f1 := gX.keep f1
      have gx := Lib.hid (HG.out.trans gX)
      generalize wr.alloc (.cells #[.int .i64 xn, .int .i64 xd] 30) = wx at *
      generalize wr.heap.size = px at *
      clear HOw HG gX zg xa xb zb0
      have zb0 := World.block_lt_of_cell? _ _ f0
      have zc0 := World.block_lt_of_cell? _ _ c0
      simp only at zb0 zc0
      by_cases hE : xn = rn ∧ xd = rd
      · obtain ⟨rfl, rfl⟩ := hE
        cases b with
        | true =>
          go_wp2_with ((at_builtin; refine ap_ratS (w0 := wb) rfl _ _ rfl _ o (by rfl) gx.out HOx.out _ _ rfl (by omega) ?_; intro v7 w7 own7 g7 s7; have HO7 := Lib.hid own7; have G7 := Lib.hid g7; skip; obtain ⟨p7, c7, rfl⟩ := owns_form own7; simp only [List.length_append, List.length_singleton] at HO7; clear own7 g7 s7))
          go_roundw
          case rel => exact ⟨k + 1, o ++ [⟨xn, xd⟩], true, _, rfl, rfl, by go_num, by omega, by simp; omega, HO7.out, (by have h := HR.out; rw [HDk.out] at h; exact h), G7.out⟩
          case measure => simp [intOf]; omega
        | false =>
          go_wp2_with ((at_builtin; refine ap_ratS (w0 := wb) rfl _ _ rfl _ o (by rfl) gx.out HOx.out _ _ rfl (by omega) ?_; intro v7 w7 own7 g7 s7; have HO7 := Lib.hid own7; have G7 := Lib.hid g7; skip; obtain ⟨p7, c7, rfl⟩ := owns_form own7; simp only [List.length_append, List.length_singleton] at HO7; clear own7 g7 s7))
          go_roundw
          case rel => exact ⟨k + 1, o ++ [⟨xn, xd⟩], true, _, rfl, rfl, by go_num, by omega, by simp; omega, HO7.out, (by have h := HR.out; rw [HSk.out rfl] at h; exact h), G7.out⟩
          case measure => simp [intOf]; omega
      · have hne : ¬ (⟨xn, xd⟩ : Rt) = ⟨rn, rd⟩ := by simpa using hE
        cases b with
        | true =>
          by_cases hn1 : xn = rn
          · subst hn1
            have hn2 : ¬ xd = rd := by simpa using hE
            clear hE hne
            go_wp2_with ((at_builtin; refine ap_ratS (w0 := wb) rfl _ _ rfl _ o (by rfl) gx.out HOx.out _ _ rfl (by omega) ?_; intro v7 w7 own7 g7 s7; have HO7 := Lib.hid own7; have G7 := Lib.hid g7; skip; obtain ⟨p7, c7, rfl⟩ := owns_form own7; simp only [List.length_append, List.length_singleton] at HO7; clear own7 g7 s7))
            go_roundw
            case rel => exact ⟨k + 1, o ++ [⟨xn, xd⟩], true, _, rfl, rfl, by go_num, by omega, by simp; omega, HO7.out, (by have h := HR.out; rw [HDk.out] at h; exact h), G7.out⟩
            case measure => simp [intOf]; omega
          · clear hE hne
            go_wp2_with ((at_builtin; refine ap_ratS (w0 := wb) rfl _ _ rfl _ o (by rfl) gx.out HOx.out _ _ rfl (by omega) ?_; intro v7 w7 own7 g7 s7; have HO7 := Lib.hid own7; have G7 := Lib.hid g7; skip; obtain ⟨p7, c7, rfl⟩ := owns_form own7; simp only [List.length_append, List.length_singleton] at HO7; clear own7 g7 s7))
            go_roundw
            case rel => exact ⟨k + 1, o ++ [⟨xn, xd⟩], true, _, rfl, rfl, by go_num, by omega, by simp; omega, HO7.out, (by have h := HR.out; rw [HDk.out] at h; exact h), G7.out⟩
            case measure => simp [intOf]; omega
        | false =>
          by_cases hlt : ltR ⟨rn, rd⟩ ⟨xn, xd⟩ = true
          · have hs : sgnI (xn * rd - rn * xd) = 1 := sgnI_pos (by simp [ltR] at hlt; omega)
            rw [hs] at HCk
            by_cases hn1 : xn = rn
            · subst hn1
              have hn2 : ¬ xd = rd := by simpa using hE
              clear hE
              have hne := Lib.hid hne
              go_wp2_with (first | (go_at_call 35; ((with_reducible refine (HCk.out _).mono ?_); rintro e w5 ⟨rfl, g5⟩); have q0 := g5.keep c0; have q1 := g5.keep c1; have k0 := g5.keep f0; have k1 := g5.keep f1; have HO5 := Lib.hid (HOx.out.ge g5); have HS5 := Lib.hid (HSx.out.ge g5); have G5 := Lib.hid (gx.out.trans g5); clear g5) | (at_builtin; refine ap_ratS (w0 := wb) rfl _ _ rfl _ (o ++ [⟨xn, rd⟩]) (by rfl) G6.out HO6.out _ _ rfl (by simp; omega) ?_; intro v7 w7 own7 g7 s7; have HO7 := Lib.hid own7; have G7 := Lib.hid g7; skip; obtain ⟨p7, c7, rfl⟩ := owns_form own7; simp only [List.length_append, List.length_singleton] at HO7; clear own7 g7 s7) | (at_builtin; refine ap_ratS (w0 := wb) rfl _ _ rfl _ o (by rfl) G5.out HO5.out _ _ rfl (by omega) ?_; intro v6 w6 own6 g6 s6; have HO6 := Lib.hid own6; have G6 := Lib.hid g6; have HS6 := Lib.hid (s6 _ _ _ HS5.out); have d0 := HS6.out.1; have d1 := HS6.out.2.1; obtain ⟨p6, c6, rfl⟩ := owns_form own6; simp only [List.length_append, List.length_singleton] at HO6 HS6; clear own6 g6 s6))
              go_roundw
              case rel => exact ⟨k + 1, (o ++ [⟨xn, rd⟩]) ++ [⟨xn, xd⟩], true, _, rfl, rfl, by go_num, by omega, by simp; omega, HO7.out, (by have h := HR.out; rw [HPk.out hne.out hlt] at h; exact h), G7.out⟩
              case measure => simp [intOf]; omega
            · clear hE
              have hne := Lib.hid hne
              go_wp2_with (first | (go_at_call 35; ((with_reducible refine (HCk.out _).mono ?_); rintro e w5 ⟨rfl, g5⟩); have q0 := g5.keep c0; have q1 := g5.keep c1; have k0 := g5.keep f0; have k1 := g5.keep f1; have HO5 := Lib.hid (HOx.out.ge g5); have HS5 := Lib.hid (HSx.out.ge g5); have G5 := Lib.hid (gx.out.trans g5); clear g5) | (at_builtin; refine ap_ratS (w0 := wb) rfl _ _ rfl _ (o ++ [⟨rn, rd⟩]) (by rfl) G6.out HO6.out _ _ rfl (by simp; omega) ?_; intro v7 w7 own7 g7 s7; have HO7 := Lib.hid own7; have G7 := Lib.hid g7; skip; obtain ⟨p7, c7, rfl⟩ := owns_form own7; simp only [List.length_append, List.length_singleton] at HO7; clear own7 g7 s7) | (at_builtin; refine ap_ratS (w0 := wb) rfl _ _ rfl _ o (by rfl) G5.out HO5.out _ _ rfl (by omega) ?_; intro v6 w6 own6 g6 s6; have HO6 := Lib.hid own6; have G6 := Lib.hid g6; have HS6 := Lib.hid (s6 _ _ _ HS5.out); have d0 := HS6.out.1; have d1 := HS6.out.2.1; obtain ⟨p6, c6, rfl⟩ := owns_form own6; simp only [List.length_append, List.length_singleton] at HO6 HS6; clear own6 g6 s6))
              go_roundw
              case rel => exact ⟨k + 1, (o ++ [⟨rn, rd⟩]) ++ [⟨xn, xd⟩], true, _, rfl, rfl, by go_num, by omega, by simp; omega, HO7.out, (by have h := HR.out; rw [HPk.out hne.out hlt] at h; exact h), G7.out⟩
              case measure => simp [intOf]; omega
          · have hs : ¬ 0 < sgnI (xn * rd - rn * xd) := fun h => by
              unfold sgnI at h
              simp [ltR] at hlt
              split at h
              · omega
              · split at h <;> omega
            generalize sgnI (xn * rd - rn * xd) = T at *
            by_cases hn1 : xn = rn
            · subst hn1
              have hn2 : ¬ xd = rd := by simpa using hE
              clear hE
              have hne := Lib.hid hne
              go_wp2_with (first | (go_at_call 35; ((with_reducible refine (HCk.out _).mono ?_); rintro e w5 ⟨rfl, g5⟩); have q0 := g5.keep c0; have q1 := g5.keep c1; have k0 := g5.keep f0; have k1 := g5.keep f1; have HO5 := Lib.hid (HOx.out.ge g5); have HS5 := Lib.hid (HSx.out.ge g5); have G5 := Lib.hid (gx.out.trans g5); clear g5) | (at_builtin; refine ap_ratS (w0 := wb) rfl _ _ rfl _ o (by rfl) G5.out HO5.out _ _ rfl (by omega) ?_; intro v7 w7 own7 g7 s7; have HO7 := Lib.hid own7; have G7 := Lib.hid g7; skip; obtain ⟨p7, c7, rfl⟩ := owns_form own7; simp only [List.length_append, List.length_singleton] at HO7; clear own7 g7 s7))
              go_roundw
              case rel => exact ⟨k + 1, o ++ [⟨xn, xd⟩], false, _, rfl, rfl, by go_num, by omega, by simp; omega, HO7.out, (by have h := HR.out; rw [HNk.out hne.out hlt] at h; exact h), G7.out⟩
              case measure => simp [intOf]; omega
            · clear hE
              have hne := Lib.hid hne
              go_wp2_with (first | (go_at_call 35; ((with_reducible refine (HCk.out _).mono ?_); rintro e w5 ⟨rfl, g5⟩); have q0 := g5.keep c0; have q1 := g5.keep c1; have k0 := g5.keep f0; have k1 := g5.keep f1; have HO5 := Lib.hid (HOx.out.ge g5); have HS5 := Lib.hid (HSx.out.ge g5); have G5 := Lib.hid (gx.out.trans g5); clear g5) | (at_builtin; refine ap_ratS (w0 := wb) rfl _ _ rfl _ o (by rfl) G5.out HO5.out _ _ rfl (by omega) ?_; intro v7 w7 own7 g7 s7; have HO7 := Lib.hid own7; have G7 := Lib.hid g7; skip; obtain ⟨p7, c7, rfl⟩ := owns_form own7; simp only [List.length_append, List.length_singleton] at HO7; clear own7 g7 s7))
              go_roundw
              case rel => exact ⟨k + 1, o ++ [⟨xn, xd⟩], false, _, rfl, rfl, by go_num, by omega, by simp; omega, HO7.out, (by have h := HR.out; rw [HNk.out hne.out hlt] at h; exact h), G7.out⟩
              case measure => simp [intOf]; omega
    · have hkn2 : k = n := by omega
      have HEk := Lib.hid (HE.out o b k (by omega))
      subst hkn2
      obtain ⟨pv, cv, rfl⟩ := owns_form hown
      have HOx := Lib.hid hown
      have f0 := hg.keep r0
      have f1 := hg.keep r1
      have zb0 := World.block_lt_of_cell? _ _ f0
      simp only at zb0
      have gx := Lib.hid hg
      have GB := Lib.hid gB
      have zw := gB.size
      clear hown hg gB r0 r1 HD HS HP HN HC HE H0 HV
      cases b with
      | true =>
        go_wp2_with fail
        go_ret
        exact ⟨_, rfl, by rw [HR.out, HEk.out]; exact OwR.mono HOx.out zw, GB.out.trans gx.out⟩
      | false =>
        go_wp2_with ((at_builtin; refine ap_ratS (w0 := wb) rfl _ _ rfl _ o (by rfl) gx.out HOx.out _ _ rfl (by omega) ?_; intro v7 w7 own7 g7 s7; have HO7 := Lib.hid own7; have G7 := Lib.hid g7; skip; obtain ⟨p7, c7, rfl⟩ := owns_form own7; simp only [List.length_append, List.length_singleton] at HO7; clear own7 g7 s7))
        go_ret
        exact ⟨_, rfl, by rw [HR.out, HEk.out]; exact OwR.mono HO7.out zw, GB.out.trans G7.out⟩
end Go.Proofs.Ytmcnfhpjjmbdmaa
