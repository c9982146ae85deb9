/- netOf of impl, with the common divisor taken out. No condition. netOf of impl, without taking the common divisor out. No condition. WeightBetween, WeightAt, isNode, l03Find. No condition. l03Find, WeightBetween of spec. No condition. NetOk of spec. No condition. LaplacianOf of the reference. No condition. -/
import Derived.Test.YtenfkpdbfmeebaaWCanonS
import Derived.Test.YtenfkpdbfmeebaaWMatO
import Derived.Test.YtenfkpdbfmeebaaWNetAt
import Derived.Test.YtenfkpdbfmeebaaPlMesh
import Derived.Test.YtenfkpdbfmeebaaWNetOkI2
import Derived.Test.YtenfkpdbfmeebaaPlWeight
import Derived.Test.YtenfkpdbfmeebaaWIn
import Derived.Test.YtenfkpdbfmeebaaWLaw
import Derived.Test.YtenfkpdbfmeebaaWReach
import Derived.Test.YtenfkpdbfmeebaaWOthers
import Derived.Test.YtenfkpdbfmeebaaPlLap
import Derived.Maps.AppendAt
namespace Go.Proofs.Ytenfkpdbfmeebaa
set_option maxRecDepth 100000
open Go.ChangeShapes Go.WideShapes Go.ChangeAt Go.RowKit Go.Joins

/-- A network and whether it is valid, as two results. -/
def GivesO (w : World) (b : Bool) (N E S : Int) (L : List Wr) (e : Ending) (w' : World) : Prop :=
  Ge w w' ∧ ((b = true ∧ ∃ u, e = .returned (.tuple #[.agg #[.int .i64 N, .int .i64 E, .int .i64 S, u], .bool true]) ∧ w'.ownsRow w.heap.size 71 3 u L.length (icells (flatW L))) ∨
    (b = false ∧ e = .returned (.tuple #[.agg #[.int .i64 0, .int .i64 0, .int .i64 0, .slice none 0 0], .bool false])))
theorem GivesO.t {w w' : World} {b : Bool} {N E S : Int} {L : List Wr} {u : Value} (h : b = true) (ho : w'.ownsRow w.heap.size 71 3 u L.length (icells (flatW L))) (hg : Ge w w') : GivesO w b N E S L (.returned (.tuple #[.agg #[.int .i64 N, .int .i64 E, .int .i64 S, u], .bool true])) w' :=
  ⟨hg, .inl ⟨h, u, rfl, ho⟩⟩
theorem GivesO.f {w w' : World} {b : Bool} {N E S : Int} {L : List Wr} (h : b = false) (hg : Ge w w') : GivesO w b N E S L (.returned (.tuple #[.agg #[.int .i64 0, .int .i64 0, .int .i64 0, .slice none 0 0], .bool false])) w' :=
  ⟨hg, .inr ⟨h, rfl⟩⟩
/-- The wires of the rows before i, and of the first c columns of row i. -/
def netL (f : Nat → Nat → Int) (k i c : Nat) : List Wr := tabC f k i ++ rowC f i (i + 1) c
theorem netL_zero (f : Nat → Nat → Int) (k i : Nat) : netL f k i 0 = tabC f k i := by simp [netL, rowC]
theorem netL_all (f : Nat → Nat → Int) (k i : Nat) : netL f k i (k - (i + 1)) = tabC f k (i + 1) := rfl
theorem netL_in {f : Nat → Nat → Int} {k i c : Nat} (h : ¬ f i (i + 1 + c) = 0) : netL f k i (c + 1) = netL f k i c ++ [⟨(i : Int), ((i + 1 + c : Nat) : Int), f i (i + 1 + c)⟩] := by
  simp [netL, rowC, h]
theorem netL_out {f : Nat → Nat → Int} {k i c : Nat} (h : f i (i + 1 + c) = 0) : netL f k i (c + 1) = netL f k i c := by
  simp [netL, rowC, h]
theorem rowC_len (f : Nat → Nat → Int) (i a : Nat) : ∀ c, (rowC f i a c).length ≤ c
  | 0 => by simp [rowC]
  | c + 1 => by
    have := rowC_len f i a c
    simp only [rowC, List.length_append]
    split <;> simp <;> omega
theorem tabC_len (f : Nat → Nat → Int) (k : Nat) : ∀ i, (tabC f k i).length ≤ i * k
  | 0 => by simp [tabC]
  | i + 1 => by
    have h1 := tabC_len f k i
    have h2 := rowC_len f i (i + 1) (k - (i + 1))
    simp only [tabC, List.length_append]
    rw [Nat.succ_mul]
    omega
theorem netL_len (f : Nat → Nat → Int) {k i c : Nat} (hk : k ≤ 5) (hi : i < k) (hc : i + 1 + c ≤ k) : (netL f k i c).length ≤ 100 := by
  have h1 := tabC_len f k i
  have h2 := rowC_len f i (i + 1) c
  have h3 : i * k ≤ 5 * 5 := Nat.mul_le_mul (by omega) hk
  simp only [netL, List.length_append]
  omega
/-- The wires of the rows before i, and of row i before column d. -/
def netD (f : Nat → Nat → Int) (k i d : Nat) : List Wr := netL f k i (d - (i + 1))
theorem netD_zero (f : Nat → Nat → Int) (k i : Nat) : netD f k i (i + 1) = tabC f k i := by unfold netD; rw [Nat.sub_self, netL_zero]
theorem netD_all (f : Nat → Nat → Int) (k i : Nat) : netD f k i k = tabC f k (i + 1) := rfl
theorem netD_in {f : Nat → Nat → Int} {k i d : Nat} (h : ¬ f i d = 0) (hd : i + 1 ≤ d) : netD f k i (d + 1) = netD f k i d ++ [⟨(i : Int), (d : Int), f i d⟩] := by
  obtain ⟨c, rfl⟩ : ∃ c, d = i + 1 + c := ⟨d - (i + 1), by omega⟩
  unfold netD
  rw [show i + 1 + c + 1 - (i + 1) = c + 1 by omega, show i + 1 + c - (i + 1) = c by omega, netL_in h]
theorem netD_out {f : Nat → Nat → Int} {k i d : Nat} (h : f i d = 0) (hd : i + 1 ≤ d) : netD f k i (d + 1) = netD f k i d := by
  obtain ⟨c, rfl⟩ : ∃ c, d = i + 1 + c := ⟨d - (i + 1), by omega⟩
  unfold netD
  rw [show i + 1 + c + 1 - (i + 1) = c + 1 by omega, show i + 1 + c - (i + 1) = c by omega, netL_out h]
theorem netD_len (f : Nat → Nat → Int) {k i d : Nat} (hk : k ≤ 5) (hi : i < k) (hd : i + 1 ≤ d) (hd2 : d ≤ k) : (netD f k i d).length ≤ 100 := netL_len f hk hi (by omega)
theorem cutW_take (g : Int) (L : List Wr) (i : Nat) (h : i < L.length) : flatW (cutW g (L.take (i + 1)) ++ L.drop (i + 1)) = (flatW (cutW g (L.take i) ++ L.drop i)).set (i * 3 + 2) ((nthW L i).w.tdiv g) := by
  have e : L.drop i = nthW L i :: L.drop (i + 1) := by rw [nthW_eq L i h]; exact (List.getElem_cons_drop h).symm
  rw [take_snocW L i h, cutW_snoc, e]
  have hl : (flatW (cutW g (L.take i))).length = i * 3 := by rw [flatW_length, cutW_length, List.length_take]; omega
  rw [flatW_append, flatW_append, flatW_append]
  rw [show flatW (nthW L i :: L.drop (i + 1)) = (nthW L i).a :: (nthW L i).b :: (nthW L i).w :: flatW (L.drop (i + 1)) from rfl]
  rw [List.set_append, if_neg (by omega), hl, Nat.add_sub_cancel_left]
  rw [show flatW [(⟨(nthW L i).a, (nthW L i).b, (nthW L i).w.tdiv g⟩ : Wr)] = [(nthW L i).a, (nthW L i).b, (nthW L i).w.tdiv g] from rfl]
  simp
theorem cutW_get (g : Int) (L : List Wr) (i : Nat) (h : i < L.length) : (icells (flatW (cutW g (L.take i) ++ L.drop i)))[i * 3 + 2]? = some (.int .i64 (nthW L i).w) := by
  have hl : (cutW g (L.take i)).length = i := by rw [cutW_length, List.length_take]; omega
  have hlen : i < (cutW g (L.take i) ++ L.drop i).length := by simp [hl]; omega
  have h1 := (flatW_get (cutW g (L.take i) ++ L.drop i) i hlen).2.2
  have h2 : nthW (cutW g (L.take i) ++ L.drop i) i = nthW L i := by
    rw [nthW_eq _ i hlen, nthW_eq L i h, List.getElem_append_right (by omega)]
    simp [hl]
  rw [h2] at h1
  have h3 : i * 3 + 2 < (flatW (cutW g (L.take i) ++ L.drop i)).length := by rw [flatW_length]; omega
  rw [icells, List.getElem?_map, List.getElem?_eq_getElem h3]
  rw [List.getD_eq_getElem?_getD, List.getElem?_eq_getElem h3] at h1
  simpa using h1

set_option maxHeartbeats 6400000 in
theorem iNetOf (k : Nat) (E S : Int) (T : Int → Int → Int) (vm : Value) (w : World) (hm : SlMM w vm k T) (hk : k ≤ 5) (hS : 0 < S) (hS2 : S ≤ 1000000000) (hb : ∀ i j : Nat, i < k → j < k → 0 ≤ T i j ∧ T i j ≤ 1000000000) :
    Calls Try.prog 38 #[.int .i64 E, .int .i64 S, vm, .bool true] w (GivesO w
      (netB k E (S.tdiv (gcdF S (tabC (fun i j => T i j) k k))) (tabC (fun i j => T i j) k k).length (flatW (cutW (gcdF S (tabC (fun i j => T i j) k k)) (tabC (fun i j => T i j) k k))))
      k E (S.tdiv (gcdF S (tabC (fun i j => T i j) k k))) (cutW (gcdF S (tabC (fun i j => T i j) k k)) (tabC (fun i j => T i j) k k))) := by
  obtain ⟨f, hf⟩ : ∃ f : Nat → Nat → Int, (fun (i j : Nat) => T i j) = f := ⟨_, rfl⟩
  have HT : Hid (∀ i j : Nat, T i j = f i j) := fun i j => by rw [← hf]
  rw [hf]
  obtain ⟨pm, cm, rfl, hmc⟩ := hm
  have HMC := Lib.hid hmc
  have HB := Lib.hid hb
  have HG : Hid (∀ L, 0 < gcdF S L ∧ gcdF S L ≤ S) := fun L => gcdF_bd _ hS
  have HGs : Hid (∀ L e, gcdF S (L ++ [e]) = (gcdN (gcdF S L) e.w : Int)) := fun L e => gcdF_snoc S L e
  have HG0 : Hid (gcdF S (tabC f k 0) = S) := rfl
  have HF0 : Hid (flatW (tabC f k 0) = [] ∧ (tabC f k 0).length = 0) := ⟨rfl, rfl⟩
  clear hmc hb hf
  go_enter Try.func38, Try.ntmps38
  go_upto_region 1 with (fail)
  have R0 := ResD.new w (.int .i64 0) (.int .i64 0) (.int .i64 0) (.slice none 0 0) 35
  go_cut [10] (fun sx wx => sx = .pointer (some ⟨w.heap.size + 1, 0, none⟩) ∧ NetAt wx w.heap.size (w.heap.size + 1) k E S (.slice none 0 0) [] ∧ wx.frozen? ⟨w.heap.size + 1, 2, none⟩ = false ∧ Ge w wx)
  case first =>
    go_wp2_with fail
    go_meet
    have z1 : (w.alloc (.cells #[.int .i64 0, .int .i64 0, .int .i64 0, .slice none 0 0] 35)).heap.size = w.heap.size + 1 := by simp
    have h1 := NetAt.start (n := k) (E := E) (S := S) R0
    rw [z1] at h1
    exact ⟨rfl, h1, froz_new (by simp) (v := .int .i64 S) rfl, by (repeat (first | with_reducible exact Ge.refl _ | assumption | with_reducible refine Ge.drew ?_ | with_reducible refine Ge.drewN ?_ _ | with_reducible refine Ge.alloc ?_ _ | (with_reducible refine Ge.setCell ?_ (by first | (simp; done) | omega | (simp; omega)) _) | with_reducible refine Ge.trans ?_ (by assumption)))⟩
  obtain ⟨rfl, HN0, F0, g0⟩ := hcut
  go_wp2_with fail
  go_loopw [11, 24] (fun g i wr => ∃ (a : Nat) (u : Value), a ≤ k ∧ i = .int .i64 a ∧ g = .int .i64 (gcdF S (tabC f k a)) ∧ NetAt wr w.heap.size (w.heap.size + 1) k E S u (tabC f k a) ∧ wr.frozen? ⟨w.heap.size + 1, 2, none⟩ = false ∧ Ge w wr) (fun _ i _ => k - (intOf i).toNat)
  case atStart => exact ⟨0, _, Nat.zero_le _, rfl, by rw [HG0.out], HN0, F0, g0⟩
  case round =>
    obtain ⟨a, u, ha, rfl, rfl, HN', hF, hg⟩ := hrel
    have HNr := Lib.hid HN'
    clear HN' HN0
    by_cases hlt : a < k
    · obtain ⟨bm, om, prow, crow, rfl, xm, hrow⟩ := HMC.out a hlt
      have HR := Lib.hid hrow
      clear hrow
      have ym := hg.keep xm
      go_wp2_with fail
      clear ym
      go_loopw [11, 13] (fun g j wr => ∃ (d : Nat) (u : Value), a + 1 ≤ d ∧ d ≤ k ∧ j = .int .i64 (d : Int) ∧ g = .int .i64 (gcdF S (netD f k a d)) ∧ NetAt wr w.heap.size (w.heap.size + 1) k E S u (netD f k a d) ∧ wr.frozen? ⟨w.heap.size + 1, 2, none⟩ = false ∧ Ge w wr) (fun _ j _ => k - (intOf j).toNat)
      case atStart => exact ⟨a + 1, u, Nat.le_refl _, hlt, by simp, by rw [netD_zero], by rw [netD_zero]; exact HNr.out, hF, hg⟩
      case round =>
        clear hF HNr
        obtain ⟨d, u, hd, hdk, rfl, rfl, HN', hF, hg⟩ := hrel
        have HNi := Lib.hid HN'
        have a3 := HN'.c3
        have zG : w.heap.size + 1 < wr.heap.size := World.block_lt_of_cell? _ _ a3
        clear HN'
        by_cases hjk : d < k
        · obtain ⟨br, or', rfl, y0⟩ := HR.out d hjk
          have hb1 := HB.out a d hlt hjk
          rw [HT.out] at y0 hb1
          have y1 := hg.keep y0
          have xm1 := hg.keep xm
          by_cases hx : f a d = 0
          · have tx : (f a d != 0) = false := by simp [hx]
            have HO := Lib.hid (netD_out (k := k) hx hd)
            clear hx
            generalize f a d = X at *
            go_wp2_with fail
            go_roundw
            case rel => exact ⟨d + 1, u, by omega, by omega, by go_num, by rw [HO.out], by rw [HO.out]; exact HNi.out, hF, hg⟩
            case measure => simp [intOf]; omega
          · have tx : (f a d != 0) = true := by simp [hx]
            have HI := Lib.hid (netD_in (k := k) hx hd)
            clear hx
            have hgb := HG.out (netD f k a d)
            have hlen := netD_len f (by omega) hlt hd hdk
            have HGi := Lib.hid (HGs.out (netD f k a d) ⟨(a : Int), (d : Int), f a d⟩)
            generalize f a d = X at *
            generalize netD f k a d = F at *
            obtain ⟨l, hl⟩ : ∃ l, F.length = l := ⟨_, rfl⟩
            have hO := HNi.out.own
            rw [hl] at hO hlen
            have HO := Lib.hid hO
            have HL := Lib.hid hl
            clear hO hl
            generalize gcdF S F = G at *
            have HGc := Lib.hid (fun w' => iGcdOf G X w' (mid (by omega) (by omega)) (mid (by omega) (by omega)))
            go_wp2_with (first
              | (at_builtin; refine ap_wire rfl _ _ rfl (w.heap.size + 1 + 1) _ l (flatW F) rfl HO.out (a : Int) (d : Int) X (b0 := wr.heap.size) rfl rfl (by omega) (by omega) ?_; intro v8 w8 own8 m8 q8; obtain ⟨p8, c8, rfl⟩ := owns_form own8; have HA := NetAt.app (x := ⟨(a : Int), (d : Int), X⟩) HNi.out (by omega) (Ge.refl _) m8 (by rw [HL.out]; exact own8); have t3 := HA.2.1; have tf := HA.2.2; replace HA := Lib.hid HA.1; have F8 := mine_frozN m8 HNi.out.c2 hF (before_row HO.out (by show w.heap.size + 1 < w.heap.size + 1 + 1; omega)); have G8 := Ge.setCell (hg.mine HO.out (by omega) m8) (p := ⟨w.heap.size + 1, 3, none⟩) (by show w.heap.size ≤ w.heap.size + 1; omega) (.slice p8 (l + 1) c8); have F9 := froz_set (b := ⟨w.heap.size + 1, 3, none⟩) (u := .slice p8 (l + 1) c8) F8)
              | (go_at_call 49; ((with_reducible refine (HGc.out _).mono ?_); rintro r w5 ⟨rfl, g5⟩)))
            go_roundw
            case rel => exact ⟨d + 1, _, by omega, by omega, by go_num, by rw [HI.out, HGi.out], by rw [HI.out]; exact HA.out.ge g5, g5.keepF HA.out.c2 F9, Ge.trans G8 g5⟩
            case measure => simp [intOf]; omega
        · have hdn : d = k := by omega
          subst hdn
          have HAl := Lib.hid (netD_all f d a)
          go_wp2_with fail
          go_roundw
          case rel => exact ⟨a + 1, u, by omega, by go_num, by rw [← HAl.out], by rw [← HAl.out]; exact HNi.out, hF, hg⟩
          case measure => simp [intOf]; omega
    · have hak : a = k := by omega
      subst hak
      have hgb := HG.out (tabC f a a)
      have HT2 : Hid (∀ i, i < (tabC f a a).length → flatW (cutW (gcdF S (tabC f a a)) ((tabC f a a).take (i + 1)) ++ (tabC f a a).drop (i + 1)) = (flatW (cutW (gcdF S (tabC f a a)) ((tabC f a a).take i) ++ (tabC f a a).drop i)).set (i * 3 + 2) ((nthW (tabC f a a) i).w.tdiv (gcdF S (tabC f a a)))) := fun i hi => cutW_take _ _ i hi
      have HTg : Hid (∀ i, i < (tabC f a a).length → (icells (flatW (cutW (gcdF S (tabC f a a)) ((tabC f a a).take i) ++ (tabC f a a).drop i)))[i * 3 + 2]? = some (.int .i64 (nthW (tabC f a a) i).w)) := fun i hi => cutW_get _ _ i hi
      have HTl : Hid (∀ i, i ≤ (tabC f a a).length → (cutW (gcdF S (tabC f a a)) ((tabC f a a).take i) ++ (tabC f a a).drop i).length = (tabC f a a).length) := fun i hi => by
        show _ = _
        rw [List.length_append, cutW_length, List.length_take, List.length_drop]; omega
      have HTn : Hid (cutW (gcdF S (tabC f a a)) ((tabC f a a).take (tabC f a a).length) ++ (tabC f a a).drop (tabC f a a).length = cutW (gcdF S (tabC f a a)) (tabC f a a)) := by
        show _ = _
        rw [List.take_length, List.drop_length, List.append_nil]
      have HT0 : Hid (cutW (gcdF S (tabC f a a)) ((tabC f a a).take 0) ++ (tabC f a a).drop 0 = tabC f a a) := by
        show _ = _
        simp [cutW]
      have HWb : Hid (∀ i, i < (tabC f a a).length → 0 ≤ (nthW (tabC f a a) i).w ∧ (nthW (tabC f a a) i).w ≤ 1000000000) := fun i hi => by
        have hm : nthW (tabC f a a) i ∈ tabC f a a := by rw [nthW_eq _ i hi]; exact List.getElem_mem _
        obtain ⟨x, y, h1, h2, h3, h4, h5⟩ := mem_tabC.1 hm
        rw [h5]
        have := HB.out x y (by omega) h3
        rw [HT.out] at this
        exact this
      have hln : (tabC f a a).length ≤ 100 := Nat.le_trans (tabC_len f a a) (Nat.le_trans (Nat.mul_le_mul hk hk) (by omega))
      have HCl : Hid (∀ g, (cutW g (tabC f a a)).length = (tabC f a a).length) := fun g => cutW_length _ _
      clear HGs HG0 HF0 HMC
      generalize hGG : gcdF S (tabC f a a) = G at *
      have HGG := Lib.hid hGG
      clear hGG
      generalize tabC f a a = L at *
      obtain ⟨m, hm⟩ : ∃ m, L.length = m := ⟨_, rfl⟩
      rw [hm] at HT2 HTg HTl HTn HWb hln HCl
      have HL := Lib.hid hm
      have HO := HNr.out.own
      rw [hm] at HO
      obtain ⟨p, c, rfl⟩ := owns_form HO
      replace HO := Lib.hid HO
      clear hm
      have gz : ¬ G = 0 := by omega
      have w1 : IntKind.i64.wrap (S.tdiv G) = S.tdiv G := IntWalk.i64_in _ (by have := tdiv_in (x := S) (g := G) (by omega) (by omega); omega)
      have a2 := HNr.out.c2
      have a3 := HNr.out.c3
      have HNs := Lib.hid (NetAt.setS (S' := S.tdiv G) HNr.out (by omega))
      have a3s := HNs.out.c3
      have gS := Ge.setCell hg (p := ⟨w.heap.size + 1, 2, none⟩) (by show w.heap.size ≤ w.heap.size + 1; omega) (.int .i64 (S.tdiv G))
      have HNv := Lib.hid (fun v w' (h : SlF w' v m 3 (flatW (cutW G L))) => iNetOk a E (S.tdiv G) v m (flatW (cutW G L)) w' h (by omega))
      go_wp2_with fail
      go_loopw [66] (fun i wr => ∃ j : Nat, j ≤ m ∧ i = .int .i64 j ∧ NetAt wr w.heap.size (w.heap.size + 1) a E (S.tdiv G) (.slice p m c) (cutW G (L.take j) ++ L.drop j) ∧ Ge w wr) (fun i _ => m - (intOf i).toNat)
      case atStart => exact ⟨0, Nat.zero_le _, rfl, by rw [HT0.out]; exact HNs.out, gS⟩
      case round =>
        clear HNs HNr HO a2 a3 a3s gS hF
        obtain ⟨j, hj, rfl, HN', hg⟩ := hrel
        have HNi := Lib.hid HN'
        clear HN'
        have a3 := HNi.out.c3
        have zG : w.heap.size + 1 < wr.heap.size := World.block_lt_of_cell? _ _ a3
        by_cases hjm : j < m
        · have hO := HNi.out.own
          have hTl := HTl.out j (by omega)
          have hTl2 := HTl.out (j + 1) (by omega)
          rw [hTl] at hO
          obtain ⟨q, cq, hq⟩ := Go.Joins.ownsRow_form hO (by omega)
          simp only [Value.slice.injEq, true_and] at hq
          obtain ⟨rfl, rfl⟩ := hq
          have y0 := hO.cellAt (j * 3 + 2) (by omega)
          have hw := HTg.out j hjm
          have yf := hO.frozenAt (j * 3 + 2)
          have HS := Lib.hid (HNi.out.setW (by omega) hTl hTl2 (HT2.out j hjm))
          have hzq := HS.out.2
          have hwb := HWb.out j hjm
          rw [hw] at y0
          clear hO hw hTl hTl2
          generalize nthW L j = X at *
          have w2 : IntKind.i64.wrap (X.w.tdiv G) = X.w.tdiv G := IntWalk.i64_in _ (by have := tdiv_in (x := X.w) (g := G) (by omega) (by omega); omega)
          go_wp2_with fail
          go_roundw
          case rel => exact ⟨j + 1, by omega, by go_num, HS.out.1, Ge.setCell hg (p := ⟨q, j * 3 + 2, none⟩) (by show w.heap.size ≤ q; omega) _⟩
          case measure => simp [intOf]; omega
        · have hjm' : j = m := by omega
          subst hjm'
          rw [HTn.out] at HNi
          have hcl := HCl.out G
          obtain ⟨a0, a1, a2, a3, af, ao, ar⟩ := HNi.out
          obtain ⟨r0, p0, f0⟩ := ar 0 (by omega)
          obtain ⟨r1, p1, f1⟩ := ar 1 (by omega)
          obtain ⟨r2, p2, f2⟩ := ar 2 (by omega)
          obtain ⟨r3, p3, f3⟩ := ar 3 (by omega)
          have ao2 := ao
          rw [hcl] at ao2
          have HSl := Lib.hid (SlF.of_owns ao2)
          have HO := Lib.hid ao2
          have HCg := Lib.hid hcl
          clear ao ar ao2 hcl
          have zl2 : w.heap.size < wr.heap.size := by omega
          by_cases hB : netB a E (S.tdiv G) j (flatW (cutW G L)) = true
          · have HT1 := Lib.hid (fun u w' ho g => GivesO.t (w := w) (w' := w') (N := a) (E := E) (S := S.tdiv G) (L := cutW G L) (u := u) hB ho g)
            rw [hB] at HNv
            clear hB
            go_wp2_with ((go_at_call 50; ((with_reducible refine (HNv.out _ _ HSl.out).mono ?_); rintro r w9 ⟨rfl, g9⟩)); have e0 := g9.keep a0; have e1 := g9.keep a1; have e2 := g9.keep a2; have e3 := g9.keep a3; have q0 := g9.keep p0; have q1 := g9.keep p1; have q2 := g9.keep p2; have q3 := g9.keep p3; have h0 := g9.keepF p0 f0; have h1 := g9.keepF p1 f1; have h2 := g9.keepF p2 f2; have h3 := g9.keepF p3 f3; have o9 := g9.owns HO.out)
            exact bodyPost_ret (v := .tuple #[.agg #[.int .i64 (a : Int), .int .i64 E, .int .i64 (S.tdiv G), .slice p j c], .bool true]) (by simp [results, Try.results38, go_sem, *]) rfl (by refine (?_ : GivesO w _ _ _ _ _ _ _); rw [HL.out]; exact HT1.out _ _ (by rw [HCg.out]; refine owns_mono (base := w.heap.size + 1 + 1) ?_ (by omega); repeat (first | exact o9 | refine own_setD ?_ (by omega))) (by (repeat (first | with_reducible exact Ge.refl _ | assumption | with_reducible refine Ge.drew ?_ | with_reducible refine Ge.drewN ?_ _ | with_reducible refine Ge.alloc ?_ _ | (with_reducible refine Ge.setCell ?_ (by first | (simp; done) | omega | (simp; omega)) _) | with_reducible refine Ge.trans ?_ (by assumption)))))
          · have hB' : netB a E (S.tdiv G) j (flatW (cutW G L)) = false := by simpa using hB
            have HT1 := Lib.hid (fun w' g => GivesO.f (w := w) (w' := w') (N := a) (E := E) (S := S.tdiv G) (L := cutW G L) hB' g)
            rw [hB'] at HNv
            clear hB hB'
            go_wp2_with ((go_at_call 50; ((with_reducible refine (HNv.out _ _ HSl.out).mono ?_); rintro r w9 ⟨rfl, g9⟩)); have e0 := g9.keep a0; have e1 := g9.keep a1; have e2 := g9.keep a2; have e3 := g9.keep a3; have q0 := g9.keep p0; have q1 := g9.keep p1; have q2 := g9.keep p2; have q3 := g9.keep p3; have h0 := g9.keepF p0 f0; have h1 := g9.keepF p1 f1; have h2 := g9.keepF p2 f2; have h3 := g9.keepF p3 f3)
            exact bodyPost_ret (v := .tuple #[.agg #[.int .i64 0, .int .i64 0, .int .i64 0, .slice none 0 0], .bool false]) (by simp [results, Try.results38, go_sem, *]) rfl (by refine (?_ : GivesO w _ _ _ _ _ _ _); rw [HL.out]; exact HT1.out _ (by (repeat (first | with_reducible exact Ge.refl _ | assumption | with_reducible refine Ge.drew ?_ | with_reducible refine Ge.drewN ?_ _ | with_reducible refine Ge.alloc ?_ _ | (with_reducible refine Ge.setCell ?_ (by first | (simp; done) | omega | (simp; omega)) _) | with_reducible refine Ge.trans ?_ (by assumption)))))
end Go.Proofs.Ytenfkpdbfmeebaa

namespace Go.Proofs.Ytenfkpdbfmeebaa
set_option maxRecDepth 100000
open Go.ChangeShapes Go.WideShapes Go.ChangeAt Go.RowKit Go.Joins

set_option maxHeartbeats 6400000 in
theorem iNetOfU (k : Nat) (E S : Int) (T : Int → Int → Int) (vm : Value) (w : World) (hm : SlMM w vm k T) (hk : k ≤ 5) (hS : 0 < S) (hS2 : S ≤ 1000000000) (hb : ∀ i j : Nat, i < k → j < k → 0 ≤ T i j ∧ T i j ≤ 1000000000) :
    Calls Try.prog 38 #[.int .i64 E, .int .i64 S, vm, .bool false] w (GivesO w
(netB k E S (tabC (fun i j => T i j) k k).length (flatW (tabC (fun i j => T i j) k k))) k E S (tabC (fun i j => T i j) k k)) := by
  obtain ⟨f, hf⟩ : ∃ f : Nat → Nat → Int, (fun (i j : Nat) => T i j) = f := ⟨_, rfl⟩
  have HT : Hid (∀ i j : Nat, T i j = f i j) := fun i j => by rw [← hf]
  rw [hf]
  obtain ⟨pm, cm, rfl, hmc⟩ := hm
  have HMC := Lib.hid hmc
  have HB := Lib.hid hb
  have HG : Hid (∀ L, 0 < gcdF S L ∧ gcdF S L ≤ S) := fun L => gcdF_bd _ hS
  have HGs : Hid (∀ L e, gcdF S (L ++ [e]) = (gcdN (gcdF S L) e.w : Int)) := fun L e => gcdF_snoc S L e
  have HG0 : Hid (gcdF S (tabC f k 0) = S) := rfl
  have HF0 : Hid (flatW (tabC f k 0) = [] ∧ (tabC f k 0).length = 0) := ⟨rfl, rfl⟩
  clear hmc hb hf
  go_enter Try.func38, Try.ntmps38
  go_upto_region 1 with (fail)
  have R0 := ResD.new w (.int .i64 0) (.int .i64 0) (.int .i64 0) (.slice none 0 0) 35
  go_cut [10] (fun sx wx => sx = .pointer (some ⟨w.heap.size + 1, 0, none⟩) ∧ NetAt wx w.heap.size (w.heap.size + 1) k E S (.slice none 0 0) [] ∧ wx.frozen? ⟨w.heap.size + 1, 2, none⟩ = false ∧ Ge w wx)
  case first =>
    go_wp2_with fail
    go_meet
    have z1 : (w.alloc (.cells #[.int .i64 0, .int .i64 0, .int .i64 0, .slice none 0 0] 35)).heap.size = w.heap.size + 1 := by simp
    have h1 := NetAt.start (n := k) (E := E) (S := S) R0
    rw [z1] at h1
    exact ⟨rfl, h1, froz_new (by simp) (v := .int .i64 S) rfl, by (repeat (first | with_reducible exact Ge.refl _ | assumption | with_reducible refine Ge.drew ?_ | with_reducible refine Ge.drewN ?_ _ | with_reducible refine Ge.alloc ?_ _ | (with_reducible refine Ge.setCell ?_ (by first | (simp; done) | omega | (simp; omega)) _) | with_reducible refine Ge.trans ?_ (by assumption)))⟩
  obtain ⟨rfl, HN0, F0, g0⟩ := hcut
  go_wp2_with fail
  go_loopw [11, 24] (fun g i wr => ∃ (a : Nat) (u : Value), a ≤ k ∧ i = .int .i64 a ∧ g = .int .i64 (gcdF S (tabC f k a)) ∧ NetAt wr w.heap.size (w.heap.size + 1) k E S u (tabC f k a) ∧ wr.frozen? ⟨w.heap.size + 1, 2, none⟩ = false ∧ Ge w wr) (fun _ i _ => k - (intOf i).toNat)
  case atStart => exact ⟨0, _, Nat.zero_le _, rfl, by rw [HG0.out], HN0, F0, g0⟩
  case round =>
    obtain ⟨a, u, ha, rfl, rfl, HN', hF, hg⟩ := hrel
    have HNr := Lib.hid HN'
    clear HN' HN0
    by_cases hlt : a < k
    · obtain ⟨bm, om, prow, crow, rfl, xm, hrow⟩ := HMC.out a hlt
      have HR := Lib.hid hrow
      clear hrow
      have ym := hg.keep xm
      go_wp2_with fail
      clear ym
      go_loopw [11, 13] (fun g j wr => ∃ (d : Nat) (u : Value), a + 1 ≤ d ∧ d ≤ k ∧ j = .int .i64 (d : Int) ∧ g = .int .i64 (gcdF S (netD f k a d)) ∧ NetAt wr w.heap.size (w.heap.size + 1) k E S u (netD f k a d) ∧ wr.frozen? ⟨w.heap.size + 1, 2, none⟩ = false ∧ Ge w wr) (fun _ j _ => k - (intOf j).toNat)
      case atStart => exact ⟨a + 1, u, Nat.le_refl _, hlt, by simp, by rw [netD_zero], by rw [netD_zero]; exact HNr.out, hF, hg⟩
      case round =>
        clear hF HNr
        obtain ⟨d, u, hd, hdk, rfl, rfl, HN', hF, hg⟩ := hrel
        have HNi := Lib.hid HN'
        have a3 := HN'.c3
        have zG : w.heap.size + 1 < wr.heap.size := World.block_lt_of_cell? _ _ a3
        clear HN'
        by_cases hjk : d < k
        · obtain ⟨br, or', rfl, y0⟩ := HR.out d hjk
          have hb1 := HB.out a d hlt hjk
          rw [HT.out] at y0 hb1
          have y1 := hg.keep y0
          have xm1 := hg.keep xm
          by_cases hx : f a d = 0
          · have tx : (f a d != 0) = false := by simp [hx]
            have HO := Lib.hid (netD_out (k := k) hx hd)
            clear hx
            generalize f a d = X at *
            go_wp2_with fail
            go_roundw
            case rel => exact ⟨d + 1, u, by omega, by omega, by go_num, by rw [HO.out], by rw [HO.out]; exact HNi.out, hF, hg⟩
            case measure => simp [intOf]; omega
          · have tx : (f a d != 0) = true := by simp [hx]
            have HI := Lib.hid (netD_in (k := k) hx hd)
            clear hx
            have hgb := HG.out (netD f k a d)
            have hlen := netD_len f (by omega) hlt hd hdk
            have HGi := Lib.hid (HGs.out (netD f k a d) ⟨(a : Int), (d : Int), f a d⟩)
            generalize f a d = X at *
            generalize netD f k a d = F at *
            obtain ⟨l, hl⟩ : ∃ l, F.length = l := ⟨_, rfl⟩
            have hO := HNi.out.own
            rw [hl] at hO hlen
            have HO := Lib.hid hO
            have HL := Lib.hid hl
            clear hO hl
            generalize gcdF S F = G at *
            have HGc := Lib.hid (fun w' => iGcdOf G X w' (mid (by omega) (by omega)) (mid (by omega) (by omega)))
            go_wp2_with (first
              | (at_builtin; refine ap_wire rfl _ _ rfl (w.heap.size + 1 + 1) _ l (flatW F) rfl HO.out (a : Int) (d : Int) X (b0 := wr.heap.size) rfl rfl (by omega) (by omega) ?_; intro v8 w8 own8 m8 q8; obtain ⟨p8, c8, rfl⟩ := owns_form own8; have HA := NetAt.app (x := ⟨(a : Int), (d : Int), X⟩) HNi.out (by omega) (Ge.refl _) m8 (by rw [HL.out]; exact own8); have t3 := HA.2.1; have tf := HA.2.2; replace HA := Lib.hid HA.1; have F8 := mine_frozN m8 HNi.out.c2 hF (before_row HO.out (by show w.heap.size + 1 < w.heap.size + 1 + 1; omega)); have G8 := Ge.setCell (hg.mine HO.out (by omega) m8) (p := ⟨w.heap.size + 1, 3, none⟩) (by show w.heap.size ≤ w.heap.size + 1; omega) (.slice p8 (l + 1) c8); have F9 := froz_set (b := ⟨w.heap.size + 1, 3, none⟩) (u := .slice p8 (l + 1) c8) F8)
              | (go_at_call 49; ((with_reducible refine (HGc.out _).mono ?_); rintro r w5 ⟨rfl, g5⟩)))
            go_roundw
            case rel => exact ⟨d + 1, _, by omega, by omega, by go_num, by rw [HI.out, HGi.out], by rw [HI.out]; exact HA.out.ge g5, g5.keepF HA.out.c2 F9, Ge.trans G8 g5⟩
            case measure => simp [intOf]; omega
        · have hdn : d = k := by omega
          subst hdn
          have HAl := Lib.hid (netD_all f d a)
          go_wp2_with fail
          go_roundw
          case rel => exact ⟨a + 1, u, by omega, by go_num, by rw [← HAl.out], by rw [← HAl.out]; exact HNi.out, hF, hg⟩
          case measure => simp [intOf]; omega
    · have hak : a = k := by omega
      subst hak
      have hln : (tabC f a a).length ≤ 100 := Nat.le_trans (tabC_len f a a) (Nat.le_trans (Nat.mul_le_mul hk hk) (by omega))
      have hGb := HG.out (tabC f a a)
      clear HGs HG0 HF0 HMC
      generalize gcdF S (tabC f a a) = G at *
      generalize tabC f a a = L at *
      obtain ⟨m, hm⟩ : ∃ m, L.length = m := ⟨_, rfl⟩
      rw [hm] at hln
      have HL := Lib.hid hm
      have HO := HNr.out.own
      rw [hm] at HO
      obtain ⟨p, c, rfl⟩ := owns_form HO
      replace HO := Lib.hid HO
      have hcl := hm
      clear hm
      have HNv := Lib.hid (fun v w' (h : SlF w' v m 3 (flatW L)) => iNetOk a E S v m (flatW L) w' h (by omega))
      have zG : w.heap.size + 1 < wr.heap.size := World.block_lt_of_cell? _ _ HNr.out.c3
      obtain ⟨a0, a1, a2, a3, af, ao, ar⟩ := HNr.out
      obtain ⟨r0, p0, f0⟩ := ar 0 (by omega)
      obtain ⟨r1, p1, f1⟩ := ar 1 (by omega)
      obtain ⟨r2, p2, f2⟩ := ar 2 (by omega)
      obtain ⟨r3, p3, f3⟩ := ar 3 (by omega)
      have ao2 := ao
      rw [hcl] at ao2
      have HSl := Lib.hid (SlF.of_owns ao2)
      have HO := Lib.hid ao2
      have HCg := Lib.hid hcl
      clear ao ar ao2 hcl
      have zl2 : w.heap.size < wr.heap.size := by omega
      by_cases hB : netB a E S m (flatW (L)) = true
      · have HT1 := Lib.hid (fun u w' ho g => GivesO.t (w := w) (w' := w') (N := a) (E := E) (S := S) (L := L) (u := u) hB ho g)
        rw [hB] at HNv
        clear hB
        go_wp2_with ((go_at_call 50; ((with_reducible refine (HNv.out _ _ HSl.out).mono ?_); rintro r w9 ⟨rfl, g9⟩)); have e0 := g9.keep a0; have e1 := g9.keep a1; have e2 := g9.keep a2; have e3 := g9.keep a3; have q0 := g9.keep p0; have q1 := g9.keep p1; have q2 := g9.keep p2; have q3 := g9.keep p3; have h0 := g9.keepF p0 f0; have h1 := g9.keepF p1 f1; have h2 := g9.keepF p2 f2; have h3 := g9.keepF p3 f3; have o9 := g9.owns HO.out)
        exact bodyPost_ret (v := .tuple #[.agg #[.int .i64 (a : Int), .int .i64 E, .int .i64 S, .slice p m c], .bool true]) (by simp [results, Try.results38, go_sem, *]) rfl (by refine (?_ : GivesO w _ _ _ _ _ _ _); rw [HL.out]; exact HT1.out _ _ (by rw [HCg.out]; refine owns_mono (base := w.heap.size + 1 + 1) ?_ (by omega); repeat (first | exact o9 | refine own_setD ?_ (by omega))) (by (repeat (first | with_reducible exact Ge.refl _ | assumption | with_reducible refine Ge.drew ?_ | with_reducible refine Ge.drewN ?_ _ | with_reducible refine Ge.alloc ?_ _ | (with_reducible refine Ge.setCell ?_ (by first | (simp; done) | omega | (simp; omega)) _) | with_reducible refine Ge.trans ?_ (by assumption)))))
      · have hB' : netB a E S m (flatW (L)) = false := by simpa using hB
        have HT1 := Lib.hid (fun w' g => GivesO.f (w := w) (w' := w') (N := a) (E := E) (S := S) (L := L) hB' g)
        rw [hB'] at HNv
        clear hB hB'
        go_wp2_with ((go_at_call 50; ((with_reducible refine (HNv.out _ _ HSl.out).mono ?_); rintro r w9 ⟨rfl, g9⟩)); have e0 := g9.keep a0; have e1 := g9.keep a1; have e2 := g9.keep a2; have e3 := g9.keep a3; have q0 := g9.keep p0; have q1 := g9.keep p1; have q2 := g9.keep p2; have q3 := g9.keep p3; have h0 := g9.keepF p0 f0; have h1 := g9.keepF p1 f1; have h2 := g9.keepF p2 f2; have h3 := g9.keepF p3 f3)
        exact bodyPost_ret (v := .tuple #[.agg #[.int .i64 0, .int .i64 0, .int .i64 0, .slice none 0 0], .bool false]) (by simp [results, Try.results38, go_sem, *]) rfl (by refine (?_ : GivesO w _ _ _ _ _ _ _); rw [HL.out]; exact HT1.out _ (by (repeat (first | with_reducible exact Ge.refl _ | assumption | with_reducible refine Ge.drew ?_ | with_reducible refine Ge.drewN ?_ _ | with_reducible refine Ge.alloc ?_ _ | (with_reducible refine Ge.setCell ?_ (by first | (simp; done) | omega | (simp; omega)) _) | with_reducible refine Ge.trans ?_ (by assumption)))))
end Go.Proofs.Ytenfkpdbfmeebaa

namespace Go.Proofs.Ytenfkpdbfmeebaa
set_option maxRecDepth 100000
open Go.ChangeShapes Go.WideShapes Go.ChangeAt Go.RowKit Go.Joins

theorem no_wire {xs : List Int} {a b : Int} {k : Nat} (h : Hid (∀ j, j < k → ¬ isW xs a b j)) (hk : ¬ isW xs a b k) : Hid (∀ j, j < k + 1 → ¬ isW xs a b j) := fun j hj => by
  by_cases e : j = k
  · subst e; exact hk
  · exact h.out j (by omega)

end Go.Proofs.Ytenfkpdbfmeebaa

namespace Go.Proofs.Ytenfkpdbfmeebaa
set_option maxRecDepth 100000
open Go.ChangeShapes Go.WideShapes Go.ChangeAt Go.RowKit Go.Joins

theorem no_wire2 {xs : List Int} {a b : Int} {k : Nat} (h : Hid (∀ j, j < k → ¬ isW xs a b j)) (hk : ¬ isW xs a b k) : Hid (∀ j, j < k + 1 → ¬ isW xs a b j) := fun j hj => by
  by_cases e : j = k
  · subst e; exact hk
  · exact h.out j (by omega)

end Go.Proofs.Ytenfkpdbfmeebaa

namespace Go.Proofs.Ytenfkpdbfmeebaa
set_option maxRecDepth 100000
open Go.ChangeShapes Go.WideShapes Go.ChangeAt Go.RowKit Go.Joins

theorem good_nextWS {N : Int} {xs : List Int} {k : Nat} (h : Hid (∀ i, i < k → goodW N xs i)) (hk : goodW N xs k) : Hid (∀ i, i < k + 1 → goodW N xs i) := fun i hi => by
  by_cases e : i = k
  · subst e; exact hk
  · exact h.out i (by omega)

set_option maxHeartbeats 6400000 in
theorem sNetOk (N E S : Int) (s : Value) (m : Nat) (xs : List Int) (w : World) (hs : SlF w s m 3 xs) (hm : m ≤ 9223372036854775807) :
    Calls Try.prog 34 #[.agg #[.int .i64 N, .int .i64 E, .int .i64 S, s]] w fun e w' => e = .returned (.bool (netB N E S m xs)) ∧ Ge w w' := by
  obtain ⟨p, cap, rfl, hc⟩ := hs.open
  have HV := Lib.hid hs
  have HC := Lib.hid hc
  clear hs hc
  by_cases a1 : ¬ (1 ≤ N ∧ N ≤ 5)
  · have HF : Hid (netB N E S m xs = false) := netB_false (fun h => a1 h.1)
    have i1 : inB N 1 5 = false := inB_false (by omega)
    clear a1
    go_enter Try.func34, Try.ntmps34
    go_wp2_with (go_at_call 42; ((with_reducible refine (sL01In _ _ _ _).mono ?_); rintro e w' ⟨rfl, rfl⟩))
    go_ret
    exact ⟨ret_bool HF.out.symm, by (repeat (first | with_reducible exact Ge.refl _ | assumption | with_reducible refine Ge.drew ?_ | with_reducible refine Ge.drewN ?_ _ | with_reducible refine Ge.alloc ?_ _ | (with_reducible refine Ge.setCell ?_ (by first | (simp; done) | omega | (simp; omega)) _) | with_reducible refine Ge.trans ?_ (by assumption)))⟩
  replace a1 := Classical.not_not.1 a1
  have i1 : inB N 1 5 = true := inB_true a1.1 a1.2
  by_cases a2 : ¬ (1 ≤ E ∧ E ≤ N)
  · have HF : Hid (netB N E S m xs = false) := netB_false (fun h => a2 h.2.1)
    have i2 : inB E 1 N = false := inB_false (by omega)
    clear a2
    go_enter Try.func34, Try.ntmps34
    go_wp2_with (go_at_call 42; ((with_reducible refine (sL01In _ _ _ _).mono ?_); rintro e w' ⟨rfl, rfl⟩))
    go_ret
    exact ⟨ret_bool HF.out.symm, by (repeat (first | with_reducible exact Ge.refl _ | assumption | with_reducible refine Ge.drew ?_ | with_reducible refine Ge.drewN ?_ _ | with_reducible refine Ge.alloc ?_ _ | (with_reducible refine Ge.setCell ?_ (by first | (simp; done) | omega | (simp; omega)) _) | with_reducible refine Ge.trans ?_ (by assumption)))⟩
  replace a2 := Classical.not_not.1 a2
  have i2 : inB E 1 N = true := inB_true a2.1 a2.2
  by_cases a3 : ¬ (1 ≤ S ∧ S ≤ 1000)
  · have HF : Hid (netB N E S m xs = false) := netB_false (fun h => a3 h.2.2.1)
    have i3 : inB S 1 1000 = false := inB_false (by omega)
    clear a3
    go_enter Try.func34, Try.ntmps34
    go_wp2_with (go_at_call 42; ((with_reducible refine (sL01In _ _ _ _).mono ?_); rintro e w' ⟨rfl, rfl⟩))
    go_ret
    exact ⟨ret_bool HF.out.symm, by (repeat (first | with_reducible exact Ge.refl _ | assumption | with_reducible refine Ge.drew ?_ | with_reducible refine Ge.drewN ?_ _ | with_reducible refine Ge.alloc ?_ _ | (with_reducible refine Ge.setCell ?_ (by first | (simp; done) | omega | (simp; omega)) _) | with_reducible refine Ge.trans ?_ (by assumption)))⟩
  replace a3 := Classical.not_not.1 a3
  have i3 : inB S 1 1000 = true := inB_true a3.1 a3.2
  obtain ⟨n, rfl⟩ : ∃ n : Nat, N = (n : Int) := ⟨N.toNat, by omega⟩
  have n1 : 1 ≤ n := by omega
  have n5 : n ≤ 5 := by omega
  go_enter Try.func34, Try.ntmps34
  go_wp2_with (go_at_call 42; ((with_reducible refine (sL01In _ _ _ _).mono ?_); rintro e w' ⟨rfl, rfl⟩))
  go_loopw [26] (fun i wr => ∃ k : Nat, k ≤ m ∧ i = .int .i64 k ∧ Hid (∀ j, j < k → goodW n xs j) ∧ Ge (w.alloc (.cells #[.int .i64 (n : Int), .int .i64 E, .int .i64 S, .slice p m cap] 35)) wr) (fun i _ => m - (intOf i).toNat)
  case atStart => exact ⟨0, Nat.zero_le _, rfl, fun j hj => by omega, Ge.refl _⟩
  case round =>
    obtain ⟨k, hk, rfl, HK, hg⟩ := hrel
    have G : Ge w wr := Ge.trans ((Ge.refl w).alloc _) hg
    have c0 := hg.keep (cell_new (i := 0) rfl rfl)
    have c1 := hg.keep (cell_new (i := 1) rfl rfl)
    have c2 := hg.keep (cell_new (i := 2) rfl rfl)
    have c3 := hg.keep (cell_new (i := 3) rfl rfl)
    have zw := hg.size
    simp at c0 c1 c2 c3 zw
    have zl : w.heap.size < wr.heap.size := by omega
    by_cases hlt : k < m
    · obtain ⟨b, o, rfl, x0, x1, x2⟩ := three_cells HC.out hlt
      have y0 := G.keep x0
      have y1 := G.keep x1
      have y2 := G.keep x2
      have lb := World.block_lt_of_cell? w _ x0
      simp at lb
      clear x0 x1 x2
      change wr.cell? _ = some (.int .i64 (wa xs k)) at y0
      change wr.cell? _ = some (.int .i64 (wb xs k)) at y1
      change wr.cell? _ = some (.int .i64 (ww xs k)) at y2
      by_cases t1 : ¬ (0 ≤ wa xs k ∧ wa xs k ≤ (n : Int) - 1)
      · have HF : Hid (netB n E S m xs = false) := netB_false (fun h => by have q := (h.2.2.2.1 k hlt).1; unfold okW at q; exact t1 ⟨by omega, by omega⟩)
        have j1 : inB (wa xs k) (0) ((n : Int) - 1) = false := inB_false (by omega)
        clear t1
        go_wp2_with (go_at_call 42; ((with_reducible refine (sL01In _ _ _ _).mono ?_); rintro e w' ⟨rfl, rfl⟩))
        go_ret
        exact ⟨ret_bool HF.out.symm, by (repeat (first | with_reducible exact Ge.refl _ | assumption | with_reducible refine Ge.drew ?_ | with_reducible refine Ge.drewN ?_ _ | with_reducible refine Ge.alloc ?_ _ | (with_reducible refine Ge.setCell ?_ (by first | (simp; done) | omega | (simp; omega)) _) | with_reducible refine Ge.trans ?_ (by assumption)))⟩
      replace t1 := Classical.not_not.1 t1
      have j1 : inB (wa xs k) (0) ((n : Int) - 1) = true := inB_true t1.1 t1.2
      by_cases t2 : ¬ (wa xs k + 1 ≤ wb xs k ∧ wb xs k ≤ (n : Int) - 1)
      · have HF : Hid (netB n E S m xs = false) := netB_false (fun h => by have q := (h.2.2.2.1 k hlt).1; unfold okW at q; exact t2 ⟨by omega, by omega⟩)
        have j2 : inB (wb xs k) (wa xs k + 1) ((n : Int) - 1) = false := inB_false (by omega)
        clear t2
        go_wp2_with (go_at_call 42; ((with_reducible refine (sL01In _ _ _ _).mono ?_); rintro e w' ⟨rfl, rfl⟩))
        go_ret
        exact ⟨ret_bool HF.out.symm, by (repeat (first | with_reducible exact Ge.refl _ | assumption | with_reducible refine Ge.drew ?_ | with_reducible refine Ge.drewN ?_ _ | with_reducible refine Ge.alloc ?_ _ | (with_reducible refine Ge.setCell ?_ (by first | (simp; done) | omega | (simp; omega)) _) | with_reducible refine Ge.trans ?_ (by assumption)))⟩
      replace t2 := Classical.not_not.1 t2
      have j2 : inB (wb xs k) (wa xs k + 1) ((n : Int) - 1) = true := inB_true t2.1 t2.2
      by_cases t3 : ¬ (1 ≤ ww xs k ∧ ww xs k ≤ 200)
      · have HF : Hid (netB n E S m xs = false) := netB_false (fun h => by have q := (h.2.2.2.1 k hlt).1; unfold okW at q; exact t3 ⟨by omega, by omega⟩)
        have j3 : inB (ww xs k) (1) (200) = false := inB_false (by omega)
        clear t3
        go_wp2_with (go_at_call 42; ((with_reducible refine (sL01In _ _ _ _).mono ?_); rintro e w' ⟨rfl, rfl⟩))
        go_ret
        exact ⟨ret_bool HF.out.symm, by (repeat (first | with_reducible exact Ge.refl _ | assumption | with_reducible refine Ge.drew ?_ | with_reducible refine Ge.drewN ?_ _ | with_reducible refine Ge.alloc ?_ _ | (with_reducible refine Ge.setCell ?_ (by first | (simp; done) | omega | (simp; omega)) _) | with_reducible refine Ge.trans ?_ (by assumption)))⟩
      replace t3 := Classical.not_not.1 t3
      have j3 : inB (ww xs k) (1) (200) = true := inB_true t3.1 t3.2
      have OK : Hid (okW n xs k) := ⟨by omega, by omega, by omega, by omega, by omega⟩
      obtain ⟨bad, hbad⟩ : ∃ bad : Bool, bad = true ↔ (0 < k ∧ ¬ ordW xs (k - 1) k) := ⟨@decide (0 < k ∧ ¬ ordW xs (k - 1) k) (Classical.propDecidable _), by simp⟩
      have HBad := Lib.hid hbad
      clear hbad
      go_upto_region 8 with (go_at_call 42; ((with_reducible refine (sL01In _ _ _ _).mono ?_); rintro e w' ⟨rfl, rfl⟩))
      go_cut [93] (fun s wx => s = .bool bad ∧ Ge wr wx)
      case first =>
        by_cases hp : 0 < k
        · obtain ⟨j, rfl⟩ : ∃ j, k = j + 1 := ⟨k - 1, by omega⟩
          obtain ⟨b', o', e', x0, x1, x2⟩ := three_cells HC.out (show j < m by omega)
          simp only [Option.some.injEq, Addr.mk.injEq, and_true] at e'
          obtain ⟨rfl, rfl⟩ := e'
          have z0 := G.keep x0
          have z1 := G.keep x1
          have z2 := G.keep x2
          clear x0 x1 x2
          change wr.cell? _ = some (.int .i64 (wa xs j)) at z0
          change wr.cell? _ = some (.int .i64 (wb xs j)) at z1
          change wr.cell? _ = some (.int .i64 (ww xs j)) at z2
          have w1 : IntKind.i64.wrap (((j + 1 : Nat) : Int) - 1) = (j : Int) := IntWalk.i64_in _ (by omega) |>.trans (by omega)
          have w2 : IntKind.i64.wrap (j : Int) = (j : Int) := IntWalk.i64_in _ (by omega)
          have j0 : (0 : Int) ≤ (j : Int) := by omega
          have j1 : (j : Int) < (m : Int) := by omega
          have w3 : ((j : Int) + 1 - 1) = (j : Int) := by omega
          have lbr : b < wr.heap.size := by omega
          have h1 := HBad.out
          simp only [Nat.add_sub_cancel, ordW] at h1
          by_cases c4 : wa xs (j + 1) < wa xs j
          · have hb0 : bad = true := h1.2 ⟨by omega, by omega⟩
            subst hb0
            clear h1
            go_quiet (fail)
            go_wp2_with fail
            go_meet
            exact ⟨rfl, by (repeat (first | with_reducible exact Ge.refl _ | assumption | with_reducible refine Ge.drew ?_ | with_reducible refine Ge.drewN ?_ _ | with_reducible refine Ge.alloc ?_ _ | (with_reducible refine Ge.setCell ?_ (by first | (simp; done) | omega | (simp; omega)) _) | with_reducible refine Ge.trans ?_ (by assumption)))⟩
          · by_cases c5 : wa xs (j + 1) = wa xs j
            · have c5b : (wa xs (j + 1) == wa xs j) = true := by simp [c5]
              by_cases c6 : wb xs (j + 1) ≤ wb xs j
              · have hb0 : bad = true := h1.2 ⟨by omega, by omega⟩
                subst hb0
                clear h1 c5
                go_quiet (fail)
                go_wp2_with fail
                go_meet
                exact ⟨rfl, by (repeat (first | with_reducible exact Ge.refl _ | assumption | with_reducible refine Ge.drew ?_ | with_reducible refine Ge.drewN ?_ _ | with_reducible refine Ge.alloc ?_ _ | (with_reducible refine Ge.setCell ?_ (by first | (simp; done) | omega | (simp; omega)) _) | with_reducible refine Ge.trans ?_ (by assumption)))⟩
              · have hb0 : bad = false := by
                  cases bad with
                  | false => rfl
                  | true => have := (h1.1 rfl).2; omega
                subst hb0
                clear h1 c5
                go_quiet (fail)
                go_wp2_with fail
                go_meet
                exact ⟨rfl, by (repeat (first | with_reducible exact Ge.refl _ | assumption | with_reducible refine Ge.drew ?_ | with_reducible refine Ge.drewN ?_ _ | with_reducible refine Ge.alloc ?_ _ | (with_reducible refine Ge.setCell ?_ (by first | (simp; done) | omega | (simp; omega)) _) | with_reducible refine Ge.trans ?_ (by assumption)))⟩
            · have c5b : (wa xs (j + 1) == wa xs j) = false := by simp [c5]
              have hb0 : bad = false := by
                cases bad with
                | false => rfl
                | true => have := (h1.1 rfl).2; omega
              subst hb0
              clear h1 c5
              go_quiet (fail)
              go_wp2_with fail
              go_meet
              exact ⟨rfl, by (repeat (first | with_reducible exact Ge.refl _ | assumption | with_reducible refine Ge.drew ?_ | with_reducible refine Ge.drewN ?_ _ | with_reducible refine Ge.alloc ?_ _ | (with_reducible refine Ge.setCell ?_ (by first | (simp; done) | omega | (simp; omega)) _) | with_reducible refine Ge.trans ?_ (by assumption)))⟩
        · have hk0 : k = 0 := by omega
          subst hk0
          have hb0 : bad = false := by
            cases bad with
            | true => have := (HBad.out.1 rfl).1; omega
            | false => rfl
          subst hb0
          go_quiet (fail)
          go_wp2_with fail
          go_meet
          exact ⟨rfl, by (repeat (first | with_reducible exact Ge.refl _ | assumption | with_reducible refine Ge.drew ?_ | with_reducible refine Ge.drewN ?_ _ | with_reducible refine Ge.alloc ?_ _ | (with_reducible refine Ge.setCell ?_ (by first | (simp; done) | omega | (simp; omega)) _) | with_reducible refine Ge.trans ?_ (by assumption)))⟩
      case rest =>
        obtain ⟨rfl, G7⟩ := hcut
        cases bad with
        | true =>
          have HF : Hid (netB n E S m xs = false) := netB_false (fun h => by
            obtain ⟨e1, e2⟩ := HBad.out.1 rfl
            exact e2 ((h.2.2.2.1 k hlt).2 e1))
          go_wp2_with fail
          go_ret
          exact ⟨ret_bool HF.out.symm, by (repeat (first | with_reducible exact Ge.refl _ | assumption | with_reducible refine Ge.drew ?_ | with_reducible refine Ge.drewN ?_ _ | with_reducible refine Ge.alloc ?_ _ | (with_reducible refine Ge.setCell ?_ (by first | (simp; done) | omega | (simp; omega)) _) | with_reducible refine Ge.trans ?_ (by assumption)))⟩
        | false =>
          have HG : Hid (∀ i, i < k + 1 → goodW n xs i) := good_nextWS HK ⟨OK.out, fun h0 => Classical.byContradiction fun h => by have := HBad.out.2 ⟨h0, h⟩; simp at this⟩
          go_wp2_with fail
          go_roundw
          case rel => exact ⟨k + 1, by omega, by go_num, HG.out, by (repeat (first | with_reducible exact Ge.refl _ | assumption | with_reducible refine Ge.drew ?_ | with_reducible refine Ge.drewN ?_ _ | with_reducible refine Ge.alloc ?_ _ | (with_reducible refine Ge.setCell ?_ (by first | (simp; done) | omega | (simp; omega)) _) | with_reducible refine Ge.trans ?_ (by assumption)))⟩
          case measure => simp [intOf]; omega
    · have hkm : k = m := by omega
      subst hkm
      have hchk := check_net n1 n5 (by have := prs_sub (N := (n : Int)) (by omega) HK.out; simpa using this)
      have HM : Hid (netB n E S k xs = mconn n (prs xs k)) := by
        show _ = _
        cases hcn : mconn n (prs xs k) with
        | false => exact netB_false (fun h => by have := h.2.2.2.2; simp only [Int.toNat_natCast, hcn] at this; cases this)
        | true => exact netB_true ⟨a1, a2, a3, HK.out, by simp only [Int.toNat_natCast, hcn]⟩
      have HE : mconn n (prs xs k) = decide ((qs (iprs (prs xs k)) 5).length = n) := by
        simp only [checkNet, Bool.and_eq_true, beq_iff_eq] at hchk
        exact hchk.1
      have HQ5 : (qs (iprs (prs xs k)) 5).length ≤ 5 := by
        simp only [checkNet, Bool.and_eq_true, List.all_eq_true, decide_eq_true_eq] at hchk
        exact hchk.2 5 (by simp)
      have HR := Lib.hid (fun w' (g : Ge w w') => sL03Reach n (.slice p k cap) k xs w' (HV.out.ge g) n1 n5 HK.out)
      have te : (((qs (iprs (prs xs k)) 5).length : Int) == (n : Int)) = mconn n (prs xs k) := by
        rw [HE]
        by_cases e : (qs (iprs (prs xs k)) 5).length = n
        · simp [e]
        · simp [e]; omega
      clear hchk HE
      generalize hq : qs (iprs (prs xs k)) 5 = Q at *
      clear hq
      go_wp2_with fail
      have hS : ∀ w', Ge wr w' → (w'.cell? ⟨w.heap.size, 0, none⟩ = some (.int .i64 (n : Int)) ∧ w'.cell? ⟨w.heap.size, 3, none⟩ = some (.slice p k cap) ∧ Ge wr w') := fun w' g => ⟨g.keep (by (repeat (first | assumption | with_reducible exact Ge.refl _ | with_reducible refine cv_drew ?_ | with_reducible refine cv_alloc ?_ | with_reducible refine cv_set ?_ | (with_reducible apply cv_some; assumption) | with_reducible refine cell_drew ?_ | with_reducible refine cell_drewN ?_ | ((with_reducible refine cell_new ?_ ?_); (focus (simp; done)); rfl) | with_reducible refine cell_alloc ?_ | with_reducible refine cell_same2 ?_ | ((with_reducible refine cell_set2 ?_ ?_); focus (first | (simp; done) | (intro hE; simp at hE; done) | (intro hE; simp at hE; omega))) | with_reducible refine Ge.drew ?_ | with_reducible refine Ge.drewN ?_ _ | with_reducible refine Ge.alloc ?_ _ | ((with_reducible refine Ge.setCell ?_ ?_ _); rotate_left; focus (first | (simp; done) | omega | (simp; omega))) | with_reducible refine Ge.trans ?_ (by assumption) | with_reducible refine Ge.keep (by assumption) ?_))), g.keep (by (repeat (first | assumption | with_reducible exact Ge.refl _ | with_reducible refine cv_drew ?_ | with_reducible refine cv_alloc ?_ | with_reducible refine cv_set ?_ | (with_reducible apply cv_some; assumption) | with_reducible refine cell_drew ?_ | with_reducible refine cell_drewN ?_ | ((with_reducible refine cell_new ?_ ?_); (focus (simp; done)); rfl) | with_reducible refine cell_alloc ?_ | with_reducible refine cell_same2 ?_ | ((with_reducible refine cell_set2 ?_ ?_); focus (first | (simp; done) | (intro hE; simp at hE; done) | (intro hE; simp at hE; omega))) | with_reducible refine Ge.drew ?_ | with_reducible refine Ge.drewN ?_ _ | with_reducible refine Ge.alloc ?_ _ | ((with_reducible refine Ge.setCell ?_ ?_ _); rotate_left; focus (first | (simp; done) | omega | (simp; omega))) | with_reducible refine Ge.trans ?_ (by assumption) | with_reducible refine Ge.keep (by assumption) ?_))), Ge.trans (by (repeat (first | assumption | with_reducible exact Ge.refl _ | with_reducible refine cv_drew ?_ | with_reducible refine cv_alloc ?_ | with_reducible refine cv_set ?_ | (with_reducible apply cv_some; assumption) | with_reducible refine cell_drew ?_ | with_reducible refine cell_drewN ?_ | ((with_reducible refine cell_new ?_ ?_); (focus (simp; done)); rfl) | with_reducible refine cell_alloc ?_ | with_reducible refine cell_same2 ?_ | ((with_reducible refine cell_set2 ?_ ?_); focus (first | (simp; done) | (intro hE; simp at hE; done) | (intro hE; simp at hE; omega))) | with_reducible refine Ge.drew ?_ | with_reducible refine Ge.drewN ?_ _ | with_reducible refine Ge.alloc ?_ _ | ((with_reducible refine Ge.setCell ?_ ?_ _); rotate_left; focus (first | (simp; done) | omega | (simp; omega))) | with_reducible refine Ge.trans ?_ (by assumption) | with_reducible refine Ge.keep (by assumption) ?_))) g⟩
      go_region_held3 (fun w' => w'.cell? ⟨w.heap.size, 0, none⟩ = some (.int .i64 (n : Int)) ∧ w'.cell? ⟨w.heap.size, 3, none⟩ = some (.slice p k cap) ∧ Ge wr w') (first | ((with_reducible refine hS _ ?_); (repeat (first | assumption | with_reducible exact Ge.refl _ | with_reducible refine cv_drew ?_ | with_reducible refine cv_alloc ?_ | with_reducible refine cv_set ?_ | (with_reducible apply cv_some; assumption) | with_reducible refine cell_drew ?_ | with_reducible refine cell_drewN ?_ | ((with_reducible refine cell_new ?_ ?_); (focus (simp; done)); rfl) | with_reducible refine cell_alloc ?_ | with_reducible refine cell_same2 ?_ | ((with_reducible refine cell_set2 ?_ ?_); focus (first | (simp; done) | (intro hE; simp at hE; done) | (intro hE; simp at hE; omega))) | with_reducible refine Ge.drew ?_ | with_reducible refine Ge.drewN ?_ _ | with_reducible refine Ge.alloc ?_ _ | ((with_reducible refine Ge.setCell ?_ ?_ _); rotate_left; focus (first | (simp; done) | omega | (simp; omega))) | with_reducible refine Ge.trans ?_ (by assumption) | with_reducible refine Ge.keep (by assumption) ?_)); done) | fail) (first | (go_at_call 48; ((with_reducible refine (HR.out _ (Ge.trans G ‹_ ∧ _ ∧ Ge _ _›.2.2)).mono ?_); rintro e w' ⟨v, rfl, hown, hb⟩); obtain ⟨p3, c3, rfl⟩ := owns_form hown; have hz := Ge.size hb; (try simp at hz)) | fail)
      rename_i hHeldX
      obtain ⟨q0, q1, G2⟩ := hHeldX
      clear hS
      go_wp2_with fail
      go_ret
      exact ⟨ret_bool (by rw [HM.out]), by (repeat (first | with_reducible exact Ge.refl _ | assumption | with_reducible refine Ge.drew ?_ | with_reducible refine Ge.drewN ?_ _ | with_reducible refine Ge.alloc ?_ _ | (with_reducible refine Ge.setCell ?_ (by first | (simp; done) | omega | (simp; omega)) _) | with_reducible refine Ge.trans ?_ (by assumption)))⟩
end Go.Proofs.Ytenfkpdbfmeebaa

namespace Go.Proofs.Ytenfkpdbfmeebaa
set_option maxRecDepth 100000
open Go.ChangeShapes Go.WideShapes Go.ChangeAt Go.RowKit Go.Joins

theorem mapR_snoc (n : Nat) (f : Nat → Int) : mapR (n + 1) f = mapR n f ++ [f n] := by simp [mapR, List.range_succ]
theorem apRow {w : World} {ops : Array Oper} {rest : List Oper} {o : Oper} {a : Act} {Q : Exit → Act → World → Prop} (hgd : o.guard = none) (s x : Operand)
    (ho : o.op = .call { callee := .builtin .append, args := #[s, x], argTypes := #[24, 24] })
    (base : Nat) (v : Value) (n : Nat) (l : List Value) (hs : a.eval s = v) (hown : w.ownsRow base 43 1 v n l)
    (y : Value) (hy : y.oneCell' = true) (hx : a.eval x = .slice (some ⟨w.heap.size, 0, none⟩) 1 1) (hn : n < 1000000) (hbase : base ≤ w.heap.size)
    (h : ∀ v' w', w'.ownsRow base 43 1 v' (n + 1) (l ++ [y]) → Mine w w' v → (v'.ownBlock = v.ownBlock ∨ ∃ k, v'.ownBlock = some k ∧ w.heap.size ≤ k) → wpList Try.prog ops Q rest (a.put o.dst v') w') :
    wpList Try.prog ops Q (o :: rest) a (w.alloc (.cells #[y] 43)) := by
  obtain ⟨i, hi1, hi2, hi3, hi4⟩ := info_parts inf_rowI
  refine wpList_append_own_at _ hgd s x 24 ho base 43 i _ 1 24 Try.underlying24 hi1 hi2 hi3 hi4 (by decide) (by decide) v n l hs (hown.alloc _) ⟨w.heap.size, 0, none⟩ 1 1 [y] hx (by simp) ?_ (by simpa using hy) (by unfold maxLen; omega) (by omega) (by simp; omega) ?_
  · exact cell_one_new w y _
  · intro v' w' h2 h3 _ h5
    refine h v' w' h2 (Mine.alloc _ h3) ?_
    rcases h5 with h5 | h5
    · exact .inl h5
    · exact .inr ⟨_, h5, by simp⟩
/-- The rows of out. -/
def RowsS (w : World) (B n : Nat) (u : Value) (cs : List Value) (k : Nat) (M : Nat → Nat → Int) : Prop :=
  w.ownsRow B 43 1 u k cs ∧ ∀ i, i < k → ∃ pr cr, cs[i]? = some (.slice pr n cr) ∧ w.ownsRow B 3 1 (.slice pr n cr) n (icells (mapR n (M i))) ∧ (∀ q, u.ownBlock = some q → (Value.slice pr n cr).ownBlock ≠ some q)
theorem RowsS.ge {w w' : World} {B n : Nat} {u : Value} {cs : List Value} {k : Nat} {M : Nat → Nat → Int} (h : RowsS w B n u cs k M) (hg : Ge w w') : RowsS w' B n u cs k M :=
  ⟨hg.owns h.1, fun i hi => by obtain ⟨pr, cr, h1, h2, h3⟩ := h.2 i hi; exact ⟨pr, cr, h1, hg.owns h2, h3⟩⟩
theorem RowsS.snoc {w0 w w' : World} {B n : Nat} {u v' row : Value} {cs : List Value} {k : Nat} {M : Nat → Nat → Int} (h : RowsS w0 B n u cs k M) (hg : Ge w0 w)
    (hrow : w.ownsRow w0.heap.size 3 1 row n (icells (mapR n (M k)))) (hn : 0 < n) (hB : B ≤ w0.heap.size) (h2 : w'.ownsRow B 43 1 v' (k + 1) (cs ++ [row])) (hm : Mine w w' u)
    (hat : v'.ownBlock = u.ownBlock ∨ ∃ q, v'.ownBlock = some q ∧ w.heap.size ≤ q) : RowsS w' B n v' (cs ++ [row]) (k + 1) M := by
  have hcl : cs.length = k := by have := h.1.1; omega
  obtain ⟨g, cap, rfl⟩ := Go.Joins.ownsRow_form hrow hn
  have hlr := hrow.lt g rfl
  refine ⟨h2, fun i hi => ?_⟩
  by_cases e : i = k
  · subst e
    refine ⟨some ⟨g, 0, none⟩, cap, by rw [List.getElem?_append_right (by omega)]; simp [hcl], ?_, fun q hq e => ?_⟩
    · refine owns_mono (hrow.kept hm ?_) hB
      right
      intro e
      have := (h.1.lt g e.symm).2
      omega
    · have e' : q = g := by simp [Value.ownBlock] at e; exact e.symm
      subst e'
      rcases hat with hat | ⟨k', hk', hle⟩
      · rw [hat] at hq
        have := (h.1.lt q hq).2
        omega
      · rw [hk'] at hq
        have : k' = q := by simpa using hq
        omega
  · obtain ⟨pr, cr, h1, h3, h4⟩ := (h.ge hg).2 i (by omega)
    have hold := (h.2 i (by omega))
    refine ⟨pr, cr, by rw [List.getElem?_append_left (by omega)]; exact h1, ?_, fun q hq e => ?_⟩
    · refine h3.kept hm ?_
      right
      intro e
      cases hu : u.ownBlock with
      | none =>
        rw [hu] at e
        obtain ⟨g', cap', e'⟩ := Go.Joins.ownsRow_form h3 hn
        rw [e'] at e; simp [Value.ownBlock] at e
      | some q => exact h4 q hu (by rw [e, hu])
    · rcases hat with hat | ⟨k', hk', hle⟩
      · rw [hat] at hq
        exact h4 q hq e
      · rw [hk'] at hq
        have e' : k' = q := by simpa using hq
        have := (h3.lt q e).2
        omega
theorem RowsS.slMM {w : World} {B n : Nat} {u : Value} {cs : List Value} {M : Nat → Nat → Int} {Z : Int → Int → Int} (h : RowsS w B n u cs n M) (hn : 0 < n) (hZ : ∀ a b : Nat, M a b = Z a b) : SlMM w u n Z := by
  obtain ⟨g, cap, rfl⟩ := Go.Joins.ownsRow_form h.1 hn
  refine ⟨_, _, rfl, fun i hi => ?_⟩
  obtain ⟨pr, cr, h1, h2, _⟩ := h.2 i hi
  obtain ⟨gr, cr', e⟩ := Go.Joins.ownsRow_form h2 hn
  simp only [Value.slice.injEq, true_and] at e
  obtain ⟨rfl, rfl⟩ := e
  refine ⟨g, 0, _, _, rfl, by rw [Nat.zero_add, h.1.cellAt i (by omega), h1], fun j hj => ⟨gr, 0, rfl, ?_⟩⟩
  rw [Nat.zero_add, own_nth h2 hj, mapR_nth hj, hZ]

end Go.Proofs.Ytenfkpdbfmeebaa
