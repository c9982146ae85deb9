/- netOf of impl, with the common divisor taken out. No condition. table, LaplacianOf of impl. No condition. Plain law: wires between the neighbors of a node. No program in sight. Plain law: both sides of the mesh give the same wires. No program in sight. Plain law: weights of a list of wires, in both ways. No program in sight. Plain law: bounds of determinants of up to five rows. No program in sight. -/
import Derived.Test.YtipiiimemmkdgaaJAa
import Derived.Test.YtipiiimemmkdgaaWMatO
import Derived.Test.YtipiiimemmkdgaaWNetAt
import Derived.Test.YtipiiimemmkdgaaPlMesh
import Derived.Test.YtipiiimemmkdgaaWOthers
import Derived.Test.YtipiiimemmkdgaaPlLap
import Derived.Test.YtipiiimemmkdgaaWWeight
import Derived.Test.YtipiiimemmkdgaaPlMesh2
import Derived.Test.YtipiiimemmkdgaaPlWeight
namespace Go.Proofs.Ytipiiimemmkdgaa
set_option maxRecDepth 100000
open Go.ChangeShapes Go.WideShapes Go.ChangeAt Go.RowKit Go.Joins

/-- A network and whether it is valid, as two results. -/
def GivesO (w : World) (b : Bool) (N E S : Int) (L : List Wr) (e : Ending) (w' : World) : Prop :=
  Ge w w' ∧ ((b = true ∧ ∃ u, e = .returned (.tuple #[.agg #[.int .i64 N, .int .i64 E, .int .i64 S, u], .bool true]) ∧ w'.ownsRow w.heap.size 49 3 u L.length (icells (flatW L))) ∨
    (b = false ∧ e = .returned (.tuple #[.agg #[.int .i64 0, .int .i64 0, .int .i64 0, .slice none 0 0], .bool false])))
theorem GivesO.t {w w' : World} {b : Bool} {N E S : Int} {L : List Wr} {u : Value} (h : b = true) (ho : w'.ownsRow w.heap.size 49 3 u L.length (icells (flatW L))) (hg : Ge w w') : GivesO w b N E S L (.returned (.tuple #[.agg #[.int .i64 N, .int .i64 E, .int .i64 S, u], .bool true])) w' :=
  ⟨hg, .inl ⟨h, u, rfl, ho⟩⟩
theorem GivesO.f {w w' : World} {b : Bool} {N E S : Int} {L : List Wr} (h : b = false) (hg : Ge w w') : GivesO w b N E S L (.returned (.tuple #[.agg #[.int .i64 0, .int .i64 0, .int .i64 0, .slice none 0 0], .bool false])) w' :=
  ⟨hg, .inr ⟨h, rfl⟩⟩
/-- The wires of the rows before i, and of the first c columns of row i. -/
def netL (f : Nat → Nat → Int) (k i c : Nat) : List Wr := tabC f k i ++ rowC f i (i + 1) c
theorem netL_zero (f : Nat → Nat → Int) (k i : Nat) : netL f k i 0 = tabC f k i := by simp [netL, rowC]
theorem netL_all (f : Nat → Nat → Int) (k i : Nat) : netL f k i (k - (i + 1)) = tabC f k (i + 1) := rfl
theorem netL_in {f : Nat → Nat → Int} {k i c : Nat} (h : ¬ f i (i + 1 + c) = 0) : netL f k i (c + 1) = netL f k i c ++ [⟨(i : Int), ((i + 1 + c : Nat) : Int), f i (i + 1 + c)⟩] := by
  simp [netL, rowC, h]
theorem netL_out {f : Nat → Nat → Int} {k i c : Nat} (h : f i (i + 1 + c) = 0) : netL f k i (c + 1) = netL f k i c := by
  simp [netL, rowC, h]
theorem rowC_len (f : Nat → Nat → Int) (i a : Nat) : ∀ c, (rowC f i a c).length ≤ c
  | 0 => by simp [rowC]
  | c + 1 => by
    have := rowC_len f i a c
    simp only [rowC, List.length_append]
    split <;> simp <;> omega
theorem tabC_len (f : Nat → Nat → Int) (k : Nat) : ∀ i, (tabC f k i).length ≤ i * k
  | 0 => by simp [tabC]
  | i + 1 => by
    have h1 := tabC_len f k i
    have h2 := rowC_len f i (i + 1) (k - (i + 1))
    simp only [tabC, List.length_append]
    rw [Nat.succ_mul]
    omega
theorem netL_len (f : Nat → Nat → Int) {k i c : Nat} (hk : k ≤ 5) (hi : i < k) (hc : i + 1 + c ≤ k) : (netL f k i c).length ≤ 100 := by
  have h1 := tabC_len f k i
  have h2 := rowC_len f i (i + 1) c
  have h3 : i * k ≤ 5 * 5 := Nat.mul_le_mul (by omega) hk
  simp only [netL, List.length_append]
  omega
/-- The wires of the rows before i, and of row i before column d. -/
def netD (f : Nat → Nat → Int) (k i d : Nat) : List Wr := netL f k i (d - (i + 1))
theorem netD_zero (f : Nat → Nat → Int) (k i : Nat) : netD f k i (i + 1) = tabC f k i := by unfold netD; rw [Nat.sub_self, netL_zero]
theorem netD_all (f : Nat → Nat → Int) (k i : Nat) : netD f k i k = tabC f k (i + 1) := rfl
theorem netD_in {f : Nat → Nat → Int} {k i d : Nat} (h : ¬ f i d = 0) (hd : i + 1 ≤ d) : netD f k i (d + 1) = netD f k i d ++ [⟨(i : Int), (d : Int), f i d⟩] := by
  obtain ⟨c, rfl⟩ : ∃ c, d = i + 1 + c := ⟨d - (i + 1), by omega⟩
  unfold netD
  rw [show i + 1 + c + 1 - (i + 1) = c + 1 by omega, show i + 1 + c - (i + 1) = c by omega, netL_in h]
theorem netD_out {f : Nat → Nat → Int} {k i d : Nat} (h : f i d = 0) (hd : i + 1 ≤ d) : netD f k i (d + 1) = netD f k i d := by
  obtain ⟨c, rfl⟩ : ∃ c, d = i + 1 + c := ⟨d - (i + 1), by omega⟩
  unfold netD
  rw [show i + 1 + c + 1 - (i + 1) = c + 1 by omega, show i + 1 + c - (i + 1) = c by omega, netL_out h]
theorem netD_len (f : Nat → Nat → Int) {k i d : Nat} (hk : k ≤ 5) (hi : i < k) (hd : i + 1 ≤ d) (hd2 : d ≤ k) : (netD f k i d).length ≤ 100 := netL_len f hk hi (by omega)
theorem cutW_take (g : Int) (L : List Wr) (i : Nat) (h : i < L.length) : flatW (cutW g (L.take (i + 1)) ++ L.drop (i + 1)) = (flatW (cutW g (L.take i) ++ L.drop i)).set (i * 3 + 2) ((nthW L i).w.tdiv g) := by
  have e : L.drop i = nthW L i :: L.drop (i + 1) := by rw [nthW_eq L i h]; exact (List.getElem_cons_drop h).symm
  rw [take_snocW L i h, cutW_snoc, e]
  have hl : (flatW (cutW g (L.take i))).length = i * 3 := by rw [flatW_length, cutW_length, List.length_take]; omega
  rw [flatW_append, flatW_append, flatW_append]
  rw [show flatW (nthW L i :: L.drop (i + 1)) = (nthW L i).a :: (nthW L i).b :: (nthW L i).w :: flatW (L.drop (i + 1)) from rfl]
  rw [List.set_append, if_neg (by omega), hl, Nat.add_sub_cancel_left]
  rw [show flatW [(⟨(nthW L i).a, (nthW L i).b, (nthW L i).w.tdiv g⟩ : Wr)] = [(nthW L i).a, (nthW L i).b, (nthW L i).w.tdiv g] from rfl]
  simp
theorem cutW_get (g : Int) (L : List Wr) (i : Nat) (h : i < L.length) : (icells (flatW (cutW g (L.take i) ++ L.drop i)))[i * 3 + 2]? = some (.int .i64 (nthW L i).w) := by
  have hl : (cutW g (L.take i)).length = i := by rw [cutW_length, List.length_take]; omega
  have hlen : i < (cutW g (L.take i) ++ L.drop i).length := by simp [hl]; omega
  have h1 := (flatW_get (cutW g (L.take i) ++ L.drop i) i hlen).2.2
  have h2 : nthW (cutW g (L.take i) ++ L.drop i) i = nthW L i := by
    rw [nthW_eq _ i hlen, nthW_eq L i h, List.getElem_append_right (by omega)]
    simp [hl]
  rw [h2] at h1
  have h3 : i * 3 + 2 < (flatW (cutW g (L.take i) ++ L.drop i)).length := by rw [flatW_length]; omega
  rw [icells, List.getElem?_map, List.getElem?_eq_getElem h3]
  rw [List.getD_eq_getElem?_getD, List.getElem?_eq_getElem h3] at h1
  simpa using h1

set_option maxHeartbeats 6400000 in
theorem iNetOf (k : Nat) (E S : Int) (T : Int → Int → Int) (vm : Value) (w : World) (hm : SlMM w vm k T) (hk : k ≤ 5) (hS : 0 < S) (hS2 : S ≤ 1000000000) (hb : ∀ i j : Nat, i < k → j < k → 0 ≤ T i j ∧ T i j ≤ 1000000000) :
    Calls Try.prog 68 #[.int .i64 E, .int .i64 S, vm, .bool true] w (GivesO w
      (netB k E (S.tdiv (gcdF S (tabC (fun i j => T i j) k k))) (tabC (fun i j => T i j) k k).length (flatW (cutW (gcdF S (tabC (fun i j => T i j) k k)) (tabC (fun i j => T i j) k k))))
      k E (S.tdiv (gcdF S (tabC (fun i j => T i j) k k))) (cutW (gcdF S (tabC (fun i j => T i j) k k)) (tabC (fun i j => T i j) k k))) := by
  obtain ⟨f, hf⟩ : ∃ f : Nat → Nat → Int, (fun (i j : Nat) => T i j) = f := ⟨_, rfl⟩
  have HT : Hid (∀ i j : Nat, T i j = f i j) := fun i j => by rw [← hf]
  rw [hf]
  obtain ⟨pm, cm, rfl, hmc⟩ := hm
  have HMC := Lib.hid hmc
  have HB := Lib.hid hb
  have HG : Hid (∀ L, 0 < gcdF S L ∧ gcdF S L ≤ S) := fun L => gcdF_bd _ hS
  have HGs : Hid (∀ L e, gcdF S (L ++ [e]) = (gcdN (gcdF S L) e.w : Int)) := fun L e => gcdF_snoc S L e
  have HG0 : Hid (gcdF S (tabC f k 0) = S) := rfl
  have HF0 : Hid (flatW (tabC f k 0) = [] ∧ (tabC f k 0).length = 0) := ⟨rfl, rfl⟩
  clear hmc hb hf
  go_enter Try.func68, Try.ntmps68
  go_upto_region 1 with (fail)
  have R0 := ResD.new w (.int .i64 0) (.int .i64 0) (.int .i64 0) (.slice none 0 0) 25
  go_cut [10] (fun sx wx => sx = .pointer (some ⟨w.heap.size + 1, 0, none⟩) ∧ NetAt wx w.heap.size (w.heap.size + 1) k E S (.slice none 0 0) [] ∧ wx.frozen? ⟨w.heap.size + 1, 2, none⟩ = false ∧ Ge w wx)
  case first =>
    go_wp2_with fail
    go_meet
    have z1 : (w.alloc (.cells #[.int .i64 0, .int .i64 0, .int .i64 0, .slice none 0 0] 25)).heap.size = w.heap.size + 1 := by simp
    have h1 := NetAt.start (n := k) (E := E) (S := S) R0
    rw [z1] at h1
    exact ⟨rfl, h1, froz_new (by simp) (v := .int .i64 S) rfl, by (repeat (first | with_reducible exact Ge.refl _ | assumption | with_reducible refine Ge.drew ?_ | with_reducible refine Ge.drewN ?_ _ | with_reducible refine Ge.alloc ?_ _ | (with_reducible refine Ge.setCell ?_ (by first | (simp; done) | omega | (simp; omega)) _) | with_reducible refine Ge.trans ?_ (by assumption)))⟩
  obtain ⟨rfl, HN0, F0, g0⟩ := hcut
  go_wp2_with fail
  go_loopw [11, 24] (fun g i wr => ∃ (a : Nat) (u : Value), a ≤ k ∧ i = .int .i64 a ∧ g = .int .i64 (gcdF S (tabC f k a)) ∧ NetAt wr w.heap.size (w.heap.size + 1) k E S u (tabC f k a) ∧ wr.frozen? ⟨w.heap.size + 1, 2, none⟩ = false ∧ Ge w wr) (fun _ i _ => k - (intOf i).toNat)
  case atStart => exact ⟨0, _, Nat.zero_le _, rfl, by rw [HG0.out], HN0, F0, g0⟩
  case round =>
    obtain ⟨a, u, ha, rfl, rfl, HN', hF, hg⟩ := hrel
    have HNr := Lib.hid HN'
    clear HN' HN0
    by_cases hlt : a < k
    · obtain ⟨bm, om, prow, crow, rfl, xm, hrow⟩ := HMC.out a hlt
      have HR := Lib.hid hrow
      clear hrow
      have ym := hg.keep xm
      go_wp2_with fail
      clear ym
      go_loopw [11, 13] (fun g j wr => ∃ (d : Nat) (u : Value), a + 1 ≤ d ∧ d ≤ k ∧ j = .int .i64 (d : Int) ∧ g = .int .i64 (gcdF S (netD f k a d)) ∧ NetAt wr w.heap.size (w.heap.size + 1) k E S u (netD f k a d) ∧ wr.frozen? ⟨w.heap.size + 1, 2, none⟩ = false ∧ Ge w wr) (fun _ j _ => k - (intOf j).toNat)
      case atStart => exact ⟨a + 1, u, Nat.le_refl _, hlt, by simp, by rw [netD_zero], by rw [netD_zero]; exact HNr.out, hF, hg⟩
      case round =>
        clear hF HNr
        obtain ⟨d, u, hd, hdk, rfl, rfl, HN', hF, hg⟩ := hrel
        have HNi := Lib.hid HN'
        have a3 := HN'.c3
        have zG : w.heap.size + 1 < wr.heap.size := World.block_lt_of_cell? _ _ a3
        clear HN'
        by_cases hjk : d < k
        · obtain ⟨br, or', rfl, y0⟩ := HR.out d hjk
          have hb1 := HB.out a d hlt hjk
          rw [HT.out] at y0 hb1
          have y1 := hg.keep y0
          have xm1 := hg.keep xm
          by_cases hx : f a d = 0
          · have tx : (f a d != 0) = false := by simp [hx]
            have HO := Lib.hid (netD_out (k := k) hx hd)
            clear hx
            generalize f a d = X at *
            go_wp2_with fail
            go_roundw
            case rel => exact ⟨d + 1, u, by omega, by omega, by go_num, by rw [HO.out], by rw [HO.out]; exact HNi.out, hF, hg⟩
            case measure => simp [intOf]; omega
          · have tx : (f a d != 0) = true := by simp [hx]
            have HI := Lib.hid (netD_in (k := k) hx hd)
            clear hx
            have hgb := HG.out (netD f k a d)
            have hlen := netD_len f (by omega) hlt hd hdk
            have HGi := Lib.hid (HGs.out (netD f k a d) ⟨(a : Int), (d : Int), f a d⟩)
            generalize f a d = X at *
            generalize netD f k a d = F at *
            obtain ⟨l, hl⟩ : ∃ l, F.length = l := ⟨_, rfl⟩
            have hO := HNi.out.own
            rw [hl] at hO hlen
            have HO := Lib.hid hO
            have HL := Lib.hid hl
            clear hO hl
            generalize gcdF S F = G at *
            have HGc := Lib.hid (fun w' => iGcdOf G X w' (mid (by omega) (by omega)) (mid (by omega) (by omega)))
            go_wp2_with (first
              | (at_builtin; refine ap_wire rfl _ _ rfl (w.heap.size + 1 + 1) _ l (flatW F) rfl HO.out (a : Int) (d : Int) X (b0 := wr.heap.size) rfl rfl (by omega) (by omega) ?_; intro v8 w8 own8 m8 q8; obtain ⟨p8, c8, rfl⟩ := owns_form own8; have HA := NetAt.app (x := ⟨(a : Int), (d : Int), X⟩) HNi.out (by omega) (Ge.refl _) m8 (by rw [HL.out]; exact own8); have t3 := HA.2.1; have tf := HA.2.2; replace HA := Lib.hid HA.1; have F8 := mine_frozN m8 HNi.out.c2 hF (before_row HO.out (by show w.heap.size + 1 < w.heap.size + 1 + 1; omega)); have G8 := Ge.setCell (hg.mine HO.out (by omega) m8) (p := ⟨w.heap.size + 1, 3, none⟩) (by show w.heap.size ≤ w.heap.size + 1; omega) (.slice p8 (l + 1) c8); have F9 := froz_set (b := ⟨w.heap.size + 1, 3, none⟩) (u := .slice p8 (l + 1) c8) F8)
              | (go_at_call 38; ((with_reducible refine (HGc.out _).mono ?_); rintro r w5 ⟨rfl, g5⟩)))
            go_roundw
            case rel => exact ⟨d + 1, _, by omega, by omega, by go_num, by rw [HI.out, HGi.out], by rw [HI.out]; exact HA.out.ge g5, g5.keepF HA.out.c2 F9, Ge.trans G8 g5⟩
            case measure => simp [intOf]; omega
        · have hdn : d = k := by omega
          subst hdn
          have HAl := Lib.hid (netD_all f d a)
          go_wp2_with fail
          go_roundw
          case rel => exact ⟨a + 1, u, by omega, by go_num, by rw [← HAl.out], by rw [← HAl.out]; exact HNi.out, hF, hg⟩
          case measure => simp [intOf]; omega
    · have hak : a = k := by omega
      subst hak
      have hgb := HG.out (tabC f a a)
      have HT2 : Hid (∀ i, i < (tabC f a a).length → flatW (cutW (gcdF S (tabC f a a)) ((tabC f a a).take (i + 1)) ++ (tabC f a a).drop (i + 1)) = (flatW (cutW (gcdF S (tabC f a a)) ((tabC f a a).take i) ++ (tabC f a a).drop i)).set (i * 3 + 2) ((nthW (tabC f a a) i).w.tdiv (gcdF S (tabC f a a)))) := fun i hi => cutW_take _ _ i hi
      have HTg : Hid (∀ i, i < (tabC f a a).length → (icells (flatW (cutW (gcdF S (tabC f a a)) ((tabC f a a).take i) ++ (tabC f a a).drop i)))[i * 3 + 2]? = some (.int .i64 (nthW (tabC f a a) i).w)) := fun i hi => cutW_get _ _ i hi
      have HTl : Hid (∀ i, i ≤ (tabC f a a).length → (cutW (gcdF S (tabC f a a)) ((tabC f a a).take i) ++ (tabC f a a).drop i).length = (tabC f a a).length) := fun i hi => by
        show _ = _
        rw [List.length_append, cutW_length, List.length_take, List.length_drop]; omega
      have HTn : Hid (cutW (gcdF S (tabC f a a)) ((tabC f a a).take (tabC f a a).length) ++ (tabC f a a).drop (tabC f a a).length = cutW (gcdF S (tabC f a a)) (tabC f a a)) := by
        show _ = _
        rw [List.take_length, List.drop_length, List.append_nil]
      have HT0 : Hid (cutW (gcdF S (tabC f a a)) ((tabC f a a).take 0) ++ (tabC f a a).drop 0 = tabC f a a) := by
        show _ = _
        simp [cutW]
      have HWb : Hid (∀ i, i < (tabC f a a).length → 0 ≤ (nthW (tabC f a a) i).w ∧ (nthW (tabC f a a) i).w ≤ 1000000000) := fun i hi => by
        have hm : nthW (tabC f a a) i ∈ tabC f a a := by rw [nthW_eq _ i hi]; exact List.getElem_mem _
        obtain ⟨x, y, h1, h2, h3, h4, h5⟩ := mem_tabC.1 hm
        rw [h5]
        have := HB.out x y (by omega) h3
        rw [HT.out] at this
        exact this
      have hln : (tabC f a a).length ≤ 100 := Nat.le_trans (tabC_len f a a) (Nat.le_trans (Nat.mul_le_mul hk hk) (by omega))
      have HCl : Hid (∀ g, (cutW g (tabC f a a)).length = (tabC f a a).length) := fun g => cutW_length _ _
      clear HGs HG0 HF0 HMC
      generalize hGG : gcdF S (tabC f a a) = G at *
      have HGG := Lib.hid hGG
      clear hGG
      generalize tabC f a a = L at *
      obtain ⟨m, hm⟩ : ∃ m, L.length = m := ⟨_, rfl⟩
      rw [hm] at HT2 HTg HTl HTn HWb hln HCl
      have HL := Lib.hid hm
      have HO := HNr.out.own
      rw [hm] at HO
      obtain ⟨p, c, rfl⟩ := owns_form HO
      replace HO := Lib.hid HO
      clear hm
      have gz : ¬ G = 0 := by omega
      have w1 : IntKind.i64.wrap (S.tdiv G) = S.tdiv G := IntWalk.i64_in _ (by have := tdiv_in (x := S) (g := G) (by omega) (by omega); omega)
      have a2 := HNr.out.c2
      have a3 := HNr.out.c3
      have HNs := Lib.hid (NetAt.setS (S' := S.tdiv G) HNr.out (by omega))
      have a3s := HNs.out.c3
      have gS := Ge.setCell hg (p := ⟨w.heap.size + 1, 2, none⟩) (by show w.heap.size ≤ w.heap.size + 1; omega) (.int .i64 (S.tdiv G))
      have HNv := Lib.hid (fun v w' (h : SlF w' v m 3 (flatW (cutW G L))) => iNetOk a E (S.tdiv G) v m (flatW (cutW G L)) w' h (by omega))
      go_wp2_with fail
      go_loopw [66] (fun i wr => ∃ j : Nat, j ≤ m ∧ i = .int .i64 j ∧ NetAt wr w.heap.size (w.heap.size + 1) a E (S.tdiv G) (.slice p m c) (cutW G (L.take j) ++ L.drop j) ∧ Ge w wr) (fun i _ => m - (intOf i).toNat)
      case atStart => exact ⟨0, Nat.zero_le _, rfl, by rw [HT0.out]; exact HNs.out, gS⟩
      case round =>
        clear HNs HNr HO a2 a3 a3s gS hF
        obtain ⟨j, hj, rfl, HN', hg⟩ := hrel
        have HNi := Lib.hid HN'
        clear HN'
        have a3 := HNi.out.c3
        have zG : w.heap.size + 1 < wr.heap.size := World.block_lt_of_cell? _ _ a3
        by_cases hjm : j < m
        · have hO := HNi.out.own
          have hTl := HTl.out j (by omega)
          have hTl2 := HTl.out (j + 1) (by omega)
          rw [hTl] at hO
          obtain ⟨q, cq, hq⟩ := Go.Joins.ownsRow_form hO (by omega)
          simp only [Value.slice.injEq, true_and] at hq
          obtain ⟨rfl, rfl⟩ := hq
          have y0 := hO.cellAt (j * 3 + 2) (by omega)
          have hw := HTg.out j hjm
          have yf := hO.frozenAt (j * 3 + 2)
          have HS := Lib.hid (HNi.out.setW (by omega) hTl hTl2 (HT2.out j hjm))
          have hzq := HS.out.2
          have hwb := HWb.out j hjm
          rw [hw] at y0
          clear hO hw hTl hTl2
          generalize nthW L j = X at *
          have w2 : IntKind.i64.wrap (X.w.tdiv G) = X.w.tdiv G := IntWalk.i64_in _ (by have := tdiv_in (x := X.w) (g := G) (by omega) (by omega); omega)
          go_wp2_with fail
          go_roundw
          case rel => exact ⟨j + 1, by omega, by go_num, HS.out.1, Ge.setCell hg (p := ⟨q, j * 3 + 2, none⟩) (by show w.heap.size ≤ q; omega) _⟩
          case measure => simp [intOf]; omega
        · have hjm' : j = m := by omega
          subst hjm'
          rw [HTn.out] at HNi
          have hcl := HCl.out G
          obtain ⟨a0, a1, a2, a3, af, ao, ar⟩ := HNi.out
          obtain ⟨r0, p0, f0⟩ := ar 0 (by omega)
          obtain ⟨r1, p1, f1⟩ := ar 1 (by omega)
          obtain ⟨r2, p2, f2⟩ := ar 2 (by omega)
          obtain ⟨r3, p3, f3⟩ := ar 3 (by omega)
          have ao2 := ao
          rw [hcl] at ao2
          have HSl := Lib.hid (SlF.of_owns ao2)
          have HO := Lib.hid ao2
          have HCg := Lib.hid hcl
          clear ao ar ao2 hcl
          have zl2 : w.heap.size < wr.heap.size := by omega
          by_cases hB : netB a E (S.tdiv G) j (flatW (cutW G L)) = true
          · have HT1 := Lib.hid (fun u w' ho g => GivesO.t (w := w) (w' := w') (N := a) (E := E) (S := S.tdiv G) (L := cutW G L) (u := u) hB ho g)
            rw [hB] at HNv
            clear hB
            go_wp2_with ((go_at_call 20; ((with_reducible refine (HNv.out _ _ HSl.out).mono ?_); rintro r w9 ⟨rfl, g9⟩)); have e0 := g9.keep a0; have e1 := g9.keep a1; have e2 := g9.keep a2; have e3 := g9.keep a3; have q0 := g9.keep p0; have q1 := g9.keep p1; have q2 := g9.keep p2; have q3 := g9.keep p3; have h0 := g9.keepF p0 f0; have h1 := g9.keepF p1 f1; have h2 := g9.keepF p2 f2; have h3 := g9.keepF p3 f3; have o9 := g9.owns HO.out)
            exact bodyPost_ret (v := .tuple #[.agg #[.int .i64 (a : Int), .int .i64 E, .int .i64 (S.tdiv G), .slice p j c], .bool true]) (by simp [results, Try.results68, go_sem, *]) rfl (by refine (?_ : GivesO w _ _ _ _ _ _ _); rw [HL.out]; exact HT1.out _ _ (by rw [HCg.out]; refine owns_mono (base := w.heap.size + 1 + 1) ?_ (by omega); repeat (first | exact o9 | refine own_setD ?_ (by omega))) (by (repeat (first | with_reducible exact Ge.refl _ | assumption | with_reducible refine Ge.drew ?_ | with_reducible refine Ge.drewN ?_ _ | with_reducible refine Ge.alloc ?_ _ | (with_reducible refine Ge.setCell ?_ (by first | (simp; done) | omega | (simp; omega)) _) | with_reducible refine Ge.trans ?_ (by assumption)))))
          · have hB' : netB a E (S.tdiv G) j (flatW (cutW G L)) = false := by simpa using hB
            have HT1 := Lib.hid (fun w' g => GivesO.f (w := w) (w' := w') (N := a) (E := E) (S := S.tdiv G) (L := cutW G L) hB' g)
            rw [hB'] at HNv
            clear hB hB'
            go_wp2_with ((go_at_call 20; ((with_reducible refine (HNv.out _ _ HSl.out).mono ?_); rintro r w9 ⟨rfl, g9⟩)); have e0 := g9.keep a0; have e1 := g9.keep a1; have e2 := g9.keep a2; have e3 := g9.keep a3; have q0 := g9.keep p0; have q1 := g9.keep p1; have q2 := g9.keep p2; have q3 := g9.keep p3; have h0 := g9.keepF p0 f0; have h1 := g9.keepF p1 f1; have h2 := g9.keepF p2 f2; have h3 := g9.keepF p3 f3)
            exact bodyPost_ret (v := .tuple #[.agg #[.int .i64 0, .int .i64 0, .int .i64 0, .slice none 0 0], .bool false]) (by simp [results, Try.results68, go_sem, *]) rfl (by refine (?_ : GivesO w _ _ _ _ _ _ _); rw [HL.out]; exact HT1.out _ (by (repeat (first | with_reducible exact Ge.refl _ | assumption | with_reducible refine Ge.drew ?_ | with_reducible refine Ge.drewN ?_ _ | with_reducible refine Ge.alloc ?_ _ | (with_reducible refine Ge.setCell ?_ (by first | (simp; done) | omega | (simp; omega)) _) | with_reducible refine Ge.trans ?_ (by assumption)))))
end Go.Proofs.Ytipiiimemmkdgaa

namespace Go.Proofs.Ytipiiimemmkdgaa
set_option maxRecDepth 100000
open Go.ChangeShapes Go.WideShapes Go.ChangeAt Go.RowKit Go.Joins

/-- The table's rows while row i is filled up to j. -/
def tabR (T : Nat → Nat → Int) (i j : Nat) (a b : Nat) : Int := if a = i then (if b < j then T a b else 0) else T a b
theorem tabR_zero (T : Nat → Nat → Int) (i n : Nat) : ∀ a b, a < i + 1 → b < n → (if a = i then (fun _ => (0 : Int)) else T a) b = tabR T i 0 a b := fun a b _ _ => by
  unfold tabR; by_cases e : a = i <;> simp [e]
theorem tabR_step (T : Nat → Nat → Int) (i j n : Nat) : ∀ a b, a < i + 1 → b < n → (if a = i ∧ b = j then T i j else tabR T i j a b) = tabR T i (j + 1) a b := fun a b _ _ => by
  unfold tabR
  by_cases e : a = i
  · subst e
    by_cases e2 : b = j
    · subst e2; simp
    · by_cases e3 : b < j
      · simp [e2, e3, show b < j + 1 by omega]
      · simp [e2, e3, show ¬ b < j + 1 by omega]
  · simp [e]
theorem tabR_all (T : Nat → Nat → Int) (i n : Nat) : ∀ a b, a < i + 1 → b < n → tabR T i n a b = T a b := fun a b _ hb => by
  unfold tabR; by_cases e : a = i <;> simp [e, hb]

set_option maxHeartbeats 1600000 in
theorem iTable (n : Nat) (E S : Int) (s : Value) (m : Nat) (xs : List Int) (w : World) (hs : SlF w s m 3 xs) (hm : m ≤ 10) (h1 : 1 ≤ n) (h5 : n ≤ 5) (hok : ∀ k, k < m → goodW n xs k) :
    Calls Try.prog 53 #[.agg #[.int .i64 (n : Int), .int .i64 E, .int .i64 S, s]] w fun e w' => ∃ G f cs, e = .returned (.slice (some ⟨G, 0, none⟩) n n) ∧ OMat w' w.heap.size G n f cs n (fun a b => wbet xs m (a : Int) (b : Int)) ∧ Ge w w' := by
  have HV := Lib.hid hs
  have HK := Lib.hid hok
  obtain ⟨p, cap, rfl, _⟩ := hs.open
  clear hs hok
  generalize hT : (fun (a b : Nat) => wbet xs m (a : Int) (b : Int)) = T
  have HT := Lib.hid hT
  clear hT
  go_enter Try.func53, Try.ntmps53
  go_wp2_with (at_make; refine mk1 rfl _ _ _ rfl 60 _ 1 24 Try.underlying78 inf_rowI (by decide) n rfl rfl (by omega) ?_; intro w1 own1 g1)
  have HO1 : Hid (∃ f cs, OMat w1 (w.heap.size + 1) (w.heap.size + 1) n f cs 0 T) := ⟨fun _ => 0, _, by simpa using own1, fun i hi => by omega⟩
  clear own1
  go_loopw [11] (fun i wr => ∃ k : Nat, k ≤ n ∧ i = .int .i64 k ∧ (∃ f cs, OMat wr (w.heap.size + 1) (w.heap.size + 1) n f cs k T) ∧ Ge (w.alloc (.cells #[.int .i64 (n : Int), .int .i64 E, .int .i64 S, .slice p m cap] 25)) wr) (fun i _ => n - (intOf i).toNat)
  case atStart => exact ⟨0, Nat.zero_le _, rfl, HO1.out, g1⟩
  case round =>
    obtain ⟨i, hi, rfl, ⟨f, cs, HO⟩, hg⟩ := hrel
    have c0 := hg.keep (cell_new (i := 0) rfl rfl)
    have c1 := hg.keep (cell_new (i := 1) rfl rfl)
    have c2 := hg.keep (cell_new (i := 2) rfl rfl)
    have c3 := hg.keep (cell_new (i := 3) rfl rfl)
    simp at c0 c1 c2 c3
    have hl := HO.lt
    by_cases hlt : i < n
    · have HOh := Lib.hid HO
      obtain ⟨lg1, lg2, lg3⟩ := hl
      clear lg3 HO
      obtain ⟨u, hu⟩ : ∃ u, wr.cell? ⟨w.heap.size + 1, i, none⟩ = some u := by
        rw [HOh.out.1.cellAt i (by omega)]
        exact ⟨_, List.getElem?_eq_getElem (by have := HOh.out.1.1; omega)⟩
      have hf := HOh.out.1.frozenAt i
      go_wp2_with (at_make; refine mk1 rfl _ _ _ rfl 3 _ 1 8 Try.underlying60 inf_int (by decide) n rfl rfl (by omega) ?_; intro w5 own5 g5; rw [made_ints, mapR_zero] at own5; have hu5 := g5.keep hu; have hf5 := g5.keepF hu hf; have zr := g5.size)
      have HN5 := Lib.hid (OMat.newRow HOh.out hlt g5 own5 rfl)
      have d0 := g5.keep c0
      have d1 := g5.keep c1
      have d2 := g5.keep c2
      have d3 := g5.keep c3
      clear own5 hu hf c0 c1 c2 c3
      generalize hr : wr.heap.size = r at *
      have hrb : w.heap.size + 1 < r := lg2
      have HN6 := Lib.hid (HN5.out.1.congr (tabR_zero T i n))
      have hg6 : Ge (w.alloc (.cells #[.int .i64 (n : Int), .int .i64 E, .int .i64 S, .slice p m cap] 25)) (w5.setCell ⟨w.heap.size + 1, i, none⟩ (.slice (some ⟨r, 0, none⟩) n n)) := (Ge.trans hg g5).grown HN5.out.2 (fun q hq => by simp at hq; subst hq; simp)
      clear HN5 hu5 hf5 d0 d1 d2 d3
      go_loopw [25] (fun i' wi => ∃ j : Nat, j ≤ n ∧ i' = .int .i64 j ∧ (∃ cs', OMat wi (w.heap.size + 1) (w.heap.size + 1) n (fun a => if a = i then r else f a) cs' (i + 1) (tabR T i j)) ∧ Ge (w.alloc (.cells #[.int .i64 (n : Int), .int .i64 E, .int .i64 S, .slice p m cap] 25)) wi) (fun i _ => n - (intOf i).toNat)
      case atStart => exact ⟨0, Nat.zero_le _, rfl, ⟨_, HN6.out⟩, hg6⟩
      case round =>
        obtain ⟨j, hj, rfl, ⟨cs', HO⟩, hgj⟩ := hrel
        have HOj := Lib.hid HO
        clear HO
        by_cases hjn : j < n
        · have c0 := hgj.keep (cell_new (i := 0) rfl rfl)
          have c1 := hgj.keep (cell_new (i := 1) rfl rfl)
          have c2 := hgj.keep (cell_new (i := 2) rfl rfl)
          have c3 := hgj.keep (cell_new (i := 3) rfl rfl)
          simp at c0 c1 c2 c3
          have x0 := HOj.out.row (i := i) (by omega) hlt
          have x1 := cv_some (HOj.out.entry (i := i) (j := j) (by omega) hjn)
          have x2 := HOj.out.froz (i := i) (by omega) j
          simp only [if_pos] at x0 x1 x2
          have HW := Lib.hid (fun w' (g : Ge w w') => iWeightBetween n E S (.slice p m cap) m xs (i : Int) (j : Int) w' (HV.out.ge g) hm HK.out)
          have hwj : Ge w wr := by (repeat (first | with_reducible exact Ge.refl _ | assumption | with_reducible refine Ge.drew ?_ | with_reducible refine Ge.drewN ?_ _ | with_reducible refine Ge.alloc ?_ _ | (with_reducible refine Ge.setCell ?_ (by first | (simp; done) | omega | (simp; omega)) _) | with_reducible refine Ge.trans ?_ (by assumption)))
          go_wp2_with fail
          go_region_held3 (fun w' => w'.cell? ⟨w.heap.size, 0, none⟩ = some (.int .i64 (n : Int)) ∧ w'.cell? ⟨w.heap.size, 1, none⟩ = some (.int .i64 E) ∧ w'.cell? ⟨w.heap.size, 2, none⟩ = some (.int .i64 S) ∧ w'.cell? ⟨w.heap.size, 3, none⟩ = some (.slice p m cap) ∧ w'.cell? ⟨w.heap.size + 1, i, none⟩ = some (.slice (some ⟨r, 0, none⟩) n n) ∧ w'.cell? ⟨r, j, none⟩ = some (cv w' ⟨r, j, none⟩) ∧ w'.frozen? ⟨r, j, none⟩ = false) (first | exact ⟨hb.keep (‹_ ∧ _ ∧ _ ∧ _ ∧ _ ∧ _ ∧ _›).1, hb.keep (‹_ ∧ _ ∧ _ ∧ _ ∧ _ ∧ _ ∧ _›).2.1, hb.keep (‹_ ∧ _ ∧ _ ∧ _ ∧ _ ∧ _ ∧ _›).2.2.1, hb.keep (‹_ ∧ _ ∧ _ ∧ _ ∧ _ ∧ _ ∧ _›).2.2.2.1, hb.keep (‹_ ∧ _ ∧ _ ∧ _ ∧ _ ∧ _ ∧ _›).2.2.2.2.1, cv_some (hb.keep (‹_ ∧ _ ∧ _ ∧ _ ∧ _ ∧ _ ∧ _›).2.2.2.2.2.1), hb.keepF (‹_ ∧ _ ∧ _ ∧ _ ∧ _ ∧ _ ∧ _›).2.2.2.2.2.1 (‹_ ∧ _ ∧ _ ∧ _ ∧ _ ∧ _ ∧ _›).2.2.2.2.2.2⟩ | ((refine ⟨?_, ?_, ?_, ?_, ?_, ?_, ?_⟩ <;> (repeat (first | assumption | with_reducible refine cv_drew ?_ | with_reducible refine cv_set ?_ | with_reducible refine cell_drew ?_ | with_reducible refine cell_drewN ?_ | ((with_reducible refine cell_set2 ?_ ?_); focus (first | (simp; done) | (intro hE; simp at hE; done) | (intro hE; simp at hE; omega))) | with_reducible refine froz_drew ?_ | with_reducible refine froz_set ?_))); done) | ((obtain ⟨s0, s1, s2, s3, s4, s5, s6⟩ := ‹_ ∧ _ ∧ _ ∧ _ ∧ _ ∧ _ ∧ _›); refine ⟨?_, ?_, ?_, ?_, ?_, ?_, ?_⟩ <;> (repeat (first | assumption | with_reducible refine cv_drew ?_ | with_reducible refine cv_set ?_ | with_reducible refine cell_drew ?_ | with_reducible refine cell_drewN ?_ | ((with_reducible refine cell_set2 ?_ ?_); focus (first | (simp; done) | (intro hE; simp at hE; done) | (intro hE; simp at hE; omega))) | with_reducible refine froz_drew ?_ | with_reducible refine froz_set ?_)))) (first | (go_at_call 64; ((with_reducible refine (HW.out _ (Ge.drew hwj)).mono ?_); rintro e w8 ⟨rfl, hb⟩); have g8 : Ge wr w8 := Ge.trans (Ge.drew (Ge.refl _)) hb) | fail)
          clear c0 c1 c2 c3 x0 x1 x2
          have HE := Lib.hid (OMat.setE (HOj.out.ge g8) (i := i) (j := j) (by omega) hjn (wbet xs m (i : Int) (j : Int)))
          simp only [if_pos] at HE
          have eT : T i j = wbet xs m (i : Int) (j : Int) := by rw [← HT.out]
          have HE2 := Lib.hid (HE.out.1.congr (M' := tabR T i (j + 1)) (fun a b ha hb => by rw [← eT]; exact tabR_step T i j n a b ha hb))
          have hgE := (Ge.trans hgj g8).grown HE.out.2 (fun q hq => by simp at hq; subst hq; simp; try omega)
          clear HE
          go_wp2_with fail
          go_roundw
          case rel => exact ⟨j + 1, by omega, by go_num, ⟨_, HE2.out⟩, hgE⟩
          case measure => simp [intOf]; omega
        · have hjn' : j = n := by omega
          subst hjn'
          have HOk := Lib.hid (HOj.out.congr (tabR_all T i j))
          clear HOj
          go_wp2_with fail
          go_roundw
          case rel => exact ⟨i + 1, by omega, by go_num, ⟨_, _, HOk.out⟩, hgj⟩
          case measure => simp [intOf]; omega
    · have hin : i = n := by omega
      subst hin
      have HOh := Lib.hid HO
      clear HO hl
      go_wp2_with fail
      go_ret
      exact ⟨_, f, cs, rfl, HOh.out.mono (by omega), by (repeat (first | with_reducible exact Ge.refl _ | assumption | with_reducible refine Ge.drew ?_ | with_reducible refine Ge.drewN ?_ _ | with_reducible refine Ge.alloc ?_ _ | (with_reducible refine Ge.setCell ?_ (by first | (simp; done) | omega | (simp; omega)) _) | with_reducible refine Ge.trans ?_ (by assumption)))⟩

/-- The Laplacian's rows while row i is turned up to j. -/
def lapR (W : Nat → Int) (T : Nat → Nat → Int) (i j : Nat) (a b : Nat) : Int := if a < i then (if a = b then W a else -(T a b)) else if a = i ∧ b < j then -(T a b) else T a b
theorem lapR_zero (W : Nat → Int) (T : Nat → Nat → Int) (n : Nat) : ∀ a b, a < n → b < n → T a b = lapR W T 0 0 a b := fun a b _ _ => by simp [lapR]
theorem lapR_step (W : Nat → Int) (T : Nat → Nat → Int) (i j n : Nat) : ∀ a b, a < n → b < n → (if a = i ∧ b = j then -(T i j) else lapR W T i j a b) = lapR W T i (j + 1) a b := fun a b _ _ => by
  unfold lapR
  by_cases e : a = i
  · subst e
    by_cases e2 : b = j
    · subst e2; simp
    · by_cases e3 : b < j
      · simp [e2, e3, show b < j + 1 by omega]
      · simp [e2, e3, show ¬ b < j + 1 by omega]
  · simp [e]
theorem lapR_diag (W : Nat → Int) (T : Nat → Nat → Int) (i n : Nat) : ∀ a b, a < n → b < n → (if a = i ∧ b = i then W i else lapR W T i n a b) = lapR W T (i + 1) 0 a b := fun a b _ hb => by
  unfold lapR
  by_cases e : a = i
  · subst e
    by_cases e2 : b = a
    · subst e2; simp
    · have e3 : ¬ a = b := fun h => e2 h.symm
      simp [e2, e3, hb]
  · by_cases e4 : a < i
    · simp [e, e4, show a < i + 1 by omega]
    · simp [e, e4, show ¬ a < i + 1 by omega]
theorem lapR_at (W : Nat → Int) (T : Nat → Nat → Int) (i j : Nat) : lapR W T i j i j = T i j := by simp [lapR]

set_option maxHeartbeats 1600000 in
theorem iLaplacianOf (n : Nat) (E S : Int) (s : Value) (m : Nat) (xs : List Int) (w : World) (hs : SlF w s m 3 xs) (hB : netB n E S m xs = true) :
    Calls Try.prog 40 #[.agg #[.int .i64 (n : Int), .int .i64 E, .int .i64 S, s]] w fun e w' => ∃ v, e = .returned v ∧ SlMM w' v n (lapZ xs m) ∧ Ge w w' := by
  obtain ⟨⟨h1, h5⟩, _, _, hok, _⟩ := netP_of hB
  have hm : m ≤ 10 := prs_len (by omega) hok
  have HV := Lib.hid hs
  have HK := Lib.hid hok
  have HB := Lib.hid hB
  obtain ⟨p, cap, rfl, _⟩ := hs.open
  clear hs hok hB
  have HT5 : Hid (∀ a b : Nat, -200 ≤ wbet xs m (a : Int) (b : Int) ∧ wbet xs m (a : Int) (b : Int) ≤ 200) := fun a b => by have := wbet_bd HK.out (a : Int) (b : Int); omega
  have HNo := Lib.hid (fun w' (g : Ge w w') => iNetOk n E S (.slice p m cap) m xs w' (HV.out.ge g) (by omega))
  rw [HB.out] at HNo
  have HTa := Lib.hid (fun w' (g : Ge w w') => iTable n E S (.slice p m cap) m xs w' (HV.out.ge g) hm (by omega) (by omega) HK.out)
  go_enter Try.func40, Try.ntmps40
  go_wp2_with (first
    | (go_at_call 20; ((with_reducible refine (HNo.out _ (by (repeat (first | with_reducible exact Ge.refl _ | assumption | with_reducible refine Ge.drew ?_ | with_reducible refine Ge.drewN ?_ _ | with_reducible refine Ge.alloc ?_ _ | (with_reducible refine Ge.setCell ?_ (by first | (simp; done) | omega | (simp; omega)) _) | with_reducible refine Ge.trans ?_ (by assumption))))).mono ?_); rintro e w1 ⟨rfl, g1⟩; have c0 := Ge.keep g1 (cell_new (i := 0) rfl rfl); have c1 := Ge.keep g1 (cell_new (i := 1) rfl rfl); have c2 := Ge.keep g1 (cell_new (i := 2) rfl rfl); have c3 := Ge.keep g1 (cell_new (i := 3) rfl rfl); have z1 := g1.size; (simp at c0 c1 c2 c3 z1)))
    | (go_at_call 53; ((with_reducible refine (HTa.out _ (by (repeat (first | with_reducible exact Ge.refl _ | assumption | with_reducible refine Ge.drew ?_ | with_reducible refine Ge.drewN ?_ _ | with_reducible refine Ge.alloc ?_ _ | (with_reducible refine Ge.setCell ?_ (by first | (simp; done) | omega | (simp; omega)) _) | with_reducible refine Ge.trans ?_ (by assumption))))).mono ?_); rintro e w2 ⟨G, f, cs, rfl, HO, g2⟩)))
  generalize hT : (fun (a b : Nat) => wbet xs m (a : Int) (b : Int)) = T at HO
  have HTe : Hid (∀ a b : Nat, T a b = wbet xs m (a : Int) (b : Int)) := fun a b => by rw [← hT]
  clear hT
  generalize hW : (fun (a : Nat) => wat xs (a : Int) m) = W
  have HWe : Hid (∀ a : Nat, W a = wat xs (a : Int) m) := fun a => by rw [← hW]
  clear hW
  have HO0 := Lib.hid (HO.congr (lapR_zero W T n))
  have lG := Lib.hid HO.lt
  have lG1 := lG.out.1
  clear HO
  have HWA := Lib.hid (fun (a : Int) w' (g : Ge w w') => iWeightAt n E S (.slice p m cap) m xs a w' (HV.out.ge g) hm HK.out)
  have G1 : Ge w w1 := by (repeat (first | with_reducible exact Ge.refl _ | assumption | with_reducible refine Ge.drew ?_ | with_reducible refine Ge.drewN ?_ _ | with_reducible refine Ge.alloc ?_ _ | (with_reducible refine Ge.setCell ?_ (by first | (simp; done) | omega | (simp; omega)) _) | with_reducible refine Ge.trans ?_ (by assumption)))
  go_loopw [13] (fun i' wr => ∃ i : Nat, i ≤ n ∧ i' = .int .i64 i ∧ OMat wr w1.heap.size G n f cs n (lapR W T i 0) ∧ Ge w1 wr) (fun i _ => n - (intOf i).toNat)
  case atStart => exact ⟨0, Nat.zero_le _, rfl, HO0.out, g2⟩
  case round =>
    obtain ⟨i, hi, rfl, HO, hg⟩ := hrel
    have HOi := Lib.hid HO
    clear HO
    by_cases hlt : i < n
    · go_wp2_with fail
      go_loopw [18] (fun j' wr => ∃ j : Nat, j ≤ n ∧ j' = .int .i64 j ∧ OMat wr w1.heap.size G n f cs n (lapR W T i j) ∧ Ge w1 wr) (fun i _ => n - (intOf i).toNat)
      case atStart => exact ⟨0, Nat.zero_le _, rfl, HOi.out, hg⟩
      case round =>
        obtain ⟨j, hj, rfl, HO, hgj⟩ := hrel
        have HOj := Lib.hid HO
        clear HO
        have lfi := lG.out.2.2 i hlt
        by_cases hjn : j < n
        · have x0 := HOj.out.row hlt hlt
          have x1 := HOj.out.entry hlt hjn
          rw [lapR_at] at x1
          have x2 := HOj.out.froz hlt j
          have tb := HT5.out i j
          rw [← HTe.out] at tb
          have w4 : wrap64 (-(T i j)) = -(T i j) := wr64 _ (by omega) (by omega)
          have w5 : IntKind.i64.wrap (-(T i j)) = -(T i j) := IntWalk.i64_in _ (by omega)
          have HE := Lib.hid (OMat.setE (HOj.out.ge (Ge.drew (Ge.refl wr))) hlt hjn (-(T i j)))
          have HE2 := Lib.hid (HE.out.1.congr (M' := lapR W T i (j + 1)) (lapR_step W T i j n))
          have hgE := (Ge.drew hgj).grown HE.out.2 (fun q hq => by simp at hq; subst hq; omega)
          clear HE
          generalize f i = r at *
          go_wp2_with fail
          go_still_tail 14, (by kernel_rfl)
          have y1 : wr.drew.cell? ⟨r, j, none⟩ = some (.int .i64 (T i j)) := x1
          have y2 : wr.drew.frozen? ⟨r, j, none⟩ = false := x2
          show wpList _ _ _ _ _ wr.drew
          go_wp2_with fail
          go_roundw
          case rel => exact ⟨j + 1, by omega, by go_num, HE2.out, hgE⟩
          case measure => simp [intOf]; omega
        · have hjn' : j = n := by omega
          subst hjn'
          have c0r := hgj.keep c0
          have c1r := hgj.keep c1
          have c2r := hgj.keep c2
          have c3r := hgj.keep c3
          have x0 := HOj.out.row hlt hlt
          have x1 := cv_some (HOj.out.entry hlt hlt)
          have x2 := HOj.out.froz hlt i
          have gwr : Ge w wr := Ge.trans G1 hgj
          generalize hr : f i = r at *
          have lbr : w.heap.size < r := by omega
          have lbG : w.heap.size < G := by omega
          go_wp2_with fail
          go_region_held3 (fun w' => w'.cell? ⟨w.heap.size, 0, none⟩ = some (.int .i64 (j : Int)) ∧ w'.cell? ⟨w.heap.size, 1, none⟩ = some (.int .i64 E) ∧ w'.cell? ⟨w.heap.size, 2, none⟩ = some (.int .i64 S) ∧ w'.cell? ⟨w.heap.size, 3, none⟩ = some (.slice p m cap) ∧ w'.cell? ⟨G, i, none⟩ = some (.slice (some ⟨r, 0, none⟩) j j) ∧ w'.cell? ⟨r, i, none⟩ = some (cv w' ⟨r, i, none⟩) ∧ w'.frozen? ⟨r, i, none⟩ = false) (first | exact ⟨hb.keep (‹_ ∧ _ ∧ _ ∧ _ ∧ _ ∧ _ ∧ _›).1, hb.keep (‹_ ∧ _ ∧ _ ∧ _ ∧ _ ∧ _ ∧ _›).2.1, hb.keep (‹_ ∧ _ ∧ _ ∧ _ ∧ _ ∧ _ ∧ _›).2.2.1, hb.keep (‹_ ∧ _ ∧ _ ∧ _ ∧ _ ∧ _ ∧ _›).2.2.2.1, hb.keep (‹_ ∧ _ ∧ _ ∧ _ ∧ _ ∧ _ ∧ _›).2.2.2.2.1, cv_some (hb.keep (‹_ ∧ _ ∧ _ ∧ _ ∧ _ ∧ _ ∧ _›).2.2.2.2.2.1), hb.keepF (‹_ ∧ _ ∧ _ ∧ _ ∧ _ ∧ _ ∧ _›).2.2.2.2.2.1 (‹_ ∧ _ ∧ _ ∧ _ ∧ _ ∧ _ ∧ _›).2.2.2.2.2.2⟩ | ((refine ⟨?_, ?_, ?_, ?_, ?_, ?_, ?_⟩ <;> (repeat (first | assumption | with_reducible refine cv_drew ?_ | with_reducible refine cv_set ?_ | with_reducible refine cell_drew ?_ | with_reducible refine cell_drewN ?_ | ((with_reducible refine cell_set2 ?_ ?_); focus (first | (simp; done) | (intro hE; simp at hE; done) | (intro hE; simp at hE; omega))) | with_reducible refine froz_drew ?_ | with_reducible refine froz_set ?_))); done) | ((obtain ⟨s0, s1, s2, s3, s4, s5, s6⟩ := ‹_ ∧ _ ∧ _ ∧ _ ∧ _ ∧ _ ∧ _›); refine ⟨?_, ?_, ?_, ?_, ?_, ?_, ?_⟩ <;> (repeat (first | assumption | with_reducible refine cv_drew ?_ | with_reducible refine cv_set ?_ | with_reducible refine cell_drew ?_ | with_reducible refine cell_drewN ?_ | ((with_reducible refine cell_set2 ?_ ?_); focus (first | (simp; done) | (intro hE; simp at hE; done) | (intro hE; simp at hE; omega))) | with_reducible refine froz_drew ?_ | with_reducible refine froz_set ?_)))) (first | (go_at_call 54; ((with_reducible refine (HWA.out _ _ (Ge.drew gwr)).mono ?_); rintro e w8 ⟨rfl, hb⟩); have g8 : Ge wr w8 := Ge.trans (Ge.drew (Ge.refl _)) hb) | fail)
          clear c0r c1r c2r c3r x0 x1 x2
          have HE := Lib.hid (OMat.setE (HOj.out.ge g8) hlt hlt (W i))
          rw [hr] at HE
          rw [HWe.out] at HE
          have HE2 := Lib.hid (HE.out.1.congr (M' := lapR W T (i + 1) 0) (by rw [← HWe.out]; exact lapR_diag W T i j))
          have hgE := (Ge.trans hgj g8).grown HE.out.2 (fun q hq => by simp at hq; subst hq; omega)
          clear HE
          go_wp2_with fail
          go_roundw
          case rel => exact ⟨i + 1, by omega, by go_num, HE2.out, hgE⟩
          case measure => simp [intOf]; omega
    · have hin : i = n := by omega
      subst hin
      go_wp2_with fail
      go_ret
      refine ⟨_, rfl, HOi.out.slMM (fun a b ha hb => ?_), by (repeat (first | with_reducible exact Ge.refl _ | assumption | with_reducible refine Ge.drew ?_ | with_reducible refine Ge.drewN ?_ _ | with_reducible refine Ge.alloc ?_ _ | (with_reducible refine Ge.setCell ?_ (by first | (simp; done) | omega | (simp; omega)) _) | with_reducible refine Ge.trans ?_ (by assumption)))⟩
      unfold lapR lapZ
      rw [if_pos ha, HTe.out, HWe.out]
      by_cases e : a = b
      · subst e; simp
      · rw [if_neg e, if_neg (by omega)]
end Go.Proofs.Ytipiiimemmkdgaa

namespace Go.Proofs.Ytipiiimemmkdgaa

def nAt (l : List Nat) (k : Nat) : Nat := l.getD k 0
theorem nAt_eq (l : List Nat) (k : Nat) (h : k < l.length) : nAt l k = l[k] := by simp [nAt, List.getD, h]
/-- Wires from a to the first k of r. -/
def innP (v : Nat) (f : Nat → Int) (acc : List Wr) (a : Nat) (r : List Nat) : Nat → List Wr
  | 0 => acc
  | k + 1 => putW (innP v f acc a r k) (outI v (a : Int)) (outI v (nAt r k : Int)) (f a * f (nAt r k)) true
/-- Wires from the first t of near to those behind each. -/
def outP (v : Nat) (f : Nat → Int) (base : List Wr) (near : List Nat) : Nat → List Wr
  | 0 => base
  | t + 1 => innP v f (outP v f base near t) (nAt near t) (near.drop (t + 1)) (near.drop (t + 1)).length
theorem take_mem {l : List Nat} {k : Nat} (h : k < l.length) (x : Nat) : x ∈ l.take (k + 1) ↔ x ∈ l.take k ∨ x = nAt l k := by
  rw [List.take_succ_eq_append_getElem h, List.mem_append, nAt_eq l k h]; simp
theorem inn_ok {n v : Nat} {f : Nat → Int} {acc : List Wr} {a : Nat} {r : List Nat} (hacc : Ord (n - 1) acc) (ha : a < n ∧ a ≠ v) (hfa : 0 < f a) (hv : v < n) (hr : ∀ x ∈ r, a < x ∧ x < n ∧ x ≠ v ∧ 0 < f x) (hs : r.Pairwise (· < ·)) :
    ∀ k, k ≤ r.length → Ord (n - 1) (innP v f acc a r k) ∧ ∀ i j : Nat, i < j → sameS i j (innP v f acc a r k) = sameS i j acc + (if upI v i = a ∧ upI v j ∈ r.take k then f a * f (upI v j) else 0)
  | 0, _ => ⟨hacc, fun i j _ => by simp [innP]⟩
  | k + 1, hk => by
    obtain ⟨h1, h2⟩ := inn_ok hacc ha hfa hv hr hs k (by omega)
    have hm : nAt r k ∈ r := by rw [nAt_eq r k (by omega)]; exact List.getElem_mem _
    obtain ⟨q1, q2, q3, q4⟩ := hr _ hm
    have a1 := outI_lt (v := v) (x := (a : Int)) (y := (nAt r k : Int)) (by omega) (by omega) (by omega)
    have a2 : 0 ≤ outI v (a : Int) := by unfold outI; split <;> omega
    have a3 : outI v (nAt r k : Int) < ((n - 1 : Nat) : Int) := by unfold outI; split <;> omega
    have m1 : min (outI v (a : Int)) (outI v (nAt r k : Int)) = outI v (a : Int) := by omega
    have m2 : max (outI v (a : Int)) (outI v (nAt r k : Int)) = outI v (nAt r k : Int) := by omega
    simp only [innP]
    refine ⟨h1.put ⟨a2, by omega⟩ ⟨by omega, a3⟩ (by omega) (Int.mul_pos hfa q4), fun i j hij => ?_⟩
    rw [sameS_putW, h2 i j hij, m1, m2]
    have e1 := outI_eq (v := v) (i := i) (x := (a : Int)) (by omega) (by omega)
    have e2 := outI_eq (v := v) (i := j) (x := (nAt r k : Int)) (by omega) (by omega)
    have hnot : nAt r k ∉ r.take k := fun hh => by
      obtain ⟨t, ht, he⟩ := List.getElem_of_mem hh
      rw [List.length_take] at ht
      rw [List.getElem_take, nAt_eq r k (by omega)] at he
      have := (List.pairwise_iff_getElem.1 hs) t k (by omega) (by omega) (by omega)
      omega
    by_cases d1 : upI v i = a
    · by_cases d2 : upI v j = nAt r k
      · rw [if_neg (fun h => hnot (d2 ▸ h.2)), if_pos ⟨by have := e1.2 (by omega); omega, by have := e2.2 (by omega); omega⟩, if_pos ⟨d1, (take_mem (by omega) _).2 (.inr d2)⟩, d2]; omega
      · rw [if_neg (fun h : (i : Int) = _ ∧ (j : Int) = _ => d2 (by have := e2.1 h.2.symm; omega))]
        by_cases d3 : upI v j ∈ r.take k
        · rw [if_pos ⟨d1, d3⟩, if_pos ⟨d1, (take_mem (by omega) _).2 (.inl d3)⟩]; omega
        · rw [if_neg (fun h => d3 h.2), if_neg (fun h => by rcases (take_mem (by omega) _).1 h.2 with h | h; exact d3 h; exact d2 h)]; omega
    · rw [if_neg (fun h : upI v i = a ∧ _ => d1 h.1), if_neg (fun h : (i : Int) = _ ∧ (j : Int) = _ => d1 (by have := e1.1 h.1.symm; omega)), if_neg (fun h : upI v i = a ∧ _ => d1 h.1)]; omega
theorem out_ok {n v : Nat} {f : Nat → Int} {base : List Wr} {near : List Nat} (hb : Ord (n - 1) base) (hv : v < n) (hr : ∀ x ∈ near, x < n ∧ x ≠ v ∧ 0 < f x) (hs : near.Pairwise (· < ·)) :
    ∀ t, t ≤ near.length → Ord (n - 1) (outP v f base near t) ∧ ∀ i j : Nat, i < j → sameS i j (outP v f base near t) = sameS i j base + (if upI v i ∈ near.take t ∧ upI v j ∈ near then f (upI v i) * f (upI v j) else 0)
  | 0, _ => ⟨hb, fun i j _ => by simp [outP]⟩
  | t + 1, ht => by
    obtain ⟨h1, h2⟩ := out_ok hb hv hr hs t (by omega)
    have hm : nAt near t ∈ near := by rw [nAt_eq near t (by omega)]; exact List.getElem_mem _
    obtain ⟨q1, q2, q3⟩ := hr _ hm
    have hdrop : ∀ x ∈ near.drop (t + 1), nAt near t < x := fun x hx => by
      obtain ⟨u, hu, he⟩ := List.getElem_of_mem hx
      rw [List.length_drop] at hu
      rw [List.getElem_drop] at he
      have := (List.pairwise_iff_getElem.1 hs) t (t + 1 + u) (by omega) (by omega) (by omega)
      rw [nAt_eq near t (by omega)]
      omega
    have hmem : ∀ x, nAt near t < x → (x ∈ near ↔ x ∈ near.drop (t + 1)) := fun x hx => by
      constructor
      · intro h
        obtain ⟨u, hu, he⟩ := List.getElem_of_mem h
        have hut : t < u := by
          rcases Nat.lt_trichotomy t u with h | h | h
          · exact h
          · subst h; rw [nAt_eq near t (by omega)] at hx; omega
          · have := (List.pairwise_iff_getElem.1 hs) u t (by omega) (by omega) h
            rw [nAt_eq near t (by omega)] at hx; omega
        rw [← he]
        rw [List.mem_iff_getElem]
        exact ⟨u - (t + 1), by rw [List.length_drop]; omega, by rw [List.getElem_drop]; congr 1; omega⟩
      · exact fun h => List.mem_of_mem_drop h
    obtain ⟨k1, k2⟩ := inn_ok (acc := outP v f base near t) (a := nAt near t) (r := near.drop (t + 1)) h1 ⟨q1, q2⟩ q3 hv (fun x hx => ⟨hdrop x hx, (hr x (List.mem_of_mem_drop hx)).1, (hr x (List.mem_of_mem_drop hx)).2⟩) (hs.sublist (List.drop_sublist _ _)) (near.drop (t + 1)).length (Nat.le_refl _)
    simp only [outP]
    refine ⟨k1, fun i j hij => ?_⟩
    have hup : upI v i < upI v j := by unfold upI; split <;> split <;> omega
    rw [k2 i j hij, h2 i j hij, List.take_length]
    have hnot : nAt near t ∉ near.take t := fun hh => by
      obtain ⟨u, hu, he⟩ := List.getElem_of_mem hh
      rw [List.length_take] at hu
      rw [List.getElem_take, nAt_eq near t (by omega)] at he
      have := (List.pairwise_iff_getElem.1 hs) u t (by omega) (by omega) (by omega)
      omega
    by_cases d1 : upI v i = nAt near t
    · rw [if_neg (fun h : upI v i ∈ _ ∧ _ => hnot (d1 ▸ h.1))]
      by_cases d2 : upI v j ∈ near
      · rw [if_pos ⟨d1, (hmem _ (by omega)).1 d2⟩, if_pos ⟨(take_mem (by omega) _).2 (.inr d1), d2⟩, d1]; omega
      · rw [if_neg (fun h => d2 (List.mem_of_mem_drop h.2)), if_neg (fun h => d2 h.2)]; omega
    · rw [if_neg (fun h : upI v i = _ ∧ _ => d1 h.1)]
      by_cases d3 : upI v i ∈ near.take t ∧ upI v j ∈ near
      · rw [if_pos d3, if_pos ⟨(take_mem (by omega) _).2 (.inl d3.1), d3.2⟩]; omega
      · rw [if_neg d3, if_neg (fun h => by rcases (take_mem (by omega) _).1 h.1 with h' | h'; exact d3 ⟨h', h.2⟩; exact d1 h')]; omega
end Go.Proofs.Ytipiiimemmkdgaa

namespace Go.Proofs.Ytipiiimemmkdgaa

theorem tabC_congr {f g : Nat → Nat → Int} {k t : Nat} (h : ∀ i j, i < j → j < k → f i j = g i j) : tabC f k t = tabC g k t := by
  refine sorted_ext (tabC_sorted _ _ _) (tabC_sorted _ _ _) (fun e => ?_)
  rw [mem_tabC, mem_tabC]
  constructor
  · rintro ⟨i, j, h1, h2, h3, h4, h5⟩
    rw [h i j h2 h3] at h4 h5
    exact ⟨i, j, h1, h2, h3, h4, h5⟩
  · rintro ⟨i, j, h1, h2, h3, h4, h5⟩
    rw [← h i j h2 h3] at h4 h5
    exact ⟨i, j, h1, h2, h3, h4, h5⟩
/-- The weight between v and x. -/
def wbL (L : List Wr) (v x : Nat) : Int := if v = x then 0 else sameS (min v x : Nat) (max v x : Nat) L
/-- The neighbors of v. -/
def nearL (n : Nat) (L : List Wr) (v : Nat) : List Nat := (List.range n).filter fun x => decide (0 < wbL L v x)
def meshF (L : List Wr) (v : Nat) (s : Int) (i j : Nat) : Int := wbL L (upI v i) (upI v j) * s + wbL L (upI v i) v * wbL L v (upI v j)
theorem wbL_symm (L : List Wr) (a b : Nat) : wbL L a b = wbL L b a := by
  unfold wbL
  by_cases h : a = b
  · rw [h]
  · rw [if_neg h, if_neg (fun k => h k.symm), Nat.min_comm, Nat.max_comm]
theorem wbL_nn {n : Nat} {L : List Wr} (h : Ord n L) (a b : Nat) : 0 ≤ wbL L a b := by
  unfold wbL
  split
  · omega
  · exact sameS_nn h.2 _ _
theorem mem_nearL {n : Nat} {L : List Wr} {v x : Nat} : x ∈ nearL n L v ↔ x < n ∧ 0 < wbL L v x := by simp [nearL]
theorem nearL_sorted (n : Nat) (L : List Wr) (v : Nat) : (nearL n L v).Pairwise (· < ·) := List.Pairwise.filter _ List.pairwise_lt_range
/-- What putting makes is the table. -/
theorem mesh_tab {n v : Nat} {L : List Wr} {s : Int} (hL : Ord n L) (hv : v < n) (hs : 0 < s) :
    outP v (wbL L v) (firstP v s L L.length) (nearL n L v) (nearL n L v).length = tabC (meshF L v s) (n - 1) (n - 1) := by
  obtain ⟨h1, h2⟩ := first_ok hL.2 hv hs L.length (Nat.le_refl _)
  have hr : ∀ x ∈ nearL n L v, x < n ∧ x ≠ v ∧ 0 < wbL L v x := fun x hx => by
    obtain ⟨k1, k2⟩ := mem_nearL.1 hx
    refine ⟨k1, fun e => ?_, k2⟩
    subst e
    simp [wbL] at k2
  obtain ⟨h3, h4⟩ := out_ok h1 hv hr (nearL_sorted n L v) _ (Nat.le_refl _)
  rw [list_tab h3.1 (fun e he => by obtain ⟨q1, q2, q3, q4⟩ := h3.2 e he; exact ⟨q1, q2, q3, by omega⟩)]
  refine tabC_congr (fun i j hij hj => ?_)
  have hup : upI v i < upI v j := by unfold upI; split <;> split <;> omega
  have hjn : upI v j < n := by unfold upI; split <;> omega
  rw [h4 i j hij, h2 i j hij, List.take_length, List.take_length]
  unfold meshF
  have e1 : wbL L (upI v i) (upI v j) = sameS (upI v i : Nat) (upI v j : Nat) L := by
    unfold wbL
    rw [if_neg (by omega), Nat.min_eq_left (by omega), Nat.max_eq_right (by omega)]
  rw [e1, wbL_symm L (upI v i) v]
  congr 1
  by_cases c : upI v i ∈ nearL n L v ∧ upI v j ∈ nearL n L v
  · rw [if_pos c]
  · rw [if_neg c]
    have n1 := wbL_nn hL v (upI v i)
    have n2 := wbL_nn hL v (upI v j)
    by_cases d : 0 < wbL L v (upI v i)
    · have : wbL L v (upI v j) = 0 := by
        have : ¬ 0 < wbL L v (upI v j) := fun h => c ⟨mem_nearL.2 ⟨by omega, d⟩, mem_nearL.2 ⟨hjn, h⟩⟩
        omega
      rw [this]; simp
    · have : wbL L v (upI v i) = 0 := by omega
      rw [this]; simp
end Go.Proofs.Ytipiiimemmkdgaa

namespace Go.Proofs.Ytipiiimemmkdgaa

theorem flat_wire {L : List Wr} {k : Nat} (h : k < L.length) : wa (flatW L) k = (nthW L k).a ∧ wb (flatW L) k = (nthW L k).b ∧ ww (flatW L) k = (nthW L k).w := flatW_get L k h
theorem wfind_not {xs : List Int} {a b : Int} : ∀ {m : Nat}, wfind xs a b m = none → ∀ k, k < m → ¬ isW xs a b k
  | 0, _, k, hk => by omega
  | m + 1, h, k, hk => by
    simp only [wfind] at h
    split at h
    · cases h
    · rename_i h0
      split at h
      · cases h
      · rename_i h1
        by_cases e : k = m
        · subst e; exact h1
        · exact wfind_not h0 k (by omega)
theorem wbet_wbL {n : Nat} {L : List Wr} (h : Ord n L) (a b : Nat) : wbet (flatW L) L.length (a : Int) (b : Int) = wbL L a b := by
  have hmin : min (a : Int) (b : Int) = ((min a b : Nat) : Int) := by omega
  have hmax : max (a : Int) (b : Int) = ((max a b : Nat) : Int) := by omega
  cases e : wfind (flatW L) (a : Int) (b : Int) L.length with
  | some k =>
    obtain ⟨hk, hw⟩ := wfind_lt e
    obtain ⟨f1, f2, f3⟩ := flat_wire hk
    have hm : nthW L k ∈ L := by rw [nthW_eq L k hk]; exact List.getElem_mem _
    obtain ⟨w1, w2⟩ := hw
    rw [f1, hmin] at w1
    rw [f2, hmax] at w2
    have hs := sameS_mem h.1 hm
    have hlt := (h.2 _ hm).2.1
    rw [wbet_some e, f3, ← hs, w1, w2]
    unfold wbL
    rw [if_neg (by omega)]
  | none =>
    rw [wbet_none e]
    unfold wbL
    split
    · rfl
    · refine (sameS_none (fun x hx hh => ?_)).symm
      obtain ⟨k, hk, he⟩ := List.getElem_of_mem hx
      refine wfind_not e k hk ?_
      obtain ⟨f1, f2, f3⟩ := flat_wire hk
      have hn := nthW_eq L k hk
      unfold isW
      rw [f1, f2, hn, he, hmin, hmax]
      exact hh
end Go.Proofs.Ytipiiimemmkdgaa

namespace Go.Proofs.Ytipiiimemmkdgaa

open Go.RowKit

def detE (k : Nat) : Int := (4000 : Int) ^ k
theorem detE_pos (k : Nat) : 0 ≤ detE k := Int.pow_nonneg (by decide)
theorem detE_succ (k : Nat) : detE (k + 1) = 4000 * detE k := by unfold detE; rw [Int.pow_succ, Int.mul_comm]
theorem term_bdE {M : Int → Int → Int} (hM : ∀ a b, absB (M a b) 800) (j : Nat) (r c d B : Int) (hB : 0 ≤ B) (hd : absB d B) : absB (sgn j * M r c * d) (800 * B) := by
  have h1 : absB (sgn j * M r c) 800 := by
    have := hM r c
    unfold sgn absB at *
    split <;> omega
  exact absB_mul (by decide) h1 hd hB
theorem detF_bdE {M : Int → Int → Int} (hM : ∀ a b, absB (M a b) 800) : ∀ (rows cols : List Int), cols.length ≤ 5 → absB (detF M rows cols) (detE rows.length)
  | [], cols, _ => by simp [detF, detE, absB]
  | r :: rs, cols, h => by
    have h1 := sumTo_bd (f := fun j => sgn j * M r (nth cols j) * detF M rs (cols.eraseIdx j)) (B := 800 * detE rs.length) (k := cols.length) (Int.mul_nonneg (by decide) (detE_pos _))
      (fun j _ => term_bdE hM j r _ _ _ (detE_pos _) (detF_bdE hM rs (cols.eraseIdx j) (Nat.le_trans (List.length_eraseIdx_le _ _) h)))
    have h2 : (cols.length : Int) * (800 * detE rs.length) ≤ 5 * (800 * detE rs.length) := Int.mul_le_mul_of_nonneg_right (by omega) (Int.mul_nonneg (by decide) (detE_pos _))
    have h3 := detE_succ rs.length
    simp only [detF, List.length_cons, absB] at *
    omega
theorem detPart_bdE {M : Int → Int → Int} (hM : ∀ a b, absB (M a b) 800) (r : Int) (rs cols : List Int) (h : cols.length ≤ 5) {j : Nat} (hj : j ≤ cols.length) : absB (detPart M r rs cols j) (detE (rs.length + 1)) := by
  have h1 := sumTo_bd (f := fun j => sgn j * M r (nth cols j) * detF M rs (cols.eraseIdx j)) (B := 800 * detE rs.length) (k := j) (Int.mul_nonneg (by decide) (detE_pos _))
    (fun j _ => term_bdE hM j r _ _ _ (detE_pos _) (detF_bdE hM rs (cols.eraseIdx j) (Nat.le_trans (List.length_eraseIdx_le _ _) h)))
  have h2 : (j : Int) * (800 * detE rs.length) ≤ 5 * (800 * detE rs.length) := Int.mul_le_mul_of_nonneg_right (by omega) (Int.mul_nonneg (by decide) (detE_pos _))
  have h3 := detE_succ rs.length
  simp only [detPart, absB] at *
  omega
theorem detE_le {k : Nat} (h : k ≤ 5) : detE k ≤ 1024000000000000000 := by
  have : k = 0 ∨ k = 1 ∨ k = 2 ∨ k = 3 ∨ k = 4 ∨ k = 5 := by omega
  rcases this with rfl | rfl | rfl | rfl | rfl | rfl <;> decide
end Go.Proofs.Ytipiiimemmkdgaa
