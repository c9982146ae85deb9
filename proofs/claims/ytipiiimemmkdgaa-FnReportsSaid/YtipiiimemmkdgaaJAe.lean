/- StarMesh of impl. No condition. DropNode of impl. No condition. l05Index of the reference. No condition. l06Reduced, l07Mesh, DropNode of the reference. No condition. Plain law: bounds of the wires that are put. No program in sight. l07Mesh of the reference. No condition. -/
import Derived.Test.YtipiiimemmkdgaaWWithout
import Derived.Test.YtipiiimemmkdgaaJAb
import Derived.Test.YtipiiimemmkdgaaWTail
import Derived.Test.YtipiiimemmkdgaaJAd
import Derived.Test.YtipiiimemmkdgaaPlMesh2
import Derived.Test.YtipiiimemmkdgaaWNetOkS
namespace Go.Proofs.Ytipiiimemmkdgaa
set_option maxRecDepth 100000
open Go.ChangeShapes Go.WideShapes Go.ChangeAt Go.RowKit Go.Joins

/-- The table while row i is turned up to j. -/
def starR (T : Nat → Nat → Int) (s : Int) (v i j a b : Nat) : Int := if (a < i ∨ a = i ∧ b < j) ∧ ¬ a = v ∧ ¬ b = v ∧ ¬ a = b then T a b * s + T a v * T v b else T a b
theorem starR_zero (T : Nat → Nat → Int) (s : Int) (v n : Nat) : ∀ a b, a < n → b < n → T a b = starR T s v 0 0 a b := fun a b _ _ => by simp [starR]
theorem starR_step (T : Nat → Nat → Int) (s : Int) {v i j : Nat} (n : Nat) (h1 : ¬ i = v) (h2 : ¬ j = v) (h3 : ¬ i = j) : ∀ a b, a < n → b < n → (if a = i ∧ b = j then T i j * s + T i v * T v j else starR T s v i j a b) = starR T s v i (j + 1) a b := fun a b _ _ => by
  unfold starR
  by_cases e : a = i ∧ b = j
  · obtain ⟨rfl, rfl⟩ := e
    simp [h1, h2, h3]
  · rw [if_neg e]
    by_cases c : (a < i ∨ a = i ∧ b < j) ∧ ¬ a = v ∧ ¬ b = v ∧ ¬ a = b
    · rw [if_pos c, if_pos ⟨by omega, c.2⟩]
    · rw [if_neg c, if_neg (fun c' => c ⟨by omega, c'.2⟩)]
theorem starR_skip (T : Nat → Nat → Int) (s : Int) {v i j : Nat} (n : Nat) (h : i = v ∨ j = v ∨ i = j) : ∀ a b, a < n → b < n → starR T s v i j a b = starR T s v i (j + 1) a b := fun a b _ _ => by
  unfold starR
  by_cases c : (a < i ∨ a = i ∧ b < j) ∧ ¬ a = v ∧ ¬ b = v ∧ ¬ a = b
  · rw [if_pos c, if_pos ⟨by omega, c.2⟩]
  · rw [if_neg c, if_neg (fun c' => c ⟨by omega, c'.2⟩)]
theorem starR_next (T : Nat → Nat → Int) (s : Int) (v i n : Nat) : ∀ a b, a < n → b < n → starR T s v i n a b = starR T s v (i + 1) 0 a b := fun a b _ hb => by
  unfold starR
  by_cases c : (a < i ∨ a = i ∧ b < n) ∧ ¬ a = v ∧ ¬ b = v ∧ ¬ a = b
  · rw [if_pos c, if_pos ⟨by omega, c.2⟩]
  · rw [if_neg c, if_neg (fun c' => c ⟨by omega, c'.2⟩)]
theorem starR_at (T : Nat → Nat → Int) (s : Int) (v i j : Nat) : starR T s v i j i j = T i j ∧ starR T s v i j i v = T i v ∧ starR T s v i j v j = T v j := by simp [starR]
theorem starR_bd {T : Nat → Nat → Int} {s : Int} (hT : ∀ a b, 0 ≤ T a b ∧ T a b ≤ 200) (hs : 0 ≤ s ∧ s ≤ 2000) (v i j a b : Nat) : 0 ≤ starR T s v i j a b ∧ starR T s v i j a b ≤ 440000 := by
  have h1 := hT a b
  have h2 := hT a v
  have h3 := hT v b
  have m1 : 0 ≤ T a b * s := Int.mul_nonneg h1.1 hs.1
  have m2 : T a b * s ≤ 200 * 2000 := Int.mul_le_mul h1.2 hs.2 hs.1 (by omega)
  have m3 : 0 ≤ T a v * T v b := Int.mul_nonneg h2.1 h3.1
  have m4 : T a v * T v b ≤ 200 * 200 := Int.mul_le_mul h2.2 h3.2 h3.1 (by omega)
  unfold starR
  split <;> omega
theorem star_tab {n v : Nat} {L : List Wr} {s : Int} (hL : Ord n L) (hv : v < n) :
    tabC (fun (i j : Nat) => starR (fun a b => wbet (flatW L) L.length (a : Int) (b : Int)) s v n 0 (upI v i) (upI v j)) (n - 1) (n - 1) = tabC (meshF L v s) (n - 1) (n - 1) := by
  refine tabC_congr (fun i j hij hj => ?_)
  have u1 := up_ne v i
  have u2 := up_ne v j
  have u3 : upI v i < n := by unfold upI; split <;> omega
  have u4 : ¬ upI v i = upI v j := by unfold upI; split <;> split <;> omega
  unfold starR meshF
  rw [if_pos ⟨.inl u3, u1, u2, u4⟩]
  simp only [wbet_wbL hL]

/-- A network's block of four cells. -/
def NetIn (w : World) (B : Nat) (n e S : Int) (v : Value) : Prop := w.cell? ⟨B, 0, none⟩ = some (.int .i64 n) ∧ w.cell? ⟨B, 1, none⟩ = some (.int .i64 e) ∧ w.cell? ⟨B, 2, none⟩ = some (.int .i64 S) ∧ w.cell? ⟨B, 3, none⟩ = some v
theorem NetIn.ge {w w' : World} {B : Nat} {n e S : Int} {v : Value} (h : NetIn w B n e S v) (hg : Ge w w') : NetIn w' B n e S v := ⟨hg.keep h.1, hg.keep h.2.1, hg.keep h.2.2.1, hg.keep h.2.2.2⟩
theorem NetIn.new (w : World) (n e S : Int) (v : Value) : NetIn (w.alloc (.cells #[.int .i64 n, .int .i64 e, .int .i64 S, v] 25)) w.heap.size n e S v :=
  ⟨cell_new rfl rfl, cell_new rfl rfl, cell_new rfl rfl, cell_new rfl rfl⟩
theorem in_res (w : World) (n e S : Int) (v : Value) : NetIn ((w.alloc (.cells #[.int .i64 n, .int .i64 e, .int .i64 S, v] 25)).alloc (.cells #[.int .i64 0, .int .i64 0, .int .i64 0, .slice none 0 0] 25)) w.heap.size n e S v ∧
    ResD ((w.alloc (.cells #[.int .i64 n, .int .i64 e, .int .i64 S, v] 25)).alloc (.cells #[.int .i64 0, .int .i64 0, .int .i64 0, .slice none 0 0] 25)) (w.heap.size + 1) := by
  refine ⟨(NetIn.new w n e S v).ge (Ge.alloc (Ge.refl _) _), ?_⟩
  have := ResD.new (w.alloc (.cells #[.int .i64 n, .int .i64 e, .int .i64 S, v] 25)) (.int .i64 0) (.int .i64 0) (.int .i64 0) (.slice none 0 0) 25
  simp at this
  exact this
/-- The table's wires behind the turn. -/
def starM (n m : Nat) (xs : List Int) (v : Nat) : List Wr := tabC (fun (i j : Nat) => starR (fun a b => wbet xs m (a : Int) (b : Int)) (wat xs v m) v n 0 (upI v i) (upI v j)) (n - 1) (n - 1)

set_option maxHeartbeats 6400000 in
theorem iStarMesh0 (n v e : Nat) (S : Int) (s : Value) (m : Nat) (xs : List Int) (w : World) (hs : SlF w s m 3 xs) (hB : netB n e S m xs = true) (hv0 : e ≤ v) (hv : v < n) (hpos : 0 < wat xs v m) :
    Calls Try.prog 62 #[.agg #[.int .i64 (n : Int), .int .i64 (e : Int), .int .i64 S, s], .int .i64 (v : Int)] w
      (GivesO w (netB ((n - 1 : Nat) : Int) e ((S * wat xs v m).tdiv (gcdF (S * wat xs v m) (starM n m xs v))) (starM n m xs v).length (flatW (cutW (gcdF (S * wat xs v m) (starM n m xs v)) (starM n m xs v))))
        ((n - 1 : Nat) : Int) e ((S * wat xs v m).tdiv (gcdF (S * wat xs v m) (starM n m xs v))) (cutW (gcdF (S * wat xs v m) (starM n m xs v)) (starM n m xs v))) := by
  obtain ⟨⟨h1, h5⟩, ⟨e1, e2⟩, ⟨s1, s2⟩, hok, _⟩ := netP_of hB
  have hm : m ≤ 10 := prs_len (by omega) hok
  have hwb := wat_bd (v : Int) hok
  have HV := Lib.hid hs
  have HK := Lib.hid hok
  have hTb : ∀ a b : Nat, 0 ≤ wbet xs m (a : Int) (b : Int) ∧ wbet xs m (a : Int) (b : Int) ≤ 200 := fun a b => wbet_bd hok _ _
  obtain ⟨p, cap, rfl, _⟩ := hs.open
  have HNo := Lib.hid (fun w' (g : Ge w w') => iNetOk n e S (.slice p m cap) m xs w' (HV.out.ge g) (by omega))
  rw [hB] at HNo
  have HTa := Lib.hid (fun w' (g : Ge w w') => iTable n e S (.slice p m cap) m xs w' (HV.out.ge g) hm (by omega) (by omega) HK.out)
  have HWa := Lib.hid (fun w' (g : Ge w w') => iWeightAt n e S (.slice p m cap) m xs (v : Int) w' (HV.out.ge g) hm HK.out)
  have HMe : Hid (∀ (Z : Int → Int → Int), (∀ i j : Nat, Z i j = starR (fun a b => wbet xs m (a : Int) (b : Int)) (wat xs v m) v n 0 (upI v i) (upI v j)) → tabC (fun i j => Z i j) (n - 1) (n - 1) = starM n m xs v) := fun Z hZ => tabC_congr (fun i j _ _ => hZ i j)
  obtain ⟨T, hT⟩ : ∃ T : Nat → Nat → Int, (fun (a b : Nat) => wbet xs m (a : Int) (b : Int)) = T := ⟨_, rfl⟩
  have hTb' : ∀ a b : Nat, 0 ≤ T a b ∧ T a b ≤ 200 := fun a b => by rw [← hT]; exact hTb a b
  rw [hT] at HTa HMe
  generalize starM n m xs v = MM at *
  generalize wat xs (v : Int) m = W at *
  have hW : 0 ≤ W ∧ W ≤ 2000 := by omega
  have HBd := Lib.hid (starR_bd hTb' hW v)
  have HTb := Lib.hid hTb'
  clear hTb hTb' hT hs hok hB hwb
  obtain ⟨NB0, R0⟩ := in_res w n e S (.slice p m cap)
  go_enter Try.func62, Try.ntmps62
  go_wp2_with (first
    | ((go_at_call 20; ((with_reducible refine (HNo.out _ (by (repeat (first | with_reducible exact Ge.refl _ | assumption | with_reducible refine Ge.drew ?_ | with_reducible refine Ge.drewN ?_ _ | with_reducible refine Ge.alloc ?_ _ | (with_reducible refine Ge.setCell ?_ (by first | (simp; done) | omega | (simp; omega)) _) | with_reducible refine Ge.trans ?_ (by assumption))))).mono ?_); rintro r w1 ⟨rfl, g1⟩)); have NB1 := NB0.ge g1; have R1 := R0.ge g1; have gw1 : Ge w w1 := (by (repeat (first | with_reducible exact Ge.refl _ | assumption | with_reducible refine Ge.drew ?_ | with_reducible refine Ge.drewN ?_ _ | with_reducible refine Ge.alloc ?_ _ | (with_reducible refine Ge.setCell ?_ (by first | (simp; done) | omega | (simp; omega)) _) | with_reducible refine Ge.trans ?_ (by assumption)))); have z1 := g1.size; (simp at z1); obtain ⟨b0, b1, b2, b3⟩ := NB1)
    | ((go_at_call 53; ((with_reducible refine (HTa.out _ gw1).mono ?_); rintro r w2 ⟨G, f, cs, rfl, hO, g2⟩)); have b0 := Ge.keep g2 b0; have b1 := Ge.keep g2 b1; have b2 := Ge.keep g2 b2; have b3 := Ge.keep g2 b3; have z2 := g2.size; have R2 := R1.ge g2; have gw2 := Ge.trans gw1 g2)
    | ((go_at_call 54; ((with_reducible refine (HWa.out _ gw2).mono ?_); rintro r w3 ⟨rfl, g3⟩)); have z3 := g3.size; have hO3 := hO.ge g3; have b0 := Ge.keep g3 b0; have b1 := Ge.keep g3 b1; have b2 := Ge.keep g3 b2; have b3 := Ge.keep g3 b3; have R3 := R2.ge g3; have gw3 := Ge.trans gw2 g3))
  have HO0 : Hid (∃ f cs, OMat w3 w1.heap.size G n f cs n (starR T W v 0 0)) := ⟨f, cs, hO3.congr (starR_zero T W v n)⟩
  have NB3 := Lib.hid (⟨b0, b1, b2, b3⟩ : NetIn w3 w.heap.size n e S (.slice p m cap))
  have RR3 := Lib.hid R3
  clear b0 b1 b2 b3 hO hO3 R1 R2 R3 R0 NB0
  go_loopw [33] (fun i' wr => ∃ i : Nat, i ≤ n ∧ i' = .int .i64 i ∧ (∃ f cs, OMat wr w1.heap.size G n f cs n (starR T W v i 0)) ∧ NetIn wr w.heap.size n e S (.slice p m cap) ∧ ResD wr (w.heap.size + 1) ∧ Ge w wr) (fun i _ => n - (intOf i).toNat)
  case atStart => exact ⟨0, Nat.zero_le _, rfl, HO0.out, NB3.out, RR3.out, gw3⟩
  case round =>
    clear HO0 NB3 RR3
    obtain ⟨i, hi, rfl, ⟨f, cs, HO⟩, HN, HR, hg⟩ := hrel
    have HOi := Lib.hid HO
    have HNi := Lib.hid HN
    have HRi := Lib.hid HR
    clear HO HN HR
    by_cases hlt : i < n
    · go_wp2_with fail
      go_loopw [38] (fun j' wr => ∃ j : Nat, j ≤ n ∧ j' = .int .i64 j ∧ (∃ f cs, OMat wr w1.heap.size G n f cs n (starR T W v i j)) ∧ NetIn wr w.heap.size n e S (.slice p m cap) ∧ ResD wr (w.heap.size + 1) ∧ Ge w wr) (fun i _ => n - (intOf i).toNat)
      case atStart => exact ⟨0, Nat.zero_le _, rfl, ⟨f, cs, HOi.out⟩, HNi.out, HRi.out, hg⟩
      case round =>
        clear HOi HNi HRi
        obtain ⟨j, hj, rfl, ⟨f, cs, HO⟩, HN, HR, hg⟩ := hrel
        have HOi := Lib.hid HO
        have HNi := Lib.hid HN
        have HRi := Lib.hid HR
        clear HO HN HR
        by_cases hjn : j < n
        · by_cases d1 : i = v
          · have HSk := Lib.hid (HOi.out.congr (starR_skip T W n (v := v) (i := i) (j := j) (.inl d1)))
            clear HOi
            have t1 : ((i : Int) != (v : Int)) = false := by simp [d1]
            go_wp2_with fail
            go_roundw
            case rel => exact ⟨j + 1, by omega, by go_num, ⟨f, cs, HSk.out⟩, HNi.out, HRi.out, hg⟩
            case measure => simp [intOf]; omega
          · have t1 : ((i : Int) != (v : Int)) = true := by simp; omega
            by_cases d2 : j = v
            · have HSk := Lib.hid (HOi.out.congr (starR_skip T W n (v := v) (i := i) (j := j) (.inr (.inl d2))))
              clear HOi
              have t2 : ((j : Int) != (v : Int)) = false := by simp [d2]
              go_wp2_with fail
              go_roundw
              case rel => exact ⟨j + 1, by omega, by go_num, ⟨f, cs, HSk.out⟩, HNi.out, HRi.out, hg⟩
              case measure => simp [intOf]; omega
            · have t2 : ((j : Int) != (v : Int)) = true := by simp; omega
              by_cases d3 : i = j
              · have HSk := Lib.hid (HOi.out.congr (starR_skip T W n (v := v) (i := i) (j := j) (.inr (.inr d3))))
                clear HOi
                have t3 : ((i : Int) != (j : Int)) = false := by simp [d3]
                go_wp2_with fail
                go_roundw
                case rel => exact ⟨j + 1, by omega, by go_num, ⟨f, cs, HSk.out⟩, HNi.out, HRi.out, hg⟩
                case measure => simp [intOf]; omega
              · have t3 : ((i : Int) != (j : Int)) = true := by simp; omega
                obtain ⟨q1, q2, q3⟩ := starR_at T W v i j
                have x0 := HOi.out.row hlt hlt
                have x1 := HOi.out.row hv hv
                have y0 := HOi.out.entry hlt hjn
                have y1 := HOi.out.entry hlt hv
                have y2 := HOi.out.entry hv hjn
                have yf := HOi.out.froz hlt j
                rw [q1] at y0
                rw [q2] at y1
                rw [q3] at y2
                have hl := HOi.out.lt
                have hE := (HOi.out.ge (Ge.drew (Ge.refl wr))).setE hlt hjn (T i j * W + T i v * T v j)
                have HE := Lib.hid (hE.1.congr (starR_step T W n d1 d2 d3))
                have zfi := (hl.2.2 i hlt).1
                have HNe : Hid (NetIn (wr.drew.setCell ⟨f i, j, none⟩ (.int .i64 (T i j * W + T i v * T v j))) w.heap.size n e S (.slice p m cap)) := by
                  obtain ⟨b0, b1, b2, b3⟩ := HNi.out.ge (Ge.drew (Ge.refl wr))
                  have k : ∀ x : Nat, (⟨f i, j, none⟩ : Addr) ≠ ⟨w.heap.size, x, none⟩ := fun x ee => by have := congrArg Addr.block ee; simp at this; omega
                  exact ⟨cell_set2 (k 0) b0, cell_set2 (k 1) b1, cell_set2 (k 2) b2, cell_set2 (k 3) b3⟩
                have HRe : Hid (ResD (wr.drew.setCell ⟨f i, j, none⟩ (.int .i64 (T i j * W + T i v * T v j))) (w.heap.size + 1)) := fun x hx => by
                  obtain ⟨u, r1, r2⟩ := HRi.out.ge (Ge.drew (Ge.refl wr)) x hx
                  exact ⟨u, cell_set2 (fun ee => by have := congrArg Addr.block ee; simp at this; omega) r1, froz_set r2⟩
                have hgE := Ge.setCell (Ge.drew hg) (p := ⟨f i, j, none⟩) (by show w.heap.size ≤ f i; omega) (.int .i64 (T i j * W + T i v * T v j))
                have hb0 := HTb.out i j
                have hb1 := HTb.out i v
                have hb2 := HTb.out v j
                have m1 : 0 ≤ T i j * W := Int.mul_nonneg hb0.1 hW.1
                have m2 : T i j * W ≤ 200 * 2000 := Int.mul_le_mul hb0.2 hW.2 hW.1 (by omega)
                have m3 : 0 ≤ T i v * T v j := Int.mul_nonneg hb1.1 hb2.1
                have m4 : T i v * T v j ≤ 200 * 200 := Int.mul_le_mul hb1.2 hb2.2 hb2.1 (by omega)
                have k1 : IntKind.i64.wrap (T i j * W) = T i j * W := IntWalk.i64_in _ (by omega)
                have k2 : IntKind.i64.wrap (T i v * T v j) = T i v * T v j := IntWalk.i64_in _ (by omega)
                have k3 : IntKind.i64.wrap (T i j * W + T i v * T v j) = T i j * W + T i v * T v j := IntWalk.i64_in _ (by omega)
                clear hE hl HOi HNi HRi q1 q2 q3
                generalize T i j = X at *
                generalize T i v = Y at *
                generalize T v j = Z at *
                go_wp2_with fail
                refine wp_region_head (S := fun w' => w'.cell? ⟨G, i, none⟩ = some (.slice (some ⟨f i, 0, none⟩) n n) ∧ w'.cell? ⟨G, v, none⟩ = some (.slice (some ⟨f v, 0, none⟩) n n) ∧ w'.cell? ⟨f i, j, none⟩ = some (.int .i64 X) ∧ w'.cell? ⟨f i, v, none⟩ = some (.int .i64 Y) ∧ w'.cell? ⟨f v, j, none⟩ = some (.int .i64 Z)) 31 (by kernel_rfl) (by kernel_rfl) (⟨cell_drew x0, cell_drew x1, cell_drew y0, cell_drew y1, cell_drew y2⟩) (fun hHeld => ?_)
                refine head_take 0 (v := ?_) rfl (by kernel_rfl) (by kernel_rfl) (fun _ _ _ h => h) (by assumption) (yields_if (by rfl) ?_) ?_
                rotate_left
                focus (intro w' hSw; (try dsimp only at hSw); go_simp; (try with_reducible rfl))
                (try simp only [Act.put, List.setIfInBounds_toArray, List.set_cons_zero, List.set_cons_succ])
                refine head_take 1 (v := ?_) rfl (by kernel_rfl) (by kernel_rfl) (fun _ _ _ h => h) (by assumption) (yields_if (by rfl) ?_) ?_
                rotate_left
                focus (intro w' hSw; (try dsimp only at hSw); go_simp; (try with_reducible rfl))
                (try simp only [Act.put, List.setIfInBounds_toArray, List.set_cons_zero, List.set_cons_succ])
                refine head_take 2 (v := ?_) rfl (by kernel_rfl) (by kernel_rfl) (fun _ _ _ h => h) (by assumption) (yields_if (by rfl) ?_) ?_
                rotate_left
                focus (intro w' hSw; (try dsimp only at hSw); go_simp; (try with_reducible rfl))
                (try simp only [Act.put, List.setIfInBounds_toArray, List.set_cons_zero, List.set_cons_succ])
                refine head_take 3 (v := ?_) rfl (by kernel_rfl) (by kernel_rfl) (fun _ _ _ h => h) (by assumption) (yields_if (by rfl) ?_) ?_
                rotate_left
                focus (intro w' hSw; (try dsimp only at hSw); go_simp; (try with_reducible rfl))
                (try simp only [Act.put, List.setIfInBounds_toArray, List.set_cons_zero, List.set_cons_succ])
                refine head_take 4 (v := ?_) rfl (by kernel_rfl) (by kernel_rfl) (fun _ _ _ h => h) (by assumption) (yields_if (by rfl) ?_) ?_
                rotate_left
                focus (intro w' hSw; (try dsimp only at hSw); go_simp; (try with_reducible rfl))
                (try simp only [Act.put, List.setIfInBounds_toArray, List.set_cons_zero, List.set_cons_succ])
                refine head_take 5 (v := ?_) rfl (by kernel_rfl) (by kernel_rfl) (fun _ _ _ h => h) (by assumption) (yields_if (by rfl) ?_) ?_
                rotate_left
                focus (intro w' hSw; (try dsimp only at hSw); go_simp; (try with_reducible rfl))
                (try simp only [Act.put, List.setIfInBounds_toArray, List.set_cons_zero, List.set_cons_succ])
                refine head_take 6 (v := ?_) rfl (by kernel_rfl) (by kernel_rfl) (fun _ _ _ h => h) (by assumption) (yields_if (by rfl) ?_) ?_
                rotate_left
                focus (intro w' hSw; (try dsimp only at hSw); go_simp; (try with_reducible rfl))
                (try simp only [Act.put, List.setIfInBounds_toArray, List.set_cons_zero, List.set_cons_succ])
                refine head_take 7 (v := ?_) rfl (by kernel_rfl) (by kernel_rfl) (fun _ _ _ h => h) (by assumption) (yields_if (by rfl) ?_) ?_
                rotate_left
                focus (intro w' hSw; (try dsimp only at hSw); go_simp; (try with_reducible rfl))
                (try simp only [Act.put, List.setIfInBounds_toArray, List.set_cons_zero, List.set_cons_succ])
                refine head_take 8 (v := ?_) rfl (by kernel_rfl) (by kernel_rfl) (fun _ _ _ h => h) (by assumption) (yields_if (by rfl) ?_) ?_
                rotate_left
                focus (intro w' hSw; (try dsimp only at hSw); go_simp; (try with_reducible rfl))
                (try simp only [Act.put, List.setIfInBounds_toArray, List.set_cons_zero, List.set_cons_succ])
                refine head_take 9 (v := ?_) rfl (by kernel_rfl) (by kernel_rfl) (fun _ _ _ h => h) (by assumption) (yields_if (by rfl) ?_) ?_
                rotate_left
                focus (intro w' hSw; (try dsimp only at hSw); go_simp; (try with_reducible rfl))
                (try simp only [Act.put, List.setIfInBounds_toArray, List.set_cons_zero, List.set_cons_succ])
                refine head_take 10 (v := ?_) rfl (by kernel_rfl) (by kernel_rfl) (fun _ _ _ h => h) (by assumption) (yields_if (by rfl) ?_) ?_
                rotate_left
                focus (intro w' hSw; (try dsimp only at hSw); go_simp; (try with_reducible rfl))
                (try simp only [Act.put, List.setIfInBounds_toArray, List.set_cons_zero, List.set_cons_succ])
                refine head_take 11 (v := ?_) rfl (by kernel_rfl) (by kernel_rfl) (fun _ _ _ h => h) (by assumption) (yields_if (by rfl) ?_) ?_
                rotate_left
                focus (intro w' hSw; (try dsimp only at hSw); go_simp; (try with_reducible rfl))
                (try simp only [Act.put, List.setIfInBounds_toArray, List.set_cons_zero, List.set_cons_succ])
                refine head_take 12 (v := ?_) rfl (by kernel_rfl) (by kernel_rfl) (fun _ _ _ h => h) (by assumption) (yields_if (by rfl) ?_) ?_
                rotate_left
                focus (intro w' hSw; (try dsimp only at hSw); go_simp; (try with_reducible rfl))
                (try simp only [Act.put, List.setIfInBounds_toArray, List.set_cons_zero, List.set_cons_succ])
                refine head_take 13 (v := ?_) rfl (by kernel_rfl) (by kernel_rfl) (fun _ _ _ h => h) (by assumption) (yields_if (by rfl) ?_) ?_
                rotate_left
                focus (intro w' hSw; (try dsimp only at hSw); go_simp; (try with_reducible rfl))
                (try simp only [Act.put, List.setIfInBounds_toArray, List.set_cons_zero, List.set_cons_succ])
                refine head_take 14 (v := ?_) rfl (by kernel_rfl) (by kernel_rfl) (fun _ _ _ h => h) (by assumption) (yields_if (by rfl) ?_) ?_
                rotate_left
                focus (intro w' hSw; (try dsimp only at hSw); go_simp; (try with_reducible rfl))
                (try simp only [Act.put, List.setIfInBounds_toArray, List.set_cons_zero, List.set_cons_succ])
                refine head_take 15 (v := ?_) rfl (by kernel_rfl) (by kernel_rfl) (fun _ _ _ h => h) (by assumption) (yields_if (by rfl) ?_) ?_
                rotate_left
                focus (intro w' hSw; (try dsimp only at hSw); go_simp; (try with_reducible rfl))
                (try simp only [Act.put, List.setIfInBounds_toArray, List.set_cons_zero, List.set_cons_succ])
                refine head_take 16 (v := ?_) rfl (by kernel_rfl) (by kernel_rfl) (fun _ _ _ h => h) (by assumption) (yields_if (by rfl) ?_) ?_
                rotate_left
                focus (intro w' hSw; (try dsimp only at hSw); go_simp; (try with_reducible rfl))
                (try simp only [Act.put, List.setIfInBounds_toArray, List.set_cons_zero, List.set_cons_succ])
                refine head_take 17 (v := ?_) rfl (by kernel_rfl) (by kernel_rfl) (fun _ _ _ h => h) (by assumption) (yields_if (by rfl) ?_) ?_
                rotate_left
                focus (intro w' hSw; (try dsimp only at hSw); go_simp; (try with_reducible rfl))
                (try simp only [Act.put, List.setIfInBounds_toArray, List.set_cons_zero, List.set_cons_succ])
                refine head_take 18 (v := ?_) rfl (by kernel_rfl) (by kernel_rfl) (fun _ _ _ h => h) (by assumption) (yields_if (by rfl) ?_) ?_
                rotate_left
                focus (intro w' hSw; (try dsimp only at hSw); go_simp; (try with_reducible rfl))
                (try simp only [Act.put, List.setIfInBounds_toArray, List.set_cons_zero, List.set_cons_succ])
                refine head_take 19 (v := ?_) rfl (by kernel_rfl) (by kernel_rfl) (fun _ _ _ h => h) (by assumption) (yields_if (by rfl) ?_) ?_
                rotate_left
                focus (intro w' hSw; (try dsimp only at hSw); go_simp; (try with_reducible rfl))
                (try simp only [Act.put, List.setIfInBounds_toArray, List.set_cons_zero, List.set_cons_succ])
                refine head_take 20 (v := ?_) rfl (by kernel_rfl) (by kernel_rfl) (fun _ _ _ h => h) (by assumption) (yields_if (by rfl) ?_) ?_
                rotate_left
                focus (intro w' hSw; (try dsimp only at hSw); go_simp; (try with_reducible rfl))
                (try simp only [Act.put, List.setIfInBounds_toArray, List.set_cons_zero, List.set_cons_succ])
                refine head_take 21 (v := ?_) rfl (by kernel_rfl) (by kernel_rfl) (fun _ _ _ h => h) (by assumption) (yields_if (by rfl) ?_) ?_
                rotate_left
                focus (intro w' hSw; (try dsimp only at hSw); go_simp; (try with_reducible rfl))
                (try simp only [Act.put, List.setIfInBounds_toArray, List.set_cons_zero, List.set_cons_succ])
                refine head_take 22 (v := ?_) rfl (by kernel_rfl) (by kernel_rfl) (fun _ _ _ h => h) (by assumption) (yields_if (by rfl) ?_) ?_
                rotate_left
                focus (intro w' hSw; (try dsimp only at hSw); go_simp; (try with_reducible rfl))
                (try simp only [Act.put, List.setIfInBounds_toArray, List.set_cons_zero, List.set_cons_succ])
                refine head_take 23 (v := ?_) rfl (by kernel_rfl) (by kernel_rfl) (fun _ _ _ h => h) (by assumption) (yields_if (by rfl) ?_) ?_
                rotate_left
                focus (intro w' hSw; (try dsimp only at hSw); go_simp; (try with_reducible rfl))
                (try simp only [Act.put, List.setIfInBounds_toArray, List.set_cons_zero, List.set_cons_succ])
                refine head_take 24 (v := ?_) rfl (by kernel_rfl) (by kernel_rfl) (fun _ _ _ h => h) (by assumption) (yields_if (by rfl) ?_) ?_
                rotate_left
                focus (intro w' hSw; (try dsimp only at hSw); go_simp; (try with_reducible rfl))
                (try simp only [Act.put, List.setIfInBounds_toArray, List.set_cons_zero, List.set_cons_succ])
                refine head_take 25 (v := ?_) rfl (by kernel_rfl) (by kernel_rfl) (fun _ _ _ h => h) (by assumption) (yields_if (by rfl) ?_) ?_
                rotate_left
                focus (intro w' hSw; (try dsimp only at hSw); go_simp; (try with_reducible rfl))
                (try simp only [Act.put, List.setIfInBounds_toArray, List.set_cons_zero, List.set_cons_succ])
                refine head_take 26 (v := ?_) rfl (by kernel_rfl) (by kernel_rfl) (fun _ _ _ h => h) (by assumption) (yields_if (by rfl) ?_) ?_
                rotate_left
                focus (intro w' hSw; (try dsimp only at hSw); go_simp; (try with_reducible rfl))
                (try simp only [Act.put, List.setIfInBounds_toArray, List.set_cons_zero, List.set_cons_succ])
                refine head_take 27 (v := ?_) rfl (by kernel_rfl) (by kernel_rfl) (fun _ _ _ h => h) (by assumption) (yields_if (by rfl) ?_) ?_
                rotate_left
                focus (intro w' hSw; (try dsimp only at hSw); go_simp; (try with_reducible rfl))
                (try simp only [Act.put, List.setIfInBounds_toArray, List.set_cons_zero, List.set_cons_succ])
                refine head_take 28 (v := ?_) rfl (by kernel_rfl) (by kernel_rfl) (fun _ _ _ h => h) (by assumption) (yields_if (by rfl) ?_) ?_
                rotate_left
                focus (intro w' hSw; (try dsimp only at hSw); go_simp; (try with_reducible rfl))
                (try simp only [Act.put, List.setIfInBounds_toArray, List.set_cons_zero, List.set_cons_succ])
                refine head_take 29 (v := ?_) rfl (by kernel_rfl) (by kernel_rfl) (fun _ _ _ h => h) (by assumption) (yields_if (by rfl) ?_) ?_
                rotate_left
                focus (intro w' hSw; (try dsimp only at hSw); go_simp; (try with_reducible rfl))
                (try simp only [Act.put, List.setIfInBounds_toArray, List.set_cons_zero, List.set_cons_succ])
                refine head_take 30 (v := ?_) rfl (by kernel_rfl) (by kernel_rfl) (fun _ _ _ h => h) (by assumption) (yields_if (by rfl) ?_) ?_
                rotate_left
                focus (intro w' hSw; (try dsimp only at hSw); go_simp; (try with_reducible rfl))
                (try simp only [Act.put, List.setIfInBounds_toArray, List.set_cons_zero, List.set_cons_succ])
                refine head_done (by kernel_rfl) ?_
                go_wp2_with fail
                go_roundw
                case rel => exact ⟨j + 1, by omega, by go_num, ⟨f, cs, HE.out⟩, HNe.out, HRe.out, hgE⟩
                case measure => simp [intOf]; omega
        · have hjn' : j = n := by omega
          subst hjn'
          have HOn := Lib.hid (HOi.out.congr (starR_next T W v i j))
          clear HOi
          go_wp2_with fail
          go_roundw
          case rel => exact ⟨i + 1, by omega, by go_num, ⟨f, cs, HOn.out⟩, HNi.out, HRi.out, hg⟩
          case measure => simp [intOf]; omega
    · have hin : i = n := by omega
      subst hin
      obtain ⟨f, cs, HOx⟩ := (⟨f, cs, HOi.out⟩ : ∃ f cs, OMat wr w1.heap.size G i f cs i (starR T W v i 0))
      have HMM := Lib.hid (HOx.slMM (Z := fun (a b : Int) => starR T W v i 0 a.toNat b.toNat) (fun a b _ _ => by simp))
      have HWo := Lib.hid (fun w' (g : Ge wr w') => iWithout i v (fun (a b : Int) => starR T W v i 0 a.toNat b.toNat) _ w' (HMM.out.ge g) (by omega) (by omega) hv)
      have HZ := HMe.out (fun (a b : Int) => starR T W v i 0 (upI v a.toNat) (upI v b.toNat)) (fun a b => by simp)
      have hSW1 : 0 < S * W := Int.mul_pos (by omega) hpos
      have hSW2 : S * W ≤ 1000 * 2000 := Int.mul_le_mul s2 hW.2 hW.1 (by omega)
      have HNO := Lib.hid (fun vM w' (h : SlMM w' vM (i - 1) (fun (a b : Int) => starR T W v i 0 (upI v a.toNat) (upI v b.toNat))) => iNetOf (i - 1) e (S * W) (fun (a b : Int) => starR T W v i 0 (upI v a.toNat) (upI v b.toNat)) vM w' h (by omega) hSW1 (by omega) (fun a b _ _ => by have := HBd.out i 0 (upI v (a : Int).toNat) (upI v (b : Int).toNat); omega))
      rw [HZ] at HNO
      have ew : (fun (a b : Int) => starR T W v i 0 ((upI v a.toNat : Nat) : Int).toNat ((upI v b.toNat : Nat) : Int).toNat) = (fun (a b : Int) => starR T W v i 0 (upI v a.toNat) (upI v b.toNat)) := by simp
      rw [ew] at HWo
      have k1 : IntKind.i64.wrap (S * W) = S * W := IntWalk.i64_in _ (by omega)
      obtain ⟨b0, b1, b2, b3⟩ := HNi.out
      have zl := World.block_lt_of_cell? _ _ b3
      generalize (fun (a b : Int) => starR T W v i 0 (upI v a.toNat) (upI v b.toNat)) = ZZ at *
      clear HOx HOi HMM HZ ew HMe HBd
      generalize netB ((i - 1 : Nat) : Int) e ((S * W).tdiv (gcdF (S * W) MM)) MM.length (flatW (cutW (gcdF (S * W) MM) MM)) = BB at *
      generalize (S * W).tdiv (gcdF (S * W) MM) = SS at *
      generalize cutW (gcdF (S * W) MM) MM = LL at *
      go_wp2_with fail
      refine wp_region_head (S := fun w' => w'.cell? ⟨w.heap.size, 1, none⟩ = some (.int .i64 (e : Int)) ∧ w'.cell? ⟨w.heap.size, 2, none⟩ = some (.int .i64 S)) 12 (by kernel_rfl) (by kernel_rfl) (⟨cell_drew b1, cell_drew b2⟩) (fun hHeld => ?_)
      refine head_take 0 (v := ?_) rfl (by kernel_rfl) (by kernel_rfl) (fun _ _ _ h => h) (by assumption) (yields_if (by rfl) ?_) ?_
      rotate_left
      focus (intro w' hSw; (try dsimp only at hSw); go_simp; (try with_reducible rfl))
      (try simp only [Act.put, List.setIfInBounds_toArray, List.set_cons_zero, List.set_cons_succ])
      refine head_take 1 (v := ?_) rfl (by kernel_rfl) (by kernel_rfl) (fun _ _ _ h => h) (by assumption) (yields_if (by rfl) ?_) ?_
      rotate_left
      focus (intro w' hSw; (try dsimp only at hSw); go_simp; (try with_reducible rfl))
      (try simp only [Act.put, List.setIfInBounds_toArray, List.set_cons_zero, List.set_cons_succ])
      refine head_take 2 (v := ?_) rfl (by kernel_rfl) (by kernel_rfl) (fun _ _ _ h => h) (by assumption) (yields_if (by rfl) ?_) ?_
      rotate_left
      focus (intro w' hSw; (try dsimp only at hSw); go_simp; (try with_reducible rfl))
      (try simp only [Act.put, List.setIfInBounds_toArray, List.set_cons_zero, List.set_cons_succ])
      refine head_take 3 (v := ?_) rfl (by kernel_rfl) (by kernel_rfl) (fun _ _ _ h => h) (by assumption) (yields_if (by rfl) ?_) ?_
      rotate_left
      focus (intro w' hSw; (try dsimp only at hSw); go_simp; (try with_reducible rfl))
      (try simp only [Act.put, List.setIfInBounds_toArray, List.set_cons_zero, List.set_cons_succ])
      refine head_take 4 (v := ?_) rfl (by kernel_rfl) (by kernel_rfl) (fun _ _ _ h => h) (by assumption) (yields_if (by rfl) ?_) ?_
      rotate_left
      focus (intro w' hSw; (try dsimp only at hSw); go_simp; (try with_reducible rfl))
      (try simp only [Act.put, List.setIfInBounds_toArray, List.set_cons_zero, List.set_cons_succ])
      refine head_take 5 (v := ?_) rfl (by kernel_rfl) (by kernel_rfl) (fun _ _ _ h => h) (by assumption) (yields_if (by rfl) ?_) ?_
      rotate_left
      focus (intro w' hSw; (try dsimp only at hSw); go_simp; (try with_reducible rfl))
      (try simp only [Act.put, List.setIfInBounds_toArray, List.set_cons_zero, List.set_cons_succ])
      refine head_take 6 (v := ?_) rfl (by kernel_rfl) (by kernel_rfl) (fun _ _ _ h => h) (by assumption) (yields_if (by rfl) ?_) ?_
      rotate_left
      focus (intro w' hSw; (try dsimp only at hSw); go_simp; (try with_reducible rfl))
      (try simp only [Act.put, List.setIfInBounds_toArray, List.set_cons_zero, List.set_cons_succ])
      refine head_take 7 (v := ?_) rfl (by kernel_rfl) (by kernel_rfl) (fun _ _ _ h => h) (by assumption) (yields_if (by rfl) ?_) ?_
      rotate_left
      focus (intro w' hSw; (try dsimp only at hSw); go_simp; (try with_reducible rfl))
      (try simp only [Act.put, List.setIfInBounds_toArray, List.set_cons_zero, List.set_cons_succ])
      refine head_one 8 rfl (by kernel_rfl) (fun K hK => ?_)
      go_simp
      (go_at_call 69; ((with_reducible refine (HWo.out _ (Ge.drew (Ge.refl _))).mono ?_); rintro r w5 ⟨u5, rfl, hM5, g5⟩))
      have g5' : Ge wr w5 := Ge.trans (Ge.drew (Ge.refl _)) g5
      refine hK.out _ _ ⟨g5'.keep b1, g5'.keep b2⟩ (fun hHeld => ?_)
      clear hK K
      (try simp only [Act.put, List.setIfInBounds_toArray, List.set_cons_zero, List.set_cons_succ])
      refine head_one 9 rfl (by kernel_rfl) (fun K hK => ?_)
      go_simp
      (go_at_call 68; ((with_reducible refine (HNO.out _ _ hM5).mono ?_); rintro r w6 ⟨g6, hcase⟩))
      have g6' : Ge wr w6 := Ge.trans g5' g6
      have gw6 : Ge w w6 := Ge.trans hg g6'
      have R6 := HRi.out.ge g6'
      obtain ⟨r0, p0, f0⟩ := R6 0 (by omega)
      obtain ⟨r1, p1, f1⟩ := R6 1 (by omega)
      obtain ⟨r2, p2, f2⟩ := R6 2 (by omega)
      obtain ⟨r3, p3, f3⟩ := R6 3 (by omega)
      rcases hcase with ⟨hb, u6, rfl, o6⟩ | ⟨hb, rfl⟩
      · refine hK.out _ _ ⟨g6'.keep b1, g6'.keep b2⟩ (fun hHeld => ?_)
        clear hK K
        (try simp only [Act.put, List.setIfInBounds_toArray, List.set_cons_zero, List.set_cons_succ])
        refine head_take 10 (v := ?_) rfl (by kernel_rfl) (by kernel_rfl) (fun _ _ _ h => h) (by assumption) (yields_if (by rfl) ?_) ?_
        rotate_left
        focus (intro w' hSw; (try dsimp only at hSw); go_simp; (try with_reducible rfl))
        (try simp only [Act.put, List.setIfInBounds_toArray, List.set_cons_zero, List.set_cons_succ])
        refine head_take 11 (v := ?_) rfl (by kernel_rfl) (by kernel_rfl) (fun _ _ _ h => h) (by assumption) (yields_if (by rfl) ?_) ?_
        rotate_left
        focus (intro w' hSw; (try dsimp only at hSw); go_simp; (try with_reducible rfl))
        (try simp only [Act.put, List.setIfInBounds_toArray, List.set_cons_zero, List.set_cons_succ])
        refine head_done (by kernel_rfl) ?_
        have HO6 := Lib.hid o6
        obtain ⟨p6, c6, rfl⟩ := owns_form o6
        clear o6
        have hz5 := g5'.size
        have zr1 : w.heap.size + 1 < wr.heap.size := by obtain ⟨u, r1, _⟩ := HRi.out 0 (by omega); exact World.block_lt_of_cell? _ _ r1
        go_wp2_with fail
        exact bodyPost_ret (v := .tuple #[.agg #[.int .i64 ((i - 1 : Nat) : Int), .int .i64 (e : Int), .int .i64 SS, .slice p6 LL.length c6], .bool true]) (by simp [results, Try.results62, go_sem, *]) rfl (GivesO.t hb (by refine owns_mono (base := w5.heap.size) ?_ (by omega); repeat (first | exact HO6.out | refine own_setD ?_ (by omega))) (by (repeat (first | with_reducible exact Ge.refl _ | assumption | with_reducible refine Ge.drew ?_ | with_reducible refine Ge.drewN ?_ _ | with_reducible refine Ge.alloc ?_ _ | (with_reducible refine Ge.setCell ?_ (by first | (simp; done) | omega | (simp; omega)) _) | with_reducible refine Ge.trans ?_ (by assumption)))))
      · refine hK.out _ _ ⟨g6'.keep b1, g6'.keep b2⟩ (fun hHeld => ?_)
        clear hK K
        (try simp only [Act.put, List.setIfInBounds_toArray, List.set_cons_zero, List.set_cons_succ])
        refine head_take 10 (v := ?_) rfl (by kernel_rfl) (by kernel_rfl) (fun _ _ _ h => h) (by assumption) (yields_if (by rfl) ?_) ?_
        rotate_left
        focus (intro w' hSw; (try dsimp only at hSw); go_simp; (try with_reducible rfl))
        (try simp only [Act.put, List.setIfInBounds_toArray, List.set_cons_zero, List.set_cons_succ])
        refine head_take 11 (v := ?_) rfl (by kernel_rfl) (by kernel_rfl) (fun _ _ _ h => h) (by assumption) (yields_if (by rfl) ?_) ?_
        rotate_left
        focus (intro w' hSw; (try dsimp only at hSw); go_simp; (try with_reducible rfl))
        (try simp only [Act.put, List.setIfInBounds_toArray, List.set_cons_zero, List.set_cons_succ])
        refine head_done (by kernel_rfl) ?_
        go_wp2_with fail
        exact bodyPost_ret (v := .tuple #[.agg #[.int .i64 0, .int .i64 0, .int .i64 0, .slice none 0 0], .bool false]) (by simp [results, Try.results62, go_sem, *]) rfl (GivesO.f hb (by (repeat (first | with_reducible exact Ge.refl _ | assumption | with_reducible refine Ge.drew ?_ | with_reducible refine Ge.drewN ?_ _ | with_reducible refine Ge.alloc ?_ _ | (with_reducible refine Ge.setCell ?_ (by first | (simp; done) | omega | (simp; omega)) _) | with_reducible refine Ge.trans ?_ (by assumption)))))
theorem starM_red {n v e : Nat} {S : Int} {L : List Wr} (hB : netB n e S L.length (flatW L) = true) (hv : v < n) : starM n L.length (flatW L) v = redM n L v := by
  obtain ⟨_, _, _, hok, _⟩ := netP_of hB
  exact star_tab (ord_of_good hok).1 hv
theorem iStarMesh (n v e : Nat) (S : Int) (s : Value) (L : List Wr) (w : World) (hs : SlF w s L.length 3 (flatW L)) (hB : netB n e S L.length (flatW L) = true) (hv0 : e ≤ v) (hv : v < n) (hpos : 0 < wat (flatW L) v L.length) :
    Calls Try.prog 62 #[.agg #[.int .i64 (n : Int), .int .i64 (e : Int), .int .i64 S, s], .int .i64 (v : Int)] w (GivesO w (redB n e S L v) ((n - 1 : Nat) : Int) e (redS n S L v) (redL n S L v)) := by
  have h := iStarMesh0 n v e S s L.length (flatW L) w hs hB hv0 hv hpos
  rw [starM_red hB hv] at h
  unfold redB
  unfold redS redL redG
  rw [cutW_length]
  exact h
end Go.Proofs.Ytipiiimemmkdgaa

namespace Go.Proofs.Ytipiiimemmkdgaa
set_option maxRecDepth 100000
open Go.ChangeShapes Go.WideShapes Go.ChangeAt Go.RowKit Go.Joins

theorem GivesO.tt {w w' : World} {N E S : Int} {L : List Wr} {r : Ending} (h : GivesO w true N E S L r w') : ∃ u, r = .returned (.tuple #[.agg #[.int .i64 N, .int .i64 E, .int .i64 S, u], .bool true]) ∧ w'.ownsRow w.heap.size 49 3 u L.length (icells (flatW L)) ∧ Ge w w' := by
  rcases h.2 with ⟨_, u, h1, h2⟩ | ⟨h1, _⟩
  · exact ⟨u, h1, h2, h.1⟩
  · cases h1
theorem GivesO.ff {w w' : World} {N E S : Int} {L : List Wr} {r : Ending} (h : GivesO w false N E S L r w') : r = .returned (.tuple #[.agg #[.int .i64 0, .int .i64 0, .int .i64 0, .slice none 0 0], .bool false]) ∧ Ge w w' := by
  rcases h.2 with ⟨h1, _⟩ | ⟨_, h1⟩
  · cases h1
  · exact ⟨h1, h.1⟩

set_option maxHeartbeats 3200000 in
theorem iDropNodeF (n e : Nat) (S v : Int) (s : Value) (m : Nat) (xs : List Int) (L : List Wr) (w : World) (hs : SlF w s m 3 xs) (hB : netB n e S m xs = true) (hv : v = -1) :
    Calls Try.prog 46 #[.agg #[.int .i64 (n : Int), .int .i64 (e : Int), .int .i64 S, s], .int .i64 v] w (GivesO w false ((n - 1 : Nat) : Int) e S L) := by
  obtain ⟨⟨h1, h5⟩, ⟨e1, e2⟩, ⟨s1, s2⟩, hok, _⟩ := netP_of hB
  have hm : m ≤ 10 := prs_len (by omega) hok
  have HV := Lib.hid hs
  obtain ⟨p, cap, rfl, _⟩ := hs.open
  have HNo := Lib.hid (fun w' (g : Ge w w') => iNetOk n e S (.slice p m cap) m xs w' (HV.out.ge g) (by omega))
  rw [hB] at HNo
  obtain ⟨NB0, R0⟩ := in_res w n e S (.slice p m cap)
  subst hv
  clear hs hok hB
  go_enter Try.func46, Try.ntmps46
  go_wp2_with ((go_at_call 20; ((with_reducible refine (HNo.out _ (by (repeat (first | with_reducible exact Ge.refl _ | assumption | with_reducible refine Ge.drew ?_ | with_reducible refine Ge.drewN ?_ _ | with_reducible refine Ge.alloc ?_ _ | (with_reducible refine Ge.setCell ?_ (by first | (simp; done) | omega | (simp; omega)) _) | with_reducible refine Ge.trans ?_ (by assumption))))).mono ?_); rintro r w1 ⟨rfl, g1⟩)); have NB1 := NB0.ge g1; have R1 := R0.ge g1; have gw1 : Ge w w1 := (by (repeat (first | with_reducible exact Ge.refl _ | assumption | with_reducible refine Ge.drew ?_ | with_reducible refine Ge.drewN ?_ _ | with_reducible refine Ge.alloc ?_ _ | (with_reducible refine Ge.setCell ?_ (by first | (simp; done) | omega | (simp; omega)) _) | with_reducible refine Ge.trans ?_ (by assumption)))); obtain ⟨b0, b1, b2, b3⟩ := NB1; obtain ⟨r0, p0, f0⟩ := R1 0 (by omega); obtain ⟨r1, p1, f1⟩ := R1 1 (by omega); obtain ⟨r2, p2, f2⟩ := R1 2 (by omega); obtain ⟨r3, p3, f3⟩ := R1 3 (by omega); have te : ((-1 : Int) < (e : Int)) = True := eq_true (by omega))
  exact bodyPost_ret (v := .tuple #[.agg #[.int .i64 0, .int .i64 0, .int .i64 0, .slice none 0 0], .bool false]) (by simp [results, Try.results46, go_sem, *]) rfl (GivesO.f rfl (by (repeat (first | with_reducible exact Ge.refl _ | assumption | with_reducible refine Ge.drew ?_ | with_reducible refine Ge.drewN ?_ _ | with_reducible refine Ge.alloc ?_ _ | (with_reducible refine Ge.setCell ?_ (by first | (simp; done) | omega | (simp; omega)) _) | with_reducible refine Ge.trans ?_ (by assumption)))))

set_option maxHeartbeats 3200000 in
theorem iDropNode (n v e c : Nat) (S : Int) (s : Value) (L : List Wr) (w : World) (hs : SlF w s L.length 3 (flatW L)) (hB : netB n e S L.length (flatW L) = true) (hv0 : e ≤ v) (hv : v < n) (hc : (nearX L.length (flatW L) v n).length = c) (c1 : 1 ≤ c) (c2 : c ≤ 2) :
    Calls Try.prog 46 #[.agg #[.int .i64 (n : Int), .int .i64 (e : Int), .int .i64 S, s], .int .i64 (v : Int)] w (GivesO w (redB n e S L v) ((n - 1 : Nat) : Int) e (redS n S L v) (redL n S L v)) := by
  obtain ⟨⟨h1, h5⟩, ⟨e1, e2⟩, ⟨s1, s2⟩, hok, _⟩ := netP_of hB
  have hpos := wat_pos hok hc c1
  have hm : L.length ≤ 10 := prs_len (by omega) hok
  have HV := Lib.hid hs
  have HSt := Lib.hid (fun w' (g : Ge w w') => iStarMesh n v e S s L w' (HV.out.ge g) hB hv0 hv hpos)
  have HNo := Lib.hid (fun w' (g : Ge w w') => iNetOk n e S s L.length (flatW L) w' (HV.out.ge g) (by omega))
  have HWi := Lib.hid (fun w' (g : Ge w w') => iWiresAt n e S s L.length (flatW L) v w' (HV.out.ge g) hB (by omega) (by omega))
  rw [hB] at HNo
  rw [hc] at HWi
  obtain ⟨NB0, R0⟩ := in_res w n e S s
  obtain ⟨p, cap, rfl, _⟩ := hs.open
  generalize nearX L.length (flatW L) v n = NX at *
  generalize redB n e S L v = BB at *
  generalize redS n S L v = SS at *
  generalize redL n S L v = LL at *
  generalize L.length = m at *
  clear hs hok hB hc hpos
  cases BB with
  | true =>
    have HS2 := Lib.hid (fun w' (g : Ge w w') => (HSt.out w' g).mono (fun r w2 h => GivesO.tt h))
    clear HSt
    go_enter Try.func46, Try.ntmps46
    go_wp2_with (first
      | ((go_at_call 20; ((with_reducible refine (HNo.out _ (by (repeat (first | with_reducible exact Ge.refl _ | assumption | with_reducible refine Ge.drew ?_ | with_reducible refine Ge.drewN ?_ _ | with_reducible refine Ge.alloc ?_ _ | (with_reducible refine Ge.setCell ?_ (by first | (simp; done) | omega | (simp; omega)) _) | with_reducible refine Ge.trans ?_ (by assumption))))).mono ?_); rintro r w1 ⟨rfl, g1⟩)); have NB1 := NB0.ge g1; have R1 := R0.ge g1; have gw1 : Ge w w1 := (by (repeat (first | with_reducible exact Ge.refl _ | assumption | with_reducible refine Ge.drew ?_ | with_reducible refine Ge.drewN ?_ _ | with_reducible refine Ge.alloc ?_ _ | (with_reducible refine Ge.setCell ?_ (by first | (simp; done) | omega | (simp; omega)) _) | with_reducible refine Ge.trans ?_ (by assumption)))); obtain ⟨b0, b1, b2, b3⟩ := NB1; have z1 := g1.size; (simp at z1))
      | ((go_at_call 61; ((with_reducible refine (HWi.out _ gw1).mono ?_); rintro r w2 ⟨v2, rfl, o2, g2⟩)); obtain ⟨p2, cc2, rfl⟩ := owns_form o2; have b0 := g2.keep b0; have b1 := g2.keep b1; have b2 := g2.keep b2; have b3 := g2.keep b3; have R2 := R1.ge g2; have gw2 := Ge.trans gw1 g2; have z2 := g2.size)
      | ((go_at_call 62; ((with_reducible refine (HS2.out _ gw2).mono ?_); rintro r w3 ⟨u3, rfl, o3, g3⟩)); have HO3 := Lib.hid o3; obtain ⟨px, cx, rfl⟩ := owns_form o3; clear o3; have R3 := R2.ge g3; have gw3 := Ge.trans gw2 g3; obtain ⟨r0, p0, f0⟩ := R3 0 (by omega); obtain ⟨r1, p1, f1⟩ := R3 1 (by omega); obtain ⟨r2, p2, f2⟩ := R3 2 (by omega); obtain ⟨r3, p3, f3⟩ := R3 3 (by omega)))
    exact bodyPost_ret (v := .tuple #[.agg #[.int .i64 ((n - 1 : Nat) : Int), .int .i64 (e : Int), .int .i64 SS, .slice px LL.length cx], .bool true]) (by simp [results, Try.results46, go_sem, *]) rfl (GivesO.t rfl (by refine owns_mono (base := w2.heap.size) ?_ (by omega); repeat (first | exact HO3.out | refine own_setD ?_ (by omega))) (by (repeat (first | with_reducible exact Ge.refl _ | assumption | with_reducible refine Ge.drew ?_ | with_reducible refine Ge.drewN ?_ _ | with_reducible refine Ge.alloc ?_ _ | (with_reducible refine Ge.setCell ?_ (by first | (simp; done) | omega | (simp; omega)) _) | with_reducible refine Ge.trans ?_ (by assumption)))))
  | false =>
    have HS2 := Lib.hid (fun w' (g : Ge w w') => (HSt.out w' g).mono (fun r w2 h => GivesO.ff h))
    clear HSt
    go_enter Try.func46, Try.ntmps46
    go_wp2_with (first
      | ((go_at_call 20; ((with_reducible refine (HNo.out _ (by (repeat (first | with_reducible exact Ge.refl _ | assumption | with_reducible refine Ge.drew ?_ | with_reducible refine Ge.drewN ?_ _ | with_reducible refine Ge.alloc ?_ _ | (with_reducible refine Ge.setCell ?_ (by first | (simp; done) | omega | (simp; omega)) _) | with_reducible refine Ge.trans ?_ (by assumption))))).mono ?_); rintro r w1 ⟨rfl, g1⟩)); have NB1 := NB0.ge g1; have R1 := R0.ge g1; have gw1 : Ge w w1 := (by (repeat (first | with_reducible exact Ge.refl _ | assumption | with_reducible refine Ge.drew ?_ | with_reducible refine Ge.drewN ?_ _ | with_reducible refine Ge.alloc ?_ _ | (with_reducible refine Ge.setCell ?_ (by first | (simp; done) | omega | (simp; omega)) _) | with_reducible refine Ge.trans ?_ (by assumption)))); obtain ⟨b0, b1, b2, b3⟩ := NB1)
      | ((go_at_call 61; ((with_reducible refine (HWi.out _ gw1).mono ?_); rintro r w2 ⟨v2, rfl, o2, g2⟩)); obtain ⟨p2, cc2, rfl⟩ := owns_form o2; have b0 := g2.keep b0; have b1 := g2.keep b1; have b2 := g2.keep b2; have b3 := g2.keep b3; have R2 := R1.ge g2; have gw2 := Ge.trans gw1 g2)
      | ((go_at_call 62; ((with_reducible refine (HS2.out _ gw2).mono ?_); rintro r w3 ⟨rfl, g3⟩)); have R3 := R2.ge g3; have gw3 := Ge.trans gw2 g3; obtain ⟨r0, p0, f0⟩ := R3 0 (by omega); obtain ⟨r1, p1, f1⟩ := R3 1 (by omega); obtain ⟨r2, p2, f2⟩ := R3 2 (by omega); obtain ⟨r3, p3, f3⟩ := R3 3 (by omega)))
    exact bodyPost_ret (v := .tuple #[.agg #[.int .i64 0, .int .i64 0, .int .i64 0, .slice none 0 0], .bool false]) (by simp [results, Try.results46, go_sem, *]) rfl (GivesO.f rfl (by (repeat (first | with_reducible exact Ge.refl _ | assumption | with_reducible refine Ge.drew ?_ | with_reducible refine Ge.drewN ?_ _ | with_reducible refine Ge.alloc ?_ _ | (with_reducible refine Ge.setCell ?_ (by first | (simp; done) | omega | (simp; omega)) _) | with_reducible refine Ge.trans ?_ (by assumption)))))
end Go.Proofs.Ytipiiimemmkdgaa

namespace Go.Proofs.Ytipiiimemmkdgaa
set_option maxRecDepth 100000
open Go.ChangeShapes Go.WideShapes Go.ChangeAt Go.RowKit Go.Joins

theorem wrI (x : Int) (h1 : -9223372036854775808 ≤ x) (h2 : x ≤ 9223372036854775807) : wrap64 x = x := by
  unfold wrap64
  omega
end Go.Proofs.Ytipiiimemmkdgaa

namespace Go.Proofs.Ytipiiimemmkdgaa
set_option maxRecDepth 100000
open Go.ChangeShapes Go.WideShapes Go.ChangeAt Go.RowKit Go.Joins

theorem ResD.setO {w : World} {R B i : Nat} {x : Value} (h : ResD w R) (hne : B ≠ R) : ResD (w.setCell ⟨B, i, none⟩ x) R := fun j hj => by
  obtain ⟨u, h1, h2⟩ := h j hj
  exact ⟨u, cell_set2 (fun e => by have := congrArg Addr.block e; simp at this; omega) h1, froz_set h2⟩
theorem box_froz (w : World) (n e S : Int) (v : Value) : ((w.alloc (.cells #[.int .i64 n, .int .i64 e, .int .i64 S, v] 25)).alloc (.cells #[.int .i64 0, .int .i64 0, .int .i64 0, .slice none 0 0] 25)).frozen? ⟨w.heap.size, 3, none⟩ = false :=
  Ge.keepF (Ge.alloc (Ge.refl _) _) (cell_new rfl rfl) (froz_new (v := v) rfl rfl)

end Go.Proofs.Ytipiiimemmkdgaa

namespace Go.Proofs.Ytipiiimemmkdgaa

theorem sameS_take_le {a b : Int} : ∀ {l : List Wr} {k : Nat}, (∀ e ∈ l, 0 < e.w) → sameS a b (l.take k) ≤ sameS a b l
  | [], k, _ => by simp
  | e :: l, 0, h => by
    have h1 := sameS_take_le (a := a) (b := b) (l := l) (k := 0) (fun x hx => h x (List.mem_cons_of_mem _ hx))
    have h2 := h e (by simp)
    simp only [List.take_zero, sameS] at *
    split <;> omega
  | e :: l, k + 1, h => by
    have h1 := sameS_take_le (a := a) (b := b) (l := l) (k := k) (fun x hx => h x (List.mem_cons_of_mem _ hx))
    simp only [List.take_succ_cons, sameS]
    split <;> omega
theorem sameS_le {n : Nat} {l : List Wr} {B : Int} (h : Ord n l) (hB : 0 ≤ B) (hb : ∀ e ∈ l, e.w ≤ B) (a b : Int) : sameS a b l ≤ B := by
  by_cases c : ∃ e ∈ l, e.a = a ∧ e.b = b
  · obtain ⟨e, he, rfl, rfl⟩ := c
    rw [sameS_mem h.1 he]
    exact hb e he
  · rw [sameS_none (fun e he hh => c ⟨e, he, hh⟩)]
    exact hB
theorem wires_le {n : Nat} {l : List Wr} {B : Int} (h : Ord n l) (hb : ∀ i j : Nat, i < j → sameS i j l ≤ B) : ∀ e ∈ l, e.w ≤ B := fun e he => by
  obtain ⟨h1, h2, h3, h4⟩ := h.2 e he
  have := hb e.a.toNat e.b.toNat (by omega)
  rw [show ((e.a.toNat : Nat) : Int) = e.a by omega, show ((e.b.toNat : Nat) : Int) = e.b by omega, sameS_mem h.1 he] at this
  exact this
theorem addS_bd {n : Nat} {l : List Wr} {B x A C : Int} (h : Ord n l) (hB : 0 ≤ B ∧ B ≤ 1000000000) (hb : ∀ i j : Nat, i < j → sameS i j l ≤ B) (hx : 0 ≤ x ∧ x ≤ 1000000000) : ∀ k, k ≤ l.length → -9000000000000000000 ≤ addS true A C x (l.take k) ∧ addS true A C x (l.take k) ≤ 9000000000000000000 := fun k _ => by
  have h1 := sameS_le h hB.1 (wires_le h hb) A C
  have h2 := sameS_take_le (a := A) (b := C) (k := k) (fun e he => (h.2 e he).2.2.2)
  have h3 := sameS_nn (l := l.take k) (fun e he => h.2 e (List.mem_of_mem_take he)) A C
  unfold addS
  rw [if_pos rfl]
  omega
/-- What stands while wires are put. -/
def Put (n : Nat) (l : List Wr) : Prop := Ord (n - 1) l ∧ ∀ i j : Nat, i < j → sameS i j l ≤ 1000000
theorem first_bd {n v : Nat} {s : Int} {L : List Wr} (hL : Ord n L) (hw : ∀ e ∈ L, e.w ≤ 200) (hv : v < n) (hs : 0 < s) (hs2 : s ≤ 2000) {k : Nat} (hk : k ≤ L.length) : Put n (firstP v s L k) ∧ ∀ i j : Nat, i < j → sameS i j (firstP v s L k) ≤ 400000 := by
  obtain ⟨h1, h2⟩ := first_ok hL.2 hv hs k hk
  have key : ∀ i j : Nat, i < j → sameS i j (firstP v s L k) ≤ 400000 := fun i j hij => by
    rw [h2 i j hij]
    have g1 := sameS_le hL (B := 200) (by omega) hw (upI v i : Nat) (upI v j : Nat)
    have g2 := sameS_take_le (a := (upI v i : Nat)) (b := (upI v j : Nat)) (k := k) (fun e he => (hL.2 e he).2.2.2)
    have g3 := sameS_nn (l := L.take k) (fun e he => hL.2 e (List.mem_of_mem_take he)) (upI v i : Nat) (upI v j : Nat)
    exact Int.le_trans (Int.mul_le_mul (Int.le_trans g2 g1) hs2 (by omega) (by omega)) (by decide)
  exact ⟨⟨h1, fun i j hij => Int.le_trans (key i j hij) (by omega)⟩, key⟩
theorem wbL_le {n : Nat} {L : List Wr} (hL : Ord n L) (hw : ∀ e ∈ L, e.w ≤ 200) (a b : Nat) : wbL L a b ≤ 200 := by
  unfold wbL
  split
  · omega
  · exact sameS_le hL (by omega) hw _ _
theorem near_ok {n v : Nat} {L : List Wr} : (∀ x ∈ nearL n L v, x < n ∧ x ≠ v ∧ 0 < wbL L v x) := fun x hx => by
  obtain ⟨h1, h2⟩ := mem_nearL.1 hx
  refine ⟨h1, fun e => ?_, h2⟩
  subst e
  unfold wbL at h2
  rw [if_pos rfl] at h2
  omega
theorem out_bd {n v : Nat} {s : Int} {L : List Wr} (hL : Ord n L) (hw : ∀ e ∈ L, e.w ≤ 200) (hv : v < n) (hs : 0 < s) (hs2 : s ≤ 2000) {t : Nat} (ht : t ≤ (nearL n L v).length) :
    Put n (outP v (wbL L v) (firstP v s L L.length) (nearL n L v) t) ∧ ∀ i j : Nat, i < j → sameS i j (outP v (wbL L v) (firstP v s L L.length) (nearL n L v) t) ≤ 440000 := by
  obtain ⟨⟨h1, _⟩, h2⟩ := first_bd hL hw hv hs hs2 (Nat.le_refl L.length)
  obtain ⟨h3, h4⟩ := out_ok (f := wbL L v) h1 hv near_ok (nearL_sorted n L v) t ht
  have key : ∀ i j : Nat, i < j → sameS i j (outP v (wbL L v) (firstP v s L L.length) (nearL n L v) t) ≤ 440000 := fun i j hij => by
    rw [h4 i j hij]
    have g1 := h2 i j hij
    have g2 := Int.mul_le_mul (wbL_le hL hw v (upI v i)) (wbL_le hL hw v (upI v j)) (wbL_nn hL _ _) (by omega)
    split <;> omega
  exact ⟨⟨h3, fun i j hij => Int.le_trans (key i j hij) (by omega)⟩, key⟩
theorem drop_near {n v : Nat} {L : List Wr} {t : Nat} (ht : t < (nearL n L v).length) : (nAt (nearL n L v) t < n ∧ nAt (nearL n L v) t ≠ v) ∧ 0 < wbL L v (nAt (nearL n L v) t) ∧ (∀ x ∈ (nearL n L v).drop (t + 1), nAt (nearL n L v) t < x ∧ x < n ∧ x ≠ v ∧ 0 < wbL L v x) ∧ ((nearL n L v).drop (t + 1)).Pairwise (· < ·) := by
  have hm : nAt (nearL n L v) t ∈ nearL n L v := by rw [nAt_eq _ t ht]; exact List.getElem_mem _
  obtain ⟨q1, q2, q3⟩ := near_ok _ hm
  refine ⟨⟨q1, q2⟩, q3, fun x hx => ?_, List.Pairwise.sublist (List.drop_sublist _ _) (nearL_sorted n L v)⟩
  obtain ⟨p1, p2, p3⟩ := near_ok x (List.mem_of_mem_drop hx)
  refine ⟨?_, p1, p2, p3⟩
  obtain ⟨u, hu, he⟩ := List.getElem_of_mem hx
  rw [List.length_drop] at hu
  rw [List.getElem_drop] at he
  have := (List.pairwise_iff_getElem.1 (nearL_sorted n L v)) t (t + 1 + u) (by omega) (by omega) (by omega)
  rw [nAt_eq _ t (by omega)]
  omega
theorem inn_bd {n v : Nat} {s : Int} {L : List Wr} (hL : Ord n L) (hw : ∀ e ∈ L, e.w ≤ 200) (hv : v < n) (hs : 0 < s) (hs2 : s ≤ 2000) {t : Nat} (ht : t < (nearL n L v).length) {k : Nat} (hk : k ≤ ((nearL n L v).drop (t + 1)).length) :
    Put n (innP v (wbL L v) (outP v (wbL L v) (firstP v s L L.length) (nearL n L v) t) (nAt (nearL n L v) t) ((nearL n L v).drop (t + 1)) k) := by
  obtain ⟨⟨h1, _⟩, h2⟩ := out_bd hL hw hv hs hs2 (t := t) (by omega)
  obtain ⟨d1, d2, d3, d4⟩ := drop_near ht
  obtain ⟨h3, h4⟩ := inn_ok h1 d1 d2 hv d3 d4 k hk
  refine ⟨h3, fun i j hij => ?_⟩
  rw [h4 i j hij]
  have g1 := h2 i j hij
  have g2 := Int.mul_le_mul (wbL_le hL hw v (nAt (nearL n L v) t)) (wbL_le hL hw v (upI v j)) (wbL_nn hL _ _) (by omega)
  split <;> omega
theorem firstP_len (v : Nat) (s : Int) (L : List Wr) : ∀ k, (firstP v s L k).length ≤ k
  | 0 => by simp [firstP]
  | k + 1 => by
    have h := firstP_len v s L k
    simp only [firstP]
    split
    · omega
    · have := (putW_len (firstP v s L k) (outI v (nthW L k).a) (outI v (nthW L k).b) ((nthW L k).w * s) true).1
      omega
theorem innP_len (v : Nat) (f : Nat → Int) (acc : List Wr) (a : Nat) (r : List Nat) : ∀ k, (innP v f acc a r k).length ≤ acc.length + k
  | 0 => by simp [innP]
  | k + 1 => by
    have h := innP_len v f acc a r k
    simp only [innP]
    have := (putW_len (innP v f acc a r k) (outI v (a : Int)) (outI v (nAt r k : Int)) (f a * f (nAt r k)) true).1
    omega
theorem outP_len (v : Nat) (f : Nat → Int) (base : List Wr) (near : List Nat) : ∀ t, (outP v f base near t).length ≤ base.length + t * near.length
  | 0 => by simp [outP]
  | t + 1 => by
    have h := outP_len v f base near t
    have h2 := innP_len v f (outP v f base near t) (nAt near t) (near.drop (t + 1)) (near.drop (t + 1)).length
    simp only [outP]
    rw [List.length_drop] at *
    rw [Nat.succ_mul]
    omega
theorem redM_bd {n v : Nat} {L : List Wr} (hL : Ord n L) (hw : ∀ e ∈ L, e.w ≤ 200) (hv : v < n) (hs : 0 < wat (flatW L) v L.length) (hs2 : wat (flatW L) v L.length ≤ 2000) : ∀ e ∈ redM n L v, 0 < e.w ∧ e.w ≤ 1000000000 := fun e he => by
  have h := out_bd hL hw hv hs hs2 (Nat.le_refl (nearL n L v).length)
  rw [mesh_tab hL hv hs] at h
  exact ⟨(h.1.1.2 e he).2.2.2, Int.le_trans (wires_le h.1.1 h.2 e he) (by omega)⟩
end Go.Proofs.Ytipiiimemmkdgaa

namespace Go.Proofs.Ytipiiimemmkdgaa
set_option maxRecDepth 100000
open Go.ChangeShapes Go.WideShapes Go.ChangeAt Go.RowKit Go.Joins

/-- What the walk knows of the wires that are put: P behind k wires, I behind j wires of neighbor t, Q before neighbor t. -/
structure Msh (n v m c : Nat) (W : Int) (L : List Wr) (P Q : Nat → List Wr) (I : Nat → Nat → List Wr) (d : Nat → Nat) (B : Nat → Int) (M : List Wr) : Prop where
  p0 : P 0 = []
  ps : ∀ k, k < m → ((nthW L k).a = v ∨ (nthW L k).b = v) → P (k + 1) = P k
  pn : ∀ k, k < m → ¬ ((nthW L k).a = v ∨ (nthW L k).b = v) → P (k + 1) = putW (P k) (outI v (nthW L k).a) (outI v (nthW L k).b) ((nthW L k).w * W) true
  pb : ∀ k, k ≤ m → Put n (P k) ∧ (P k).length ≤ 1000
  eb : ∀ k, k < m → (0 ≤ (nthW L k).a ∧ (nthW L k).a < n) ∧ (0 ≤ (nthW L k).b ∧ (nthW L k).b < n) ∧ (0 < (nthW L k).w ∧ (nthW L k).w ≤ 200)
  q0 : Q 0 = P m
  i0 : ∀ t, I t 0 = Q t
  is : ∀ t j, t < c → j < c - (t + 1) → I t (j + 1) = putW (I t j) (outI v (d t)) (outI v (d (t + 1 + j))) (B (d t) * B (d (t + 1 + j))) true
  il : ∀ t, t < c → I t (c - (t + 1)) = Q (t + 1)
  ib : ∀ t j, t < c → j ≤ c - (t + 1) → Put n (I t j) ∧ (I t j).length ≤ 1000
  db : ∀ t, t < c → d t < n
  bb : ∀ x, 0 ≤ B x ∧ B x ≤ 200
  qc : Q c = M
theorem mshOf {n v : Nat} {L : List Wr} (hL : Ord n L) (hw : ∀ e ∈ L, e.w ≤ 200) (hl : L.length ≤ 10) (hn : n ≤ 5) (hv : v < n) (hs : 0 < wat (flatW L) v L.length) (hs2 : wat (flatW L) v L.length ≤ 2000) :
    ∃ P Q I, Msh n v L.length (nearL n L v).length (wat (flatW L) v L.length) L P Q I (nAt (nearL n L v)) (wbL L v) (redM n L v) := by
  have hc : (nearL n L v).length ≤ 5 := by
    have := List.length_filter_le (fun x => decide (0 < wbL L v x)) (List.range n)
    unfold nearL
    simp at this
    omega
  refine ⟨firstP v (wat (flatW L) v L.length) L, outP v (wbL L v) (firstP v (wat (flatW L) v L.length) L L.length) (nearL n L v), fun t j => innP v (wbL L v) (outP v (wbL L v) (firstP v (wat (flatW L) v L.length) L L.length) (nearL n L v) t) (nAt (nearL n L v) t) ((nearL n L v).drop (t + 1)) j, rfl, ?_, ?_, ?_, ?_, rfl, fun _ => rfl, ?_, ?_, ?_, ?_, ?_, mesh_tab hL hv hs⟩
  · intro k _ h
    simp only [firstP, if_pos h]
  · intro k _ h
    simp only [firstP, if_neg h]
  · intro k hk
    exact ⟨(first_bd hL hw hv hs hs2 hk).1, by have := firstP_len v (wat (flatW L) v L.length) L k; omega⟩
  · intro k hk
    have hm : nthW L k ∈ L := by rw [nthW_eq L k hk]; exact List.getElem_mem _
    obtain ⟨a1, a2, a3, a4⟩ := hL.2 _ hm
    have := hw _ hm
    omega
  · intro t j ht hj
    have hn : nAt ((nearL n L v).drop (t + 1)) j = nAt (nearL n L v) (t + 1 + j) := by
      rw [nAt_eq _ j (by rw [List.length_drop]; exact hj), nAt_eq _ (t + 1 + j) (by omega), List.getElem_drop]
    simp only [innP, hn]
  · intro t ht
    simp only [outP, List.length_drop]
  · intro t j ht hj
    refine ⟨inn_bd hL hw hv hs hs2 ht (by rw [List.length_drop]; exact hj), ?_⟩
    have h1 := innP_len v (wbL L v) (outP v (wbL L v) (firstP v (wat (flatW L) v L.length) L L.length) (nearL n L v) t) (nAt (nearL n L v) t) ((nearL n L v).drop (t + 1)) j
    have h2 := outP_len v (wbL L v) (firstP v (wat (flatW L) v L.length) L L.length) (nearL n L v) t
    have h3 := firstP_len v (wat (flatW L) v L.length) L L.length
    have h4 : t * (nearL n L v).length ≤ 5 * 5 := Nat.mul_le_mul (by omega) hc
    show (innP _ _ _ _ _ j).length ≤ 1000
    omega
  · intro t ht
    exact (drop_near ht).1.1
  · intro x
    exact ⟨wbL_nn hL _ _, wbL_le hL hw _ _⟩

theorem cut_nums {t c : Nat} (h : t < c) (hc : c ≤ 2) : t + 1 ≤ c ∧ wrap64 ((t : Int) + 1) = (t : Int) + 1 ∧ ((t : Int) + 1) ≤ (c : Int) ∧ ((c - (t + 1) : Nat) : Int) = (c : Int) - ((t : Int) + 1) ∧ ((t : Int) + 1).toNat = t + 1 :=
  ⟨h, wrI _ (by omega) (by omega), by omega, by omega, by omega⟩

end Go.Proofs.Ytipiiimemmkdgaa
