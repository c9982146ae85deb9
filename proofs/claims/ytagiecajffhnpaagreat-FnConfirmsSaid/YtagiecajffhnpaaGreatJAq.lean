/- JoinNodes of impl, for all arguments, at a valid network. No condition. In a valid network every node has a wire: plain law. No program in sight. What a function gives that makes a network, or none. No condition. l05Index of the reference. No condition. l06Reduced, l07Mesh, DropNode of the reference. No condition. Plain law: bounds of the wires that are put. No program in sight. l07Mesh of the reference. No condition. DropNode of the reference. No condition. -/
import Derived.Test.YtagiecajffhnpaaGreatJAg
import Derived.Test.YtagiecajffhnpaaGreatPlWeight
import Derived.Test.YtagiecajffhnpaaGreatJAc
import Derived.Test.YtagiecajffhnpaaGreatJAa
import Derived.Test.YtagiecajffhnpaaGreatJAf
import Derived.Test.YtagiecajffhnpaaGreatWIn
namespace Go.Proofs.YtagiecajffhnpaaGreat
set_option maxRecDepth 100000
open Go.ChangeShapes Go.WideShapes Go.ChangeAt Go.RowKit Go.Joins

/-- The table behind k rounds. -/
def joinR (T : Nat → Nat → Int) (a b k i j : Nat) : Int := if i = a ∧ j < k ∧ ¬ j = a ∧ ¬ j = b then T a j + T b j else if j = a ∧ i < k ∧ ¬ i = a ∧ ¬ i = b then T a i + T b i else T i j
theorem joinR_zero (T : Nat → Nat → Int) (a b n : Nat) : ∀ i j, i < n → j < n → T i j = joinR T a b 0 i j := fun i j _ _ => by unfold joinR; rw [if_neg (by omega), if_neg (by omega)]
theorem joinR_skip (T : Nat → Nat → Int) (a b n : Nat) {k : Nat} (h : k = a ∨ k = b) : ∀ i j, i < n → j < n → joinR T a b k i j = joinR T a b (k + 1) i j := fun i j _ _ => by
  unfold joinR
  by_cases c1 : i = a ∧ j < k ∧ ¬ j = a ∧ ¬ j = b
  · rw [if_pos c1, if_pos (by omega)]
  · rw [if_neg c1, if_neg (show ¬ (i = a ∧ j < k + 1 ∧ ¬ j = a ∧ ¬ j = b) by omega)]
    by_cases c2 : j = a ∧ i < k ∧ ¬ i = a ∧ ¬ i = b
    · rw [if_pos c2, if_pos (by omega)]
    · rw [if_neg c2, if_neg (by omega)]
theorem joinR_at (T : Nat → Nat → Int) {a b k : Nat} (_ : ¬ k = a) (_ : ¬ k = b) (_ : ¬ a = b) : joinR T a b k a k = T a k ∧ joinR T a b k b k = T b k := by
  unfold joinR
  exact ⟨by rw [if_neg (by omega), if_neg (by omega)], by rw [if_neg (by omega), if_neg (by omega)]⟩
theorem joinR_step (T : Nat → Nat → Int) {a b k : Nat} (n : Nat) (h1 : ¬ k = a) (h2 : ¬ k = b) (hab : ¬ a = b) : ∀ i j, i < n → j < n → (if i = k ∧ j = a then T a k + T b k else if i = a ∧ j = k then T a k + T b k else joinR T a b k i j) = joinR T a b (k + 1) i j := fun i j _ _ => by
  by_cases c1 : i = k ∧ j = a
  · obtain ⟨rfl, rfl⟩ := c1
    rw [if_pos ⟨rfl, rfl⟩]
    unfold joinR
    rw [if_neg (by omega), if_pos (by omega)]
  · rw [if_neg c1]
    by_cases c2 : i = a ∧ j = k
    · obtain ⟨rfl, rfl⟩ := c2
      rw [if_pos ⟨rfl, rfl⟩]
      unfold joinR
      rw [if_pos (by omega)]
    · rw [if_neg c2]
      unfold joinR
      by_cases c3 : i = a ∧ j < k ∧ ¬ j = a ∧ ¬ j = b
      · rw [if_pos c3, if_pos (by omega)]
      · rw [if_neg c3, if_neg (show ¬ (i = a ∧ j < k + 1 ∧ ¬ j = a ∧ ¬ j = b) by omega)]
        by_cases c4 : j = a ∧ i < k ∧ ¬ i = a ∧ ¬ i = b
        · rw [if_pos c4, if_pos (by omega)]
        · rw [if_neg c4, if_neg (by omega)]
theorem joinR_bd {T : Nat → Nat → Int} (hT : ∀ a b, 0 ≤ T a b ∧ T a b ≤ 200) (a b k i j : Nat) : 0 ≤ joinR T a b k i j ∧ joinR T a b k i j ≤ 400 := by
  unfold joinR
  have h1 := hT a j; have h2 := hT b j; have h3 := hT a i; have h4 := hT b i; have h5 := hT i j
  split
  · omega
  · split <;> omega
def jnG (n : Nat) (a b : Int) : Prop := 0 ≤ a ∧ a < b ∧ b < n
instance (n : Nat) (a b : Int) : Decidable (jnG n a b) := by unfold jnG; infer_instance
def jnM (n m : Nat) (xs : List Int) (a b : Nat) : List Wr := tabC (fun (i j : Nat) => joinR (fun a b => wbet xs m (a : Int) (b : Int)) a b n (upI b i) (upI b j)) (n - 1) (n - 1)
def jnE (e b : Nat) : Nat := if b < e then e - 1 else e
noncomputable def jnB (n e : Nat) (S : Int) (m : Nat) (xs : List Int) (a b : Int) : Bool := decide (jnG n a b) && netB ((n - 1 : Nat) : Int) (jnE e b.toNat) S (jnM n m xs a.toNat b.toNat).length (flatW (jnM n m xs a.toNat b.toNat))
theorem jnB_f {n e : Nat} {S : Int} {m : Nat} {xs : List Int} {a b : Int} (h : ¬ jnG n a b) : jnB n e S m xs a b = false := by simp [jnB, h]
theorem jnB_t {n e : Nat} {S : Int} {m : Nat} {xs : List Int} {a b : Nat} (h : jnG n a b) : jnB n e S m xs a b = netB ((n - 1 : Nat) : Int) (jnE e b) S (jnM n m xs a b).length (flatW (jnM n m xs a b)) := by simp [jnB, h]

set_option maxHeartbeats 6400000 in
theorem iJoinNodes (n e : Nat) (S a b : Int) (s : Value) (m : Nat) (xs : List Int) (w : World) (hs : SlF w s m 3 xs) (hB : netB n e S m xs = true) :
    Calls Tryz.prog 35 #[.agg #[.int .i64 (n : Int), .int .i64 (e : Int), .int .i64 S, s], .int .i64 a, .int .i64 b] w (GivesO w (jnB n e S m xs a b) ((n - 1 : Nat) : Int) (jnE e b.toNat) S (jnM n m xs a.toNat b.toNat)) := by
  obtain ⟨⟨h1, h5⟩, ⟨e1, e2⟩, ⟨s1, s2⟩, hok, _⟩ := netP_of hB
  have hm : m ≤ 10 := prs_len (by omega) hok
  have HV := Lib.hid hs
  have HK := Lib.hid hok
  have hTb : ∀ a b : Nat, 0 ≤ wbet xs m (a : Int) (b : Int) ∧ wbet xs m (a : Int) (b : Int) ≤ 200 := fun a b => wbet_bd hok _ _
  obtain ⟨p, cap, rfl, _⟩ := hs.open
  have HNo := Lib.hid (fun w' (g : Ge w w') => iNetOk n e S (.slice p m cap) m xs w' (HV.out.ge g) (by omega))
  rw [hB] at HNo
  have HTa := Lib.hid (fun w' (g : Ge w w') => iTable n e S (.slice p m cap) m xs w' (HV.out.ge g) hm (by omega) (by omega) HK.out)
  clear hs hok hB
  obtain ⟨NB0, R0⟩ := in_res w n e S (.slice p m cap)
  have zR : w.heap.size + 1 < ((w.alloc (.cells #[.int .i64 n, .int .i64 e, .int .i64 S, .slice p m cap] 33)).alloc (.cells #[.int .i64 0, .int .i64 0, .int .i64 0, .slice none 0 0] 33)).heap.size := by simp
  by_cases hG : jnG n a b
  · obtain ⟨ha, hab, hb⟩ := id hG
    obtain ⟨a, rfl⟩ := Int.eq_ofNat_of_zero_le ha
    obtain ⟨b, rfl⟩ := Int.eq_ofNat_of_zero_le (show 0 ≤ b by omega)
    rw [jnB_t hG]
    simp only [Int.toNat_natCast]
    have hi : a < n := by omega
    have hj : b < n := by omega
    have hne : ¬ a = b := by omega
    have t1 : decide ((a : Int) < 0) = false := by simp
    have t2 : decide ((b : Int) ≤ (a : Int)) = false := by simp; omega
    have t3 : decide ((n : Int) ≤ (b : Int)) = false := by simp; omega
    have t4 : decide (b ≤ a) = false := by simp; omega
    have t5 : decide (n ≤ b) = false := by simp; omega
    obtain ⟨T, hT⟩ : ∃ T : Nat → Nat → Int, (fun (a b : Nat) => wbet xs m (a : Int) (b : Int)) = T := ⟨_, rfl⟩
    have hTb' : ∀ a b : Nat, 0 ≤ T a b ∧ T a b ≤ 200 := fun a b => by rw [← hT]; exact hTb a b
    have HMe : Hid (∀ (Z : Int → Int → Int), (∀ i j : Nat, Z i j = joinR T a b n (upI b i) (upI b j)) → tabC (fun i j => Z i j) (n - 1) (n - 1) = jnM n m xs a b) := fun Z hZ => by unfold jnM; rw [hT]; exact tabC_congr (fun i j _ _ => hZ i j)
    rw [hT] at HTa
    have HBd := Lib.hid (joinR_bd hTb' a b n)
    have HTb := Lib.hid hTb'
    generalize jnM n m xs a b = MM at *
    clear hTb hTb' hT ha hab hb
    go_enter Tryz.func35, Tryz.ntmps35
    go_wp2_with (first | ((go_at_call 43; ((with_reducible refine (HNo.out _ (kge)).mono ?_); rintro r w1 ⟨rfl, g1⟩)); have NB1 := NB0.ge g1; have R1 := R0.ge g1; have gw1 : Ge w w1 := (kge); obtain ⟨b0, b1, b2, b3⟩ := NB1; obtain ⟨r0, p0, f0⟩ := R1 0 (by omega); obtain ⟨r1, p1, f1⟩ := R1 1 (by omega); obtain ⟨r2, p2, f2⟩ := R1 2 (by omega); obtain ⟨r3, p3, f3⟩ := R1 3 (by omega); have z1 := Nat.lt_of_lt_of_le zR g1.size) | ((go_at_call 70; ((with_reducible refine (HTa.out _ gw1).mono ?_); rintro r w3 ⟨G, f, cs, rfl, hO, g3⟩)); have HO := Lib.hid hO; have NB3 := Lib.hid (NetIn.ge (w := w1) (B := w.heap.size) (n := n) (e := e) (S := S) (v := .slice p m cap) ⟨b0, b1, b2, b3⟩ g3); have R3 := Lib.hid (R1.ge g3); have gw3 := Ge.trans gw1 g3; clear hO))
    have HO0 : Hid (∃ f cs, OMat w3 w1.heap.size G n f cs n (joinR T a b 0)) := ⟨f, cs, HO.out.congr (joinR_zero T a b n)⟩
    clear b0 b1 b2 b3 R1 R0 NB0 HO r0 p0 f0 r1 p1 f1 r2 p2 f2 r3 p3 f3
    go_loopw [34] (fun i' wr => ∃ i : Nat, i ≤ n ∧ i' = .int .i64 i ∧ Hid (∃ f cs, OMat wr w1.heap.size G n f cs n (joinR T a b i)) ∧ Hid (NetIn wr w.heap.size n e S (.slice p m cap)) ∧ Hid (ResD wr (w.heap.size + 1)) ∧ Ge w wr) (fun i _ => n - (intOf i).toNat)
    case atStart => exact ⟨0, Nat.zero_le _, rfl, HO0.out, NB3.out, R3.out, gw3⟩
    case round =>
      clear HO0 NB3 R3
      obtain ⟨i, hi', rfl, HOx, HNi, HRi, hg⟩ := hrel
      obtain ⟨f, cs, HO⟩ := HOx
      have HOi := Lib.hid HO
      clear HO
      by_cases hlt : i < n
      · by_cases d1 : i = a
        · have HSk := Lib.hid (HOi.out.congr (joinR_skip T a b n (k := i) (.inl d1)))
          clear HOi
          have u1 : ((i : Int) != (a : Int)) = false := by simp [d1]
          go_wp2_with fail
          go_roundw
          case rel => exact ⟨i + 1, by omega, by go_num, ⟨f, cs, HSk.out⟩, HNi.out, HRi.out, hg⟩
          case measure => simp [intOf]; omega
        · have u1 : ((i : Int) != (a : Int)) = true := by simp; omega
          by_cases d2 : i = b
          · have HSk := Lib.hid (HOi.out.congr (joinR_skip T a b n (k := i) (.inr d2)))
            clear HOi
            have u2 : ((i : Int) != (b : Int)) = false := by simp [d2]
            go_wp2_with fail
            go_roundw
            case rel => exact ⟨i + 1, by omega, by go_num, ⟨f, cs, HSk.out⟩, HNi.out, HRi.out, hg⟩
            case measure => simp [intOf]; omega
          · have u2 : ((i : Int) != (b : Int)) = true := by simp; omega
            obtain ⟨q1, q2⟩ := joinR_at T d1 d2 hne
            have x0 := HOi.out.row hi hi
            have x1 := HOi.out.row hj hj
            have x2 := HOi.out.row hlt hlt
            have y0 := HOi.out.entry hi hlt
            have y1 := HOi.out.entry hj hlt
            have y2 := HOi.out.entry hlt hi
            have yf := HOi.out.froz hi i
            have yg := HOi.out.froz hlt a
            rw [q1] at y0
            rw [q2] at y1
            have hl := HOi.out.lt
            have hE := (HOi.out.ge (Ge.drew (Ge.refl wr))).setE hi hlt (T a i + T b i)
            have hE2 := (hE.1.ge (Ge.drew (Ge.refl _))).setE hlt hi (T a i + T b i)
            have HE := Lib.hid (hE2.1.congr (joinR_step T n d1 d2 hne))
            have HE1 := Lib.hid hE.1
            have fa := hl.2.2 a hi
            have fi := hl.2.2 i hlt
            have fne := (HOi.out.2 a hi).2.2.2 i hlt d1
            have ka : ∀ x : Nat, (⟨f a, i, none⟩ : Addr) ≠ ⟨w.heap.size, x, none⟩ := fun x ee => by have := congrArg Addr.block ee; simp at this; omega
            have ki : ∀ x : Nat, (⟨f i, a, none⟩ : Addr) ≠ ⟨w.heap.size, x, none⟩ := fun x ee => by have := congrArg Addr.block ee; simp at this; omega
            have ka1 : ∀ x : Nat, (⟨f a, i, none⟩ : Addr) ≠ ⟨w.heap.size + 1, x, none⟩ := fun x ee => by have := congrArg Addr.block ee; simp at this; omega
            have ki1 : ∀ x : Nat, (⟨f i, a, none⟩ : Addr) ≠ ⟨w.heap.size + 1, x, none⟩ := fun x ee => by have := congrArg Addr.block ee; simp at this; omega
            have HNe : Hid (NetIn ((wr.drew.setCell ⟨f a, i, none⟩ (.int .i64 (T a i + T b i))).drew.setCell ⟨f i, a, none⟩ (.int .i64 (T a i + T b i))) w.heap.size n e S (.slice p m cap)) := by
              obtain ⟨b0, b1, b2, b3⟩ := HNi.out.ge (Ge.drew (Ge.refl wr))
              exact ⟨cell_set2 (ki 0) (cell_drew (cell_set2 (ka 0) b0)), cell_set2 (ki 1) (cell_drew (cell_set2 (ka 1) b1)), cell_set2 (ki 2) (cell_drew (cell_set2 (ka 2) b2)), cell_set2 (ki 3) (cell_drew (cell_set2 (ka 3) b3))⟩
            have HRe : Hid (ResD ((wr.drew.setCell ⟨f a, i, none⟩ (.int .i64 (T a i + T b i))).drew.setCell ⟨f i, a, none⟩ (.int .i64 (T a i + T b i))) (w.heap.size + 1)) := fun x hx => by
              obtain ⟨u, r1, r2⟩ := HRi.out.ge (Ge.drew (Ge.refl wr)) x hx
              exact ⟨u, cell_set2 (ki1 x) (cell_drew (cell_set2 (ka1 x) r1)), froz_set (froz_drew (froz_set r2))⟩
            have hgE := Ge.setCell (Ge.drew (Ge.setCell (Ge.drew hg) (p := ⟨f a, i, none⟩) (by show w.heap.size ≤ f a; omega) (.int .i64 (T a i + T b i)))) (p := ⟨f i, a, none⟩) (by show w.heap.size ≤ f i; omega) (.int .i64 (T a i + T b i))
            have hb0 := HTb.out a i
            have hb1 := HTb.out b i
            have tk : IntKind.i64.wrap (T a i + T b i) = T a i + T b i := IntWalk.i64_in _ (by omega)
            clear hE hE2 hl HOi HNi HRi q1 q2 ka ki ka1 ki1
            generalize hX : T a i = X at *
            generalize hY : T b i = Y at *
            go_upto_region 8 with fail
            refine wp_region_head (S := fun w' => w'.cell? ⟨G, a, none⟩ = some (.slice (some ⟨f a, 0, none⟩) n n) ∧ w'.cell? ⟨G, b, none⟩ = some (.slice (some ⟨f b, 0, none⟩) n n) ∧ w'.cell? ⟨f a, i, none⟩ = some (.int .i64 X) ∧ w'.cell? ⟨f b, i, none⟩ = some (.int .i64 Y)) 16 (by kernel_rfl) (by kernel_rfl) (⟨cell_drew x0, cell_drew x1, cell_drew y0, cell_drew y1⟩) (fun hHeld => ?_)
            refine head_takeR 0 (v := ?_) rfl ?_ ?_; rotate_left; (focus (intro w' hSw; (try dsimp only at hSw); go_simp; (try with_reducible rfl))); (try simp only [Act.put, hnA, hnB, hnC])
            refine head_takeR 1 (v := ?_) rfl ?_ ?_; rotate_left; (focus (intro w' hSw; (try dsimp only at hSw); go_simp; (try with_reducible rfl))); (try simp only [Act.put, hnA, hnB, hnC])
            refine head_takeR 2 (v := ?_) rfl ?_ ?_; rotate_left; (focus (intro w' hSw; (try dsimp only at hSw); go_simp; (try with_reducible rfl))); (try simp only [Act.put, hnA, hnB, hnC])
            refine head_takeR 3 (v := ?_) rfl ?_ ?_; rotate_left; (focus (intro w' hSw; (try dsimp only at hSw); go_simp; (try with_reducible rfl))); (try simp only [Act.put, hnA, hnB, hnC])
            refine head_takeR 4 (v := ?_) rfl ?_ ?_; rotate_left; (focus (intro w' hSw; (try dsimp only at hSw); go_simp; (try with_reducible rfl))); (try simp only [Act.put, hnA, hnB, hnC])
            refine head_takeR 5 (v := ?_) rfl ?_ ?_; rotate_left; (focus (intro w' hSw; (try dsimp only at hSw); go_simp; (try with_reducible rfl))); (try simp only [Act.put, hnA, hnB, hnC])
            refine head_takeR 6 (v := ?_) rfl ?_ ?_; rotate_left; (focus (intro w' hSw; (try dsimp only at hSw); go_simp; (try with_reducible rfl))); (try simp only [Act.put, hnA, hnB, hnC])
            refine head_takeR 7 (v := ?_) rfl ?_ ?_; rotate_left; (focus (intro w' hSw; (try dsimp only at hSw); go_simp; (try with_reducible rfl))); (try simp only [Act.put, hnA, hnB, hnC])
            refine head_takeR 8 (v := ?_) rfl ?_ ?_; rotate_left; (focus (intro w' hSw; (try dsimp only at hSw); go_simp; (try with_reducible rfl))); (try simp only [Act.put, hnA, hnB, hnC])
            refine head_takeR 9 (v := ?_) rfl ?_ ?_; rotate_left; (focus (intro w' hSw; (try dsimp only at hSw); go_simp; (try with_reducible rfl))); (try simp only [Act.put, hnA, hnB, hnC])
            refine head_takeR 10 (v := ?_) rfl ?_ ?_; rotate_left; (focus (intro w' hSw; (try dsimp only at hSw); go_simp; (try with_reducible rfl))); (try simp only [Act.put, hnA, hnB, hnC])
            refine head_takeR 11 (v := ?_) rfl ?_ ?_; rotate_left; (focus (intro w' hSw; (try dsimp only at hSw); go_simp; (try with_reducible rfl))); (try simp only [Act.put, hnA, hnB, hnC])
            refine head_takeR 12 (v := ?_) rfl ?_ ?_; rotate_left; (focus (intro w' hSw; (try dsimp only at hSw); go_simp; (try with_reducible rfl))); (try simp only [Act.put, hnA, hnB, hnC])
            refine head_takeR 13 (v := ?_) rfl ?_ ?_; rotate_left; (focus (intro w' hSw; (try dsimp only at hSw); go_simp; (try with_reducible rfl))); (try simp only [Act.put, hnA, hnB, hnC])
            refine head_takeR 14 (v := ?_) rfl ?_ ?_; rotate_left; (focus (intro w' hSw; (try dsimp only at hSw); go_simp; (try with_reducible rfl))); (try simp only [Act.put, hnA, hnB, hnC])
            refine head_takeR 15 (v := ?_) rfl ?_ ?_; rotate_left; (focus (intro w' hSw; (try dsimp only at hSw); go_simp; (try with_reducible rfl))); (try simp only [Act.put, hnA, hnB, hnC])
            refine head_done (by kernel_rfl) ?_
            go_upto_region 9 with fail
            have v0 : (wr.drew.setCell ⟨f a, i, none⟩ (.int .i64 (X + Y))).drew.cell? ⟨G, i, none⟩ = some (.slice (some ⟨f i, 0, none⟩) n n) := cell_drew (cell_set2 (fun ee => by have := congrArg Addr.block ee; simp at this; omega) (cell_drew x2))
            have v1 : (wr.drew.setCell ⟨f a, i, none⟩ (.int .i64 (X + Y))).drew.cell? ⟨G, a, none⟩ = some (.slice (some ⟨f a, 0, none⟩) n n) := cell_drew (cell_set2 (fun ee => by have := congrArg Addr.block ee; simp at this; omega) (cell_drew x0))
            have v2 : (wr.drew.setCell ⟨f a, i, none⟩ (.int .i64 (X + Y))).drew.cell? ⟨f a, i, none⟩ = some (.int .i64 (X + Y)) := cell_drew (World.cell?_setCell_same _ _ _ (cell_drew y0))
            have v3 := HE1.out.entry hlt hi
            have v4 := HE1.out.froz hlt a
            refine wp_region_head (S := fun w' => w'.cell? ⟨G, i, none⟩ = some (.slice (some ⟨f i, 0, none⟩) n n) ∧ w'.cell? ⟨G, a, none⟩ = some (.slice (some ⟨f a, 0, none⟩) n n) ∧ w'.cell? ⟨f a, i, none⟩ = some (.int .i64 (X + Y))) 13 (by kernel_rfl) (by kernel_rfl) (⟨v0, v1, v2⟩) (fun hHeld => ?_)
            refine head_takeR 0 (v := ?_) rfl ?_ ?_; rotate_left; (focus (intro w' hSw; (try dsimp only at hSw); go_simp; (try with_reducible rfl))); (try simp only [Act.put, hnA, hnB, hnC])
            refine head_takeR 1 (v := ?_) rfl ?_ ?_; rotate_left; (focus (intro w' hSw; (try dsimp only at hSw); go_simp; (try with_reducible rfl))); (try simp only [Act.put, hnA, hnB, hnC])
            refine head_takeR 2 (v := ?_) rfl ?_ ?_; rotate_left; (focus (intro w' hSw; (try dsimp only at hSw); go_simp; (try with_reducible rfl))); (try simp only [Act.put, hnA, hnB, hnC])
            refine head_takeR 3 (v := ?_) rfl ?_ ?_; rotate_left; (focus (intro w' hSw; (try dsimp only at hSw); go_simp; (try with_reducible rfl))); (try simp only [Act.put, hnA, hnB, hnC])
            refine head_takeR 4 (v := ?_) rfl ?_ ?_; rotate_left; (focus (intro w' hSw; (try dsimp only at hSw); go_simp; (try with_reducible rfl))); (try simp only [Act.put, hnA, hnB, hnC])
            refine head_takeR 5 (v := ?_) rfl ?_ ?_; rotate_left; (focus (intro w' hSw; (try dsimp only at hSw); go_simp; (try with_reducible rfl))); (try simp only [Act.put, hnA, hnB, hnC])
            refine head_takeR 6 (v := ?_) rfl ?_ ?_; rotate_left; (focus (intro w' hSw; (try dsimp only at hSw); go_simp; (try with_reducible rfl))); (try simp only [Act.put, hnA, hnB, hnC])
            refine head_takeR 7 (v := ?_) rfl ?_ ?_; rotate_left; (focus (intro w' hSw; (try dsimp only at hSw); go_simp; (try with_reducible rfl))); (try simp only [Act.put, hnA, hnB, hnC])
            refine head_takeR 8 (v := ?_) rfl ?_ ?_; rotate_left; (focus (intro w' hSw; (try dsimp only at hSw); go_simp; (try with_reducible rfl))); (try simp only [Act.put, hnA, hnB, hnC])
            refine head_takeR 9 (v := ?_) rfl ?_ ?_; rotate_left; (focus (intro w' hSw; (try dsimp only at hSw); go_simp; (try with_reducible rfl))); (try simp only [Act.put, hnA, hnB, hnC])
            refine head_takeR 10 (v := ?_) rfl ?_ ?_; rotate_left; (focus (intro w' hSw; (try dsimp only at hSw); go_simp; (try with_reducible rfl))); (try simp only [Act.put, hnA, hnB, hnC])
            refine head_takeR 11 (v := ?_) rfl ?_ ?_; rotate_left; (focus (intro w' hSw; (try dsimp only at hSw); go_simp; (try with_reducible rfl))); (try simp only [Act.put, hnA, hnB, hnC])
            refine head_takeR 12 (v := ?_) rfl ?_ ?_; rotate_left; (focus (intro w' hSw; (try dsimp only at hSw); go_simp; (try with_reducible rfl))); (try simp only [Act.put, hnA, hnB, hnC])
            refine head_done (by kernel_rfl) ?_
            go_wp2_with fail
            go_roundw
            case rel => exact ⟨i + 1, by omega, by go_num, ⟨f, cs, HE.out⟩, HNe.out, HRe.out, hgE⟩
            case measure => simp [intOf]; omega
      · have hin : i = n := by omega
        subst hin
        obtain ⟨f, cs, HOx⟩ := (⟨f, cs, HOi.out⟩ : ∃ f cs, OMat wr w1.heap.size G i f cs i (joinR T a b i))
        have HMM := Lib.hid (HOx.slMM (Z := fun (x y : Int) => joinR T a b i x.toNat y.toNat) (fun x y _ _ => by simp))
        have HWo := Lib.hid (fun w' (g : Ge wr w') => iWithout i b (fun (x y : Int) => joinR T a b i x.toNat y.toNat) _ w' (HMM.out.ge g) (by omega) (by omega) hj)
        have HZ := HMe.out (fun (x y : Int) => joinR T a b i (upI b x.toNat) (upI b y.toNat)) (fun x y => by simp)
        have ew : (fun (x y : Int) => joinR T a b i ((upI b x.toNat : Nat) : Int).toNat ((upI b y.toNat : Nat) : Int).toNat) = (fun (x y : Int) => joinR T a b i (upI b x.toNat) (upI b y.toNat)) := by simp
        rw [ew] at HWo
        have HNO := Lib.hid (fun (E : Nat) vM w' (h : SlMM w' vM (i - 1) (fun (x y : Int) => joinR T a b i (upI b x.toNat) (upI b y.toNat))) => iNetOfU (i - 1) E S (fun (x y : Int) => joinR T a b i (upI b x.toNat) (upI b y.toNat)) vM w' h (by omega) (by omega) (by omega) (fun x y _ _ => by have := HBd.out (upI b (x : Int).toNat) (upI b (y : Int).toNat); omega))
        rw [HZ] at HNO
        generalize (fun (x y : Int) => joinR T a b i (upI b x.toNat) (upI b y.toNat)) = ZZ at *
        clear HOx HOi HMM HZ ew HMe HBd
        obtain ⟨b0, b1, b2, b3⟩ := HNi.out
        have zl := World.block_lt_of_cell? _ _ b3
        have zr1 : w.heap.size + 1 < wr.heap.size := by obtain ⟨u, r1, _⟩ := HRi.out 0 (by omega); exact World.block_lt_of_cell? _ _ r1
        by_cases hbe : b < e
        · have te : decide ((b : Int) < (e : Int)) = true := by simp; omega
          have te2 : decide (b < e) = true := by simp; omega
          have tw : wrap64 ((e : Int) - 1) = (e : Int) - 1 := IntWalk.wrap64_in _ ⟨by omega, by omega⟩
          have hE : ((jnE e b : Nat) : Int) = (e : Int) - 1 := by unfold jnE; split <;> omega
          have HN1 := Lib.hid (HNO.out (jnE e b))
          rw [hE] at HN1
          clear HNO
          obtain ⟨BB, hBB⟩ : ∃ BB, netB ((i - 1 : Nat) : Int) ((e : Int) - 1) S MM.length (flatW MM) = BB := ⟨_, rfl⟩
          rw [hBB] at HN1
          have HBB := Lib.hid hBB
          have HEE := Lib.hid hE
          clear hBB hE
          go_upto_region 14 with fail
          refine wp_region_head (S := fun w' => w'.cell? ⟨w.heap.size, 2, none⟩ = some (.int .i64 S)) 9 (by kernel_rfl) (by kernel_rfl) (cell_drew b2) (fun hHeld => ?_)
          refine head_takeR 0 (v := ?_) rfl ?_ ?_; rotate_left; (focus (intro w' hSw; (try dsimp only at hSw); go_simp; (try with_reducible rfl))); (try simp only [Act.put, hnA, hnB, hnC])
          refine head_takeR 1 (v := ?_) rfl ?_ ?_; rotate_left; (focus (intro w' hSw; (try dsimp only at hSw); go_simp; (try with_reducible rfl))); (try simp only [Act.put, hnA, hnB, hnC])
          refine head_takeR 2 (v := ?_) rfl ?_ ?_; rotate_left; (focus (intro w' hSw; (try dsimp only at hSw); go_simp; (try with_reducible rfl))); (try simp only [Act.put, hnA, hnB, hnC])
          refine head_takeR 3 (v := ?_) rfl ?_ ?_; rotate_left; (focus (intro w' hSw; (try dsimp only at hSw); go_simp; (try with_reducible rfl))); (try simp only [Act.put, hnA, hnB, hnC])
          refine head_takeR 4 (v := ?_) rfl ?_ ?_; rotate_left; (focus (intro w' hSw; (try dsimp only at hSw); go_simp; (try with_reducible rfl))); (try simp only [Act.put, hnA, hnB, hnC])
          refine head_one 5 rfl (by kernel_rfl) (fun K hK => ?_)
          go_simp
          (go_at_call 72; ((with_reducible refine (HWo.out _ (Ge.drew (Ge.refl _))).mono ?_); rintro r w5 ⟨u5, rfl, hM5, g5⟩))
          have g5' : Ge wr w5 := Ge.trans (Ge.drew (Ge.refl _)) g5
          refine hK.out _ _ (g5'.keep b2) (fun hHeld => ?_)
          clear hK K
          (try simp only [Act.put, hnA, hnB, hnC])
          refine head_one 6 rfl (by kernel_rfl) (fun K hK => ?_)
          go_simp
          (go_at_call 71; ((with_reducible refine (HN1.out _ _ hM5).mono ?_); rintro r w6 ⟨g6, hcase⟩))
          have g6' : Ge wr w6 := Ge.trans g5' g6
          have gw6 : Ge w w6 := Ge.trans hg g6'
          have R6 := HRi.out.ge g6'
          obtain ⟨r0, p0, f0⟩ := R6 0 (by omega)
          obtain ⟨r1, p1, f1⟩ := R6 1 (by omega)
          obtain ⟨r2, p2, f2⟩ := R6 2 (by omega)
          obtain ⟨r3, p3, f3⟩ := R6 3 (by omega)
          rcases hcase with ⟨hb, u6, rfl, o6⟩ | ⟨hb, rfl⟩
          · refine hK.out _ _ (g6'.keep b2) (fun hHeld => ?_)
            clear hK K
            (try simp only [Act.put, hnA, hnB, hnC])
            refine head_takeR 7 (v := ?_) rfl ?_ ?_; rotate_left; (focus (intro w' hSw; (try dsimp only at hSw); go_simp; (try with_reducible rfl))); (try simp only [Act.put, hnA, hnB, hnC])
            refine head_takeR 8 (v := ?_) rfl ?_ ?_; rotate_left; (focus (intro w' hSw; (try dsimp only at hSw); go_simp; (try with_reducible rfl))); (try simp only [Act.put, hnA, hnB, hnC])
            refine head_done (by kernel_rfl) ?_
            have HO6 := Lib.hid o6
            obtain ⟨p6, c6, rfl⟩ := owns_form o6
            clear o6
            have hz5 := g5'.size
            go_wp2_with fail
            exact bodyPost_ret (v := .tuple #[.agg #[.int .i64 ((i - 1 : Nat) : Int), .int .i64 ((e : Int) - 1), .int .i64 S, .slice p6 MM.length c6], .bool true]) (by simp [results, Tryz.results35, go_sem, *]) rfl (by refine (?_ : GivesO w _ _ _ _ _ _ _); rw [HEE.out]; exact GivesO.t (HBB.out.trans hb) (by refine owns_mono (base := w5.heap.size) ?_ (by omega); repeat (first | exact HO6.out | refine own_setD ?_ (by omega))) (kge))
          · refine hK.out _ _ (g6'.keep b2) (fun hHeld => ?_)
            clear hK K
            (try simp only [Act.put, hnA, hnB, hnC])
            refine head_takeR 7 (v := ?_) rfl ?_ ?_; rotate_left; (focus (intro w' hSw; (try dsimp only at hSw); go_simp; (try with_reducible rfl))); (try simp only [Act.put, hnA, hnB, hnC])
            refine head_takeR 8 (v := ?_) rfl ?_ ?_; rotate_left; (focus (intro w' hSw; (try dsimp only at hSw); go_simp; (try with_reducible rfl))); (try simp only [Act.put, hnA, hnB, hnC])
            refine head_done (by kernel_rfl) ?_
            go_wp2_with fail
            exact bodyPost_ret (v := .tuple #[.agg #[.int .i64 0, .int .i64 0, .int .i64 0, .slice none 0 0], .bool false]) (by simp [results, Tryz.results35, go_sem, *]) rfl (by refine (?_ : GivesO w _ _ _ _ _ _ _); rw [HEE.out]; exact GivesO.f (HBB.out.trans hb) (kge))
        · have te : decide ((b : Int) < (e : Int)) = false := by simp; omega
          have te2 : decide (b < e) = false := by simp; omega
          have hE : ((jnE e b : Nat) : Int) = (e : Int) := by unfold jnE; split <;> omega
          have HN1 := Lib.hid (HNO.out (jnE e b))
          rw [hE] at HN1
          clear HNO
          obtain ⟨BB, hBB⟩ : ∃ BB, netB ((i - 1 : Nat) : Int) ((e : Int)) S MM.length (flatW MM) = BB := ⟨_, rfl⟩
          rw [hBB] at HN1
          have HBB := Lib.hid hBB
          have HEE := Lib.hid hE
          clear hBB hE
          go_upto_region 14 with fail
          refine wp_region_head (S := fun w' => w'.cell? ⟨w.heap.size, 2, none⟩ = some (.int .i64 S)) 9 (by kernel_rfl) (by kernel_rfl) (cell_drew b2) (fun hHeld => ?_)
          refine head_takeR 0 (v := ?_) rfl ?_ ?_; rotate_left; (focus (intro w' hSw; (try dsimp only at hSw); go_simp; (try with_reducible rfl))); (try simp only [Act.put, hnA, hnB, hnC])
          refine head_takeR 1 (v := ?_) rfl ?_ ?_; rotate_left; (focus (intro w' hSw; (try dsimp only at hSw); go_simp; (try with_reducible rfl))); (try simp only [Act.put, hnA, hnB, hnC])
          refine head_takeR 2 (v := ?_) rfl ?_ ?_; rotate_left; (focus (intro w' hSw; (try dsimp only at hSw); go_simp; (try with_reducible rfl))); (try simp only [Act.put, hnA, hnB, hnC])
          refine head_takeR 3 (v := ?_) rfl ?_ ?_; rotate_left; (focus (intro w' hSw; (try dsimp only at hSw); go_simp; (try with_reducible rfl))); (try simp only [Act.put, hnA, hnB, hnC])
          refine head_takeR 4 (v := ?_) rfl ?_ ?_; rotate_left; (focus (intro w' hSw; (try dsimp only at hSw); go_simp; (try with_reducible rfl))); (try simp only [Act.put, hnA, hnB, hnC])
          refine head_one 5 rfl (by kernel_rfl) (fun K hK => ?_)
          go_simp
          (go_at_call 72; ((with_reducible refine (HWo.out _ (Ge.drew (Ge.refl _))).mono ?_); rintro r w5 ⟨u5, rfl, hM5, g5⟩))
          have g5' : Ge wr w5 := Ge.trans (Ge.drew (Ge.refl _)) g5
          refine hK.out _ _ (g5'.keep b2) (fun hHeld => ?_)
          clear hK K
          (try simp only [Act.put, hnA, hnB, hnC])
          refine head_one 6 rfl (by kernel_rfl) (fun K hK => ?_)
          go_simp
          (go_at_call 71; ((with_reducible refine (HN1.out _ _ hM5).mono ?_); rintro r w6 ⟨g6, hcase⟩))
          have g6' : Ge wr w6 := Ge.trans g5' g6
          have gw6 : Ge w w6 := Ge.trans hg g6'
          have R6 := HRi.out.ge g6'
          obtain ⟨r0, p0, f0⟩ := R6 0 (by omega)
          obtain ⟨r1, p1, f1⟩ := R6 1 (by omega)
          obtain ⟨r2, p2, f2⟩ := R6 2 (by omega)
          obtain ⟨r3, p3, f3⟩ := R6 3 (by omega)
          rcases hcase with ⟨hb, u6, rfl, o6⟩ | ⟨hb, rfl⟩
          · refine hK.out _ _ (g6'.keep b2) (fun hHeld => ?_)
            clear hK K
            (try simp only [Act.put, hnA, hnB, hnC])
            refine head_takeR 7 (v := ?_) rfl ?_ ?_; rotate_left; (focus (intro w' hSw; (try dsimp only at hSw); go_simp; (try with_reducible rfl))); (try simp only [Act.put, hnA, hnB, hnC])
            refine head_takeR 8 (v := ?_) rfl ?_ ?_; rotate_left; (focus (intro w' hSw; (try dsimp only at hSw); go_simp; (try with_reducible rfl))); (try simp only [Act.put, hnA, hnB, hnC])
            refine head_done (by kernel_rfl) ?_
            have HO6 := Lib.hid o6
            obtain ⟨p6, c6, rfl⟩ := owns_form o6
            clear o6
            have hz5 := g5'.size
            go_wp2_with fail
            exact bodyPost_ret (v := .tuple #[.agg #[.int .i64 ((i - 1 : Nat) : Int), .int .i64 ((e : Int)), .int .i64 S, .slice p6 MM.length c6], .bool true]) (by simp [results, Tryz.results35, go_sem, *]) rfl (by refine (?_ : GivesO w _ _ _ _ _ _ _); rw [HEE.out]; exact GivesO.t (HBB.out.trans hb) (by refine owns_mono (base := w5.heap.size) ?_ (by omega); repeat (first | exact HO6.out | refine own_setD ?_ (by omega))) (kge))
          · refine hK.out _ _ (g6'.keep b2) (fun hHeld => ?_)
            clear hK K
            (try simp only [Act.put, hnA, hnB, hnC])
            refine head_takeR 7 (v := ?_) rfl ?_ ?_; rotate_left; (focus (intro w' hSw; (try dsimp only at hSw); go_simp; (try with_reducible rfl))); (try simp only [Act.put, hnA, hnB, hnC])
            refine head_takeR 8 (v := ?_) rfl ?_ ?_; rotate_left; (focus (intro w' hSw; (try dsimp only at hSw); go_simp; (try with_reducible rfl))); (try simp only [Act.put, hnA, hnB, hnC])
            refine head_done (by kernel_rfl) ?_
            go_wp2_with fail
            exact bodyPost_ret (v := .tuple #[.agg #[.int .i64 0, .int .i64 0, .int .i64 0, .slice none 0 0], .bool false]) (by simp [results, Tryz.results35, go_sem, *]) rfl (by refine (?_ : GivesO w _ _ _ _ _ _ _); rw [HEE.out]; exact GivesO.f (HBB.out.trans hb) (kge))
  · rw [jnB_f hG]
    have HT := Lib.hid (fun w' g => GivesO.f (w := w) (w' := w') (b := false) (N := ((n - 1 : Nat) : Int)) (E := jnE e b.toNat) (S := S) (L := jnM n m xs a.toNat b.toNat) rfl g)
    generalize jnM n m xs a.toNat b.toNat = MM at *
    clear HTa HK hTb
    by_cases ha : a < 0
    · have t1 : decide (a < 0) = true := by simpa using ha
      go_enter Tryz.func35, Tryz.ntmps35
      go_wp2_with ((go_at_call 43; ((with_reducible refine (HNo.out _ (kge)).mono ?_); rintro r w1 ⟨rfl, g1⟩)); have NB1 := NB0.ge g1; have R1 := R0.ge g1; have gw1 : Ge w w1 := (kge); obtain ⟨b0, b1, b2, b3⟩ := NB1; obtain ⟨r0, p0, f0⟩ := R1 0 (by omega); obtain ⟨r1, p1, f1⟩ := R1 1 (by omega); obtain ⟨r2, p2, f2⟩ := R1 2 (by omega); obtain ⟨r3, p3, f3⟩ := R1 3 (by omega); have z1 := Nat.lt_of_lt_of_le zR g1.size)
      exact bodyPost_ret (v := .tuple #[.agg #[.int .i64 0, .int .i64 0, .int .i64 0, .slice none 0 0], .bool false]) (by simp [results, Tryz.results35, go_sem, *]) rfl (HT.out _ (kge))
    · have t1 : decide (a < 0) = false := by simpa using ha
      by_cases hab : b ≤ a
      · have t2 : decide (b ≤ a) = true := by simpa using hab
        go_enter Tryz.func35, Tryz.ntmps35
        go_wp2_with ((go_at_call 43; ((with_reducible refine (HNo.out _ (kge)).mono ?_); rintro r w1 ⟨rfl, g1⟩)); have NB1 := NB0.ge g1; have R1 := R0.ge g1; have gw1 : Ge w w1 := (kge); obtain ⟨b0, b1, b2, b3⟩ := NB1; obtain ⟨r0, p0, f0⟩ := R1 0 (by omega); obtain ⟨r1, p1, f1⟩ := R1 1 (by omega); obtain ⟨r2, p2, f2⟩ := R1 2 (by omega); obtain ⟨r3, p3, f3⟩ := R1 3 (by omega); have z1 := Nat.lt_of_lt_of_le zR g1.size)
        exact bodyPost_ret (v := .tuple #[.agg #[.int .i64 0, .int .i64 0, .int .i64 0, .slice none 0 0], .bool false]) (by simp [results, Tryz.results35, go_sem, *]) rfl (HT.out _ (kge))
      · have t2 : decide (b ≤ a) = false := by simpa using hab
        have t3 : decide ((n : Int) ≤ b) = true := by simp; unfold jnG at hG; omega
        go_enter Tryz.func35, Tryz.ntmps35
        go_wp2_with ((go_at_call 43; ((with_reducible refine (HNo.out _ (kge)).mono ?_); rintro r w1 ⟨rfl, g1⟩)); have NB1 := NB0.ge g1; have R1 := R0.ge g1; have gw1 : Ge w w1 := (kge); obtain ⟨b0, b1, b2, b3⟩ := NB1; obtain ⟨r0, p0, f0⟩ := R1 0 (by omega); obtain ⟨r1, p1, f1⟩ := R1 1 (by omega); obtain ⟨r2, p2, f2⟩ := R1 2 (by omega); obtain ⟨r3, p3, f3⟩ := R1 3 (by omega); have z1 := Nat.lt_of_lt_of_le zR g1.size)
        exact bodyPost_ret (v := .tuple #[.agg #[.int .i64 0, .int .i64 0, .int .i64 0, .slice none 0 0], .bool false]) (by simp [results, Tryz.results35, go_sem, *]) rfl (HT.out _ (kge))
end Go.Proofs.YtagiecajffhnpaaGreat

namespace Go.Proofs.YtagiecajffhnpaaGreat

open Go.RowKit

def touchB (N : Nat) (l : List (Nat × Nat)) : Bool := !mconn N l || (List.range N).all fun v => l.any fun e => decide (e.1 = v) || decide (e.2 = v)
theorem touch_all : ([2, 3, 4, 5].all fun N => (subs (univ N)).all (touchB N)) = true := by decide +kernel
theorem touch_net {N : Nat} {l : List (Nat × Nat)} (h1 : 2 ≤ N) (h5 : N ≤ 5) (hl : List.Sublist l (univ N)) (hc : mconn N l = true) {v : Nat} (hv : v < N) : ∃ e ∈ l, e.1 = v ∨ e.2 = v := by
  have h := touch_all
  rw [List.all_eq_true] at h
  have h' := h N (by simp; omega)
  rw [List.all_eq_true] at h'
  have h2 := h' l (mem_subs hl)
  unfold touchB at h2
  rw [hc] at h2
  simp only [Bool.not_true, Bool.false_or, List.all_eq_true, List.mem_range, List.any_eq_true, Bool.or_eq_true, decide_eq_true_eq] at h2
  exact h2 v hv
theorem wat_ge {N : Int} {xs : List Int} {v : Int} : ∀ {m : Nat}, (∀ k, k < m → goodW N xs k) → ∀ {k : Nat}, k < m → (wa xs k = v ∨ wb xs k = v) → 1 ≤ wat xs v m
  | 0, _, k, hk, _ => by omega
  | m + 1, h, k, hk, hv => by
    have h0 := (wat_bd v (m := m) (fun j hj => h j (by omega))).1
    have hw := (h m (by omega)).1
    unfold okW at hw
    unfold wat
    by_cases e : k = m
    · subst e
      rw [if_pos hv]; omega
    · have := wat_ge (m := m) (v := v) (fun j hj => h j (by omega)) (k := k) (by omega) hv
      split <;> omega
theorem wat_conn {n e S : Int} {m : Nat} {xs : List Int} (hB : netB n e S m xs = true) (h2 : 2 ≤ n) {v : Int} (hv : 0 ≤ v ∧ v < n) : 0 < wat xs v m := by
  obtain ⟨⟨h1, h5⟩, _, _, hok, hc⟩ := netP_of hB
  obtain ⟨p, hp, hpv⟩ := touch_net (N := n.toNat) (by omega) (by omega) (prs_sub h5 hok) hc (v := v.toNat) (by omega)
  simp only [prs, List.mem_map, List.mem_range] at hp
  obtain ⟨k, hk, rfl⟩ := hp
  have hg := (hok k hk).1
  unfold okW at hg
  simp only at hpv
  have := wat_ge (v := v) hok hk (by omega)
  omega
end Go.Proofs.YtagiecajffhnpaaGreat

namespace Go.Proofs.YtagiecajffhnpaaGreat
set_option maxRecDepth 100000
open Go.ChangeShapes Go.WideShapes Go.ChangeAt Go.RowKit Go.Joins

/-- A network of its own memory, and whether there is one. -/
def GivesNet (w : World) (n : Nt) (B : Bool) (e : Ending) (w' : World) : Prop :=
  ∃ s, e = .returned (.tuple #[.agg #[.int .i64 n.nodes, .int .i64 n.ends, .int .i64 n.scale, s], .bool B]) ∧ w'.ownsRow w.heap.size 45 3 s n.wires.length (icells (flatW n.wires)) ∧ Ge w w'
/-- The network, or none. -/
def oNet (b : Bool) (N E S : Int) (L : List Wr) : Nt := if b = true then ⟨N, E, S, L⟩ else ⟨0, 0, 0, []⟩
theorem GivesO.net {w w' : World} {b : Bool} {N E S : Int} {L : List Wr} {e : Ending} (h : GivesO w b N E S L e w') : GivesNet w (oNet b N E S L) b e w' := by
  obtain ⟨hg, h⟩ := h
  rcases h with ⟨rfl, u, rfl, ho⟩ | ⟨rfl, rfl⟩
  · exact ⟨u, rfl, ho, hg⟩
  · exact ⟨_, rfl, ⟨rfl, .inl ⟨rfl, rfl⟩⟩, hg⟩
end Go.Proofs.YtagiecajffhnpaaGreat

namespace Go.Proofs.YtagiecajffhnpaaGreat
set_option maxRecDepth 100000
open Go.ChangeShapes Go.WideShapes Go.ChangeAt Go.RowKit Go.Joins

end Go.Proofs.YtagiecajffhnpaaGreat

namespace Go.Proofs.YtagiecajffhnpaaGreat
set_option maxRecDepth 100000
open Go.ChangeShapes Go.WideShapes Go.ChangeAt Go.RowKit Go.Joins

theorem ResD.setO {w : World} {R B i : Nat} {x : Value} (h : ResD w R) (hne : B ≠ R) : ResD (w.setCell ⟨B, i, none⟩ x) R := fun j hj => by
  obtain ⟨u, h1, h2⟩ := h j hj
  exact ⟨u, cell_set2 (fun e => by have := congrArg Addr.block e; simp at this; omega) h1, froz_set h2⟩
end Go.Proofs.YtagiecajffhnpaaGreat

namespace Go.Proofs.YtagiecajffhnpaaGreat

end Go.Proofs.YtagiecajffhnpaaGreat

namespace Go.Proofs.YtagiecajffhnpaaGreat
set_option maxRecDepth 100000
open Go.ChangeShapes Go.WideShapes Go.ChangeAt Go.RowKit Go.Joins

end Go.Proofs.YtagiecajffhnpaaGreat

namespace Go.Proofs.YtagiecajffhnpaaGreat
set_option maxRecDepth 100000
open Go.ChangeShapes Go.WideShapes Go.ChangeAt Go.RowKit Go.Joins

end Go.Proofs.YtagiecajffhnpaaGreat
