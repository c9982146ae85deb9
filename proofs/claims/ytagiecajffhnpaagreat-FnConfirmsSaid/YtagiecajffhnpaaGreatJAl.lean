/- TriangleStar of impl, for all arguments, at a valid network. No condition. -/
import Derived.Test.YtagiecajffhnpaaGreatJAk
import Derived.Test.YtagiecajffhnpaaGreatJAf
import Derived.Test.YtagiecajffhnpaaGreatJAg
namespace Go.Proofs.YtagiecajffhnpaaGreat
set_option maxRecDepth 100000
open Go.ChangeShapes Go.WideShapes Go.ChangeAt Go.RowKit Go.Joins

theorem OMx.ne {w : World} {B G N c : Nat} {q cp : Nat → Nat} {R : Nat → List Int} (h : OMx w B G N c q cp R) {i j : Nat} (hi : i < N) (hj : j < N) (hne : j ≠ i) : q j ≠ q i := by
  obtain ⟨cs, h1, h2⟩ := h
  exact (h2 i hi).2.2 j hj hne
theorem OMx.setM {w : World} {B G N c L : Nat} {q cp : Nat → Nat} {M : Nat → Nat → Int} (h : OMx w B G N c q cp (fun i => mapR L (M i))) {i j : Nat} (hi : i < N) (hj : j < L) (x : Int) :
    OMx (w.setCell ⟨q i, j, none⟩ (.int .i64 x)) B G N c q cp (fun a => mapR L (fun b => if a = i ∧ b = j then x else M a b)) :=
  (h.setE j hi x).congr (fun a _ => by
    by_cases e : a = i
    · subst e
      simp only [if_pos, mapR_set x hj]
      exact mapR_congr (fun b _ => by simp)
    · simp only [if_neg e]
      exact mapR_congr (fun b _ => by simp [e]))
theorem OMx.entM {w : World} {B G N c L : Nat} {q cp : Nat → Nat} {M : Nat → Nat → Int} (h : OMx w B G N c q cp (fun i => mapR L (M i))) {i j : Nat} (hi : i < N) (hj : j < L) : w.cell? ⟨q i, j, none⟩ = some (.int .i64 (M i j)) := by
  have := h.entry hi (j := j) (by simp only [mapR_length]; exact hj)
  simp only [mapR_nth hj] at this
  exact this
theorem OMx.rowM {w : World} {B G N c L : Nat} {q cp : Nat → Nat} {M : Nat → Nat → Int} (h : OMx w B G N c q cp (fun i => mapR L (M i))) {i : Nat} (hi : i < N) : w.cell? ⟨G, i, none⟩ = some (.slice (some ⟨q i, 0, none⟩) L (cp i)) := by
  have := h.row hi
  simp only [mapR_length] at this
  exact this

/-- The rows while row k is multiplied up to j. -/
def triK (T : Nat → Nat → Int) (P : Int) (n k j : Nat) (i : Nat) : List Int := if i < k then mapR n (fun b => T i b * P) ++ [0] else if i = k then mapR n (fun b => if b < j then T i b * P else T i b) else mapR n (T i)
theorem triK_zero (T : Nat → Nat → Int) (P : Int) (n : Nat) : ∀ i, i < n → mapR n (T i) = triK T P n 0 0 i := fun i _ => by
  unfold triK
  rw [if_neg (by omega)]
  split
  · exact mapR_congr (fun b _ => by simp)
  · rfl
theorem triK_at (T : Nat → Nat → Int) (P : Int) {n k j : Nat} (hj : j < n) : nth (triK T P n k j k) j = T k j := by
  unfold triK
  rw [if_neg (by omega), if_pos rfl, mapR_nth hj]; simp
theorem triK_len (T : Nat → Nat → Int) (P : Int) (n k j : Nat) : (triK T P n k j k).length = n := by
  unfold triK
  rw [if_neg (by omega), if_pos rfl, mapR_length]
theorem triK_set (T : Nat → Nat → Int) (P : Int) {n k j : Nat} (hj : j < n) : ∀ i, i < n → (if i = k then (triK T P n k j k).set j (T k j * P) else triK T P n k j i) = triK T P n k (j + 1) i := fun i _ => by
  by_cases e : i = k
  · subst e
    rw [if_pos rfl]
    unfold triK
    rw [if_neg (by omega), if_pos rfl, if_neg (by omega), if_pos rfl, mapR_set _ hj]
    refine mapR_congr (fun b _ => ?_)
    by_cases e2 : b = j
    · subst e2; simp
    · by_cases e3 : b < j
      · simp [e2, e3, show b < j + 1 by omega]
      · simp [e2, e3, show ¬ b < j + 1 by omega]
  · rw [if_neg e]
    unfold triK
    rw [if_neg e, if_neg e]
theorem triK_full (T : Nat → Nat → Int) (P : Int) (n k : Nat) : triK T P n k n k = mapR n (fun b => T k b * P) := by
  unfold triK
  rw [if_neg (by omega), if_pos rfl]
  exact mapR_congr (fun b hb => by simp [hb])
theorem triK_next (T : Nat → Nat → Int) (P : Int) (n k : Nat) : ∀ i, i < n → (if i = k then triK T P n k n k ++ [0] else triK T P n k n i) = triK T P n (k + 1) 0 i := fun i _ => by
  by_cases e : i = k
  · subst e
    rw [if_pos rfl, triK_full]
    unfold triK
    rw [if_pos (by omega)]
  · rw [if_neg e]
    unfold triK
    rw [if_neg e]
    by_cases e2 : i < k
    · rw [if_pos e2, if_pos (by omega)]
    · rw [if_neg e2, if_neg (by omega)]
      split
      · exact mapR_congr (fun b _ => by simp)
      · rfl
/-- The widened table. -/
def triM (T : Nat → Nat → Int) (P : Int) (n : Nat) (i j : Nat) : Int := if i < n ∧ j < n then T i j * P else 0
theorem triM_rows (T : Nat → Nat → Int) (P : Int) (n : Nat) : ∀ i, i < n + 1 → (if i = n then List.replicate (n + 1) 0 else triK T P n n 0 i) = mapR (n + 1) (triM T P n i) := fun i hi => by
  by_cases e : i = n
  · subst e
    rw [if_pos rfl, mapR_zero]
    exact mapR_congr (fun b _ => by unfold triM; rw [if_neg (by omega)])
  · rw [if_neg e]
    have hin : i < n := by omega
    unfold triK
    rw [if_pos hin]
    unfold mapR
    rw [List.range_succ, List.map_append]
    congr 1
    · exact List.map_congr_left (fun b hb => by unfold triM; rw [if_pos ⟨hin, List.mem_range.1 hb⟩])
    · simp [triM]
def zerM (M : Nat → Nat → Int) (a b : Nat) (i j : Nat) : Int := if i = b ∧ j = a then 0 else if i = a ∧ j = b then 0 else M i j
def setM (M : Nat → Nat → Int) (a b : Nat) (x : Int) (i j : Nat) : Int := if i = a ∧ j = b then x else M i j
/-- The star's table. -/
def triT (T : Nat → Nat → Int) (n a b c : Nat) (x y z : Int) : Nat → Nat → Int :=
  setM (setM (setM (zerM (zerM (zerM (triM T (x * y * z) n) a b) b c) a c) a n ((x * y + y * z + z * x) * x * z)) b n ((x * y + y * z + z * x) * x * y)) c n ((x * y + y * z + z * x) * y * z)
/-- The table while the pairs are struck. -/
def triZ (T : Nat → Nat → Int) (P : Int) (n a b c : Nat) : Nat → Nat → Nat → Int
  | 0 => triM T P n
  | 1 => zerM (triM T P n) a b
  | 2 => zerM (zerM (triM T P n) a b) b c
  | _ => zerM (zerM (zerM (triM T P n) a b) b c) a c
/-- The three pairs, in cells of a block. -/
def PrAt (w : World) (B a b c : Nat) : Prop := ∀ (k : Nat) (u : Int), [(a : Int), (b : Int), (b : Int), (c : Int), (a : Int), (c : Int)][k]? = some u → w.cell? ⟨B, k, none⟩ = some (.int .i64 u)
theorem PrAt.ge {w w' : World} {B a b c : Nat} (h : PrAt w B a b c) (hg : Ge w w') : PrAt w' B a b c := fun k u hk => hg.keep (h k u hk)
theorem zerM_bd {M : Nat → Nat → Int} {B : Int} (hB : 0 ≤ B) (h : ∀ i j, 0 ≤ M i j ∧ M i j ≤ B) (a b i j : Nat) : 0 ≤ zerM M a b i j ∧ zerM M a b i j ≤ B := by
  unfold zerM
  have := h i j
  split
  · omega
  · split <;> omega
theorem setM_bd {M : Nat → Nat → Int} {B x : Int} (h : ∀ i j, 0 ≤ M i j ∧ M i j ≤ B) (hx : 0 ≤ x ∧ x ≤ B) (a b i j : Nat) : 0 ≤ setM M a b x i j ∧ setM M a b x i j ≤ B := by
  unfold setM
  have := h i j
  split <;> omega
theorem prod3_bd {x y z A B C : Int} (hx : 0 ≤ x ∧ x ≤ A) (hy : 0 ≤ y ∧ y ≤ B) (hz : 0 ≤ z ∧ z ≤ C) : (0 ≤ x * y ∧ x * y ≤ A * B) ∧ 0 ≤ x * y * z ∧ x * y * z ≤ A * B * C := by
  have h1 : 0 ≤ x * y := Int.mul_nonneg hx.1 hy.1
  have h2 : x * y ≤ A * B := Int.mul_le_mul hx.2 hy.2 hy.1 (by omega)
  have h3 : 0 ≤ x * y * z := Int.mul_nonneg h1 hz.1
  have h4 : x * y * z ≤ A * B * C := Int.mul_le_mul h2 hz.2 hz.1 (by omega)
  exact ⟨⟨h1, h2⟩, h3, h4⟩
theorem triT_bd {T : Nat → Nat → Int} (hT : ∀ a b, 0 ≤ T a b ∧ T a b ≤ 200) {x y z : Int} (hx : 0 ≤ x ∧ x ≤ 200) (hy : 0 ≤ y ∧ y ≤ 200) (hz : 0 ≤ z ∧ z ≤ 200) (n a b c i j : Nat) : 0 ≤ triT T n a b c x y z i j ∧ triT T n a b c x y z i j ≤ 10000000000 := by
  obtain ⟨⟨p1, p2⟩, p3, p4⟩ := prod3_bd hx hy hz
  obtain ⟨⟨p5, p6⟩, _⟩ := prod3_bd hy hz hx
  obtain ⟨⟨p7, p8⟩, _⟩ := prod3_bd hz hx hy
  have s : 0 ≤ x * y + y * z + z * x ∧ x * y + y * z + z * x ≤ 120000 := by omega
  generalize hU : x * y + y * z + z * x = U at *
  obtain ⟨_, q1, q2⟩ := prod3_bd s hx hz
  obtain ⟨_, q3, q4⟩ := prod3_bd s hx hy
  obtain ⟨_, q5, q6⟩ := prod3_bd s hy hz
  have m0 : ∀ i j, 0 ≤ triM T (x * y * z) n i j ∧ triM T (x * y * z) n i j ≤ 10000000000 := fun i j => by
    unfold triM
    split
    · have h1 := hT i j
      have h2 : 0 ≤ T i j * (x * y * z) := Int.mul_nonneg h1.1 p3
      have h3 : T i j * (x * y * z) ≤ 200 * (200 * 200 * 200) := Int.mul_le_mul h1.2 p4 p3 (by omega)
      omega
    · omega
  have m1 := fun i j => zerM_bd (by decide) m0 a b i j
  have m2 := fun i j => zerM_bd (by decide) m1 b c i j
  have m3 := fun i j => zerM_bd (by decide) m2 a c i j
  have m4 := fun i j => setM_bd m3 (x := U * x * z) ⟨q1, by omega⟩ a n i j
  have m5 := fun i j => setM_bd m4 (x := U * x * y) ⟨q3, by omega⟩ b n i j
  have m6 := fun i j => setM_bd m5 (x := U * y * z) ⟨q5, by omega⟩ c n i j
  unfold triT
  rw [hU]
  exact m6 i j
def trG (n : Nat) (a b c : Int) : Prop := (0 ≤ a ∧ a < b ∧ b < c ∧ c < n) ∧ ¬ n = 5
instance (n : Nat) (a b c : Int) : Decidable (trG n a b c) := by unfold trG; infer_instance
def trX (m : Nat) (xs : List Int) (a b c : Int) : Prop := ¬ wbet xs m a b = 0 ∧ ¬ wbet xs m b c = 0 ∧ ¬ wbet xs m a c = 0
instance (m : Nat) (xs : List Int) (a b c : Int) : Decidable (trX m xs a b c) := by unfold trX; infer_instance
def trM (n m : Nat) (xs : List Int) (a b c : Int) : List Wr := tabC (triT (fun i j => wbet xs m (i : Int) (j : Int)) n a.toNat b.toNat c.toNat (wbet xs m a b) (wbet xs m b c) (wbet xs m a c)) (n + 1) (n + 1)
def trP (m : Nat) (xs : List Int) (a b c S : Int) : Int := S * wbet xs m a b * wbet xs m b c * wbet xs m a c
def trS (n m : Nat) (xs : List Int) (a b c S : Int) : Int := (trP m xs a b c S).tdiv (gcdF (trP m xs a b c S) (trM n m xs a b c))
def trL (n m : Nat) (xs : List Int) (a b c S : Int) : List Wr := cutW (gcdF (trP m xs a b c S) (trM n m xs a b c)) (trM n m xs a b c)
noncomputable def trB (n : Nat) (e S : Int) (m : Nat) (xs : List Int) (a b c : Int) : Bool := decide (trG n a b c ∧ trX m xs a b c) && netB ((n + 1 : Nat) : Int) e (trS n m xs a b c S) (trL n m xs a b c S).length (flatW (trL n m xs a b c S))
theorem trB_f {n : Nat} {e S : Int} {m : Nat} {xs : List Int} {a b c : Int} (h : ¬ (trG n a b c ∧ trX m xs a b c)) : trB n e S m xs a b c = false := by unfold trB; rw [decide_eq_false h]; rfl
theorem trB_t {n : Nat} {e S : Int} {m : Nat} {xs : List Int} {a b c : Int} (h : trG n a b c ∧ trX m xs a b c) : trB n e S m xs a b c = netB ((n + 1 : Nat) : Int) e (trS n m xs a b c S) (trL n m xs a b c S).length (flatW (trL n m xs a b c S)) := by unfold trB; rw [decide_eq_true h]; rfl

set_option maxHeartbeats 12800000 in
theorem iTriF (n e : Nat) (S a b c : Int) (s : Value) (m : Nat) (xs : List Int) (w : World) (hs : SlF w s m 3 xs) (hB : netB n e S m xs = true) (hG : ¬ (trG n a b c ∧ trX m xs a b c)) :
    Calls Tryz.prog 39 #[.agg #[.int .i64 (n : Int), .int .i64 (e : Int), .int .i64 S, s], .int .i64 a, .int .i64 b, .int .i64 c] w (GivesO w (trB n e S m xs a b c) ((n + 1 : Nat) : Int) e (trS n m xs a b c S) (trL n m xs a b c S)) := by
  obtain ⟨⟨h1, h5⟩, ⟨e1, e2⟩, ⟨s1, s2⟩, hok, _⟩ := netP_of hB
  have hm : m ≤ 10 := prs_len (by omega) hok
  have HV := Lib.hid hs
  have HK := Lib.hid hok
  have hTb : ∀ a b : Nat, 0 ≤ wbet xs m (a : Int) (b : Int) ∧ wbet xs m (a : Int) (b : Int) ≤ 200 := fun a b => wbet_bd hok _ _
  obtain ⟨p, cap, rfl, _⟩ := hs.open
  have HNo := Lib.hid (fun w' (g : Ge w w') => iNetOk n e S (.slice p m cap) m xs w' (HV.out.ge g) (by omega))
  rw [hB] at HNo
  have HTa := Lib.hid (fun w' (g : Ge w w') => iTable n e S (.slice p m cap) m xs w' (HV.out.ge g) hm (by omega) (by omega) HK.out)
  have HWab := Lib.hid (fun w' (g : Ge w w') => iWeightBetween n e S (.slice p m cap) m xs a b w' (HV.out.ge g) hm HK.out)
  have HWbc := Lib.hid (fun w' (g : Ge w w') => iWeightBetween n e S (.slice p m cap) m xs b c w' (HV.out.ge g) hm HK.out)
  have HWac := Lib.hid (fun w' (g : Ge w w') => iWeightBetween n e S (.slice p m cap) m xs a c w' (HV.out.ge g) hm HK.out)
  have hwx := wbet_bd hok a b
  have hwy := wbet_bd hok b c
  have hwz := wbet_bd hok a c
  clear hs hok hB
  obtain ⟨NB0, R0⟩ := in_res w n e S (.slice p m cap)
  have zR : w.heap.size + 1 < ((w.alloc (.cells #[.int .i64 n, .int .i64 e, .int .i64 S, .slice p m cap] 33)).alloc (.cells #[.int .i64 0, .int .i64 0, .int .i64 0, .slice none 0 0] 33)).heap.size := by simp
  rw [trB_f hG]
  have HT := Lib.hid (fun w' g => GivesO.f (w := w) (w' := w') (b := false) (N := ((n + 1 : Nat) : Int)) (E := e) (S := trS n m xs a b c S) (L := trL n m xs a b c S) rfl g)
  generalize trS n m xs a b c S = SS at *
  generalize trL n m xs a b c S = LL at *
  unfold trX at hG
  generalize wbet xs m a b = X at *
  generalize wbet xs m b c = Y at *
  generalize wbet xs m a c = Z at *
  clear HTa HK hTb
  by_cases h0 : a < 0
  · have t0 : decide (a < 0) = true := by simpa using h0
    go_enter Tryz.func39, Tryz.ntmps39
    go_wp2_with (first | ((go_at_call 43; ((with_reducible refine (HNo.out _ (kge)).mono ?_); rintro r w1 ⟨rfl, g1⟩)); have NB1 := NB0.ge g1; have R1 := R0.ge g1; have gw1 : Ge w w1 := (kge); obtain ⟨b0, b1, b2, b3⟩ := NB1; obtain ⟨r0, p0, f0⟩ := R1 0 (by omega); obtain ⟨r1, p1, f1⟩ := R1 1 (by omega); obtain ⟨r2, p2, f2⟩ := R1 2 (by omega); obtain ⟨r3, p3, f3⟩ := R1 3 (by omega); have z1 := Nat.lt_of_lt_of_le zR g1.size) | ((go_at_call 75; ((with_reducible refine (HWab.out _ gw1).mono ?_); rintro r w2 ⟨rfl, g2⟩)); have gw1 := Ge.trans gw1 g2; have b0 := Ge.keep g2 b0; have b1 := Ge.keep g2 b1; have b2 := Ge.keep g2 b2; have b3 := Ge.keep g2 b3; have R1 := R1.ge g2; obtain ⟨r0, p0, f0⟩ := R1 0 (by omega); obtain ⟨r1, p1, f1⟩ := R1 1 (by omega); obtain ⟨r2, p2, f2⟩ := R1 2 (by omega); obtain ⟨r3, p3, f3⟩ := R1 3 (by omega); have z1 := Nat.lt_of_lt_of_le z1 g2.size) | ((go_at_call 75; ((with_reducible refine (HWbc.out _ gw1).mono ?_); rintro r w2 ⟨rfl, g2⟩)); have gw1 := Ge.trans gw1 g2; have b0 := Ge.keep g2 b0; have b1 := Ge.keep g2 b1; have b2 := Ge.keep g2 b2; have b3 := Ge.keep g2 b3; have R1 := R1.ge g2; obtain ⟨r0, p0, f0⟩ := R1 0 (by omega); obtain ⟨r1, p1, f1⟩ := R1 1 (by omega); obtain ⟨r2, p2, f2⟩ := R1 2 (by omega); obtain ⟨r3, p3, f3⟩ := R1 3 (by omega); have z1 := Nat.lt_of_lt_of_le z1 g2.size) | ((go_at_call 75; ((with_reducible refine (HWac.out _ gw1).mono ?_); rintro r w2 ⟨rfl, g2⟩)); have gw1 := Ge.trans gw1 g2; have b0 := Ge.keep g2 b0; have b1 := Ge.keep g2 b1; have b2 := Ge.keep g2 b2; have b3 := Ge.keep g2 b3; have R1 := R1.ge g2; obtain ⟨r0, p0, f0⟩ := R1 0 (by omega); obtain ⟨r1, p1, f1⟩ := R1 1 (by omega); obtain ⟨r2, p2, f2⟩ := R1 2 (by omega); obtain ⟨r3, p3, f3⟩ := R1 3 (by omega); have z1 := Nat.lt_of_lt_of_le z1 g2.size))
    exact bodyPost_ret (v := .tuple #[.agg #[.int .i64 0, .int .i64 0, .int .i64 0, .slice none 0 0], .bool false]) (by simp [results, Tryz.results39, go_sem, *]) rfl (HT.out _ (kge))
  · have t0 : decide (a < 0) = false := by simpa using h0
    by_cases h1 : b ≤ a
    · have t1 : decide (b ≤ a) = true := by simpa using h1
      go_enter Tryz.func39, Tryz.ntmps39
      go_wp2_with (first | ((go_at_call 43; ((with_reducible refine (HNo.out _ (kge)).mono ?_); rintro r w1 ⟨rfl, g1⟩)); have NB1 := NB0.ge g1; have R1 := R0.ge g1; have gw1 : Ge w w1 := (kge); obtain ⟨b0, b1, b2, b3⟩ := NB1; obtain ⟨r0, p0, f0⟩ := R1 0 (by omega); obtain ⟨r1, p1, f1⟩ := R1 1 (by omega); obtain ⟨r2, p2, f2⟩ := R1 2 (by omega); obtain ⟨r3, p3, f3⟩ := R1 3 (by omega); have z1 := Nat.lt_of_lt_of_le zR g1.size) | ((go_at_call 75; ((with_reducible refine (HWab.out _ gw1).mono ?_); rintro r w2 ⟨rfl, g2⟩)); have gw1 := Ge.trans gw1 g2; have b0 := Ge.keep g2 b0; have b1 := Ge.keep g2 b1; have b2 := Ge.keep g2 b2; have b3 := Ge.keep g2 b3; have R1 := R1.ge g2; obtain ⟨r0, p0, f0⟩ := R1 0 (by omega); obtain ⟨r1, p1, f1⟩ := R1 1 (by omega); obtain ⟨r2, p2, f2⟩ := R1 2 (by omega); obtain ⟨r3, p3, f3⟩ := R1 3 (by omega); have z1 := Nat.lt_of_lt_of_le z1 g2.size) | ((go_at_call 75; ((with_reducible refine (HWbc.out _ gw1).mono ?_); rintro r w2 ⟨rfl, g2⟩)); have gw1 := Ge.trans gw1 g2; have b0 := Ge.keep g2 b0; have b1 := Ge.keep g2 b1; have b2 := Ge.keep g2 b2; have b3 := Ge.keep g2 b3; have R1 := R1.ge g2; obtain ⟨r0, p0, f0⟩ := R1 0 (by omega); obtain ⟨r1, p1, f1⟩ := R1 1 (by omega); obtain ⟨r2, p2, f2⟩ := R1 2 (by omega); obtain ⟨r3, p3, f3⟩ := R1 3 (by omega); have z1 := Nat.lt_of_lt_of_le z1 g2.size) | ((go_at_call 75; ((with_reducible refine (HWac.out _ gw1).mono ?_); rintro r w2 ⟨rfl, g2⟩)); have gw1 := Ge.trans gw1 g2; have b0 := Ge.keep g2 b0; have b1 := Ge.keep g2 b1; have b2 := Ge.keep g2 b2; have b3 := Ge.keep g2 b3; have R1 := R1.ge g2; obtain ⟨r0, p0, f0⟩ := R1 0 (by omega); obtain ⟨r1, p1, f1⟩ := R1 1 (by omega); obtain ⟨r2, p2, f2⟩ := R1 2 (by omega); obtain ⟨r3, p3, f3⟩ := R1 3 (by omega); have z1 := Nat.lt_of_lt_of_le z1 g2.size))
      exact bodyPost_ret (v := .tuple #[.agg #[.int .i64 0, .int .i64 0, .int .i64 0, .slice none 0 0], .bool false]) (by simp [results, Tryz.results39, go_sem, *]) rfl (HT.out _ (kge))
    · have t1 : decide (b ≤ a) = false := by simpa using h1
      by_cases h2 : c ≤ b
      · have t2 : decide (c ≤ b) = true := by simpa using h2
        go_enter Tryz.func39, Tryz.ntmps39
        go_wp2_with (first | ((go_at_call 43; ((with_reducible refine (HNo.out _ (kge)).mono ?_); rintro r w1 ⟨rfl, g1⟩)); have NB1 := NB0.ge g1; have R1 := R0.ge g1; have gw1 : Ge w w1 := (kge); obtain ⟨b0, b1, b2, b3⟩ := NB1; obtain ⟨r0, p0, f0⟩ := R1 0 (by omega); obtain ⟨r1, p1, f1⟩ := R1 1 (by omega); obtain ⟨r2, p2, f2⟩ := R1 2 (by omega); obtain ⟨r3, p3, f3⟩ := R1 3 (by omega); have z1 := Nat.lt_of_lt_of_le zR g1.size) | ((go_at_call 75; ((with_reducible refine (HWab.out _ gw1).mono ?_); rintro r w2 ⟨rfl, g2⟩)); have gw1 := Ge.trans gw1 g2; have b0 := Ge.keep g2 b0; have b1 := Ge.keep g2 b1; have b2 := Ge.keep g2 b2; have b3 := Ge.keep g2 b3; have R1 := R1.ge g2; obtain ⟨r0, p0, f0⟩ := R1 0 (by omega); obtain ⟨r1, p1, f1⟩ := R1 1 (by omega); obtain ⟨r2, p2, f2⟩ := R1 2 (by omega); obtain ⟨r3, p3, f3⟩ := R1 3 (by omega); have z1 := Nat.lt_of_lt_of_le z1 g2.size) | ((go_at_call 75; ((with_reducible refine (HWbc.out _ gw1).mono ?_); rintro r w2 ⟨rfl, g2⟩)); have gw1 := Ge.trans gw1 g2; have b0 := Ge.keep g2 b0; have b1 := Ge.keep g2 b1; have b2 := Ge.keep g2 b2; have b3 := Ge.keep g2 b3; have R1 := R1.ge g2; obtain ⟨r0, p0, f0⟩ := R1 0 (by omega); obtain ⟨r1, p1, f1⟩ := R1 1 (by omega); obtain ⟨r2, p2, f2⟩ := R1 2 (by omega); obtain ⟨r3, p3, f3⟩ := R1 3 (by omega); have z1 := Nat.lt_of_lt_of_le z1 g2.size) | ((go_at_call 75; ((with_reducible refine (HWac.out _ gw1).mono ?_); rintro r w2 ⟨rfl, g2⟩)); have gw1 := Ge.trans gw1 g2; have b0 := Ge.keep g2 b0; have b1 := Ge.keep g2 b1; have b2 := Ge.keep g2 b2; have b3 := Ge.keep g2 b3; have R1 := R1.ge g2; obtain ⟨r0, p0, f0⟩ := R1 0 (by omega); obtain ⟨r1, p1, f1⟩ := R1 1 (by omega); obtain ⟨r2, p2, f2⟩ := R1 2 (by omega); obtain ⟨r3, p3, f3⟩ := R1 3 (by omega); have z1 := Nat.lt_of_lt_of_le z1 g2.size))
        exact bodyPost_ret (v := .tuple #[.agg #[.int .i64 0, .int .i64 0, .int .i64 0, .slice none 0 0], .bool false]) (by simp [results, Tryz.results39, go_sem, *]) rfl (HT.out _ (kge))
      · have t2 : decide (c ≤ b) = false := by simpa using h2
        by_cases h3 : (n : Int) ≤ c
        · have t3 : decide ((n : Int) ≤ c) = true := by simpa using h3
          go_enter Tryz.func39, Tryz.ntmps39
          go_wp2_with (first | ((go_at_call 43; ((with_reducible refine (HNo.out _ (kge)).mono ?_); rintro r w1 ⟨rfl, g1⟩)); have NB1 := NB0.ge g1; have R1 := R0.ge g1; have gw1 : Ge w w1 := (kge); obtain ⟨b0, b1, b2, b3⟩ := NB1; obtain ⟨r0, p0, f0⟩ := R1 0 (by omega); obtain ⟨r1, p1, f1⟩ := R1 1 (by omega); obtain ⟨r2, p2, f2⟩ := R1 2 (by omega); obtain ⟨r3, p3, f3⟩ := R1 3 (by omega); have z1 := Nat.lt_of_lt_of_le zR g1.size) | ((go_at_call 75; ((with_reducible refine (HWab.out _ gw1).mono ?_); rintro r w2 ⟨rfl, g2⟩)); have gw1 := Ge.trans gw1 g2; have b0 := Ge.keep g2 b0; have b1 := Ge.keep g2 b1; have b2 := Ge.keep g2 b2; have b3 := Ge.keep g2 b3; have R1 := R1.ge g2; obtain ⟨r0, p0, f0⟩ := R1 0 (by omega); obtain ⟨r1, p1, f1⟩ := R1 1 (by omega); obtain ⟨r2, p2, f2⟩ := R1 2 (by omega); obtain ⟨r3, p3, f3⟩ := R1 3 (by omega); have z1 := Nat.lt_of_lt_of_le z1 g2.size) | ((go_at_call 75; ((with_reducible refine (HWbc.out _ gw1).mono ?_); rintro r w2 ⟨rfl, g2⟩)); have gw1 := Ge.trans gw1 g2; have b0 := Ge.keep g2 b0; have b1 := Ge.keep g2 b1; have b2 := Ge.keep g2 b2; have b3 := Ge.keep g2 b3; have R1 := R1.ge g2; obtain ⟨r0, p0, f0⟩ := R1 0 (by omega); obtain ⟨r1, p1, f1⟩ := R1 1 (by omega); obtain ⟨r2, p2, f2⟩ := R1 2 (by omega); obtain ⟨r3, p3, f3⟩ := R1 3 (by omega); have z1 := Nat.lt_of_lt_of_le z1 g2.size) | ((go_at_call 75; ((with_reducible refine (HWac.out _ gw1).mono ?_); rintro r w2 ⟨rfl, g2⟩)); have gw1 := Ge.trans gw1 g2; have b0 := Ge.keep g2 b0; have b1 := Ge.keep g2 b1; have b2 := Ge.keep g2 b2; have b3 := Ge.keep g2 b3; have R1 := R1.ge g2; obtain ⟨r0, p0, f0⟩ := R1 0 (by omega); obtain ⟨r1, p1, f1⟩ := R1 1 (by omega); obtain ⟨r2, p2, f2⟩ := R1 2 (by omega); obtain ⟨r3, p3, f3⟩ := R1 3 (by omega); have z1 := Nat.lt_of_lt_of_le z1 g2.size))
          exact bodyPost_ret (v := .tuple #[.agg #[.int .i64 0, .int .i64 0, .int .i64 0, .slice none 0 0], .bool false]) (by simp [results, Tryz.results39, go_sem, *]) rfl (HT.out _ (kge))
        · have t3 : decide ((n : Int) ≤ c) = false := by simpa using h3
          by_cases h4 : (n : Int) = 5
          · have t4 : ((n : Int) == 5) = true := by simpa using h4
            have t5b : (n == 5) = true := by simp; omega
            have t5c : decide (n = 5) = true := by simp; omega
            clear h4
            go_enter Tryz.func39, Tryz.ntmps39
            go_wp2_with (first | ((go_at_call 43; ((with_reducible refine (HNo.out _ (kge)).mono ?_); rintro r w1 ⟨rfl, g1⟩)); have NB1 := NB0.ge g1; have R1 := R0.ge g1; have gw1 : Ge w w1 := (kge); obtain ⟨b0, b1, b2, b3⟩ := NB1; obtain ⟨r0, p0, f0⟩ := R1 0 (by omega); obtain ⟨r1, p1, f1⟩ := R1 1 (by omega); obtain ⟨r2, p2, f2⟩ := R1 2 (by omega); obtain ⟨r3, p3, f3⟩ := R1 3 (by omega); have z1 := Nat.lt_of_lt_of_le zR g1.size) | ((go_at_call 75; ((with_reducible refine (HWab.out _ gw1).mono ?_); rintro r w2 ⟨rfl, g2⟩)); have gw1 := Ge.trans gw1 g2; have b0 := Ge.keep g2 b0; have b1 := Ge.keep g2 b1; have b2 := Ge.keep g2 b2; have b3 := Ge.keep g2 b3; have R1 := R1.ge g2; obtain ⟨r0, p0, f0⟩ := R1 0 (by omega); obtain ⟨r1, p1, f1⟩ := R1 1 (by omega); obtain ⟨r2, p2, f2⟩ := R1 2 (by omega); obtain ⟨r3, p3, f3⟩ := R1 3 (by omega); have z1 := Nat.lt_of_lt_of_le z1 g2.size) | ((go_at_call 75; ((with_reducible refine (HWbc.out _ gw1).mono ?_); rintro r w2 ⟨rfl, g2⟩)); have gw1 := Ge.trans gw1 g2; have b0 := Ge.keep g2 b0; have b1 := Ge.keep g2 b1; have b2 := Ge.keep g2 b2; have b3 := Ge.keep g2 b3; have R1 := R1.ge g2; obtain ⟨r0, p0, f0⟩ := R1 0 (by omega); obtain ⟨r1, p1, f1⟩ := R1 1 (by omega); obtain ⟨r2, p2, f2⟩ := R1 2 (by omega); obtain ⟨r3, p3, f3⟩ := R1 3 (by omega); have z1 := Nat.lt_of_lt_of_le z1 g2.size) | ((go_at_call 75; ((with_reducible refine (HWac.out _ gw1).mono ?_); rintro r w2 ⟨rfl, g2⟩)); have gw1 := Ge.trans gw1 g2; have b0 := Ge.keep g2 b0; have b1 := Ge.keep g2 b1; have b2 := Ge.keep g2 b2; have b3 := Ge.keep g2 b3; have R1 := R1.ge g2; obtain ⟨r0, p0, f0⟩ := R1 0 (by omega); obtain ⟨r1, p1, f1⟩ := R1 1 (by omega); obtain ⟨r2, p2, f2⟩ := R1 2 (by omega); obtain ⟨r3, p3, f3⟩ := R1 3 (by omega); have z1 := Nat.lt_of_lt_of_le z1 g2.size))
            exact bodyPost_ret (v := .tuple #[.agg #[.int .i64 0, .int .i64 0, .int .i64 0, .slice none 0 0], .bool false]) (by simp [results, Tryz.results39, go_sem, *]) rfl (HT.out _ (kge))
          · have t4 : ((n : Int) == 5) = false := by simpa using h4
            have t5b : (n == 5) = false := by simp; omega
            have t5c : decide (n = 5) = false := by simp; omega
            by_cases h5 : X = 0
            · have t5 : (X == 0) = true := by simpa using h5
              go_enter Tryz.func39, Tryz.ntmps39
              go_wp2_with (first | ((go_at_call 43; ((with_reducible refine (HNo.out _ (kge)).mono ?_); rintro r w1 ⟨rfl, g1⟩)); have NB1 := NB0.ge g1; have R1 := R0.ge g1; have gw1 : Ge w w1 := (kge); obtain ⟨b0, b1, b2, b3⟩ := NB1; obtain ⟨r0, p0, f0⟩ := R1 0 (by omega); obtain ⟨r1, p1, f1⟩ := R1 1 (by omega); obtain ⟨r2, p2, f2⟩ := R1 2 (by omega); obtain ⟨r3, p3, f3⟩ := R1 3 (by omega); have z1 := Nat.lt_of_lt_of_le zR g1.size) | ((go_at_call 75; ((with_reducible refine (HWab.out _ gw1).mono ?_); rintro r w2 ⟨rfl, g2⟩)); have gw1 := Ge.trans gw1 g2; have b0 := Ge.keep g2 b0; have b1 := Ge.keep g2 b1; have b2 := Ge.keep g2 b2; have b3 := Ge.keep g2 b3; have R1 := R1.ge g2; obtain ⟨r0, p0, f0⟩ := R1 0 (by omega); obtain ⟨r1, p1, f1⟩ := R1 1 (by omega); obtain ⟨r2, p2, f2⟩ := R1 2 (by omega); obtain ⟨r3, p3, f3⟩ := R1 3 (by omega); have z1 := Nat.lt_of_lt_of_le z1 g2.size) | ((go_at_call 75; ((with_reducible refine (HWbc.out _ gw1).mono ?_); rintro r w2 ⟨rfl, g2⟩)); have gw1 := Ge.trans gw1 g2; have b0 := Ge.keep g2 b0; have b1 := Ge.keep g2 b1; have b2 := Ge.keep g2 b2; have b3 := Ge.keep g2 b3; have R1 := R1.ge g2; obtain ⟨r0, p0, f0⟩ := R1 0 (by omega); obtain ⟨r1, p1, f1⟩ := R1 1 (by omega); obtain ⟨r2, p2, f2⟩ := R1 2 (by omega); obtain ⟨r3, p3, f3⟩ := R1 3 (by omega); have z1 := Nat.lt_of_lt_of_le z1 g2.size) | ((go_at_call 75; ((with_reducible refine (HWac.out _ gw1).mono ?_); rintro r w2 ⟨rfl, g2⟩)); have gw1 := Ge.trans gw1 g2; have b0 := Ge.keep g2 b0; have b1 := Ge.keep g2 b1; have b2 := Ge.keep g2 b2; have b3 := Ge.keep g2 b3; have R1 := R1.ge g2; obtain ⟨r0, p0, f0⟩ := R1 0 (by omega); obtain ⟨r1, p1, f1⟩ := R1 1 (by omega); obtain ⟨r2, p2, f2⟩ := R1 2 (by omega); obtain ⟨r3, p3, f3⟩ := R1 3 (by omega); have z1 := Nat.lt_of_lt_of_le z1 g2.size))
              exact bodyPost_ret (v := .tuple #[.agg #[.int .i64 0, .int .i64 0, .int .i64 0, .slice none 0 0], .bool false]) (by simp [results, Tryz.results39, go_sem, *]) rfl (HT.out _ (kge))
            · have t5 : (X == 0) = false := by simpa using h5
              by_cases h6 : Y = 0
              · have t6 : (Y == 0) = true := by simpa using h6
                go_enter Tryz.func39, Tryz.ntmps39
                go_wp2_with (first | ((go_at_call 43; ((with_reducible refine (HNo.out _ (kge)).mono ?_); rintro r w1 ⟨rfl, g1⟩)); have NB1 := NB0.ge g1; have R1 := R0.ge g1; have gw1 : Ge w w1 := (kge); obtain ⟨b0, b1, b2, b3⟩ := NB1; obtain ⟨r0, p0, f0⟩ := R1 0 (by omega); obtain ⟨r1, p1, f1⟩ := R1 1 (by omega); obtain ⟨r2, p2, f2⟩ := R1 2 (by omega); obtain ⟨r3, p3, f3⟩ := R1 3 (by omega); have z1 := Nat.lt_of_lt_of_le zR g1.size) | ((go_at_call 75; ((with_reducible refine (HWab.out _ gw1).mono ?_); rintro r w2 ⟨rfl, g2⟩)); have gw1 := Ge.trans gw1 g2; have b0 := Ge.keep g2 b0; have b1 := Ge.keep g2 b1; have b2 := Ge.keep g2 b2; have b3 := Ge.keep g2 b3; have R1 := R1.ge g2; obtain ⟨r0, p0, f0⟩ := R1 0 (by omega); obtain ⟨r1, p1, f1⟩ := R1 1 (by omega); obtain ⟨r2, p2, f2⟩ := R1 2 (by omega); obtain ⟨r3, p3, f3⟩ := R1 3 (by omega); have z1 := Nat.lt_of_lt_of_le z1 g2.size) | ((go_at_call 75; ((with_reducible refine (HWbc.out _ gw1).mono ?_); rintro r w2 ⟨rfl, g2⟩)); have gw1 := Ge.trans gw1 g2; have b0 := Ge.keep g2 b0; have b1 := Ge.keep g2 b1; have b2 := Ge.keep g2 b2; have b3 := Ge.keep g2 b3; have R1 := R1.ge g2; obtain ⟨r0, p0, f0⟩ := R1 0 (by omega); obtain ⟨r1, p1, f1⟩ := R1 1 (by omega); obtain ⟨r2, p2, f2⟩ := R1 2 (by omega); obtain ⟨r3, p3, f3⟩ := R1 3 (by omega); have z1 := Nat.lt_of_lt_of_le z1 g2.size) | ((go_at_call 75; ((with_reducible refine (HWac.out _ gw1).mono ?_); rintro r w2 ⟨rfl, g2⟩)); have gw1 := Ge.trans gw1 g2; have b0 := Ge.keep g2 b0; have b1 := Ge.keep g2 b1; have b2 := Ge.keep g2 b2; have b3 := Ge.keep g2 b3; have R1 := R1.ge g2; obtain ⟨r0, p0, f0⟩ := R1 0 (by omega); obtain ⟨r1, p1, f1⟩ := R1 1 (by omega); obtain ⟨r2, p2, f2⟩ := R1 2 (by omega); obtain ⟨r3, p3, f3⟩ := R1 3 (by omega); have z1 := Nat.lt_of_lt_of_le z1 g2.size))
                exact bodyPost_ret (v := .tuple #[.agg #[.int .i64 0, .int .i64 0, .int .i64 0, .slice none 0 0], .bool false]) (by simp [results, Tryz.results39, go_sem, *]) rfl (HT.out _ (kge))
              · have t6 : (Y == 0) = false := by simpa using h6
                have tz : (Z == 0) = true := by
                  simp only [beq_iff_eq]
                  exact Classical.byContradiction fun hz => hG ⟨⟨by omega, by omega⟩, h5, h6, hz⟩
                go_enter Tryz.func39, Tryz.ntmps39
                go_wp2_with (first | ((go_at_call 43; ((with_reducible refine (HNo.out _ (kge)).mono ?_); rintro r w1 ⟨rfl, g1⟩)); have NB1 := NB0.ge g1; have R1 := R0.ge g1; have gw1 : Ge w w1 := (kge); obtain ⟨b0, b1, b2, b3⟩ := NB1; obtain ⟨r0, p0, f0⟩ := R1 0 (by omega); obtain ⟨r1, p1, f1⟩ := R1 1 (by omega); obtain ⟨r2, p2, f2⟩ := R1 2 (by omega); obtain ⟨r3, p3, f3⟩ := R1 3 (by omega); have z1 := Nat.lt_of_lt_of_le zR g1.size) | ((go_at_call 75; ((with_reducible refine (HWab.out _ gw1).mono ?_); rintro r w2 ⟨rfl, g2⟩)); have gw1 := Ge.trans gw1 g2; have b0 := Ge.keep g2 b0; have b1 := Ge.keep g2 b1; have b2 := Ge.keep g2 b2; have b3 := Ge.keep g2 b3; have R1 := R1.ge g2; obtain ⟨r0, p0, f0⟩ := R1 0 (by omega); obtain ⟨r1, p1, f1⟩ := R1 1 (by omega); obtain ⟨r2, p2, f2⟩ := R1 2 (by omega); obtain ⟨r3, p3, f3⟩ := R1 3 (by omega); have z1 := Nat.lt_of_lt_of_le z1 g2.size) | ((go_at_call 75; ((with_reducible refine (HWbc.out _ gw1).mono ?_); rintro r w2 ⟨rfl, g2⟩)); have gw1 := Ge.trans gw1 g2; have b0 := Ge.keep g2 b0; have b1 := Ge.keep g2 b1; have b2 := Ge.keep g2 b2; have b3 := Ge.keep g2 b3; have R1 := R1.ge g2; obtain ⟨r0, p0, f0⟩ := R1 0 (by omega); obtain ⟨r1, p1, f1⟩ := R1 1 (by omega); obtain ⟨r2, p2, f2⟩ := R1 2 (by omega); obtain ⟨r3, p3, f3⟩ := R1 3 (by omega); have z1 := Nat.lt_of_lt_of_le z1 g2.size) | ((go_at_call 75; ((with_reducible refine (HWac.out _ gw1).mono ?_); rintro r w2 ⟨rfl, g2⟩)); have gw1 := Ge.trans gw1 g2; have b0 := Ge.keep g2 b0; have b1 := Ge.keep g2 b1; have b2 := Ge.keep g2 b2; have b3 := Ge.keep g2 b3; have R1 := R1.ge g2; obtain ⟨r0, p0, f0⟩ := R1 0 (by omega); obtain ⟨r1, p1, f1⟩ := R1 1 (by omega); obtain ⟨r2, p2, f2⟩ := R1 2 (by omega); obtain ⟨r3, p3, f3⟩ := R1 3 (by omega); have z1 := Nat.lt_of_lt_of_le z1 g2.size))
                exact bodyPost_ret (v := .tuple #[.agg #[.int .i64 0, .int .i64 0, .int .i64 0, .slice none 0 0], .bool false]) (by simp [results, Tryz.results39, go_sem, *]) rfl (HT.out _ (kge))

end Go.Proofs.YtagiecajffhnpaaGreat
