/- l03Draw and MakeNet of the reference: what they make is a network as PlDraw tells. No condition. -/
import Derived.Test.YtipiiimemmkdgaaWNetAt
import Derived.Test.YtipiiimemmkdgaaPlDraw
import Derived.Test.YtipiiimemmkdgaaWTail
import Derived.Test.YtipiiimemmkdgaaWCur
namespace Go.Proofs.Ytipiiimemmkdgaa
set_option maxRecDepth 100000
open Go.ChangeShapes Go.WideShapes Go.ChangeAt Go.RowKit Go.Joins

theorem CurD.mine {w w' : World} {g : Nat} {v : Value} (h : Cur w g) (hm : Mine w w' v) (hne : ∀ k, v.ownBlock = some k → g < k) : Cur w' g := by
  obtain ⟨p, n, cap, i, z, c, c0, c1, c2, f0, f1, f2, i0, i1, n1, hb, hcg, hg⟩ := h
  have lg := World.block_lt_of_cell? w _ c0
  have hno : ∀ k, v.ownBlock = some k → g ≠ k := fun k hk => by have := hne k hk; omega
  have hf : ∀ i, w'.frozen? ⟨g, i, none⟩ = w.frozen? ⟨g, i, none⟩ := fun i => by
    have hbk := hm.block g lg (fun e => hno g e.symm rfl)
    unfold World.frozen?
    simp only [hbk]
  exact Cur.mk i hb hcg i0 i1 n1 (mine_cell hm c2 hno) (mine_cell hm c0 hno) (mine_cell hm c1 hno) ((hf 0).trans f0) ((hf 1).trans f1) ((hf 2).trans f2) (hg.grown hm (fun k hk => by have := hne k hk; omega))
theorem CurD.ge {w w' : World} {g : Nat} (h : Cur w g) (hg : Ge w w') : Cur w' g := by
  have hm : Mine w w' (.slice none 0 0) := ⟨hg.os, hg.tape, hg.output, hg.size, fun k hk _ => hg.below.block k hk⟩
  exact CurD.mine h hm (fun k hk => by simp [Value.ownBlock] at hk)
theorem CurD.set {w : World} {g b i : Nat} {x : Value} (h : Cur w g) (hb : g < b) : Cur (w.setCell ⟨b, i, none⟩ x) g := by
  obtain ⟨p, n, cap, j, z, c, c0, c1, c2, f0, f1, f2, i0, i1, n1, hB, hcg, hg⟩ := h
  have ne : ∀ j : Nat, (⟨b, i, none⟩ : Addr) ≠ ⟨g, j, none⟩ := fun j e => by have := congrArg Addr.block e; simp at this; omega
  exact Cur.mk j hB hcg i0 i1 n1 (cell_set2 (ne 2) c2) (cell_set2 (ne 0) c0) (cell_set2 (ne 1) c1) (froz_set f0) (froz_set f1) (froz_set f2) (hg.setCell (by show c.heap.size ≤ b; omega) _)
theorem Drew.cur {a b : World} {g : Nat} (h : Drew a b g) : Cur b g := h.1
theorem Drew.geN {a b c : World} {g : Nat} (h : Drew a b g) (hg : Ge b c) : Drew a c g :=
  ⟨CurD.ge h.1 hg, grown_trans h.2 ⟨hg.os, hg.tape, hg.output, hg.size, fun k hk _ => hg.below.block k hk⟩⟩
theorem Drew.setN {a b : World} {g k i : Nat} {x : Value} (h : Drew a b g) (hk : a.heap.size ≤ k) (hg : g < k) : Drew a (b.setCell ⟨k, i, none⟩ x) g :=
  ⟨CurD.set h.1 hg, ⟨h.2.os, h.2.tape, h.2.output, by simpa using h.2.size, fun j hj hne => by
    rw [← h.2.block j hj hne]
    exact Below.heap_setCell b ⟨k, i, none⟩ x j (fun e => by simp at e; omega)⟩⟩
theorem Drew.self {a : World} {g : Nat} (h : Cur a g) : Drew a a g := ⟨h, ⟨rfl, rfl, rfl, Nat.le_refl _, fun _ _ _ => rfl⟩⟩
theorem Drew.cellN {a b : World} {g : Nat} (h : Drew a b g) {c : Addr} {v : Value} (hc : a.cell? c = some v) (hne : c.block ≠ g) : b.cell? c = some v :=
  World.grownBy.cell h.2 hc (fun e => hne (by simpa using e))
theorem Drew.frozN {a b : World} {g : Nat} (h : Drew a b g) {c : Addr} {v : Value} (hc : a.cell? c = some v) (hne : c.block ≠ g) (hf : a.frozen? c = false) : b.frozen? c = false := by
  rw [World.frozen?_of_block (World.grownBy.block h.2 c.block (World.block_lt_of_cell? _ _ hc) (fun e => hne (by simpa using e)))]
  exact hf
theorem Drew.ownsN {a b : World} {g : Nat} (h : Drew a b g) {base e sz n : Nat} {v : Value} {xs : List Value} (ho : a.ownsRow base e sz v n xs) (hb : g < base) : b.ownsRow base e sz v n xs := by
  refine ho.kept h.2 ?_
  cases hv : v.ownBlock with
  | none => exact .inl rfl
  | some k =>
    right
    intro e'
    have := (ho.lt k hv).1
    simp at e'
    omega
theorem NetAt.drew {w w' : World} {R G n g : Nat} {E S : Int} {v : Value} {l : List Wr} (h : NetAt w R G n E S v l) (hd : Drew w w' g) (hR : g < R) (hG : g < G) : NetAt w' R G n E S v l :=
  have k : ∀ i : Nat, (⟨G, i, none⟩ : Addr).block ≠ g := fun i => by show G ≠ g; omega
  ⟨hd.cellN h.c0 (k 0), hd.cellN h.c1 (k 1), hd.cellN h.c2 (k 2), hd.cellN h.c3 (k 3), hd.frozN h.c3 (k 3) h.f3, hd.ownsN h.own (by omega), fun i hi => by
    obtain ⟨u, h1, h2⟩ := h.res i hi
    have kr : (⟨R, i, none⟩ : Addr).block ≠ g := by show R ≠ g; omega
    exact ⟨u, hd.cellN h1 kr, hd.frozN h1 kr h2⟩⟩
/-- What l03Draw gives. -/
def GivesD (w : World) (g : Nat) (most : Int) (e : Ending) (w' : World) : Prop :=
  ∃ (n : Nat) (E S : Int) (l : List Wr) (s : Value), e = .returned (.agg #[.int .i64 (n : Int), .int .i64 E, .int .i64 S, s]) ∧ w'.ownsRow w.heap.size 49 3 s l.length (icells (flatW l)) ∧ Dwn n n l ∧ 2 ≤ n ∧ (n : Int) ≤ most ∧ (2 ≤ E ∧ E ≤ n) ∧ (1 ≤ S ∧ S ≤ 3) ∧ Drew w w' g
theorem dwn_len {n c : Nat} {l : List Wr} (h : Dwn n c l) (hn : n ≤ 5) : l.length ≤ 10 := prs_len (N := n) (by omega) (dwn_good h)
theorem addS_small {A B x : Int} (hx : 1 ≤ x ∧ x ≤ 6) (l : List Wr) : -9000000000000000000 ≤ addS false A B x l ∧ addS false A B x l ≤ 9000000000000000000 := by
  have : addS false A B x l = x := by unfold addS; simp
  omega

theorem ResD.drew {w w' : World} {R g : Nat} (h : ResD w R) (hd : Drew w w' g) (hR : g < R) : ResD w' R := fun i hi => by
  obtain ⟨u, h1, h2⟩ := h i hi
  have kr : (⟨R, i, none⟩ : Addr).block ≠ g := by show R ≠ g; omega
  exact ⟨u, hd.cellN h1 kr, hd.frozN h1 kr h2⟩
/-- Behind the ends' number. -/
def CutD (w wx : World) (g R G n : Nat) (S : Int) : Prop := ∃ E : Int, (2 ≤ E ∧ E ≤ n) ∧ NetAt wx R G n E S (.slice none 0 0) [] ∧ Drew w wx g
set_option maxHeartbeats 6400000 in
theorem sL03Draw (g : Nat) (most : Int) (w : World) (hc : Cur w g) (h1 : 2 ≤ most) (h2 : most ≤ 5) : Calls Try.prog 18 #[.pointer (some ⟨g, 0, none⟩), .int .i64 most] w (GivesD w g most) := by
  have lg : g < w.heap.size := by obtain ⟨_, _, _, _, _, _, c0, _⟩ := hc; exact World.block_lt_of_cell? _ _ c0
  have HD0 := Lib.hid (Drew.geN (Drew.self hc) (Ge.alloc (Ge.refl w) (.cells #[.int .i64 0, .int .i64 0, .int .i64 0, .slice none 0 0] 25)))
  have RS0 := Lib.hid (ResD.new w (.int .i64 0) (.int .i64 0) (.int .i64 0) (.slice none 0 0) 25)
  have zw : w.heap.size < (w.alloc (.cells #[.int .i64 0, .int .i64 0, .int .i64 0, .slice none 0 0] 25)).heap.size := by simp
  clear hc
  go_enter Try.func18, Try.ntmps18
  go_upto_if 22 with (first
    | ((go_at_call 19; ((with_reducible refine (sL01Below _ _ _ HD0.out.cur (by omega) (by omega)).mono ?_); rintro e w1 ⟨x, rfl, x0, x1, hd1⟩)); have HD1 := Lib.hid (HD0.out.trans hd1); have RS1 := Lib.hid (RS0.out.drew hd1 lg); have zw1 := Nat.lt_of_lt_of_le zw (World.grownBy.size hd1.2); clear hd1 HD0 RS0 zw)
    | ((go_at_call 19; ((with_reducible refine (sL01Below _ _ _ HD1.out.cur (by omega) (by omega)).mono ?_); rintro e w2 ⟨y, rfl, y0, y1, hd2⟩)); have HD2 := Lib.hid (HD1.out.trans hd2); have RS2 := Lib.hid (RS1.out.drew hd2 lg); have zw2 := Nat.lt_of_lt_of_le zw1 (World.grownBy.size hd2.2); clear hd2 HD1 RS1 zw1))
  generalize hN : 2 + x = N at *
  generalize hS : 1 + y = S at *
  obtain ⟨n, rfl⟩ : ∃ n : Nat, N = (n : Int) := ⟨N.toNat, by omega⟩
  have n2 : 2 ≤ n := by omega
  have nm : (n : Int) ≤ most := by omega
  have hS3 : 1 ≤ S ∧ S ≤ 3 := by omega
  have n5 : n ≤ 5 := by omega
  clear hN hS x0 x1 y0 y1
  obtain ⟨G, hG⟩ : ∃ G, w2.heap.size = G := ⟨_, rfl⟩
  have NA := Lib.hid (NetAt.start (n := n) (E := 2) (S := S) RS2.out)
  have HDa := Lib.hid (Drew.geN HD2.out (Ge.alloc (Ge.refl w2) (.cells #[.int .i64 (n : Int), .int .i64 2, .int .i64 S, .slice none 0 0] 25)))
  have F1 : Hid ((w2.alloc (.cells #[.int .i64 (n : Int), .int .i64 2, .int .i64 S, .slice none 0 0] 25)).frozen? ⟨w2.heap.size, 1, none⟩ = false) := froz_new rfl (v := .int .i64 2) rfl
  have lG : g < w2.heap.size := by omega
  clear hG G HD2 RS2
  go_cut [5] (fun q wx => q = .pointer (some ⟨w2.heap.size, 0, none⟩) ∧ CutD w wx g w.heap.size w2.heap.size n S)
  case first =>
    by_cases hn : (2 : Int) < n
    · have t1 : decide ((2 : Int) < n) = true := by simp [hn]
      go_wp2_with ((go_at_call 19; ((with_reducible refine (sL01Below _ _ _ HDa.out.cur (by omega) (by omega)).mono ?_); rintro e w3 ⟨z, rfl, z0, z1, hd3⟩)); have HD3 := Lib.hid (HDa.out.trans hd3); have NA3 := Lib.hid (NA.out.drew hd3 lg lG); have f1 := hd3.frozN NA.out.c1 (by show w2.heap.size ≠ g; omega) F1.out; have a1 := NA3.out.c1)
      go_meet
      exact ⟨rfl, 2 + z, by omega, NA3.out.setE zw2, HD3.out.setN (by omega) (by omega)⟩
    · have t1 : decide ((2 : Int) < n) = false := by simp; omega
      go_wp2_with fail
      go_meet
      exact ⟨rfl, 2, by omega, NA.out, HDa.out⟩
  obtain ⟨rfl, E, hE, hNA, hDD⟩ := hcut
  have NAc := Lib.hid hNA
  have HDc := Lib.hid hDD
  generalize w2.heap.size = G at *
  clear hNA hDD NA HDa F1
  go_wp2_with fail
  go_loopw [6] (fun cv wr => ∃ (c : Nat) (u : Value) (l : List Wr), cv = .int .i64 c ∧ 1 ≤ c ∧ c ≤ n ∧ Hid (Dwn n c l) ∧ Hid (NetAt wr w.heap.size G n E S u l) ∧ Hid (Drew w wr g)) (fun cv _ => n - (intOf cv).toNat)
  case atStart => exact ⟨1, _, [], rfl, by omega, by omega, Dwn.nil n, NAc.out, HDc.out⟩
  case round =>
    obtain ⟨c, u, l, rfl, hc1, hcn, HDw, HN, HDr⟩ := hrel
    have a0 := HN.out.c0
    by_cases hlt : c < n
    · have hll := Lib.hid (dwn_len HDw.out n5)
      have HNd := Lib.hid (HN.out.ge (Ge.drew (Ge.refl wr)))
      have HDd := Lib.hid (Drew.geN HDr.out (Ge.drew (Ge.refl wr)))
      go_wp2_with fail
      refine wp_region_head (S := fun w' => w'.cell? ⟨G, 3, none⟩ = some u) 11 (by kernel_rfl) (by kernel_rfl) (HNd.out.c3) (fun hHeld => ?_)
      refine head_take 0 (v := ?_) rfl (by kernel_rfl) (by kernel_rfl) (fun _ _ _ h => h) (by assumption) (yields_if (by rfl) ?_) ?_
      rotate_left
      focus (intro w' hSw; (try dsimp only at hSw); go_simp; (try with_reducible rfl))
      (try simp only [Act.put, List.setIfInBounds_toArray, List.set_cons_zero, List.set_cons_succ])
      refine head_take 1 (v := ?_) rfl (by kernel_rfl) (by kernel_rfl) (fun _ _ _ h => h) (by assumption) (yields_if (by rfl) ?_) ?_
      rotate_left
      focus (intro w' hSw; (try dsimp only at hSw); go_simp; (try with_reducible rfl))
      (try simp only [Act.put, List.setIfInBounds_toArray, List.set_cons_zero, List.set_cons_succ])
      refine head_take 2 (v := ?_) rfl (by kernel_rfl) (by kernel_rfl) (fun _ _ _ h => h) (by assumption) (yields_if (by rfl) ?_) ?_
      rotate_left
      focus (intro w' hSw; (try dsimp only at hSw); go_simp; (try with_reducible rfl))
      (try simp only [Act.put, List.setIfInBounds_toArray, List.set_cons_zero, List.set_cons_succ])
      refine head_take 3 (v := ?_) rfl (by kernel_rfl) (by kernel_rfl) (fun _ _ _ h => h) (by assumption) (yields_if (by rfl) ?_) ?_
      rotate_left
      focus (intro w' hSw; (try dsimp only at hSw); go_simp; (try with_reducible rfl))
      (try simp only [Act.put, List.setIfInBounds_toArray, List.set_cons_zero, List.set_cons_succ])
      refine head_take 5 (v := ?_) rfl (by kernel_rfl) (by kernel_rfl) (fun _ _ _ h => h) (by assumption) (yields_if (by rfl) ?_) ?_
      rotate_left
      focus (intro w' hSw; (try dsimp only at hSw); go_simp; (try with_reducible rfl))
      (try simp only [Act.put, List.setIfInBounds_toArray, List.set_cons_zero, List.set_cons_succ])
      refine head_take 6 (v := ?_) rfl (by kernel_rfl) (by kernel_rfl) (fun _ _ _ h => h) (by assumption) (yields_if (by rfl) ?_) ?_
      rotate_left
      focus (intro w' hSw; (try dsimp only at hSw); go_simp; (try with_reducible rfl))
      (try simp only [Act.put, List.setIfInBounds_toArray, List.set_cons_zero, List.set_cons_succ])
      refine head_one 4 rfl (by kernel_rfl) (fun K hK => ?_)
      go_simp
      (go_at_call 19; ((with_reducible refine (sL01Below _ _ _ HDd.out.cur (by omega) (by omega)).mono ?_); rintro e w4 ⟨x, rfl, x0, x1, hd4⟩))
      have HN4 := Lib.hid (HNd.out.drew hd4 lg lG)
      have HD4 := Lib.hid (HDd.out.trans hd4)
      clear hd4
      refine hK.out _ _ HN4.out.c3 (fun hHeld => ?_)
      clear hK K
      (try simp only [Act.put, List.setIfInBounds_toArray, List.set_cons_zero, List.set_cons_succ])
      refine head_one 7 rfl (by kernel_rfl) (fun K hK => ?_)
      go_simp
      (go_at_call 19; ((with_reducible refine (sL01Below _ _ _ HD4.out.cur (by omega) (by omega)).mono ?_); rintro e w5 ⟨y, rfl, y0, y1, hd5⟩))
      have HN5 := Lib.hid (HN4.out.drew hd5 lg lG)
      have HD5 := Lib.hid (HD4.out.trans hd5)
      have zG := World.block_lt_of_cell? _ _ HN5.out.c3
      clear hd5
      refine hK.out _ _ HN5.out.c3 (fun hHeld => ?_)
      clear hK K
      (try simp only [Act.put, List.setIfInBounds_toArray, List.set_cons_zero, List.set_cons_succ])
      have tw : IntKind.i64.wrap (1 + y) = 1 + y := IntWalk.i64_in _ (by omega)
      refine head_take 8 (v := ?_) rfl (by kernel_rfl) (by kernel_rfl) (fun _ _ _ h => h) (by assumption) (yields_if (by rfl) ?_) ?_
      rotate_left
      focus (intro w' hSw; (try dsimp only at hSw); go_simp; (try with_reducible rfl))
      (try simp only [Act.put, List.setIfInBounds_toArray, List.set_cons_zero, List.set_cons_succ])
      refine head_one 9 rfl (by kernel_rfl) (fun K hK => ?_)
      go_simp
      (go_at_call 31; ((with_reducible refine (sL03Put u l x c (1 + y) false _ (SlF.of_owns HN5.out.own) (by have := hll.out; omega) (fun k _ => addS_small (by omega) _)).mono ?_); rintro e w6 ⟨u6, rfl, own6, g6⟩))
      obtain ⟨p6, c6, rfl⟩ := owns_form own6
      have HN6 := Lib.hid (HN5.out.ge g6)
      have HD6 := Lib.hid (Drew.geN HD5.out g6)
      have a3 := HN6.out.c3
      have af := HN6.out.f3
      refine hK.out _ _ HN6.out.c3 (fun hHeld => ?_)
      clear hK K
      (try simp only [Act.put, List.setIfInBounds_toArray, List.set_cons_zero, List.set_cons_succ])
      refine head_take 10 (v := ?_) rfl (by kernel_rfl) (by kernel_rfl) (fun _ _ _ h => h) (by assumption) (yields_if (by rfl) ?_) ?_
      rotate_left
      focus (intro w' hSw; (try dsimp only at hSw); go_simp; (try with_reducible rfl))
      (try simp only [Act.put, List.setIfInBounds_toArray, List.set_cons_zero, List.set_cons_succ])
      refine head_done (by kernel_rfl) ?_
      go_wp2_with fail
      go_roundw
      case rel => exact ⟨c + 1, _, putW l x c (1 + y) false, by go_num, by omega, by omega, Dwn.next HDw.out (by omega) hlt (by omega), HN6.out.put zw2 (owns_mono own6 zG), HD6.out.setN (by omega) (by omega)⟩
      case measure => simp [intOf]; omega
    · have hcn2 : n = c := by omega
      subst hcn2
      go_wp2_with ((go_at_call 19; ((with_reducible refine (sL01Below _ _ _ HDr.out.cur (by omega) (by omega)).mono ?_); rintro e w7 ⟨q, rfl, q0, q1, hd7⟩)); have HN7 := Lib.hid (HN.out.drew hd7 lg lG); have HD7 := Lib.hid (HDr.out.trans hd7); clear hd7 HN HDr)
      obtain ⟨q', rfl⟩ : ∃ q' : Nat, q = (q' : Int) := ⟨q.toNat, by omega⟩
      clear a0
      obtain ⟨wo, hwo⟩ : ∃ wo : World, wo = wr := ⟨_, rfl⟩
      clear hwo
      go_loopw [7] (fun kv wr => ∃ (c : Nat) (u : Value) (l : List Wr), kv = .int .i64 c ∧ c ≤ 4 ∧ Hid (Dwn n n l) ∧ Hid (NetAt wr w.heap.size G n E S u l) ∧ Hid (Drew w wr g)) (fun kv _ => (intOf kv).toNat)
      case atStart => exact ⟨q', _, l, rfl, by omega, HDw.out, HN7.out, HD7.out⟩
      case round =>
        clear HN7 HD7 HDw
        obtain ⟨c, u, l, rfl, hc4, HDw, HN, HDr⟩ := hrel
        have a0 := HN.out.c0
        by_cases hlt : 0 < c
        · have hll := Lib.hid (dwn_len HDw.out n5)
          go_upto_if 63 with (first
            | ((go_at_call 19; ((with_reducible refine (sL01Below _ _ _ HDr.out.cur (by omega) (by omega)).mono ?_); rintro e w8 ⟨x, rfl, x0, x1, hd8⟩)); have HN8 := Lib.hid (HN.out.drew hd8 lg lG); have HD8 := Lib.hid (HDr.out.trans hd8); have b0 := HN8.out.c0; clear hd8 HN HDr)
            | ((go_at_call 19; ((with_reducible refine (sL01Below _ _ _ HD8.out.cur (by omega) (by omega)).mono ?_); rintro e w9 ⟨y, rfl, y0, y1, hd9⟩)); have HN9 := Lib.hid (HN8.out.drew hd9 lg lG); have HD9 := Lib.hid (HD8.out.trans hd9); clear hd9 HN8 HD8))
          by_cases hxy : x = y
          · have t1 : (x != y) = false := by simp [hxy]
            go_wp2_with fail
            go_roundw
            case rel => exact ⟨c - 1, u, l, by go_num, by omega, HDw.out, HN9.out, HD9.out⟩
            case measure => simp [intOf]; omega
          · have t1 : (x != y) = true := by simp [hxy]
            have HNd := Lib.hid (HN9.out.ge (Ge.drew (Ge.refl w9)))
            have HDd := Lib.hid (Drew.geN HD9.out (Ge.drew (Ge.refl w9)))
            go_wp2_with fail
            refine wp_region_head (S := fun w' => w'.cell? ⟨G, 3, none⟩ = some u) 9 (by kernel_rfl) (by kernel_rfl) (HNd.out.c3) (fun hHeld => ?_)
            refine head_take 0 (v := ?_) rfl (by kernel_rfl) (by kernel_rfl) (fun _ _ _ h => h) (by assumption) (yields_if (by rfl) ?_) ?_
            rotate_left
            focus (intro w' hSw; (try dsimp only at hSw); go_simp; (try with_reducible rfl))
            (try simp only [Act.put, List.setIfInBounds_toArray, List.set_cons_zero, List.set_cons_succ])
            refine head_take 1 (v := ?_) rfl (by kernel_rfl) (by kernel_rfl) (fun _ _ _ h => h) (by assumption) (yields_if (by rfl) ?_) ?_
            rotate_left
            focus (intro w' hSw; (try dsimp only at hSw); go_simp; (try with_reducible rfl))
            (try simp only [Act.put, List.setIfInBounds_toArray, List.set_cons_zero, List.set_cons_succ])
            refine head_take 2 (v := ?_) rfl (by kernel_rfl) (by kernel_rfl) (fun _ _ _ h => h) (by assumption) (yields_if (by rfl) ?_) ?_
            rotate_left
            focus (intro w' hSw; (try dsimp only at hSw); go_simp; (try with_reducible rfl))
            (try simp only [Act.put, List.setIfInBounds_toArray, List.set_cons_zero, List.set_cons_succ])
            refine head_take 3 (v := ?_) rfl (by kernel_rfl) (by kernel_rfl) (fun _ _ _ h => h) (by assumption) (yields_if (by rfl) ?_) ?_
            rotate_left
            focus (intro w' hSw; (try dsimp only at hSw); go_simp; (try with_reducible rfl))
            (try simp only [Act.put, List.setIfInBounds_toArray, List.set_cons_zero, List.set_cons_succ])
            refine head_take 4 (v := ?_) rfl (by kernel_rfl) (by kernel_rfl) (fun _ _ _ h => h) (by assumption) (yields_if (by rfl) ?_) ?_
            rotate_left
            focus (intro w' hSw; (try dsimp only at hSw); go_simp; (try with_reducible rfl))
            (try simp only [Act.put, List.setIfInBounds_toArray, List.set_cons_zero, List.set_cons_succ])
            refine head_one 5 rfl (by kernel_rfl) (fun K hK => ?_)
            go_simp
            (go_at_call 19; ((with_reducible refine (sL01Below _ _ _ HDd.out.cur (by omega) (by omega)).mono ?_); rintro e w4 ⟨z, rfl, z0, z1, hd4⟩))
            have HN4 := Lib.hid (HNd.out.drew hd4 lg lG)
            have HD4 := Lib.hid (HDd.out.trans hd4)
            have zG := World.block_lt_of_cell? _ _ HN4.out.c3
            clear hd4
            refine hK.out _ _ HN4.out.c3 (fun hHeld => ?_)
            clear hK K
            (try simp only [Act.put, List.setIfInBounds_toArray, List.set_cons_zero, List.set_cons_succ])
            have tw : IntKind.i64.wrap (1 + z) = 1 + z := IntWalk.i64_in _ (by omega)
            refine head_take 6 (v := ?_) rfl (by kernel_rfl) (by kernel_rfl) (fun _ _ _ h => h) (by assumption) (yields_if (by rfl) ?_) ?_
            rotate_left
            focus (intro w' hSw; (try dsimp only at hSw); go_simp; (try with_reducible rfl))
            (try simp only [Act.put, List.setIfInBounds_toArray, List.set_cons_zero, List.set_cons_succ])
            refine head_one 7 rfl (by kernel_rfl) (fun K hK => ?_)
            go_simp
            (go_at_call 31; ((with_reducible refine (sL03Put u l x y (1 + z) false _ (SlF.of_owns HN4.out.own) (by have := hll.out; omega) (fun k _ => addS_small (by omega) _)).mono ?_); rintro e w6 ⟨u6, rfl, own6, g6⟩))
            obtain ⟨p6, c6, rfl⟩ := owns_form own6
            have HN6 := Lib.hid (HN4.out.ge g6)
            have HD6 := Lib.hid (Drew.geN HD4.out g6)
            have a3 := HN6.out.c3
            have af := HN6.out.f3
            refine hK.out _ _ HN6.out.c3 (fun hHeld => ?_)
            clear hK K
            (try simp only [Act.put, List.setIfInBounds_toArray, List.set_cons_zero, List.set_cons_succ])
            refine head_take 8 (v := ?_) rfl (by kernel_rfl) (by kernel_rfl) (fun _ _ _ h => h) (by assumption) (yields_if (by rfl) ?_) ?_
            rotate_left
            focus (intro w' hSw; (try dsimp only at hSw); go_simp; (try with_reducible rfl))
            (try simp only [Act.put, List.setIfInBounds_toArray, List.set_cons_zero, List.set_cons_succ])
            refine head_done (by kernel_rfl) ?_
            go_wp2_with fail
            go_roundw
            case rel => exact ⟨c - 1, _, putW l x y (1 + z) false, by go_num, by omega, Dwn.put HDw.out (by omega) (by omega) hxy (by omega), HN6.out.put zw2 (owns_mono own6 zG), HD6.out.setN (by omega) (by omega)⟩
            case measure => simp [intOf]; omega
        · have hc0 : c = 0 := by omega
          subst hc0
          obtain ⟨b0, b1, b2, b3, bf, bo, br⟩ := HN.out
          obtain ⟨r0, p0, f0⟩ := br 0 (by omega)
          obtain ⟨r1, p1, f1⟩ := br 1 (by omega)
          obtain ⟨r2, p2, f2⟩ := br 2 (by omega)
          obtain ⟨r3, p3, f3⟩ := br 3 (by omega)
          obtain ⟨pu, cu, rfl⟩ := owns_form bo
          have HO := Lib.hid bo
          clear bo br
          have zl := lg
          go_wp2_with fail
          exact bodyPost_ret (v := .agg #[.int .i64 (n : Int), .int .i64 E, .int .i64 S, .slice pu l.length cu]) (by simp [results, Try.results18, go_sem, *]) rfl
            ⟨n, E, S, l, _, rfl, by refine owns_mono (base := G + 1) ?_ (by omega); repeat (first | exact HO.out | refine own_setD ?_ (by omega)), HDw.out, n2, nm, hE, hS3, by repeat (first | exact HDr.out | refine Drew.setN ?_ (Nat.le_refl _) lg)⟩

theorem ResD.drewN {w w' : World} {R g : Nat} (h : ResD w R) (hd : Drew w w' g) (hR : R ≠ g) : ResD w' R := fun i hi => by
  obtain ⟨u, h1, h2⟩ := h i hi
  exact ⟨u, hd.cellN h1 hR, hd.frozN h1 hR h2⟩
end Go.Proofs.Ytipiiimemmkdgaa
