/- left of impl, l04Minor of the reference; TreeSum, ForestSum of both. No condition. StepChance of impl and of spec. No condition. TreeSum, ForestSum of impl and of the reference. No condition. differ, l11Ok, EscapeChance of impl and of the reference. No condition. potential of impl. No condition. HitChance of impl, by forests. No condition. FormatNet of impl and of spec. No condition. -/
import Derived.Test.YtagiecajffhnpaaGreatJAd
import Derived.Test.YtagiecajffhnpaaGreatJAa
import Derived.Test.YtagiecajffhnpaaGreatJAc
import Derived.Test.YtagiecajffhnpaaGreatJAb
import Derived.Test.YtagiecajffhnpaaGreatJAe
namespace Go.Proofs.YtagiecajffhnpaaGreat
set_option maxRecDepth 100000
open Go.ChangeShapes Go.WideShapes Go.ChangeAt Go.RowKit Go.Joins

set_option maxHeartbeats 1600000 in
theorem iLeft (n : Nat) (E S : Int) (s : Value) (m : Nat) (xs : List Int) (vr vc : Value) (r c : List Int) (w : World) (hs : SlF w s m 3 xs) (hB : netB n E S m xs = true)
    (hr : SlI w vr r) (hc : SlI w vc c) (lr : r.length ≤ 1000) (lc : c.length ≤ 1000) (h4 : (without n r).length ≤ 4) :
    Calls Tryz.prog 117 #[.agg #[.int .i64 (n : Int), .int .i64 E, .int .i64 S, s], vr, vc] w fun e w' => e = .returned (.int .i64 (minorV n m xs r c)) ∧ Ge w w' := by
  obtain ⟨⟨h1, h5⟩, _, _, hok, _⟩ := netP_of hB
  have hm : m ≤ 10 := prs_len (by omega) hok
  have HV := Lib.hid hs
  have HR := Lib.hid hr
  have HC := Lib.hid hc
  obtain ⟨p, cap, rfl, _⟩ := hs.open
  have HL := Lib.hid (fun w' (g : Ge w w') => iLaplacianOf n E S (.slice p m cap) m xs w' (HV.out.ge g) hB)
  have HOr := Lib.hid (fun w' (g : Ge w w') => iOthers n E S (.slice p m cap) vr r w' rfl (by omega) (HR.out.ge g) lr)
  have HOc := Lib.hid (fun w' (g : Ge w w') => iOthers n E S (.slice p m cap) vc c w' rfl (by omega) (HC.out.ge g) lc)
  have HD := Lib.hid (fun vL vR vC w' (hL : SlMM w' vL n (lapZ xs m)) (hR : SlI w' vR (without n r)) (hC : SlI w' vC (without n c)) (hvr : ∀ p k c, vR = .slice p k c → k ≤ c) (hvc : ∀ p k c, vC = .slice p k c → k ≤ c) => iDet n (lapZ xs m) (lapZ_bd hok hm) (without n r) (without n c) vL vR vC w' hL hR hC hvr h4 (Nat.le_trans (without_len n c) (by omega)) without_below without_below)
  have HM : Hid (detF (lapZ xs m) (without n r) (without n c) = minorV n m xs r c) := rfl
  clear hs hok hB hr hc
  go_enter Tryz.func117, Tryz.ntmps117
  go_wp2_with fail
  have hS : ∀ w', Ge (w.alloc (.cells #[.int .i64 (n : Int), .int .i64 E, .int .i64 S, .slice p m cap] 33)) w' → (w'.cell? ⟨w.heap.size, 0, none⟩ = some (.int .i64 (n : Int)) ∧ w'.cell? ⟨w.heap.size, 1, none⟩ = some (.int .i64 E) ∧ w'.cell? ⟨w.heap.size, 2, none⟩ = some (.int .i64 S) ∧ w'.cell? ⟨w.heap.size, 3, none⟩ = some (.slice p m cap) ∧ Ge w w') := fun w' g => ⟨g.keep (kch), g.keep (kch), g.keep (kch), g.keep (kch), Ge.trans (kch) g⟩
  go_region_held3 (fun w' => w'.cell? ⟨w.heap.size, 0, none⟩ = some (.int .i64 (n : Int)) ∧ w'.cell? ⟨w.heap.size, 1, none⟩ = some (.int .i64 E) ∧ w'.cell? ⟨w.heap.size, 2, none⟩ = some (.int .i64 S) ∧ w'.cell? ⟨w.heap.size, 3, none⟩ = some (.slice p m cap) ∧ Ge w w') (first | ((with_reducible refine hS _ ?_); exact kch) | fail) (first | (go_at_call 112; ((with_reducible refine (HL.out _ (kch)).mono ?_); rintro e wL ⟨vL, rfl, hL, hb⟩)) | (go_at_call 129; ((with_reducible refine (HOr.out _ (kch)).mono ?_); rintro e wR ⟨vR, rfl, hR, cR, hb⟩)) | (go_at_call 129; ((with_reducible refine (HOc.out _ (kch)).mono ?_); rintro e wC ⟨vC, rfl, hC, cC, hb⟩)) | (go_at_call 114; ((with_reducible refine (HD.out vL vR vC _ (SlMM.ge hL (kch)) (SlI.ge hR (kch)) (SlI.ge hC (kch)) cR cC).mono ?_); rintro e wD ⟨rfl, hb⟩)) | fail)
  rename_i hHeldX
  obtain ⟨q0, q1, q2, q3, G7⟩ := hHeldX
  clear hS
  all_goals
    go_wp2_with fail
    go_ret
    exact ⟨ret_int HM.out, kge⟩

end Go.Proofs.YtagiecajffhnpaaGreat

namespace Go.Proofs.YtagiecajffhnpaaGreat
set_option maxRecDepth 100000
open Go.ChangeShapes Go.WideShapes Go.ChangeAt Go.RowKit Go.Joins

/-- a and b are nodes of a valid network. -/
noncomputable def node2B (N E S : Int) (m : Nat) (xs : List Int) (a b : Int) : Bool := netB N E S m xs && (decide (0 ≤ a ∧ a < N) && decide (0 ≤ b ∧ b < N))
theorem node2_f0 {N E S : Int} {m : Nat} {xs : List Int} {a b : Int} (h : netB N E S m xs = false) : node2B N E S m xs a b = false := by simp [node2B, h]
theorem node2_f1 {N E S : Int} {m : Nat} {xs : List Int} {a b : Int} (h : ¬ (0 ≤ a ∧ a < N)) : node2B N E S m xs a b = false := by simp [node2B, h]
theorem node2_f2 {N E S : Int} {m : Nat} {xs : List Int} {a b : Int} (h : ¬ (0 ≤ b ∧ b < N)) : node2B N E S m xs a b = false := by simp [node2B, h]
theorem node2_t {N E S : Int} {m : Nat} {xs : List Int} {a b : Int} (h : netB N E S m xs = true) (h1 : 0 ≤ a ∧ a < N) (h2 : 0 ≤ b ∧ b < N) : node2B N E S m xs a b = true := by simp [node2B, h, h1, h2]

end Go.Proofs.YtagiecajffhnpaaGreat

namespace Go.Proofs.YtagiecajffhnpaaGreat
set_option maxRecDepth 100000
open Go.ChangeShapes Go.WideShapes Go.ChangeAt Go.RowKit Go.Joins

theorem slI_lit {w : World} {b : Nat} (hb : b = w.heap.size) (l : List Int) {cs : Array Value} (hcs : cs = (icells l).toArray) {k : Nat} (hk : k = l.length) : SlI (w.alloc (.cells cs 3)) (.slice (some ⟨b, 0, none⟩) k k) l := by
  subst hb hcs hk
  refine ⟨by simp [icells_length], _, _, rfl, fun j u hu => ⟨_, 0, rfl, ?_⟩⟩
  rw [Nat.zero_add]
  exact cell_new rfl (by simpa using hu)
theorem slI_one {w : World} {b : Nat} (hb : b = w.heap.size) (x : Int) : SlI (w.alloc (.cells #[.int .i64 x] 3)) (.slice (some ⟨b, 0, none⟩) 1 1) [x] := slI_lit hb [x] rfl rfl
theorem slI_two {w : World} {b : Nat} (hb : b = w.heap.size) (x y : Int) : SlI (w.alloc (.cells #[.int .i64 x, .int .i64 y] 3)) (.slice (some ⟨b, 0, none⟩) 2 2) [x, y] := slI_lit hb [x, y] rfl rfl
theorem without_4 {n : Nat} {l : List Int} {x : Int} (hn : n ≤ 5) (hx : x ∈ l) (h0 : 0 ≤ x) (h1 : x < n) : (without n l).length ≤ 4 := by
  have := without_lt hx h0 h1
  omega

set_option maxHeartbeats 1600000 in
theorem iTreeSum1 (n : Nat) (E S : Int) (s : Value) (m : Nat) (xs : List Int) (w : World) (hs : SlF w s m 3 xs) (hm : m ≤ 9223372036854775807) (hB : netB n E S m xs = true) :
    Calls Tryz.prog 85 #[.agg #[.int .i64 (n : Int), .int .i64 E, .int .i64 S, s]] w fun e w' => e = .returned (.int .i64 (treeT n m xs)) ∧ Ge w w' := by
  obtain ⟨p, cap, rfl, hc⟩ := hs.open
  have HV := Lib.hid hs
  clear hs hc
  obtain ⟨⟨n1, n2⟩, _⟩ := netP_of hB
  have HL := Lib.hid (fun v1 v2 w' (g : Ge w w') (h1 : SlI w' v1 [0]) (h2 : SlI w' v2 [0]) => iLeft n E S (.slice p m cap) m xs v1 v2 [0] [0] w' (HV.out.ge g) hB h1 h2 (by simp) (by simp) (without_4 (x := 0) (by omega) (by simp) (by omega) (by omega)))
  go_enter Tryz.func85, Tryz.ntmps85
  go_wp2_with (first
    | ((go_at_call 43; ((with_reducible refine (iNetOk n E S _ m xs _ (HV.out.ge (Ge.alloc (Ge.refl w) _)) hm).mono ?_); rintro e w1 ⟨rfl, gw1⟩); have Gw1 : Ge w w1 := (Ge.trans (kge) gw1); have c0_0 : World.cell? w1 ⟨w.heap.size, 0, none⟩ = some (.int .i64 (n : Int)) := Ge.keep gw1 kcell; have c0_1 : World.cell? w1 ⟨w.heap.size, 1, none⟩ = some (.int .i64 E) := Ge.keep gw1 kcell; have c0_2 : World.cell? w1 ⟨w.heap.size, 2, none⟩ = some (.int .i64 S) := Ge.keep gw1 kcell; have c0_3 : World.cell? w1 ⟨w.heap.size, 3, none⟩ = some (.slice p m cap) := Ge.keep gw1 kcell; have zw1 : w.heap.size + 1 ≤ w1.heap.size := (by have := Ge.size gw1; (try simp at this); omega)); rw [hB])
    | (go_at_call 117; ((with_reducible refine (HL.out _ _ _ (kge) (SlI.ge (slI_one rfl 0) (Ge.alloc (Ge.refl _) _)) (slI_one (by simp) 0)).mono ?_); rintro e w2 ⟨rfl, g2⟩)))
  go_ret
  exact ⟨rfl, kge⟩
theorem iTreeSum (N E S : Int) (s : Value) (m : Nat) (xs : List Int) (w : World) (hs : SlF w s m 3 xs) (hm : m ≤ 9223372036854775807) :
    Calls Tryz.prog 85 #[.agg #[.int .i64 N, .int .i64 E, .int .i64 S, s]] w fun e w' => e = .returned (.int .i64 (treeV N E S m xs)) ∧ Ge w w' := by
  cases hB : netB N E S m xs with
  | true =>
    obtain ⟨⟨n1, n2⟩, _⟩ := netP_of hB
    obtain ⟨n, rfl⟩ : ∃ n : Nat, N = (n : Int) := ⟨N.toNat, by omega⟩
    rw [treeV_t hB]
    exact iTreeSum1 n E S s m xs w hs hm hB
  | false =>
    have HF : Hid (treeV N E S m xs = 0) := treeV_f hB
    obtain ⟨p, cap, rfl, hc⟩ := hs.open
    have HV := Lib.hid hs
    clear hs hc
    go_enter Tryz.func85, Tryz.ntmps85
    go_wp2_with ((go_at_call 43; ((with_reducible refine (iNetOk N E S _ m xs _ (HV.out.ge (Ge.alloc (Ge.refl w) _)) hm).mono ?_); rintro e w1 ⟨rfl, gw1⟩); have Gw1 : Ge w w1 := (Ge.trans (kge) gw1); have c0_0 : World.cell? w1 ⟨w.heap.size, 0, none⟩ = some (.int .i64 N) := Ge.keep gw1 kcell; have c0_1 : World.cell? w1 ⟨w.heap.size, 1, none⟩ = some (.int .i64 E) := Ge.keep gw1 kcell; have c0_2 : World.cell? w1 ⟨w.heap.size, 2, none⟩ = some (.int .i64 S) := Ge.keep gw1 kcell; have c0_3 : World.cell? w1 ⟨w.heap.size, 3, none⟩ = some (.slice p m cap) := Ge.keep gw1 kcell; have zw1 : w.heap.size + 1 ≤ w1.heap.size := (by have := Ge.size gw1; (try simp at this); omega)); rw [hB])
    go_ret
    exact ⟨ret_int HF.out.symm, kge⟩

set_option maxHeartbeats 3200000 in
theorem iForestSum1 (n : Nat) (E S : Int) (s : Value) (m : Nat) (xs : List Int) (a b : Int) (w : World) (hs : SlF w s m 3 xs) (hm : m ≤ 9223372036854775807) (hB : netB n E S m xs = true) :
    Calls Tryz.prog 90 #[.agg #[.int .i64 (n : Int), .int .i64 E, .int .i64 S, s], .int .i64 a, .int .i64 b] w fun e w' => e = .returned (.int .i64 (forV n E S m xs a b)) ∧ Ge w w' := by
  obtain ⟨p, cap, rfl, hc⟩ := hs.open
  have HV := Lib.hid hs
  clear hs hc
  obtain ⟨⟨n1, n2⟩, _⟩ := netP_of hB
  have HL := Lib.hid (fun v1 v2 w' (g : Ge w w') (h0 : 0 ≤ a) (h0' : a < n) (h1 : SlI w' v1 [a, b]) (h2 : SlI w' v2 [a, b]) => iLeft n E S (.slice p m cap) m xs v1 v2 [a, b] [a, b] w' (HV.out.ge g) hB h1 h2 (by simp) (by simp) (without_4 (x := a) (by omega) (by simp) h0 h0'))
  by_cases ha : 0 ≤ a ∧ a < (n : Int)
  · have ia : nodeB n a = true := nodeB_t ⟨ha.1, ha.2⟩
    by_cases hb : 0 ≤ b ∧ b < (n : Int)
    · have ib : nodeB n b = true := nodeB_t ⟨hb.1, hb.2⟩
      by_cases hab : a = b
      · have HF : Hid (forV n E S m xs a b = 0) := forV_f (fun h => h.2.2.2 hab)
        subst hab
        have t : (a == a) = true := by simp
        clear ha hb
        go_enter Tryz.func90, Tryz.ntmps90
        go_wp2_with (first | ((go_at_call 43; ((with_reducible refine (iNetOk n E S _ m xs _ (HV.out.ge (Ge.alloc (Ge.refl w) _)) hm).mono ?_); rintro e w1 ⟨rfl, gw1⟩); have Gw1 : Ge w w1 := (Ge.trans (kge) gw1); have c0_0 : World.cell? w1 ⟨w.heap.size, 0, none⟩ = some (.int .i64 (n : Int)) := Ge.keep gw1 kcell; have c0_1 : World.cell? w1 ⟨w.heap.size, 1, none⟩ = some (.int .i64 E) := Ge.keep gw1 kcell; have c0_2 : World.cell? w1 ⟨w.heap.size, 2, none⟩ = some (.int .i64 S) := Ge.keep gw1 kcell; have c0_3 : World.cell? w1 ⟨w.heap.size, 3, none⟩ = some (.slice p m cap) := Ge.keep gw1 kcell; have zw1 : w.heap.size + 1 ≤ w1.heap.size := (by have := Ge.size gw1; (try simp at this); omega)); rw [hB]) | ((go_at_call 69; ((with_reducible refine (isNodeI n E S (.slice p m cap) _ _ rfl).mono ?_); rintro e wn ⟨rfl, gwn⟩); have Gwn : Ge w wn := (Ge.trans (kge) gwn); have c0_0 : World.cell? wn ⟨w.heap.size, 0, none⟩ = some (.int .i64 (n : Int)) := Ge.keep gwn kcell; have c0_1 : World.cell? wn ⟨w.heap.size, 1, none⟩ = some (.int .i64 E) := Ge.keep gwn kcell; have c0_2 : World.cell? wn ⟨w.heap.size, 2, none⟩ = some (.int .i64 S) := Ge.keep gwn kcell; have c0_3 : World.cell? wn ⟨w.heap.size, 3, none⟩ = some (.slice p m cap) := Ge.keep gwn kcell; have zwn : w.heap.size + 1 ≤ wn.heap.size := (by have := Ge.size gwn; (try simp at this); omega))))
        go_ret
        exact ⟨ret_int HF.out.symm, kge⟩
      · have HF : Hid (forV n E S m xs a b = forT n m xs a b) := forV_t hB ha hb hab
        replace HL := Lib.hid (fun v1 v2 w' (g : Ge w w') => HL.out v1 v2 w' g ha.1 ha.2)
        have t : (a == b) = false := by simp [hab]
        clear ha hb hab
        go_enter Tryz.func90, Tryz.ntmps90
        go_wp2_with (first | ((go_at_call 43; ((with_reducible refine (iNetOk n E S _ m xs _ (HV.out.ge (Ge.alloc (Ge.refl w) _)) hm).mono ?_); rintro e w1 ⟨rfl, gw1⟩); have Gw1 : Ge w w1 := (Ge.trans (kge) gw1); have c0_0 : World.cell? w1 ⟨w.heap.size, 0, none⟩ = some (.int .i64 (n : Int)) := Ge.keep gw1 kcell; have c0_1 : World.cell? w1 ⟨w.heap.size, 1, none⟩ = some (.int .i64 E) := Ge.keep gw1 kcell; have c0_2 : World.cell? w1 ⟨w.heap.size, 2, none⟩ = some (.int .i64 S) := Ge.keep gw1 kcell; have c0_3 : World.cell? w1 ⟨w.heap.size, 3, none⟩ = some (.slice p m cap) := Ge.keep gw1 kcell; have zw1 : w.heap.size + 1 ≤ w1.heap.size := (by have := Ge.size gw1; (try simp at this); omega)); rw [hB]) | ((go_at_call 69; ((with_reducible refine (isNodeI n E S (.slice p m cap) _ _ rfl).mono ?_); rintro e wn ⟨rfl, gwn⟩); have Gwn : Ge w wn := (Ge.trans (kge) gwn); have c0_0 : World.cell? wn ⟨w.heap.size, 0, none⟩ = some (.int .i64 (n : Int)) := Ge.keep gwn kcell; have c0_1 : World.cell? wn ⟨w.heap.size, 1, none⟩ = some (.int .i64 E) := Ge.keep gwn kcell; have c0_2 : World.cell? wn ⟨w.heap.size, 2, none⟩ = some (.int .i64 S) := Ge.keep gwn kcell; have c0_3 : World.cell? wn ⟨w.heap.size, 3, none⟩ = some (.slice p m cap) := Ge.keep gwn kcell; have zwn : w.heap.size + 1 ≤ wn.heap.size := (by have := Ge.size gwn; (try simp at this); omega))) | (go_at_call 117; ((with_reducible refine (HL.out _ _ _ (kge) (SlI.ge (slI_two rfl a b) (Ge.alloc (Ge.refl _) _)) (slI_two (by simp) a b)).mono ?_); rintro e w2 ⟨rfl, g2⟩)))
        go_ret
        exact ⟨ret_int HF.out.symm, kge⟩
    · have ib : nodeB n b = false := nodeB_f hb
      have HF : Hid (forV n E S m xs a b = 0) := forV_f (fun h => hb h.2.2.1)
      clear ha hb
      go_enter Tryz.func90, Tryz.ntmps90
      go_wp2_with (first | ((go_at_call 43; ((with_reducible refine (iNetOk n E S _ m xs _ (HV.out.ge (Ge.alloc (Ge.refl w) _)) hm).mono ?_); rintro e w1 ⟨rfl, gw1⟩); have Gw1 : Ge w w1 := (Ge.trans (kge) gw1); have c0_0 : World.cell? w1 ⟨w.heap.size, 0, none⟩ = some (.int .i64 (n : Int)) := Ge.keep gw1 kcell; have c0_1 : World.cell? w1 ⟨w.heap.size, 1, none⟩ = some (.int .i64 E) := Ge.keep gw1 kcell; have c0_2 : World.cell? w1 ⟨w.heap.size, 2, none⟩ = some (.int .i64 S) := Ge.keep gw1 kcell; have c0_3 : World.cell? w1 ⟨w.heap.size, 3, none⟩ = some (.slice p m cap) := Ge.keep gw1 kcell; have zw1 : w.heap.size + 1 ≤ w1.heap.size := (by have := Ge.size gw1; (try simp at this); omega)); rw [hB]) | ((go_at_call 69; ((with_reducible refine (isNodeI n E S (.slice p m cap) _ _ rfl).mono ?_); rintro e wn ⟨rfl, gwn⟩); have Gwn : Ge w wn := (Ge.trans (kge) gwn); have c0_0 : World.cell? wn ⟨w.heap.size, 0, none⟩ = some (.int .i64 (n : Int)) := Ge.keep gwn kcell; have c0_1 : World.cell? wn ⟨w.heap.size, 1, none⟩ = some (.int .i64 E) := Ge.keep gwn kcell; have c0_2 : World.cell? wn ⟨w.heap.size, 2, none⟩ = some (.int .i64 S) := Ge.keep gwn kcell; have c0_3 : World.cell? wn ⟨w.heap.size, 3, none⟩ = some (.slice p m cap) := Ge.keep gwn kcell; have zwn : w.heap.size + 1 ≤ wn.heap.size := (by have := Ge.size gwn; (try simp at this); omega))))
      go_ret
      exact ⟨ret_int HF.out.symm, kge⟩
  · have ia : nodeB n a = false := nodeB_f ha
    have HF : Hid (forV n E S m xs a b = 0) := forV_f (fun h => ha h.2.1)
    clear ha
    go_enter Tryz.func90, Tryz.ntmps90
    go_wp2_with (first | ((go_at_call 43; ((with_reducible refine (iNetOk n E S _ m xs _ (HV.out.ge (Ge.alloc (Ge.refl w) _)) hm).mono ?_); rintro e w1 ⟨rfl, gw1⟩); have Gw1 : Ge w w1 := (Ge.trans (kge) gw1); have c0_0 : World.cell? w1 ⟨w.heap.size, 0, none⟩ = some (.int .i64 (n : Int)) := Ge.keep gw1 kcell; have c0_1 : World.cell? w1 ⟨w.heap.size, 1, none⟩ = some (.int .i64 E) := Ge.keep gw1 kcell; have c0_2 : World.cell? w1 ⟨w.heap.size, 2, none⟩ = some (.int .i64 S) := Ge.keep gw1 kcell; have c0_3 : World.cell? w1 ⟨w.heap.size, 3, none⟩ = some (.slice p m cap) := Ge.keep gw1 kcell; have zw1 : w.heap.size + 1 ≤ w1.heap.size := (by have := Ge.size gw1; (try simp at this); omega)); rw [hB]) | ((go_at_call 69; ((with_reducible refine (isNodeI n E S (.slice p m cap) _ _ rfl).mono ?_); rintro e wn ⟨rfl, gwn⟩); have Gwn : Ge w wn := (Ge.trans (kge) gwn); have c0_0 : World.cell? wn ⟨w.heap.size, 0, none⟩ = some (.int .i64 (n : Int)) := Ge.keep gwn kcell; have c0_1 : World.cell? wn ⟨w.heap.size, 1, none⟩ = some (.int .i64 E) := Ge.keep gwn kcell; have c0_2 : World.cell? wn ⟨w.heap.size, 2, none⟩ = some (.int .i64 S) := Ge.keep gwn kcell; have c0_3 : World.cell? wn ⟨w.heap.size, 3, none⟩ = some (.slice p m cap) := Ge.keep gwn kcell; have zwn : w.heap.size + 1 ≤ wn.heap.size := (by have := Ge.size gwn; (try simp at this); omega))))
    go_ret
    exact ⟨ret_int HF.out.symm, kge⟩
theorem iForestSum (N E S : Int) (s : Value) (m : Nat) (xs : List Int) (a b : Int) (w : World) (hs : SlF w s m 3 xs) (hm : m ≤ 9223372036854775807) :
    Calls Tryz.prog 90 #[.agg #[.int .i64 N, .int .i64 E, .int .i64 S, s], .int .i64 a, .int .i64 b] w fun e w' => e = .returned (.int .i64 (forV N E S m xs a b)) ∧ Ge w w' := by
  cases hB : netB N E S m xs with
  | true =>
    obtain ⟨⟨n1, n2⟩, _⟩ := netP_of hB
    obtain ⟨n, rfl⟩ : ∃ n : Nat, N = (n : Int) := ⟨N.toNat, by omega⟩
    exact iForestSum1 n E S s m xs a b w hs hm hB
  | false =>
    have HF : Hid (forV N E S m xs a b = 0) := forV_f (fun h => by rw [hB] at h; cases h.1)
    obtain ⟨p, cap, rfl, hc⟩ := hs.open
    have HV := Lib.hid hs
    clear hs hc
    go_enter Tryz.func90, Tryz.ntmps90
    go_wp2_with ((go_at_call 43; ((with_reducible refine (iNetOk N E S _ m xs _ (HV.out.ge (Ge.alloc (Ge.refl w) _)) hm).mono ?_); rintro e w1 ⟨rfl, gw1⟩); have Gw1 : Ge w w1 := (Ge.trans (kge) gw1); have c0_0 : World.cell? w1 ⟨w.heap.size, 0, none⟩ = some (.int .i64 N) := Ge.keep gw1 kcell; have c0_1 : World.cell? w1 ⟨w.heap.size, 1, none⟩ = some (.int .i64 E) := Ge.keep gw1 kcell; have c0_2 : World.cell? w1 ⟨w.heap.size, 2, none⟩ = some (.int .i64 S) := Ge.keep gw1 kcell; have c0_3 : World.cell? w1 ⟨w.heap.size, 3, none⟩ = some (.slice p m cap) := Ge.keep gw1 kcell; have zw1 : w.heap.size + 1 ≤ w1.heap.size := (by have := Ge.size gw1; (try simp at this); omega)); rw [hB])
    go_ret
    exact ⟨ret_int HF.out.symm, kge⟩

end Go.Proofs.YtagiecajffhnpaaGreat

namespace Go.Proofs.YtagiecajffhnpaaGreat
set_option maxRecDepth 100000
open Go.ChangeShapes Go.WideShapes Go.ChangeAt Go.RowKit Go.Joins

set_option maxHeartbeats 1600000 in
theorem iDiffer (N E S : Int) (s : Value) (m : Nat) (xs : List Int) (a b : Int) (w : World) (hs : SlF w s m 3 xs) (hm : m ≤ 9223372036854775807) :
    Calls Tryz.prog 88 #[.agg #[.int .i64 N, .int .i64 E, .int .i64 S, s], .int .i64 a, .int .i64 b] w fun e w' => e = .returned (.bool (difB N E S m xs a b)) ∧ Ge w w' := by
  obtain ⟨p, cap, rfl, hc⟩ := hs.open
  have HV := Lib.hid hs
  clear hs hc
  cases hB : netB N E S m xs with
  | false =>
    have HF : Hid (difB N E S m xs a b = false) := dif_f0 hB
    go_enter Tryz.func88, Tryz.ntmps88
    go_wp2_with ((go_at_call 43; ((with_reducible refine (iNetOk N E S _ m xs _ (HV.out.ge (Ge.alloc (Ge.refl w) _)) hm).mono ?_); rintro e w1 ⟨rfl, gw1⟩); have Gw1 : Ge w w1 := (Ge.trans (kge) gw1); have c0_0 : World.cell? w1 ⟨w.heap.size, 0, none⟩ = some (.int .i64 N) := Ge.keep gw1 kcell; have c0_1 : World.cell? w1 ⟨w.heap.size, 1, none⟩ = some (.int .i64 E) := Ge.keep gw1 kcell; have c0_2 : World.cell? w1 ⟨w.heap.size, 2, none⟩ = some (.int .i64 S) := Ge.keep gw1 kcell; have c0_3 : World.cell? w1 ⟨w.heap.size, 3, none⟩ = some (.slice p m cap) := Ge.keep gw1 kcell; have zw1 : w.heap.size + 1 ≤ w1.heap.size := (by have := Ge.size gw1; (try simp at this); omega)); rw [hB])
    go_ret
    exact ⟨ret_bool HF.out.symm, kge⟩
  | true =>
    obtain ⟨⟨n1, n2⟩, _⟩ := netP_of hB
    obtain ⟨n, rfl⟩ : ∃ n : Nat, N = (n : Int) := ⟨N.toNat, by omega⟩
    by_cases ha : ¬ (0 ≤ a ∧ a < (n : Int))
    · have ia : nodeB n a = false := nodeB_f ha
      have HF : Hid (difB n E S m xs a b = false) := dif_f1 ha
      clear ha
      go_enter Tryz.func88, Tryz.ntmps88
      go_wp2_with (first | ((go_at_call 43; ((with_reducible refine (iNetOk n E S _ m xs _ (HV.out.ge (Ge.alloc (Ge.refl w) _)) hm).mono ?_); rintro e w1 ⟨rfl, gw1⟩); have Gw1 : Ge w w1 := (Ge.trans (kge) gw1); have c0_0 : World.cell? w1 ⟨w.heap.size, 0, none⟩ = some (.int .i64 (n : Int)) := Ge.keep gw1 kcell; have c0_1 : World.cell? w1 ⟨w.heap.size, 1, none⟩ = some (.int .i64 E) := Ge.keep gw1 kcell; have c0_2 : World.cell? w1 ⟨w.heap.size, 2, none⟩ = some (.int .i64 S) := Ge.keep gw1 kcell; have c0_3 : World.cell? w1 ⟨w.heap.size, 3, none⟩ = some (.slice p m cap) := Ge.keep gw1 kcell; have zw1 : w.heap.size + 1 ≤ w1.heap.size := (by have := Ge.size gw1; (try simp at this); omega)); rw [hB]) | ((go_at_call 69; ((with_reducible refine (isNodeI n E S (.slice p m cap) _ _ rfl).mono ?_); rintro e wn ⟨rfl, gwn⟩); have Gwn : Ge w wn := (Ge.trans (kge) gwn); have c0_0 : World.cell? wn ⟨w.heap.size, 0, none⟩ = some (.int .i64 (n : Int)) := Ge.keep gwn kcell; have c0_1 : World.cell? wn ⟨w.heap.size, 1, none⟩ = some (.int .i64 E) := Ge.keep gwn kcell; have c0_2 : World.cell? wn ⟨w.heap.size, 2, none⟩ = some (.int .i64 S) := Ge.keep gwn kcell; have c0_3 : World.cell? wn ⟨w.heap.size, 3, none⟩ = some (.slice p m cap) := Ge.keep gwn kcell; have zwn : w.heap.size + 1 ≤ wn.heap.size := (by have := Ge.size gwn; (try simp at this); omega))))
      go_ret
      exact ⟨ret_bool HF.out.symm, kge⟩
    replace ha := Classical.not_not.1 ha
    have ia : nodeB n a = true := nodeB_t ⟨ha.1, ha.2⟩
    by_cases hb : ¬ (0 ≤ b ∧ b < (n : Int))
    · have ib : nodeB n b = false := nodeB_f hb
      have HF : Hid (difB n E S m xs a b = false) := dif_f2 hb
      clear ha hb
      go_enter Tryz.func88, Tryz.ntmps88
      go_wp2_with (first | ((go_at_call 43; ((with_reducible refine (iNetOk n E S _ m xs _ (HV.out.ge (Ge.alloc (Ge.refl w) _)) hm).mono ?_); rintro e w1 ⟨rfl, gw1⟩); have Gw1 : Ge w w1 := (Ge.trans (kge) gw1); have c0_0 : World.cell? w1 ⟨w.heap.size, 0, none⟩ = some (.int .i64 (n : Int)) := Ge.keep gw1 kcell; have c0_1 : World.cell? w1 ⟨w.heap.size, 1, none⟩ = some (.int .i64 E) := Ge.keep gw1 kcell; have c0_2 : World.cell? w1 ⟨w.heap.size, 2, none⟩ = some (.int .i64 S) := Ge.keep gw1 kcell; have c0_3 : World.cell? w1 ⟨w.heap.size, 3, none⟩ = some (.slice p m cap) := Ge.keep gw1 kcell; have zw1 : w.heap.size + 1 ≤ w1.heap.size := (by have := Ge.size gw1; (try simp at this); omega)); rw [hB]) | ((go_at_call 69; ((with_reducible refine (isNodeI n E S (.slice p m cap) _ _ rfl).mono ?_); rintro e wn ⟨rfl, gwn⟩); have Gwn : Ge w wn := (Ge.trans (kge) gwn); have c0_0 : World.cell? wn ⟨w.heap.size, 0, none⟩ = some (.int .i64 (n : Int)) := Ge.keep gwn kcell; have c0_1 : World.cell? wn ⟨w.heap.size, 1, none⟩ = some (.int .i64 E) := Ge.keep gwn kcell; have c0_2 : World.cell? wn ⟨w.heap.size, 2, none⟩ = some (.int .i64 S) := Ge.keep gwn kcell; have c0_3 : World.cell? wn ⟨w.heap.size, 3, none⟩ = some (.slice p m cap) := Ge.keep gwn kcell; have zwn : w.heap.size + 1 ≤ wn.heap.size := (by have := Ge.size gwn; (try simp at this); omega))))
      go_ret
      exact ⟨ret_bool HF.out.symm, kge⟩
    replace hb := Classical.not_not.1 hb
    have ib : nodeB n b = true := nodeB_t ⟨hb.1, hb.2⟩
    by_cases hab : a = b
    · have t : (a != b) = false := by simp [hab]
      have t2 : (a == b) = true := by simp [hab]
      have HF : Hid (difB n E S m xs a b = false) := dif_f3 hab
      clear ha hb hab
      go_enter Tryz.func88, Tryz.ntmps88
      go_wp2_with (first | ((go_at_call 43; ((with_reducible refine (iNetOk n E S _ m xs _ (HV.out.ge (Ge.alloc (Ge.refl w) _)) hm).mono ?_); rintro e w1 ⟨rfl, gw1⟩); have Gw1 : Ge w w1 := (Ge.trans (kge) gw1); have c0_0 : World.cell? w1 ⟨w.heap.size, 0, none⟩ = some (.int .i64 (n : Int)) := Ge.keep gw1 kcell; have c0_1 : World.cell? w1 ⟨w.heap.size, 1, none⟩ = some (.int .i64 E) := Ge.keep gw1 kcell; have c0_2 : World.cell? w1 ⟨w.heap.size, 2, none⟩ = some (.int .i64 S) := Ge.keep gw1 kcell; have c0_3 : World.cell? w1 ⟨w.heap.size, 3, none⟩ = some (.slice p m cap) := Ge.keep gw1 kcell; have zw1 : w.heap.size + 1 ≤ w1.heap.size := (by have := Ge.size gw1; (try simp at this); omega)); rw [hB]) | ((go_at_call 69; ((with_reducible refine (isNodeI n E S (.slice p m cap) _ _ rfl).mono ?_); rintro e wn ⟨rfl, gwn⟩); have Gwn : Ge w wn := (Ge.trans (kge) gwn); have c0_0 : World.cell? wn ⟨w.heap.size, 0, none⟩ = some (.int .i64 (n : Int)) := Ge.keep gwn kcell; have c0_1 : World.cell? wn ⟨w.heap.size, 1, none⟩ = some (.int .i64 E) := Ge.keep gwn kcell; have c0_2 : World.cell? wn ⟨w.heap.size, 2, none⟩ = some (.int .i64 S) := Ge.keep gwn kcell; have c0_3 : World.cell? wn ⟨w.heap.size, 3, none⟩ = some (.slice p m cap) := Ge.keep gwn kcell; have zwn : w.heap.size + 1 ≤ wn.heap.size := (by have := Ge.size gwn; (try simp at this); omega))))
      go_ret
      exact ⟨ret_bool HF.out.symm, kge⟩
    · have t : (a != b) = true := by simp [hab]
      have t2 : (a == b) = false := by simp [hab]
      have HF : Hid (difB n E S m xs a b = true) := dif_t hB ha hb hab
      clear ha hb hab
      go_enter Tryz.func88, Tryz.ntmps88
      go_wp2_with (first | ((go_at_call 43; ((with_reducible refine (iNetOk n E S _ m xs _ (HV.out.ge (Ge.alloc (Ge.refl w) _)) hm).mono ?_); rintro e w1 ⟨rfl, gw1⟩); have Gw1 : Ge w w1 := (Ge.trans (kge) gw1); have c0_0 : World.cell? w1 ⟨w.heap.size, 0, none⟩ = some (.int .i64 (n : Int)) := Ge.keep gw1 kcell; have c0_1 : World.cell? w1 ⟨w.heap.size, 1, none⟩ = some (.int .i64 E) := Ge.keep gw1 kcell; have c0_2 : World.cell? w1 ⟨w.heap.size, 2, none⟩ = some (.int .i64 S) := Ge.keep gw1 kcell; have c0_3 : World.cell? w1 ⟨w.heap.size, 3, none⟩ = some (.slice p m cap) := Ge.keep gw1 kcell; have zw1 : w.heap.size + 1 ≤ w1.heap.size := (by have := Ge.size gw1; (try simp at this); omega)); rw [hB]) | ((go_at_call 69; ((with_reducible refine (isNodeI n E S (.slice p m cap) _ _ rfl).mono ?_); rintro e wn ⟨rfl, gwn⟩); have Gwn : Ge w wn := (Ge.trans (kge) gwn); have c0_0 : World.cell? wn ⟨w.heap.size, 0, none⟩ = some (.int .i64 (n : Int)) := Ge.keep gwn kcell; have c0_1 : World.cell? wn ⟨w.heap.size, 1, none⟩ = some (.int .i64 E) := Ge.keep gwn kcell; have c0_2 : World.cell? wn ⟨w.heap.size, 2, none⟩ = some (.int .i64 S) := Ge.keep gwn kcell; have c0_3 : World.cell? wn ⟨w.heap.size, 3, none⟩ = some (.slice p m cap) := Ge.keep gwn kcell; have zwn : w.heap.size + 1 ≤ wn.heap.size := (by have := Ge.size gwn; (try simp at this); omega))))
      go_ret
      exact ⟨ret_bool HF.out.symm, kge⟩

end Go.Proofs.YtagiecajffhnpaaGreat

namespace Go.Proofs.YtagiecajffhnpaaGreat
set_option maxRecDepth 100000
open Go.ChangeShapes Go.WideShapes Go.ChangeAt Go.RowKit Go.Joins

theorem iPotential (N E S : Int) (s : Value) (m : Nat) (xs : List Int) (a b x : Int) (w : World) (hs : SlF w s m 3 xs) (hm : m ≤ 9223372036854775807) :
    Calls Tryz.prog 87 #[.agg #[.int .i64 N, .int .i64 E, .int .i64 S, s], .int .i64 a, .int .i64 b, .int .i64 x] w fun e w' => e = .returned (.int .i64 (forV N E S m xs a b + forV N E S m xs x b - forV N E S m xs a x)) ∧ Ge w w' := by
  obtain ⟨p, cap, rfl, hc⟩ := hs.open
  have HV := Lib.hid hs
  clear hs hc
  have p3 := forV_bd N E S m xs a b
  have p4 := forV_bd N E S m xs x b
  have p5 := forV_bd N E S m xs a x
  have w1' : IntKind.i64.wrap (forV N E S m xs a b + forV N E S m xs x b) = forV N E S m xs a b + forV N E S m xs x b := IntWalk.i64_in _ (by omega)
  have w2' : IntKind.i64.wrap (forV N E S m xs a b + forV N E S m xs x b - forV N E S m xs a x) = forV N E S m xs a b + forV N E S m xs x b - forV N E S m xs a x := IntWalk.i64_in _ (by omega)
  clear p3 p4 p5
  have HFo := Lib.hid (fun u v w' (g : Ge w w') => iForestSum N E S (.slice p m cap) m xs u v w' (HV.out.ge g) hm)
  go_enter Tryz.func87, Tryz.ntmps87
  go_wp2_with fail
  go_region_held3 (fun w' => w'.cell? ⟨w.heap.size, 0, none⟩ = some (.int .i64 N) ∧ w'.cell? ⟨w.heap.size, 1, none⟩ = some (.int .i64 E) ∧ w'.cell? ⟨w.heap.size, 2, none⟩ = some (.int .i64 S) ∧ w'.cell? ⟨w.heap.size, 3, none⟩ = some (.slice p m cap) ∧ Ge w w') (first | exact ⟨hb.keep (‹_ ∧ _ ∧ _ ∧ _ ∧ _›).1, hb.keep (‹_ ∧ _ ∧ _ ∧ _ ∧ _›).2.1, hb.keep (‹_ ∧ _ ∧ _ ∧ _ ∧ _›).2.2.1, hb.keep (‹_ ∧ _ ∧ _ ∧ _ ∧ _›).2.2.2.1, Ge.trans (‹_ ∧ _ ∧ _ ∧ _ ∧ _›).2.2.2.2 hb⟩ | ((refine ⟨?_, ?_, ?_, ?_, ?_⟩ <;> (repeat (first | assumption | with_reducible exact Ge.refl _ | with_reducible refine cv_drew ?_ | with_reducible refine cv_alloc ?_ | with_reducible refine cv_set ?_ | with_reducible refine cell_drew ?_ | ((with_reducible refine cell_new ?_ ?_); (focus (simp; done)); rfl) | ((with_reducible refine froz_new (v := undef) ?_ ?_); (focus (simp; done)); rfl) | with_reducible refine cell_drewN ?_ | with_reducible refine cell_alloc ?_ | ((with_reducible refine cell_set ?_ ?_); rotate_left; focus (simp; done)) | with_reducible refine froz_drew ?_ | with_reducible refine froz_set ?_ | with_reducible refine froz_alloc (by assumption) ?_ | with_reducible refine Ge.drew ?_ | with_reducible refine Ge.drewN ?_ _ | with_reducible refine Ge.alloc ?_ _ | ((with_reducible refine Ge.setCell ?_ ?_ _); rotate_left; focus (first | (simp; done) | omega | (simp; omega))) | with_reducible refine Ge.trans ?_ (by assumption)))); done) | ((obtain ⟨s0, s1, s2, s3, s4⟩ := ‹_ ∧ _ ∧ _ ∧ _ ∧ _›); refine ⟨?_, ?_, ?_, ?_, ?_⟩ <;> (repeat (first | assumption | with_reducible exact Ge.refl _ | with_reducible refine cv_drew ?_ | with_reducible refine cv_alloc ?_ | with_reducible refine cv_set ?_ | with_reducible refine cell_drew ?_ | ((with_reducible refine cell_new ?_ ?_); (focus (simp; done)); rfl) | ((with_reducible refine froz_new (v := undef) ?_ ?_); (focus (simp; done)); rfl) | with_reducible refine cell_drewN ?_ | with_reducible refine cell_alloc ?_ | ((with_reducible refine cell_set ?_ ?_); rotate_left; focus (simp; done)) | with_reducible refine froz_drew ?_ | with_reducible refine froz_set ?_ | with_reducible refine froz_alloc (by assumption) ?_ | with_reducible refine Ge.drew ?_ | with_reducible refine Ge.drewN ?_ _ | with_reducible refine Ge.alloc ?_ _ | ((with_reducible refine Ge.setCell ?_ ?_ _); rotate_left; focus (first | (simp; done) | omega | (simp; omega))) | with_reducible refine Ge.trans ?_ (by assumption))))) (first | (go_at_call 90; ((with_reducible refine (HFo.out _ _ _ (‹_ ∧ _ ∧ _ ∧ _ ∧ Ge w _›.2.2.2.2)).mono ?_); rintro e w' ⟨rfl, hb⟩)) | fail); (rename_i hHeldX; obtain ⟨c0_0, c0_1, c0_2, c0_3, G9⟩ := hHeldX)
  go_wp2_with fail
  go_ret
  exact ⟨rfl, G9⟩end Go.Proofs.YtagiecajffhnpaaGreat
namespace Go.Proofs.YtagiecajffhnpaaGreat
set_option maxRecDepth 100000
open Go.ChangeShapes Go.WideShapes Go.ChangeAt Go.RowKit Go.Joins

noncomputable def hcB (N E S : Int) (m : Nat) (xs : List Int) (v a b : Int) : Bool := difB N E S m xs a b && decide (0 ≤ v ∧ v < N)
theorem hcB_f0 {N E S : Int} {m : Nat} {xs : List Int} {v a b : Int} (h : difB N E S m xs a b = false) : hcB N E S m xs v a b = false := by simp [hcB, h]
theorem hcB_f1 {N E S : Int} {m : Nat} {xs : List Int} {v a b : Int} (h : ¬ (0 ≤ v ∧ v < N)) : hcB N E S m xs v a b = false := by simp [hcB, h]
theorem hcB_t {N E S : Int} {m : Nat} {xs : List Int} {v a b : Int} (h : difB N E S m xs a b = true) (h1 : 0 ≤ v ∧ v < N) : hcB N E S m xs v a b = true := by simp [hcB, h, h1]
noncomputable def hcR (N E S : Int) (m : Nat) (xs : List Int) (v a b : Int) : Rt := grdR (hcB N E S m xs v a b) (ratioOf (forV N E S m xs a b + forV N E S m xs v b - forV N E S m xs a v) (2 * forV N E S m xs a b))
theorem hc_f {N E S : Int} {m : Nat} {xs : List Int} {v a b : Int} (h : hcB N E S m xs v a b = false) : hcR N E S m xs v a b = ⟨0, 0⟩ := by unfold hcR; rw [h]; rfl
theorem hc_t {n : Nat} {E S : Int} {m : Nat} {xs : List Int} {v a b : Int} (h : hcB n E S m xs v a b = true) : hcR n E S m xs v a b = ratioOf (forV n E S m xs a b + forV n E S m xs v b - forV n E S m xs a v) (2 * forV n E S m xs a b) := by unfold hcR; rw [h]; rfl
theorem pot_self {N E S : Int} {m : Nat} {xs : List Int} {a b : Int} : forV N E S m xs a b + forV N E S m xs a b - forV N E S m xs a a = 2 * forV N E S m xs a b := by
  have : forV N E S m xs a a = 0 := forV_f (fun h => h.2.2.2 rfl)
  omega

set_option maxHeartbeats 3200000 in
theorem iHitChance (N E S : Int) (s : Value) (m : Nat) (xs : List Int) (v a b : Int) (w : World) (hs : SlF w s m 3 xs) (hm : m ≤ 9223372036854775807) :
    Calls Tryz.prog 52 #[.agg #[.int .i64 N, .int .i64 E, .int .i64 S, s], .int .i64 v, .int .i64 a, .int .i64 b] w fun e w' => e = .returned (.tuple #[.agg #[.int .i64 (hcR N E S m xs v a b).n, .int .i64 (hcR N E S m xs v a b).d], .bool (hcB N E S m xs v a b)]) ∧ Ge w w' := by
  obtain ⟨p, cap, rfl, hc⟩ := hs.open
  have HV := Lib.hid hs
  clear hs hc
  cases hD : difB N E S m xs a b with
  | false =>
    have hT := hcB_f0 (v := v) hD
    have HF := Lib.hid (hc_f hT)
    go_enter Tryz.func52, Tryz.ntmps52
    go_wp2_with ((go_at_call 88; ((with_reducible refine (iDiffer N E S _ m xs a b _ (HV.out.ge (Ge.alloc (Ge.alloc (Ge.refl w) _) _)) hm).mono ?_); rintro e w1 ⟨rfl, gw1⟩); have Gw1 : Ge w w1 := (Ge.trans (kge) gw1); have c0_0 : World.cell? w1 ⟨w.heap.size, 0, none⟩ = some (.int .i64 N) := Ge.keep gw1 kcell; have c0_1 : World.cell? w1 ⟨w.heap.size, 1, none⟩ = some (.int .i64 E) := Ge.keep gw1 kcell; have c0_2 : World.cell? w1 ⟨w.heap.size, 2, none⟩ = some (.int .i64 S) := Ge.keep gw1 kcell; have c0_3 : World.cell? w1 ⟨w.heap.size, 3, none⟩ = some (.slice p m cap) := Ge.keep gw1 kcell; have o1_0 : Own w1 ⟨w.heap.size + 1, 0, none⟩ _ := Ge.own gw1 (kown); have c1_0 := cv_some o1_0.1; have f1_0 := o1_0.2; clear o1_0; have o1_1 : Own w1 ⟨w.heap.size + 1, 1, none⟩ _ := Ge.own gw1 (kown); have c1_1 := cv_some o1_1.1; have f1_1 := o1_1.2; clear o1_1; have zw1 : w.heap.size + 2 ≤ w1.heap.size := (by have := Ge.size gw1; (try simp at this); omega)); rw [hD])
    exact bodyPost_ret (v := .tuple #[.agg #[.int .i64 0, .int .i64 0], .bool false]) (by simp [results, Tryz.results52, go_sem, *]) rfl ⟨by rw [HF.out, hT], kge⟩
  | true =>
    obtain ⟨hB, ha, hb, hab⟩ := dif_of hD
    obtain ⟨⟨n1, n2⟩, h10, hK⟩ := net_wires hB
    clear hK
    obtain ⟨n, rfl⟩ : ∃ n : Nat, N = (n : Int) := ⟨N.toNat, by omega⟩
    by_cases h1 : ¬ (0 ≤ v ∧ v < (n : Int))
    · have iv : nodeB n v = false := nodeB_f h1
      have hT := hcB_f1 (E := E) (S := S) (m := m) (xs := xs) (a := a) (b := b) h1
      have HF := Lib.hid (hc_f hT)
      clear h1 ha hb hab
      go_enter Tryz.func52, Tryz.ntmps52
      go_wp2_with (first | ((go_at_call 88; ((with_reducible refine (iDiffer (n : Int) E S _ m xs a b _ (HV.out.ge (Ge.alloc (Ge.alloc (Ge.refl w) _) _)) hm).mono ?_); rintro e w1 ⟨rfl, gw1⟩); have Gw1 : Ge w w1 := (Ge.trans (kge) gw1); have c0_0 : World.cell? w1 ⟨w.heap.size, 0, none⟩ = some (.int .i64 (n : Int)) := Ge.keep gw1 kcell; have c0_1 : World.cell? w1 ⟨w.heap.size, 1, none⟩ = some (.int .i64 E) := Ge.keep gw1 kcell; have c0_2 : World.cell? w1 ⟨w.heap.size, 2, none⟩ = some (.int .i64 S) := Ge.keep gw1 kcell; have c0_3 : World.cell? w1 ⟨w.heap.size, 3, none⟩ = some (.slice p m cap) := Ge.keep gw1 kcell; have o1_0 : Own w1 ⟨w.heap.size + 1, 0, none⟩ _ := Ge.own gw1 (kown); have c1_0 := cv_some o1_0.1; have f1_0 := o1_0.2; clear o1_0; have o1_1 : Own w1 ⟨w.heap.size + 1, 1, none⟩ _ := Ge.own gw1 (kown); have c1_1 := cv_some o1_1.1; have f1_1 := o1_1.2; clear o1_1; have zw1 : w.heap.size + 2 ≤ w1.heap.size := (by have := Ge.size gw1; (try simp at this); omega)); rw [hD]) | (go_at_call 69; ((with_reducible refine (isNodeI n E S _ _ _ rfl).mono ?_); rintro e w2 ⟨rfl, gw2⟩); have Gw2 : Ge w w2 := (Ge.trans (kge) gw2); have c0_0 : World.cell? w2 ⟨w.heap.size, 0, none⟩ = some (.int .i64 (n : Int)) := Ge.keep gw2 kcell; have c0_1 : World.cell? w2 ⟨w.heap.size, 1, none⟩ = some (.int .i64 E) := Ge.keep gw2 kcell; have c0_2 : World.cell? w2 ⟨w.heap.size, 2, none⟩ = some (.int .i64 S) := Ge.keep gw2 kcell; have c0_3 : World.cell? w2 ⟨w.heap.size, 3, none⟩ = some (.slice p m cap) := Ge.keep gw2 kcell; have o1_0 : Own w2 ⟨w.heap.size + 1, 0, none⟩ _ := Ge.own gw2 (kown); have c1_0 := cv_some o1_0.1; have f1_0 := o1_0.2; clear o1_0; have o1_1 : Own w2 ⟨w.heap.size + 1, 1, none⟩ _ := Ge.own gw2 (kown); have c1_1 := cv_some o1_1.1; have f1_1 := o1_1.2; clear o1_1; have zw2 : w.heap.size + 2 ≤ w2.heap.size := (by have := Ge.size gw2; (try simp at this); omega)))
      exact bodyPost_ret (v := .tuple #[.agg #[.int .i64 0, .int .i64 0], .bool false]) (by simp [results, Tryz.results52, go_sem, *]) rfl ⟨by rw [HF.out, hT], kge⟩
    replace h1 := Classical.not_not.1 h1
    have iv : nodeB n v = true := nodeB_t h1
    have hT := hcB_t hD h1
    have HF := Lib.hid (hc_t hT)
    have hQ := pot_self (N := (n : Int)) (E := E) (S := S) (m := m) (xs := xs) (a := a) (b := b)
    have p1 := forV_bd n E S m xs a b
    have p2 := forV_bd n E S m xs v b
    have p3 := forV_bd n E S m xs a v
    have M1 := mid (n := forV n E S m xs a b + forV n E S m xs v b - forV n E S m xs a v) (by omega) (by omega)
    have M2 := mid (n := 2 * forV n E S m xs a b) (by omega) (by omega)
    have HR := Lib.hid (fun w' => iRatioOf _ _ w' M1 M2)
    have H1 := Lib.hid (fun w' (g : Ge w w') => iPotential n E S (.slice p m cap) m xs a b v w' (HV.out.ge g) hm)
    have H2 := Lib.hid (fun w' (g : Ge w w') => iPotential n E S (.slice p m cap) m xs a b a w' (HV.out.ge g) hm)
    rw [hQ] at H2
    clear hQ p1 p2 p3 M1 M2
    clear h1 ha hb hab
    go_enter Tryz.func52, Tryz.ntmps52
    go_wp2_with (first | ((go_at_call 88; ((with_reducible refine (iDiffer (n : Int) E S _ m xs a b _ (HV.out.ge (Ge.alloc (Ge.alloc (Ge.refl w) _) _)) hm).mono ?_); rintro e w1 ⟨rfl, gw1⟩); have Gw1 : Ge w w1 := (Ge.trans (kge) gw1); have c0_0 : World.cell? w1 ⟨w.heap.size, 0, none⟩ = some (.int .i64 (n : Int)) := Ge.keep gw1 kcell; have c0_1 : World.cell? w1 ⟨w.heap.size, 1, none⟩ = some (.int .i64 E) := Ge.keep gw1 kcell; have c0_2 : World.cell? w1 ⟨w.heap.size, 2, none⟩ = some (.int .i64 S) := Ge.keep gw1 kcell; have c0_3 : World.cell? w1 ⟨w.heap.size, 3, none⟩ = some (.slice p m cap) := Ge.keep gw1 kcell; have o1_0 : Own w1 ⟨w.heap.size + 1, 0, none⟩ _ := Ge.own gw1 (kown); have c1_0 := cv_some o1_0.1; have f1_0 := o1_0.2; clear o1_0; have o1_1 : Own w1 ⟨w.heap.size + 1, 1, none⟩ _ := Ge.own gw1 (kown); have c1_1 := cv_some o1_1.1; have f1_1 := o1_1.2; clear o1_1; have zw1 : w.heap.size + 2 ≤ w1.heap.size := (by have := Ge.size gw1; (try simp at this); omega)); rw [hD]) | (go_at_call 69; ((with_reducible refine (isNodeI n E S _ _ _ rfl).mono ?_); rintro e w2 ⟨rfl, gw2⟩); have Gw2 : Ge w w2 := (Ge.trans (kge) gw2); have c0_0 : World.cell? w2 ⟨w.heap.size, 0, none⟩ = some (.int .i64 (n : Int)) := Ge.keep gw2 kcell; have c0_1 : World.cell? w2 ⟨w.heap.size, 1, none⟩ = some (.int .i64 E) := Ge.keep gw2 kcell; have c0_2 : World.cell? w2 ⟨w.heap.size, 2, none⟩ = some (.int .i64 S) := Ge.keep gw2 kcell; have c0_3 : World.cell? w2 ⟨w.heap.size, 3, none⟩ = some (.slice p m cap) := Ge.keep gw2 kcell; have o1_0 : Own w2 ⟨w.heap.size + 1, 0, none⟩ _ := Ge.own gw2 (kown); have c1_0 := cv_some o1_0.1; have f1_0 := o1_0.2; clear o1_0; have o1_1 : Own w2 ⟨w.heap.size + 1, 1, none⟩ _ := Ge.own gw2 (kown); have c1_1 := cv_some o1_1.1; have f1_1 := o1_1.2; clear o1_1; have zw2 : w.heap.size + 2 ≤ w2.heap.size := (by have := Ge.size gw2; (try simp at this); omega)))
    go_region_held3 (fun w' => w'.cell? ⟨w.heap.size, 0, none⟩ = some (.int .i64 (n : Int)) ∧ w'.cell? ⟨w.heap.size, 1, none⟩ = some (.int .i64 E) ∧ w'.cell? ⟨w.heap.size, 2, none⟩ = some (.int .i64 S) ∧ w'.cell? ⟨w.heap.size, 3, none⟩ = some (.slice p m cap) ∧ w'.cell? ⟨w.heap.size + 1, 0, none⟩ = some (cv w' ⟨w.heap.size + 1, 0, none⟩) ∧ w'.cell? ⟨w.heap.size + 1, 1, none⟩ = some (cv w' ⟨w.heap.size + 1, 1, none⟩) ∧ w'.frozen? ⟨w.heap.size + 1, 0, none⟩ = false ∧ w'.frozen? ⟨w.heap.size + 1, 1, none⟩ = false ∧ Ge w w') (first | exact ⟨hb.keep (‹_ ∧ _ ∧ _ ∧ _ ∧ _ ∧ _ ∧ _ ∧ _ ∧ _›).1, hb.keep (‹_ ∧ _ ∧ _ ∧ _ ∧ _ ∧ _ ∧ _ ∧ _ ∧ _›).2.1, hb.keep (‹_ ∧ _ ∧ _ ∧ _ ∧ _ ∧ _ ∧ _ ∧ _ ∧ _›).2.2.1, hb.keep (‹_ ∧ _ ∧ _ ∧ _ ∧ _ ∧ _ ∧ _ ∧ _ ∧ _›).2.2.2.1, cv_some (hb.keep (‹_ ∧ _ ∧ _ ∧ _ ∧ _ ∧ _ ∧ _ ∧ _ ∧ _›).2.2.2.2.1), cv_some (hb.keep (‹_ ∧ _ ∧ _ ∧ _ ∧ _ ∧ _ ∧ _ ∧ _ ∧ _›).2.2.2.2.2.1), hb.keepF (‹_ ∧ _ ∧ _ ∧ _ ∧ _ ∧ _ ∧ _ ∧ _ ∧ _›).2.2.2.2.1 (‹_ ∧ _ ∧ _ ∧ _ ∧ _ ∧ _ ∧ _ ∧ _ ∧ _›).2.2.2.2.2.2.1, hb.keepF (‹_ ∧ _ ∧ _ ∧ _ ∧ _ ∧ _ ∧ _ ∧ _ ∧ _›).2.2.2.2.2.1 (‹_ ∧ _ ∧ _ ∧ _ ∧ _ ∧ _ ∧ _ ∧ _ ∧ _›).2.2.2.2.2.2.2.1, Ge.trans (‹_ ∧ _ ∧ _ ∧ _ ∧ _ ∧ _ ∧ _ ∧ _ ∧ _›).2.2.2.2.2.2.2.2 hb⟩ | ((refine ⟨?_, ?_, ?_, ?_, ?_, ?_, ?_, ?_, ?_⟩ <;> (repeat (first | assumption | with_reducible exact Ge.refl _ | with_reducible refine cv_drew ?_ | with_reducible refine cv_alloc ?_ | with_reducible refine cv_set ?_ | with_reducible refine cell_drew ?_ | ((with_reducible refine cell_new ?_ ?_); (focus (simp; done)); rfl) | ((with_reducible refine froz_new (v := undef) ?_ ?_); (focus (simp; done)); rfl) | with_reducible refine cell_drewN ?_ | with_reducible refine cell_alloc ?_ | ((with_reducible refine cell_set ?_ ?_); rotate_left; focus (simp; done)) | with_reducible refine froz_drew ?_ | with_reducible refine froz_set ?_ | with_reducible refine froz_alloc (by assumption) ?_ | with_reducible refine Ge.drew ?_ | with_reducible refine Ge.drewN ?_ _ | with_reducible refine Ge.alloc ?_ _ | ((with_reducible refine Ge.setCell ?_ ?_ _); rotate_left; focus (first | (simp; done) | omega | (simp; omega))) | with_reducible refine Ge.trans ?_ (by assumption)))); done) | ((obtain ⟨s0, s1, s2, s3, s4, s5, s6, s7, s8⟩ := ‹_ ∧ _ ∧ _ ∧ _ ∧ _ ∧ _ ∧ _ ∧ _ ∧ _›); refine ⟨?_, ?_, ?_, ?_, ?_, ?_, ?_, ?_, ?_⟩ <;> (repeat (first | assumption | with_reducible exact Ge.refl _ | with_reducible refine cv_drew ?_ | with_reducible refine cv_alloc ?_ | with_reducible refine cv_set ?_ | with_reducible refine cell_drew ?_ | ((with_reducible refine cell_new ?_ ?_); (focus (simp; done)); rfl) | ((with_reducible refine froz_new (v := undef) ?_ ?_); (focus (simp; done)); rfl) | with_reducible refine cell_drewN ?_ | with_reducible refine cell_alloc ?_ | ((with_reducible refine cell_set ?_ ?_); rotate_left; focus (simp; done)) | with_reducible refine froz_drew ?_ | with_reducible refine froz_set ?_ | with_reducible refine froz_alloc (by assumption) ?_ | with_reducible refine Ge.drew ?_ | with_reducible refine Ge.drewN ?_ _ | with_reducible refine Ge.alloc ?_ _ | ((with_reducible refine Ge.setCell ?_ ?_ _); rotate_left; focus (first | (simp; done) | omega | (simp; omega))) | with_reducible refine Ge.trans ?_ (by assumption))))) (first | (go_at_call 87; ((with_reducible refine (H1.out _ (‹_ ∧ _ ∧ _ ∧ _ ∧ _ ∧ _ ∧ _ ∧ _ ∧ Ge w _›.2.2.2.2.2.2.2.2)).mono ?_); rintro e w' ⟨rfl, hb⟩)) | (go_at_call 87; ((with_reducible refine (H2.out _ (‹_ ∧ _ ∧ _ ∧ _ ∧ _ ∧ _ ∧ _ ∧ _ ∧ Ge w _›.2.2.2.2.2.2.2.2)).mono ?_); rintro e w' ⟨rfl, hb⟩)) | (go_at_call 81; ((with_reducible refine (HR.out _).mono ?_); rintro e w' ⟨rfl, hb⟩)) | fail); (rename_i hHeldX; obtain ⟨c0_0, c0_1, c0_2, c0_3, c1_0, c1_1, f1_0, f1_1, G9⟩ := hHeldX)
    obtain ⟨r0, r1⟩ := res2W c1_0 c1_1 (by simp)
    clear c1_0 c1_1
    go_wp2_with fail
    exact bodyPost_ret (v := .tuple #[.agg #[.int .i64 (ratioOf (forV n E S m xs a b + forV n E S m xs v b - forV n E S m xs a v) (2 * forV n E S m xs a b)).n, .int .i64 (ratioOf (forV n E S m xs a b + forV n E S m xs v b - forV n E S m xs a v) (2 * forV n E S m xs a b)).d], .bool true]) (by simp [results, Tryz.results52, go_sem, *]) rfl ⟨by rw [HF.out, hT], kge⟩
end Go.Proofs.YtagiecajffhnpaaGreat

namespace Go.Proofs.YtagiecajffhnpaaGreat
set_option maxRecDepth 100000
open Go.ChangeShapes Go.WideShapes Go.ChangeAt Go.RowKit Go.Joins

def wireTxt (xs : List Int) (k : Nat) : List UInt8 := [32] ++ fmtInt (wa xs k) ++ [45] ++ fmtInt (wb xs k) ++ [61] ++ fmtInt (ww xs k)
def netHead (N E S : Int) : List UInt8 := fmtInt N ++ [47] ++ fmtInt E ++ [47] ++ fmtInt S ++ [58]
def netPart (N E S : Int) (xs : List Int) : Nat → List UInt8
  | 0 => netHead N E S
  | k + 1 => netPart N E S xs k ++ wireTxt xs k
theorem netPart_le (N E S : Int) (xs : List Int) : ∀ k, (netPart N E S xs k).length ≤ 69 + 69 * k
  | 0 => by have := fmtInt_length N; have := fmtInt_length E; have := fmtInt_length S; simp [netPart, netHead]; omega
  | k + 1 => by
    have := netPart_le N E S xs k
    have := fmtInt_length (wa xs k); have := fmtInt_length (wb xs k); have := fmtInt_length (ww xs k)
    simp [netPart, wireTxt]; omega
noncomputable def netTxt (N E S : Int) (m : Nat) (xs : List Int) : List UInt8 := if netB N E S m xs = true then netPart N E S xs m else []
theorem netTxt_t {N E S : Int} {m : Nat} {xs : List Int} (h : netB N E S m xs = true) : bstr (netTxt N E S m xs) = bstr (netPart N E S xs m) := by simp [netTxt, h]
theorem netTxt_f {N E S : Int} {m : Nat} {xs : List Int} (h : netB N E S m xs = false) : bstr (netTxt N E S m xs) = ⟨#[]⟩ := by simp [netTxt, h, bstr]
theorem head_eq (N E S : Int) (xs : List Int) : bstr (fmtInt N) ++ (⟨#[47]⟩ : ByteArray) ++ bstr (fmtInt E) ++ (⟨#[47]⟩ : ByteArray) ++ bstr (fmtInt S) ++ (⟨#[58]⟩ : ByteArray) = bstr (netPart N E S xs 0) := by
  rw [show (⟨#[47]⟩ : ByteArray) = bstr [47] from rfl, show (⟨#[58]⟩ : ByteArray) = bstr [58] from rfl]
  simp only [bstr_append, netPart, netHead]
theorem wire_eq_i (N E S : Int) (xs : List Int) (k : Nat) : bstr (netPart N E S xs k) ++ ((⟨#[32]⟩ : ByteArray) ++ bstr (fmtInt (wa xs k)) ++ (⟨#[45]⟩ : ByteArray) ++ bstr (fmtInt (wb xs k)) ++ (⟨#[61]⟩ : ByteArray) ++ bstr (fmtInt (ww xs k))) = bstr (netPart N E S xs (k + 1)) := by
  rw [show (⟨#[32]⟩ : ByteArray) = bstr [32] from rfl, show (⟨#[45]⟩ : ByteArray) = bstr [45] from rfl, show (⟨#[61]⟩ : ByteArray) = bstr [61] from rfl]
  simp only [bstr_append, netPart, wireTxt, List.append_assoc]
theorem fsz (x : Int) : (bstr (fmtInt x)).size ≤ 22 := by rw [bstr_size]; exact fmtInt_length x

set_option maxHeartbeats 3200000 in
theorem iFormatNet (N E S : Int) (s : Value) (m : Nat) (xs : List Int) (w : World) (hs : SlF w s m 3 xs) (hm : m ≤ 9223372036854775807) :
    Calls Tryz.prog 23 #[.agg #[.int .i64 N, .int .i64 E, .int .i64 S, s]] w fun e w' => e = .returned (.string (bstr (netTxt N E S m xs))) ∧ Ge w w' := by
  obtain ⟨p, cap, rfl, hc⟩ := hs.open
  have HV := Lib.hid hs
  have HC := Lib.hid hc
  clear hs hc
  cases hB : netB N E S m xs with
  | false =>
    have HF := Lib.hid (netTxt_f hB)
    go_enter Tryz.func23, Tryz.ntmps23
    go_wp2_with ((go_at_call 43; ((with_reducible refine (iNetOk _ _ _ _ m xs _ (HV.out.ge (Ge.alloc (Ge.refl w) _)) hm).mono ?_); rintro e w1 ⟨rfl, g1⟩)); rw [hB])
    go_ret
    exact ⟨ret_str (by rw [HF.out]), kge⟩
  | true =>
    have HF := Lib.hid (netTxt_t hB)
    obtain ⟨⟨a1, a2⟩, ⟨b1, b2⟩, ⟨d1, d2⟩, hK, _⟩ := netP_of hB
    have HK := Lib.hid hK
    clear hK
    obtain ⟨n, rfl⟩ : ∃ n : Nat, N = (n : Int) := ⟨N.toNat, by omega⟩
    have hm10 : m ≤ 10 := prs_len (N := n) (by omega) HK.out
    have HE := Lib.hid (head_eq n E S xs)
    have f1 := fsz (n : Int)
    have f2 := fsz E
    have f3 := fsz S
    have u0 : ¬ (9223372036854775807 < (bstr (fmtInt (n : Int))).size + 1) := by omega
    have u1 : ¬ (9223372036854775807 < (bstr (fmtInt (n : Int))).size + 1 + (bstr (fmtInt E)).size) := by omega
    have u2 : ¬ (9223372036854775807 < (bstr (fmtInt (n : Int))).size + 1 + (bstr (fmtInt E)).size + 1) := by omega
    have u3 : ¬ (9223372036854775807 < (bstr (fmtInt (n : Int))).size + 1 + (bstr (fmtInt E)).size + 1 + (bstr (fmtInt S)).size) := by omega
    have u4 : ¬ (9223372036854775807 < (bstr (fmtInt (n : Int))).size + 1 + (bstr (fmtInt E)).size + 1 + (bstr (fmtInt S)).size + 1) := by omega
    have IN : Hid (-9223372036854775808 ≤ (n : Int) ∧ (n : Int) ≤ 9223372036854775807) := ⟨by omega, by omega⟩
    have IE : Hid (-9223372036854775808 ≤ E ∧ E ≤ 9223372036854775807) := ⟨by omega, by omega⟩
    have IS : Hid (-9223372036854775808 ≤ S ∧ S ≤ 9223372036854775807) := ⟨by omega, by omega⟩
    go_enter Tryz.func23, Tryz.ntmps23
    go_wp2_with ((go_at_call 43; ((with_reducible refine (iNetOk _ _ _ _ m xs _ (HV.out.ge (Ge.alloc (Ge.refl w) _)) hm).mono ?_); rintro e w1 ⟨rfl, g1⟩)); rw [hB]; have c0 := Ge.keep g1 (cell_new (i := 0) rfl rfl); have c1 := Ge.keep g1 (cell_new (i := 1) rfl rfl); have c2 := Ge.keep g1 (cell_new (i := 2) rfl rfl); have c3 := Ge.keep g1 (cell_new (i := 3) rfl rfl); have z1 := g1.size; simp at c0 c1 c2 c3 z1)
    have zl : w.heap.size < w1.heap.size := by omega
    have G1 : Ge w w1 := Ge.trans (Ge.alloc (Ge.refl w) _) g1
    have hS : ∀ w', Ge w1 w' → (w'.cell? ⟨w.heap.size, 0, none⟩ = some (.int .i64 (n : Int)) ∧ w'.cell? ⟨w.heap.size, 1, none⟩ = some (.int .i64 E) ∧ w'.cell? ⟨w.heap.size, 2, none⟩ = some (.int .i64 S) ∧ w'.cell? ⟨w.heap.size, 3, none⟩ = some (.slice p m cap) ∧ Ge w1 w') := fun w' g => ⟨g.keep (kch), g.keep (kch), g.keep (kch), g.keep (kch), Ge.trans (kch) g⟩
    go_region_held3 (fun w' => w'.cell? ⟨w.heap.size, 0, none⟩ = some (.int .i64 (n : Int)) ∧ w'.cell? ⟨w.heap.size, 1, none⟩ = some (.int .i64 E) ∧ w'.cell? ⟨w.heap.size, 2, none⟩ = some (.int .i64 S) ∧ w'.cell? ⟨w.heap.size, 3, none⟩ = some (.slice p m cap) ∧ Ge w1 w') (first | ((with_reducible refine hS _ ?_); exact kch) | fail) (first | (go_at_call 6; ((with_reducible refine (iFormatInt _ _ (by first | exact IN.out.1 | exact IE.out.1 | exact IS.out.1) (by first | exact IN.out.2 | exact IE.out.2 | exact IS.out.2)).mono ?_); rintro e w' ⟨rfl, rfl⟩)) | fail)
    rename_i hHeldX
    obtain ⟨q0, q1, q2, q3, G2⟩ := hHeldX
    clear hS
    go_wp2_with fail
    go_loopw [3, 26] (fun t i wr => ∃ k : Nat, k ≤ m ∧ i = .int .i64 k ∧ t = .string (bstr (netPart n E S xs k)) ∧ Ge w wr) (fun _ i _ => m - (intOf i).toNat)
    case atStart => exact ⟨0, Nat.zero_le _, rfl, congrArg _ HE.out, kge⟩
    case round =>
      obtain ⟨k, hk, rfl, rfl, hg⟩ := hrel
      by_cases hlt : k < m
      · obtain ⟨b, o, rfl, x0, x1, x2⟩ := three_cells HC.out hlt
        have y0 := hg.keep x0
        have y1 := hg.keep x1
        have y2 := hg.keep x2
        clear x0 x1 x2
        change wr.cell? _ = some (.int .i64 (wa xs k)) at y0
        change wr.cell? _ = some (.int .i64 (wb xs k)) at y1
        change wr.cell? _ = some (.int .i64 (ww xs k)) at y2
        obtain ⟨q0, q1, q2, q3, q4⟩ := (HK.out k hlt).1
        have HS := Lib.hid (wire_eq_i n E S xs k)
        have t0 : (bstr (netPart n E S xs k)).size ≤ 69 + 69 * k := by rw [bstr_size]; exact netPart_le _ _ _ _ _
        have t1 := fsz (wa xs k)
        have t2 := fsz (wb xs k)
        have t3 := fsz (ww xs k)
        have z0 : ¬ (9223372036854775807 < 1 + (bstr (fmtInt (wa xs k))).size) := by omega
        have z1 : ¬ (9223372036854775807 < 1 + (bstr (fmtInt (wa xs k))).size + 1) := by omega
        have z2 : ¬ (9223372036854775807 < 1 + (bstr (fmtInt (wa xs k))).size + 1 + (bstr (fmtInt (wb xs k))).size) := by omega
        have z3 : ¬ (9223372036854775807 < 1 + (bstr (fmtInt (wa xs k))).size + 1 + (bstr (fmtInt (wb xs k))).size + 1) := by omega
        have z4 : ¬ (9223372036854775807 < 1 + (bstr (fmtInt (wa xs k))).size + 1 + (bstr (fmtInt (wb xs k))).size + 1 + (bstr (fmtInt (ww xs k))).size) := by omega
        have z5 : ¬ (9223372036854775807 < (bstr (netPart n E S xs k)).size + (1 + (bstr (fmtInt (wa xs k))).size + 1 + (bstr (fmtInt (wb xs k))).size + 1 + (bstr (fmtInt (ww xs k))).size)) := by omega
        have IA : Hid (-9223372036854775808 ≤ (wa xs k) ∧ (wa xs k) ≤ 9223372036854775807) := ⟨by omega, by omega⟩
        have IB : Hid (-9223372036854775808 ≤ (wb xs k) ∧ (wb xs k) ≤ 9223372036854775807) := ⟨by omega, by omega⟩
        have IW : Hid (-9223372036854775808 ≤ (ww xs k) ∧ (ww xs k) ≤ 9223372036854775807) := ⟨by omega, by omega⟩
        generalize wa xs k = X at *
        generalize wb xs k = Y at *
        generalize ww xs k = Z at *
        go_wp2_with fail
        have hS : ∀ w', Ge (wr.alloc (.cells #[.int .i64 X, .int .i64 Y, .int .i64 Z] 45)) w' → (w'.cell? ⟨wr.heap.size, 0, none⟩ = some (.int .i64 X) ∧ w'.cell? ⟨wr.heap.size, 1, none⟩ = some (.int .i64 Y) ∧ w'.cell? ⟨wr.heap.size, 2, none⟩ = some (.int .i64 Z) ∧ Ge wr w') := fun w' g => ⟨g.keep (kch), g.keep (kch), g.keep (kch), Ge.trans (kch) g⟩
        go_region_held3 (fun w' => w'.cell? ⟨wr.heap.size, 0, none⟩ = some (.int .i64 X) ∧ w'.cell? ⟨wr.heap.size, 1, none⟩ = some (.int .i64 Y) ∧ w'.cell? ⟨wr.heap.size, 2, none⟩ = some (.int .i64 Z) ∧ Ge wr w') (first | ((with_reducible refine hS _ ?_); exact kch) | fail) (first | (go_at_call 6; ((with_reducible refine (iFormatInt _ _ (by first | exact IA.out.1 | exact IB.out.1 | exact IW.out.1) (by first | exact IA.out.2 | exact IB.out.2 | exact IW.out.2)).mono ?_); rintro e w' ⟨rfl, rfl⟩)) | fail)
        rename_i hHeldX
        obtain ⟨q0, q1, q2, G7⟩ := hHeldX
        clear hS
        go_wp2_with fail
        go_roundw
        case rel => exact ⟨k + 1, by omega, by go_num, congrArg _ HS.out, kge⟩
        case measure => simp [intOf]; omega
      · have hkn : k = m := by omega
        subst hkn
        go_wp2_with fail
        go_ret
        exact ⟨ret_str (by rw [HF.out]), kge⟩

end Go.Proofs.YtagiecajffhnpaaGreat
