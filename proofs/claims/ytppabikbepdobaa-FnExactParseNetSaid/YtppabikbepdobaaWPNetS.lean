/- ParseNet of the reference: the walk. No condition. -/
import Derived.Test.YtppabikbepdobaaWPNetI
import Derived.Test.YtppabikbepdobaaWNetOkS
namespace Go.Proofs.Ytppabikbepdobaa
set_option maxRecDepth 100000
open Go.ChangeShapes Go.WideShapes Go.ChangeAt Go.RowKit Go.Joins

theorem own_capP {w : World} {base g n c : Nat} {e : TypeId} {P : List Value} (h : w.ownsRow base e 1 (.slice (some ⟨g, 0, none⟩) n c) n P) : n ≤ c := by
  rcases h.2 with ⟨h', _⟩ | ⟨g', cap', cur, h', _, _, hnc, _⟩
  · cases h'
  · simp only [Value.slice.injEq] at h'
    omega
theorem SlS.cut {w : World} {base g n c k : Nat} {e : TypeId} {P : List (List UInt8)} (h : w.ownsRow base e 1 (.slice (some ⟨g, 0, none⟩) n c) n (scells P)) (hk : k ≤ n) : SlS w (.slice (some ⟨g, 0, none⟩) k c) (P.take k) := by
  have hl : P.length = n := by have := h.1; rw [scells_length] at this; omega
  have h2 := Sl.of_owns h
  obtain ⟨_, p, cap, hv, hc⟩ := h2
  simp only [Value.slice.injEq] at hv
  obtain ⟨rfl, _, rfl⟩ := hv
  have e1 : (P.take k).length = k := by simp; omega
  have e2 : scells (P.take k) = (scells P).take k := by unfold scells; rw [List.map_take]
  unfold SlS
  rw [e1]
  refine ⟨by rw [scells_length, e1]; omega, _, c, rfl, fun i u hu => hc i u ?_⟩
  rw [e2] at hu
  have hi : i < k := by
    have := (List.getElem?_eq_some_iff.1 hu).1
    rw [List.length_take] at this; omega
  rwa [List.getElem?_take_of_lt hi] at hu
theorem hdS_cut (s : List UInt8) {kk : Nat} (h : kk = min 3 (pieces [47, 58] (tnth (pieces [32] s) 0)).length) : (pieces [47, 58] (tnth (pieces [32] s) 0)).take kk = hdS s := by
  unfold hdS
  generalize pieces [47, 58] (tnth (pieces [32] s) 0) = P at *
  by_cases c : P.length ≤ 3
  · rw [List.take_of_length_le (by omega), List.take_of_length_le c]
  · have : kk = 3 := by omega
    rw [this]
theorem hdS_len (s : List UInt8) : (hdS s).length ≤ 3 := by unfold hdS; exact List.length_take_le _ _
theorem hdS_le {s x : List UInt8} (h : x ∈ hdS s) : x.length ≤ (tnth (pieces [32] s) 0).length := pieces_le _ (List.mem_of_mem_take h)
theorem gives_fS {w w' : World} {s : List UInt8} (h : pnB (hdS s) s = false) (hg : Ge w w') : GivesP w s (.returned (.tuple #[.agg #[.int .i64 0, .int .i64 0, .int .i64 0, .slice none 0 0], .bool false])) w' :=
  gives_f (by rw [← pn_same]; exact h) hg
theorem gives_tS {w w' : World} {s : List UInt8} {v : Value} (h : hdOk (hdS s) = true) (h1 : wiresOk (pieces [32] s) ((pieces [32] s).length - 1) = true)
    (h2 : netTxt (pv (tnth (hdS s) 0)) (pv (tnth (hdS s) 1)) (pv (tnth (hdS s) 2)) ((pieces [32] s).length - 1) (wX (pieces [32] s) ((pieces [32] s).length - 1)) = s)
    (ho : w'.ownsRow w.heap.size 56 3 v ((pieces [32] s).length - 1) (icells (wX (pieces [32] s) ((pieces [32] s).length - 1)))) (hg : Ge w w') :
    GivesP w s (.returned (.tuple #[.agg #[.int .i64 (pv (tnth (hdS s) 0)), .int .i64 (pv (tnth (hdS s) 1)), .int .i64 (pv (tnth (hdS s) 2)), v], .bool true])) w' := by
  have hb : pnB (hdS s) s = true := by unfold pnB; rw [h, h1, decide_eq_true h2]; rfl
  have e := (pn_facts (Or.inr rfl) hb).2.1
  rw [← e] at h h2 ⊢
  exact gives_t h h1 h2 ho hg
/-- A network that is not valid is not read. -/
theorem pnB_b {s : List UInt8} (k : netB (pv (tnth (hdS s) 0)) (pv (tnth (hdS s) 1)) (pv (tnth (hdS s) 2)) ((pieces [32] s).length - 1) (wX (pieces [32] s) ((pieces [32] s).length - 1)) = false) : pnB (hdS s) s = false := by
  cases c : pnB (hdS s) s with
  | false => rfl
  | true => rw [(pn_facts (Or.inr rfl) c).1] at k; cases k

set_option maxHeartbeats 3200000 in
theorem sParseNetA (s : List UInt8) (w : World) (hm : s.length ≤ 1048576) (hbad : hdOk (hdS s) = false) : Calls Try.prog 23 #[.string (bstr s)] w (GivesP w s) := by
  have GF := Lib.hid (fun w' (g : Ge w w') => gives_fS (pnB_hd (s := s) hbad) g)
  have HS : Hid (∀ w, Calls Try.prog 63 #[.string (bstr s), .string ⟨#[32]⟩] w (GivesS w (pieces [32] s))) := fun w => sSplitAny s [32] w hm (by decide)
  have hpos : 0 < (pieces [32] s).length := by unfold pieces; simp
  have hle0 : (tnth (pieces [32] s) 0).length ≤ 1048576 := by
    rw [tnth_eq _ _ hpos]; exact Nat.le_trans (pieces_le _ (List.getElem_mem hpos)) hm
  have HH : Hid (∀ w, Calls Try.prog 63 #[.string (bstr (tnth (pieces [32] s) 0)), .string ⟨#[47, 58]⟩] w (GivesS w (pieces [47, 58] (tnth (pieces [32] s) 0)))) := fun w => sSplitAny (tnth (pieces [32] s) 0) [47, 58] w hle0 (by decide)
  obtain ⟨kk, hkk⟩ : ∃ kk : Nat, kk = min 3 (pieces [47, 58] (tnth (pieces [32] s) 0)).length := ⟨_, rfl⟩
  have hcut := hdS_cut s hkk
  have HIn := Lib.hid (fun g n c w base e (h : World.ownsRow w base e 1 (.slice (some ⟨g, 0, none⟩) n c) n (scells (pieces [47, 58] (tnth (pieces [32] s) 0)))) (hk : kk ≤ n) => sL15Numbers (.slice (some ⟨g, 0, none⟩) kk c) (hdS s) w (by rw [← hcut]; exact SlS.cut h hk) (by have := hdS_len s; omega) (fun x hx => Nat.le_trans (hdS_le hx) hle0))
  have hp1 : 0 < (pieces [47, 58] (tnth (pieces [32] s) 0)).length := by unfold pieces; simp
  obtain ⟨pn, hpn⟩ : ∃ pn, (pieces [47, 58] (tnth (pieces [32] s) 0)).length = pn := ⟨_, rfl⟩
  rw [hpn] at hkk hp1
  have HPn := Lib.hid hpn
  have hp0 : 0 < pn := hp1
  have hkn : kk ≤ pn := by omega
  have hmin : min (3 : Int) (pn : Int) = (kk : Int) := by omega
  obtain ⟨n, hn⟩ : ∃ n, (pieces [32] s).length = n := ⟨_, rfl⟩
  have HN := Lib.hid hn
  have hn0 : 0 < n := by omega
  have hR : (numsR (hdS s)).length ≤ 1048577 := by
    unfold numsR
    split
    · rw [nums_length]; have := hdS_len s; omega
    · simp
  have FR0 : ∀ w', Ge (w.alloc (.cells #[.int .i64 0, .int .i64 0, .int .i64 0, .slice none 0 0] 29)) w' → ResB w' w.heap.size := fun w' g => (ResB.new w _ _ rfl).ge g
  unfold hdOk at hbad
  clear hle0 hpos hn hcut hpn hp1 hkk
  generalize hdS s = H at *
  generalize pieces [47, 58] (tnth (pieces [32] s) 0) = P at *
  generalize pieces [32] s = l at *
  generalize hL0 : tnth l 0 = L0 at *
  have HL0 := Lib.hid hL0
  clear hL0
  generalize hRR : numsR H = R at *
  cases hA : allB H with
  | false =>
    unfold GivesN at HIn
    rw [hA, hRR] at HIn
    go_enter Try.func23, Try.ntmps23
    go_wp2_with ((go_at_call 63; ((with_reducible refine (HS.out _).mono ?_); rintro e w1 ⟨v1, rfl, o1, g1⟩); rw [HN.out] at o1; obtain ⟨gl, cl, rfl⟩ := Go.Joins.ownsRow_form o1 hn0; have y0 := own_strP o1 hn0; rw [HL0.out] at y0; have RB := FR0 _ g1; have gw1 : Ge w w1 := Ge.trans (Ge.alloc (Ge.refl w) _) g1))
    have hS : ∀ w', Ge w1 w' → (w'.cell? ⟨gl, 0, none⟩ = some (.string (bstr L0)) ∧ Ge w1 w') := fun w' g => ⟨g.keep y0, g⟩
    have tokA : True := trivial
    go_region_held3 (fun w' => w'.cell? ⟨gl, 0, none⟩ = some (.string (bstr L0)) ∧ Ge w1 w') (first | ((with_reducible refine hS _ ?_); (repeat (first | assumption | with_reducible exact Ge.refl _ | with_reducible refine cv_drew ?_ | with_reducible refine cv_alloc ?_ | with_reducible refine cv_set ?_ | (with_reducible apply cv_some; assumption) | with_reducible refine cell_drew ?_ | with_reducible refine cell_drewN ?_ | ((with_reducible refine cell_new ?_ ?_); (focus (simp; done)); rfl) | with_reducible refine cell_alloc ?_ | with_reducible refine cell_same2 ?_ | ((with_reducible refine cell_set2 ?_ ?_); focus (first | (simp; done) | (intro hE; simp at hE; done) | (intro hE; simp at hE; omega))) | with_reducible refine Ge.drew ?_ | with_reducible refine Ge.drewN ?_ _ | with_reducible refine Ge.alloc ?_ _ | ((with_reducible refine Ge.setCell ?_ ?_ _); rotate_left; focus (first | (simp; done) | omega | (simp; omega))) | with_reducible refine Ge.trans ?_ (by assumption) | with_reducible refine Ge.keep (by assumption) ?_)); done) | fail) (first
      | (go_at_call 63; have _t := tokA; ((with_reducible refine (HH.out _).mono ?_); rintro e w2 ⟨v2, rfl, o2, g2⟩); rw [HPn.out] at o2; obtain ⟨ga, ca, rfl⟩ := Go.Joins.ownsRow_form o2 hp0; have hkc : ((kk : Nat) : Int) ≤ (ca : Int) := (by have := own_capP o2; omega); have hkc2 : kk ≤ ca := (by have := own_capP o2; omega); clear tokA)
      | (go_at_call 63; ((with_reducible refine (HH.out _).mono ?_); rintro e w2b ⟨v2b, rfl, o2b, g2b⟩); rw [HPn.out] at o2b; obtain ⟨gb, cb, rfl⟩ := Go.Joins.ownsRow_form o2b hp0)
      | (go_at_call 64; ((with_reducible refine (HIn.out _ _ _ _ _ _ (Ge.owns g2b o2) hkn).mono ?_); rintro e w3 ⟨v3, rfl, o3, g3⟩); obtain ⟨p3, c3, rfl⟩ := owns_form o3)
      | fail)
    rename_i hHeldX
    obtain ⟨_, G3⟩ := hHeldX
    obtain ⟨b0, b1, b2, b3, b4, b5, b6, b7⟩ := RB.ge G3
    go_wp2_with fail
    exact bodyPost_ret (v := .tuple #[.agg #[.int .i64 0, .int .i64 0, .int .i64 0, .slice none 0 0], .bool false]) (by simp [results, Try.results23, go_sem, *]) rfl (GF.out _ (by (repeat (first | with_reducible exact Ge.refl _ | assumption | with_reducible refine Ge.drew ?_ | with_reducible refine Ge.drewN ?_ _ | with_reducible refine Ge.alloc ?_ _ | (with_reducible refine Ge.setCell ?_ (by first | (simp; done) | omega | (simp; omega)) _) | with_reducible refine Ge.trans ?_ (by assumption)))))
  | true =>
    have hRl : R.length = H.length := by rw [← hRR]; unfold numsR; rw [if_pos hA, nums_length]
    have hk : ¬ H.length = 3 := by rw [hA] at hbad; simpa using hbad
    have tk : ((R.length : Int) != 3) = true := by simp; omega
    unfold GivesN at HIn
    rw [hA, hRR] at HIn
    clear hRl hk hRR
    go_enter Try.func23, Try.ntmps23
    go_wp2_with ((go_at_call 63; ((with_reducible refine (HS.out _).mono ?_); rintro e w1 ⟨v1, rfl, o1, g1⟩); rw [HN.out] at o1; obtain ⟨gl, cl, rfl⟩ := Go.Joins.ownsRow_form o1 hn0; have y0 := own_strP o1 hn0; rw [HL0.out] at y0; have RB := FR0 _ g1; have gw1 : Ge w w1 := Ge.trans (Ge.alloc (Ge.refl w) _) g1))
    have hS : ∀ w', Ge w1 w' → (w'.cell? ⟨gl, 0, none⟩ = some (.string (bstr L0)) ∧ Ge w1 w') := fun w' g => ⟨g.keep y0, g⟩
    have tokA : True := trivial
    go_region_held3 (fun w' => w'.cell? ⟨gl, 0, none⟩ = some (.string (bstr L0)) ∧ Ge w1 w') (first | ((with_reducible refine hS _ ?_); (repeat (first | assumption | with_reducible exact Ge.refl _ | with_reducible refine cv_drew ?_ | with_reducible refine cv_alloc ?_ | with_reducible refine cv_set ?_ | (with_reducible apply cv_some; assumption) | with_reducible refine cell_drew ?_ | with_reducible refine cell_drewN ?_ | ((with_reducible refine cell_new ?_ ?_); (focus (simp; done)); rfl) | with_reducible refine cell_alloc ?_ | with_reducible refine cell_same2 ?_ | ((with_reducible refine cell_set2 ?_ ?_); focus (first | (simp; done) | (intro hE; simp at hE; done) | (intro hE; simp at hE; omega))) | with_reducible refine Ge.drew ?_ | with_reducible refine Ge.drewN ?_ _ | with_reducible refine Ge.alloc ?_ _ | ((with_reducible refine Ge.setCell ?_ ?_ _); rotate_left; focus (first | (simp; done) | omega | (simp; omega))) | with_reducible refine Ge.trans ?_ (by assumption) | with_reducible refine Ge.keep (by assumption) ?_)); done) | fail) (first
      | (go_at_call 63; have _t := tokA; ((with_reducible refine (HH.out _).mono ?_); rintro e w2 ⟨v2, rfl, o2, g2⟩); rw [HPn.out] at o2; obtain ⟨ga, ca, rfl⟩ := Go.Joins.ownsRow_form o2 hp0; have hkc : ((kk : Nat) : Int) ≤ (ca : Int) := (by have := own_capP o2; omega); have hkc2 : kk ≤ ca := (by have := own_capP o2; omega); clear tokA)
      | (go_at_call 63; ((with_reducible refine (HH.out _).mono ?_); rintro e w2b ⟨v2b, rfl, o2b, g2b⟩); rw [HPn.out] at o2b; obtain ⟨gb, cb, rfl⟩ := Go.Joins.ownsRow_form o2b hp0)
      | (go_at_call 64; ((with_reducible refine (HIn.out _ _ _ _ _ _ (Ge.owns g2b o2) hkn).mono ?_); rintro e w3 ⟨v3, rfl, o3, g3⟩); obtain ⟨p3, c3, rfl⟩ := owns_form o3)
      | fail)
    rename_i hHeldX
    obtain ⟨_, G3⟩ := hHeldX
    obtain ⟨b0, b1, b2, b3, b4, b5, b6, b7⟩ := RB.ge G3
    go_wp2_with fail
    exact bodyPost_ret (v := .tuple #[.agg #[.int .i64 0, .int .i64 0, .int .i64 0, .slice none 0 0], .bool false]) (by simp [results, Try.results23, go_sem, *]) rfl (GF.out _ (by (repeat (first | with_reducible exact Ge.refl _ | assumption | with_reducible refine Ge.drew ?_ | with_reducible refine Ge.drewN ?_ _ | with_reducible refine Ge.alloc ?_ _ | (with_reducible refine Ge.setCell ?_ (by first | (simp; done) | omega | (simp; omega)) _) | with_reducible refine Ge.trans ?_ (by assumption)))))

set_option maxHeartbeats 6400000 in
theorem sParseNetB (s : List UInt8) (w : World) (hm : s.length ≤ 1048576) (hok : hdOk (hdS s) = true) : Calls Try.prog 23 #[.string (bstr s)] w (GivesP w s) := by
  have HS : Hid (∀ w, Calls Try.prog 63 #[.string (bstr s), .string ⟨#[32]⟩] w (GivesS w (pieces [32] s))) := fun w => sSplitAny s [32] w hm (by decide)
  have hpos : 0 < (pieces [32] s).length := by unfold pieces; simp
  have hle0 : (tnth (pieces [32] s) 0).length ≤ 1048576 := by
    rw [tnth_eq _ _ hpos]; exact Nat.le_trans (pieces_le _ (List.getElem_mem hpos)) hm
  have HH : Hid (∀ w, Calls Try.prog 63 #[.string (bstr (tnth (pieces [32] s) 0)), .string ⟨#[47, 58]⟩] w (GivesS w (pieces [47, 58] (tnth (pieces [32] s) 0)))) := fun w => sSplitAny (tnth (pieces [32] s) 0) [47, 58] w hle0 (by decide)
  obtain ⟨kk, hkk⟩ : ∃ kk : Nat, kk = min 3 (pieces [47, 58] (tnth (pieces [32] s) 0)).length := ⟨_, rfl⟩
  have hcut := hdS_cut s hkk
  have HIn := Lib.hid (fun g n c w base e (h : World.ownsRow w base e 1 (.slice (some ⟨g, 0, none⟩) n c) n (scells (pieces [47, 58] (tnth (pieces [32] s) 0)))) (hk : kk ≤ n) => sL15Numbers (.slice (some ⟨g, 0, none⟩) kk c) (hdS s) w (by rw [← hcut]; exact SlS.cut h hk) (by have := hdS_len s; omega) (fun x hx => Nat.le_trans (hdS_le hx) hle0))
  have hp1 : 0 < (pieces [47, 58] (tnth (pieces [32] s) 0)).length := by unfold pieces; simp
  obtain ⟨pn, hpn⟩ : ∃ pn, (pieces [47, 58] (tnth (pieces [32] s) 0)).length = pn := ⟨_, rfl⟩
  rw [hpn] at hkk hp1
  have HPn := Lib.hid hpn
  have hp0 : 0 < pn := hp1
  have hkn : kk ≤ pn := by omega
  have hmin : min (3 : Int) (pn : Int) = (kk : Int) := by omega
  have HPW := Lib.hid (fun j (hj : j < (pieces [32] s).length - 1) (c : hdOk (pieces [45, 61] (tnth (pieces [32] s) (j + 1))) = false) w' (g : Ge w w') => gives_fS (w := w) (pnB_w (wiresOk_f hj c)) g)
  have HGt := Lib.hid (fun (h1 : wiresOk (pieces [32] s) ((pieces [32] s).length - 1) = true) (h2 : netTxt (pv (tnth (hdS s) 0)) (pv (tnth (hdS s) 1)) (pv (tnth (hdS s) 2)) ((pieces [32] s).length - 1) (wX (pieces [32] s) ((pieces [32] s).length - 1)) = s) v w' ho (g : Ge w w') => gives_tS (w := w) (v := v) hok h1 h2 ho g)
  have HGf := Lib.hid (fun (h2 : ¬ netTxt (pv (tnth (hdS s) 0)) (pv (tnth (hdS s) 1)) (pv (tnth (hdS s) 2)) ((pieces [32] s).length - 1) (wX (pieces [32] s) ((pieces [32] s).length - 1)) = s) w' (g : Ge w w') => gives_fS (w := w) (pnB_n h2) g)
  have HNb := Lib.hid (fun h2 w' (g : Ge w w') => gives_fS (w := w) (pnB_b (s := s) h2) g)
  have HLe := Lib.hid (fun i (hi : i < (pieces [32] s).length) => (by rw [tnth_eq _ _ hi]; exact Nat.le_trans (pieces_le _ (List.getElem_mem hi)) hm : (tnth (pieces [32] s) i).length ≤ 1048576))
  obtain ⟨n, hn⟩ : ∃ n, (pieces [32] s).length = n := ⟨_, rfl⟩
  rw [hn] at HPW HLe HGt HGf HNb
  have HN := Lib.hid hn
  obtain ⟨m, rfl⟩ : ∃ m, n = m + 1 := ⟨n - 1, by omega⟩
  have hn0 : 0 < m + 1 := by omega
  simp only [Nat.add_sub_cancel] at HPW HGt HGf HNb
  have FR0 : ∀ w', Ge (w.alloc (.cells #[.int .i64 0, .int .i64 0, .int .i64 0, .slice none 0 0] 29)) w' → ResB w' w.heap.size := fun w' g => (ResB.new w _ _ rfl).ge g
  simp only [hdOk, Bool.and_eq_true, decide_eq_true_eq] at hok
  obtain ⟨hA, h3⟩ := hok
  have hRR : numsR (hdS s) = [pv (tnth (hdS s) 0), pv (tnth (hdS s) 1), pv (tnth (hdS s) 2)] := by unfold numsR; rw [if_pos hA, h3]; rfl
  have hnB : m ≤ 1048577 := by have := pieces_len [32] s; omega
  clear hle0 hpos hn hcut hpn hp1 hkk
  unfold GivesN at HIn
  rw [hA, hRR] at HIn
  generalize hdS s = H at *
  generalize pieces [47, 58] (tnth (pieces [32] s) 0) = P0 at *
  generalize pieces [32] s = l at *
  generalize hL0 : tnth l 0 = L0 at *
  have HL0 := Lib.hid hL0
  clear hL0
  generalize hNN : pv (tnth H 0) = N at *
  generalize hEE : pv (tnth H 1) = E at *
  generalize hSS : pv (tnth H 2) = S at *
  go_enter Try.func23, Try.ntmps23
  go_wp2_with ((go_at_call 63; ((with_reducible refine (HS.out _).mono ?_); rintro e w1 ⟨v1, rfl, o1, g1⟩); rw [HN.out] at o1; obtain ⟨gl, cl, rfl⟩ := Go.Joins.ownsRow_form o1 hn0; have y0 := own_strP o1 hn0; rw [HL0.out] at y0; have RB := FR0 _ g1; have gw1 : Ge w w1 := Ge.trans (Ge.alloc (Ge.refl w) _) g1))
  have hS : ∀ w', Ge w1 w' → (w'.cell? ⟨gl, 0, none⟩ = some (.string (bstr L0)) ∧ Ge w1 w') := fun w' g => ⟨g.keep y0, g⟩
  have tokA : True := trivial
  go_region_held3 (fun w' => w'.cell? ⟨gl, 0, none⟩ = some (.string (bstr L0)) ∧ Ge w1 w') (first | ((with_reducible refine hS _ ?_); (repeat (first | assumption | with_reducible exact Ge.refl _ | with_reducible refine cv_drew ?_ | with_reducible refine cv_alloc ?_ | with_reducible refine cv_set ?_ | (with_reducible apply cv_some; assumption) | with_reducible refine cell_drew ?_ | with_reducible refine cell_drewN ?_ | ((with_reducible refine cell_new ?_ ?_); (focus (simp; done)); rfl) | with_reducible refine cell_alloc ?_ | with_reducible refine cell_same2 ?_ | ((with_reducible refine cell_set2 ?_ ?_); focus (first | (simp; done) | (intro hE; simp at hE; done) | (intro hE; simp at hE; omega))) | with_reducible refine Ge.drew ?_ | with_reducible refine Ge.drewN ?_ _ | with_reducible refine Ge.alloc ?_ _ | ((with_reducible refine Ge.setCell ?_ ?_ _); rotate_left; focus (first | (simp; done) | omega | (simp; omega))) | with_reducible refine Ge.trans ?_ (by assumption) | with_reducible refine Ge.keep (by assumption) ?_)); done) | fail) (first
    | (go_at_call 63; have _t := tokA; ((with_reducible refine (HH.out _).mono ?_); rintro e w2 ⟨v2, rfl, o2, g2⟩); rw [HPn.out] at o2; obtain ⟨ga, ca, rfl⟩ := Go.Joins.ownsRow_form o2 hp0; have hkc : ((kk : Nat) : Int) ≤ (ca : Int) := (by have := own_capP o2; omega); have hkc2 : kk ≤ ca := (by have := own_capP o2; omega); clear tokA)
    | (go_at_call 63; ((with_reducible refine (HH.out _).mono ?_); rintro e w2b ⟨v2b, rfl, o2b, g2b⟩); rw [HPn.out] at o2b; obtain ⟨gb, cb, rfl⟩ := Go.Joins.ownsRow_form o2b hp0)
    | (go_at_call 64; ((with_reducible refine (HIn.out _ _ _ _ _ _ (Ge.owns g2b o2) hkn).mono ?_); rintro e w3 ⟨v3, rfl, o3, g3⟩); obtain ⟨gr, cr, rfl⟩ := Go.Joins.ownsRow_form (n := 3) o3 (by omega))
    | fail)
  rename_i hHeldX
  obtain ⟨_, G3⟩ := hHeldX
  obtain ⟨b0, b1, b2, b3, b4, b5, b6, b7⟩ := RB.ge G3
  clear hS
  go_upto_region 5 with (fail)
  have x0 : w3.cell? ⟨gr, 0, none⟩ = some (.int .i64 N) := o3.cellAt 0 (by omega)
  have x1 : w3.cell? ⟨gr, 1, none⟩ = some (.int .i64 E) := o3.cellAt 1 (by omega)
  have x2 : w3.cell? ⟨gr, 2, none⟩ = some (.int .i64 S) := o3.cellAt 2 (by omega)
  go_cut [7] (fun sx wx => sx = .pointer (some ⟨w3.heap.size, 0, none⟩) ∧ wx.cell? ⟨w3.heap.size, 0, none⟩ = some (.int .i64 N) ∧ wx.cell? ⟨w3.heap.size, 1, none⟩ = some (.int .i64 E) ∧ wx.cell? ⟨w3.heap.size, 2, none⟩ = some (.int .i64 S) ∧ wx.cell? ⟨w3.heap.size, 3, none⟩ = some (.slice none 0 0) ∧ wx.frozen? ⟨w3.heap.size, 3, none⟩ = false ∧ Ge w3 wx)
  case first =>
    have hS : ∀ w', Ge w3 w' → (w'.cell? ⟨gr, 0, none⟩ = some (.int .i64 N) ∧ w'.cell? ⟨gr, 1, none⟩ = some (.int .i64 E) ∧ w'.cell? ⟨gr, 2, none⟩ = some (.int .i64 S) ∧ Ge w3 w') := fun w' g => ⟨g.keep x0, g.keep x1, g.keep x2, g⟩
    go_region_held3 (fun w' => w'.cell? ⟨gr, 0, none⟩ = some (.int .i64 N) ∧ w'.cell? ⟨gr, 1, none⟩ = some (.int .i64 E) ∧ w'.cell? ⟨gr, 2, none⟩ = some (.int .i64 S) ∧ Ge w3 w') (first | ((with_reducible refine hS _ ?_); (repeat (first | assumption | with_reducible exact Ge.refl _ | with_reducible refine cv_drew ?_ | with_reducible refine cv_alloc ?_ | with_reducible refine cv_set ?_ | (with_reducible apply cv_some; assumption) | with_reducible refine cell_drew ?_ | with_reducible refine cell_drewN ?_ | ((with_reducible refine cell_new ?_ ?_); (focus (simp; done)); rfl) | with_reducible refine cell_alloc ?_ | with_reducible refine cell_same2 ?_ | ((with_reducible refine cell_set2 ?_ ?_); focus (first | (simp; done) | (intro hE; simp at hE; done) | (intro hE; simp at hE; omega))) | with_reducible refine Ge.drew ?_ | with_reducible refine Ge.drewN ?_ _ | with_reducible refine Ge.alloc ?_ _ | ((with_reducible refine Ge.setCell ?_ ?_ _); rotate_left; focus (first | (simp; done) | omega | (simp; omega))) | with_reducible refine Ge.trans ?_ (by assumption) | with_reducible refine Ge.keep (by assumption) ?_)); done) | fail) (fail)
    all_goals
      go_wp2_with fail
      go_meet
      exact ⟨rfl, cell_drew (cell_new rfl rfl), cell_drew (cell_new rfl rfl), cell_drew (cell_new rfl rfl), cell_drew (cell_new rfl rfl), froz_drew (froz_new rfl (v := .slice none 0 0) rfl), Ge.drew (Ge.alloc (Ge.refl _) _)⟩
  obtain ⟨rfl, k0, k1, k2, k3, kf, gB⟩ := hcut
  have ow := Ge.owns (G3.trans gB) o1
  have OW := Lib.hid ow
  have HW : ∀ (a : Addr) (q : Nat), (cl = 1 ∧ a = ⟨gl, 0, none⟩ ∨ a = ⟨gl, 1, none⟩) → ∀ j, j < m → ∃ b o, a = ⟨b, o, none⟩ ∧ wc.cell? ⟨b, o + j, none⟩ = some (.string (bstr (tnth l (j + 1)))) := fun a q ha j hj => by
    rcases ha with ⟨h1, rfl⟩ | rfl
    · exfalso
      rcases OW.out.2 with ⟨h', _⟩ | ⟨g', cap', cur, h', _, _, hnc, _⟩
      · simp at h'
      · simp at h'
        omega
    · exact ⟨gl, 1, rfl, by rw [Nat.add_comm 1 j]; exact own_strP OW.out (by omega)⟩
  clear ow
  go_upto_region 6 with (fail)
  go_cut [48, 49, 50] (fun v k i wx => ∃ (a : Addr) (q : Nat), v = .slice (some a) m q ∧ k = .int .i64 (m : Int) ∧ i = .int .i64 ((0 : Nat) : Int) ∧ wc = wx ∧ Hid (∀ j, j < m → ∃ b o, a = ⟨b, o, none⟩ ∧ wc.cell? ⟨b, o + j, none⟩ = some (.string (bstr (tnth l (j + 1))))))
  case first =>
    by_cases hcl : cl = 1
    · have hc1 : (cl = 1) = True := eq_true hcl
      go_wp2_with fail
      go_meet
      exact ⟨⟨gl, 0, none⟩, 0, rfl, rfl, rfl, rfl, HW _ 0 (Or.inl ⟨hcl, rfl⟩)⟩
    · have hc1 : (cl = 1) = False := eq_false hcl
      go_wp2_with fail
      go_meet
      exact ⟨⟨gl, 1, none⟩, cl - 1, rfl, rfl, rfl, rfl, HW _ 0 (Or.inr rfl)⟩
  obtain ⟨ad, qd, rfl, rfl, rfl, rfl, HWd⟩ := hcut
  clear HW
  have RBc := Lib.hid (ResB.ge (⟨b0, b1, b2, b3, b4, b5, b6, b7⟩ : ResB w3 w.heap.size) gB)
  have gwc : Ge w wc := Ge.trans gw1 (Ge.trans G3 gB)
  have zgb := World.block_lt_of_cell? _ _ k0
  simp at zgb
  have zrb : w.heap.size < w3.heap.size := World.block_lt_of_cell? _ _ b0
  clear b0 b1 b2 b3 b4 b5 b6 b7 x0 x1 x2 o3 y0 o2 o2b
  generalize w3.heap.size = G at *
  go_wp2_with fail
  go_loopw [50] (fun i wr => ∃ (j : Nat) (u : Value), j ≤ m ∧ i = .int .i64 j ∧ Hid (∀ e, e < j → hdOk (pieces [45, 61] (tnth l (e + 1))) = true) ∧ wr.cell? ⟨G, 3, none⟩ = some u ∧ wr.frozen? ⟨G, 3, none⟩ = false ∧ wr.ownsRow wc.heap.size 56 3 u j (icells (wX l j)) ∧ GeX ⟨G, 3, none⟩ wc wr ∧ Ge w wr) (fun i _ => m - (intOf i).toNat)
  case atStart => exact ⟨0, _, Nat.zero_le _, rfl, fun e he => by omega, k3, kf, owns_nil3 _ _ _, GeX.refl _ _, by (repeat (first | with_reducible exact Ge.refl _ | assumption | with_reducible refine Ge.drew ?_ | with_reducible refine Ge.drewN ?_ _ | with_reducible refine Ge.alloc ?_ _ | (with_reducible refine Ge.setCell ?_ (by first | (simp; done) | omega | (simp; omega)) _) | with_reducible refine Ge.trans ?_ (by assumption)))⟩
  case round =>
    obtain ⟨j, u, hj, rfl, HOk, c3, cf, hown, hx, hg⟩ := hrel
    have RBr := RBc.out.gex hx (by omega)
    have d0 := hx.1 ⟨G, 0, none⟩ _ (by simp) k0
    have d1 := hx.1 ⟨G, 1, none⟩ _ (by simp) k1
    have d2 := hx.1 ⟨G, 2, none⟩ _ (by simp) k2
    by_cases hlt : j < m
    · obtain ⟨b, o, rfl, z0⟩ := HWd.out j hlt
      have zw := hx.1 ⟨b, o + j, none⟩ _ (fun e => by rw [e, k3] at z0; cases z0) z0
      have hT : (tnth l (j + 1)).length ≤ 1048576 := HLe.out (j + 1) (by omega)
      have HSw : Hid (∀ w, Calls Try.prog 63 #[.string (bstr (tnth l (j + 1))), .string ⟨#[45, 61]⟩] w (GivesS w (pieces [45, 61] (tnth l (j + 1))))) := fun w => sSplitAny (tnth l (j + 1)) [45, 61] w hT (by decide)
      have hpl := pieces_len [45, 61] (tnth l (j + 1))
      have HIw := Lib.hid (fun v w h => sL15Numbers v (pieces [45, 61] (tnth l (j + 1))) w h (by omega) (fun x hx => Nat.le_trans (pieces_le x hx) hT))
      have hRl : (numsR (pieces [45, 61] (tnth l (j + 1)))).length ≤ 1048577 := by
        unfold numsR
        split
        · rw [nums_length]; omega
        · simp
      have HBad := Lib.hid (fun c w' g => HPW.out j hlt c w' g)
      have HSt : Hid (wX l j ++ [pv (tnth (pieces [45, 61] (tnth l (j + 1))) 0), pv (tnth (pieces [45, 61] (tnth l (j + 1))) 1), pv (tnth (pieces [45, 61] (tnth l (j + 1))) 2)] = wX l (j + 1)) := rfl
      unfold GivesN at HIw
      generalize hTj : tnth l (j + 1) = T at *
      have HTj := Lib.hid hTj
      clear hTj
      generalize hP : pieces [45, 61] T = P at *
      clear hpl hT
      by_cases hA2 : allB P = true
      · by_cases hP3 : P.length = 3
        · have hRX : numsR P = [pv (tnth P 0), pv (tnth P 1), pv (tnth P 2)] := by unfold numsR; rw [if_pos hA2, hP3]; rfl
          have hok2 : hdOk P = true := by unfold hdOk; rw [hA2, hP3]; rfl
          have HOk2 : Hid (∀ e, e < j + 1 → hdOk (pieces [45, 61] (tnth l (e + 1))) = true) := fun e he => by
            by_cases ee : e = j
            · rw [ee, HTj.out, hP]; exact hok2
            · exact HOk.out e (by omega)
          rw [hA2, hRX] at HIw
          generalize pv (tnth P 0) = X at *
          generalize pv (tnth P 1) = Y at *
          generalize pv (tnth P 2) = Z at *
          generalize wX l j = L at *
          clear HBad hRX hok2 hP3 hRl HOk
          go_wp2_with (first
            | (go_at_call 63; ((with_reducible refine (HSw.out _).mono ?_); rintro e w5 ⟨v5, rfl, o5, g5⟩))
            | (go_at_call 64; ((with_reducible refine (HIw.out _ _ (SlS.of_owns o5)).mono ?_); rintro e w6 ⟨v6, rfl, o6, g6⟩); obtain ⟨gr2, cr2, rfl⟩ := Go.Joins.ownsRow_form (n := 3) o6 (by omega)))
          have g56 := Ge.trans g5 g6
          have r0 : w6.cell? ⟨gr2, 0, none⟩ = some (.int .i64 X) := o6.cellAt 0 (by omega)
          have r1 : w6.cell? ⟨gr2, 1, none⟩ = some (.int .i64 Y) := o6.cellAt 1 (by omega)
          have r2 : w6.cell? ⟨gr2, 2, none⟩ = some (.int .i64 Z) := o6.cellAt 2 (by omega)
          have s3 := g56.keep c3
          have s4 := g56.keepF c3 cf
          have own6 := Ge.owns g56 hown
          have hx6 := hx.ge ⟨_, c3⟩ g56
          have hgr := (o6.lt gr2 rfl).1
          have zz := g5.size
          have bu : ∀ k, u.ownBlock = some k → gr2 ≠ k := fun k hk e => by have := (hown.lt k hk).2; omega
          have bG : ∀ k, u.ownBlock = some k → G ≠ k := fun k hk e => by have := (hown.lt k hk).1; omega
          clear c3 cf
          have hx6e : ∃ z, w6.cell? ⟨G, 3, none⟩ = some z := ⟨_, s3⟩
          have zG6 : G < w6.heap.size := World.block_lt_of_cell? _ _ s3
          have zr6 : gr2 < w6.heap.size := World.block_lt_of_cell? _ _ r0
          have HOwn := Lib.hid (Ge.owns (Ge.drew (Ge.refl w6)) own6)
          have HZ6 : Hid (wc.heap.size ≤ w6.drew.heap.size) := hx6.2.2
          have hjn : j < 1099511627776 := by omega
          have k3' : (w6.drew.alloc (.cells #[.int .i64 X, .int .i64 Y, .int .i64 Z] 56)).cell? ⟨G, 3, none⟩ = some u := cell_alloc s3
          have k4' : (w6.drew.alloc (.cells #[.int .i64 X, .int .i64 Y, .int .i64 Z] 56)).frozen? ⟨G, 3, none⟩ = false := Ge.keepF (Ge.alloc (Ge.drew (Ge.refl w6)) _) s3 s4
          have K3 := Lib.hid k3'
          have K4 := Lib.hid k4'
          clear k3' k4'
          obtain ⟨v8, w8, hr8, own8, m8⟩ := run_wire wc.heap.size u j L HOwn.out HZ6.out X Y Z hjn
          obtain ⟨p8, c8, rfl⟩ := owns_form own8
          have HR8 := Lib.hid hr8
          have t3 := mine_cell m8 K3.out bG
          have t4 := mine_froz m8 K3.out K4.out bG
          have q0 := mine_cell m8 (cell_alloc (o := .cells #[.int .i64 X, .int .i64 Y, .int .i64 Z] 56) (cell_drew r0)) bu
          have q1 := mine_cell m8 (cell_alloc (o := .cells #[.int .i64 X, .int .i64 Y, .int .i64 Z] 56) (cell_drew r1)) bu
          have q2 := mine_cell m8 (cell_alloc (o := .cells #[.int .i64 X, .int .i64 Y, .int .i64 Z] 56) (cell_drew r2)) bu
          have gA : Ge w (w6.drew.alloc (.cells #[.int .i64 X, .int .i64 Y, .int .i64 Z] 56)) := Ge.alloc (Ge.drew (Ge.trans hg g56)) _
          have G8 : Ge w w8 := gA.mine (HOwn.out.alloc _) (by omega) m8
          have hx8 : GeX ⟨G, 3, none⟩ wc w8 := GeX.mine (hx6.ge hx6e (Ge.alloc (Ge.drew (Ge.refl _)) _)) (HOwn.out.alloc _) (Nat.le_refl _) m8
          have fin0 := cell_same2 (u := .slice p8 (j + 1) c8) (cv_some t3)
          have HFin := Lib.hid (And.intro fin0 (And.intro (froz_set (b := ⟨G, 3, none⟩) (u := .slice p8 (j + 1) c8) t4) (And.intro (owns_set (o := 3) own8 zgb (.slice p8 (j + 1) c8)) (And.intro (hx8.set (.slice p8 (j + 1) c8)) (Ge.setCell G8 (p := ⟨G, 3, none⟩) (by show w.heap.size ≤ G; omega) (.slice p8 (j + 1) c8))))))
          rw [HSt.out] at HFin
          clear fin0 hx8 G8 gA own8 m8 hr8
          refine wp_region_head (S := fun w' => w'.cell? ⟨G, 3, none⟩ = some u ∧ w'.cell? ⟨gr2, 0, none⟩ = some (.int .i64 X) ∧ w'.cell? ⟨gr2, 1, none⟩ = some (.int .i64 Y) ∧ w'.cell? ⟨gr2, 2, none⟩ = some (.int .i64 Z)) 15 (by kernel_rfl) (by kernel_rfl) (⟨cell_drew s3, cell_drew r0, cell_drew r1, cell_drew r2⟩) (fun hHeld => ?_)
          refine head_take 0 (v := ?_) rfl (by kernel_rfl) (by kernel_rfl) (fun _ _ _ h => h) (by assumption) (yields_if (by rfl) ?_) ?_
          rotate_left
          focus (intro w' hSw; (try dsimp only at hSw); go_simp; (try with_reducible rfl))
          (try simp only [Act.put, List.setIfInBounds_toArray, List.set_cons_zero, List.set_cons_succ])
          refine head_take 1 (v := ?_) rfl (by kernel_rfl) (by kernel_rfl) (fun _ _ _ h => h) (by assumption) (yields_if (by rfl) ?_) ?_
          rotate_left
          focus (intro w' hSw; (try dsimp only at hSw); go_simp; (try with_reducible rfl))
          (try simp only [Act.put, List.setIfInBounds_toArray, List.set_cons_zero, List.set_cons_succ])
          refine head_take 2 (v := ?_) rfl (by kernel_rfl) (by kernel_rfl) (fun _ _ _ h => h) (by assumption) (yields_if (by rfl) ?_) ?_
          rotate_left
          focus (intro w' hSw; (try dsimp only at hSw); go_simp; (try with_reducible rfl))
          (try simp only [Act.put, List.setIfInBounds_toArray, List.set_cons_zero, List.set_cons_succ])
          refine head_take 3 (v := ?_) rfl (by kernel_rfl) (by kernel_rfl) (fun _ _ _ h => h) (by assumption) (yields_if (by rfl) ?_) ?_
          rotate_left
          focus (intro w' hSw; (try dsimp only at hSw); go_simp; (try with_reducible rfl))
          (try simp only [Act.put, List.setIfInBounds_toArray, List.set_cons_zero, List.set_cons_succ])
          refine head_take 4 (v := ?_) rfl (by kernel_rfl) (by kernel_rfl) (fun _ _ _ h => h) (by assumption) (yields_if (by rfl) ?_) ?_
          rotate_left
          focus (intro w' hSw; (try dsimp only at hSw); go_simp; (try with_reducible rfl))
          (try simp only [Act.put, List.setIfInBounds_toArray, List.set_cons_zero, List.set_cons_succ])
          refine head_take 5 (v := ?_) rfl (by kernel_rfl) (by kernel_rfl) (fun _ _ _ h => h) (by assumption) (yields_if (by rfl) ?_) ?_
          rotate_left
          focus (intro w' hSw; (try dsimp only at hSw); go_simp; (try with_reducible rfl))
          (try simp only [Act.put, List.setIfInBounds_toArray, List.set_cons_zero, List.set_cons_succ])
          refine head_take 6 (v := ?_) rfl (by kernel_rfl) (by kernel_rfl) (fun _ _ _ h => h) (by assumption) (yields_if (by rfl) ?_) ?_
          rotate_left
          focus (intro w' hSw; (try dsimp only at hSw); go_simp; (try with_reducible rfl))
          (try simp only [Act.put, List.setIfInBounds_toArray, List.set_cons_zero, List.set_cons_succ])
          refine head_take 7 (v := ?_) rfl (by kernel_rfl) (by kernel_rfl) (fun _ _ _ h => h) (by assumption) (yields_if (by rfl) ?_) ?_
          rotate_left
          focus (intro w' hSw; (try dsimp only at hSw); go_simp; (try with_reducible rfl))
          (try simp only [Act.put, List.setIfInBounds_toArray, List.set_cons_zero, List.set_cons_succ])
          refine head_take 8 (v := ?_) rfl (by kernel_rfl) (by kernel_rfl) (fun _ _ _ h => h) (by assumption) (yields_if (by rfl) ?_) ?_
          rotate_left
          focus (intro w' hSw; (try dsimp only at hSw); go_simp; (try with_reducible rfl))
          (try simp only [Act.put, List.setIfInBounds_toArray, List.set_cons_zero, List.set_cons_succ])
          refine head_take 9 (v := ?_) rfl (by kernel_rfl) (by kernel_rfl) (fun _ _ _ h => h) (by assumption) (yields_if (by rfl) ?_) ?_
          rotate_left
          focus (intro w' hSw; (try dsimp only at hSw); go_simp; (try with_reducible rfl))
          (try simp only [Act.put, List.setIfInBounds_toArray, List.set_cons_zero, List.set_cons_succ])
          refine head_take 10 (v := ?_) rfl (by kernel_rfl) (by kernel_rfl) (fun _ _ _ h => h) (by assumption) (yields_if (by rfl) ?_) ?_
          rotate_left
          focus (intro w' hSw; (try dsimp only at hSw); go_simp; (try with_reducible rfl))
          (try simp only [Act.put, List.setIfInBounds_toArray, List.set_cons_zero, List.set_cons_succ])
          refine head_take 11 (v := ?_) rfl (by kernel_rfl) (by kernel_rfl) (fun _ _ _ h => h) (by assumption) (yields_if (by rfl) ?_) ?_
          rotate_left
          focus (intro w' hSw; (try dsimp only at hSw); go_simp; (try with_reducible rfl))
          (try simp only [Act.put, List.setIfInBounds_toArray, List.set_cons_zero, List.set_cons_succ])
          refine head_one 12 rfl (by kernel_rfl) (fun K hK => ?_)
          go_simp
          refine hK.out _ _ ⟨cell_alloc (cell_drew s3), cell_alloc (cell_drew r0), cell_alloc (cell_drew r1), cell_alloc (cell_drew r2)⟩ (fun hHeld => ?_)
          clear hK K
          (try simp only [Act.put, List.setIfInBounds_toArray, List.set_cons_zero, List.set_cons_succ])
          refine head_one 13 rfl (by kernel_rfl) (fun K hK => ?_)
          rw [if_pos (by rfl)]
          refine step_run _ _ rfl rfl (v := u) rfl rfl HR8.out ?_
          refine hK.out _ _ ⟨t3, q0, q1, q2⟩ (fun hHeld => ?_)
          clear hK K
          (try simp only [Act.put, List.setIfInBounds_toArray, List.set_cons_zero, List.set_cons_succ])
          refine head_take 14 (v := ?_) rfl (by kernel_rfl) (by kernel_rfl) (fun _ _ _ h => h) (by assumption) (yields_if (by rfl) ?_) ?_
          rotate_left
          focus (intro w' hSw; (try dsimp only at hSw); go_simp; (try with_reducible rfl))
          (try simp only [Act.put, List.setIfInBounds_toArray, List.set_cons_zero, List.set_cons_succ])
          refine head_done (by kernel_rfl) ?_
          go_wp2_with fail
          go_roundw
          case rel => exact ⟨j + 1, .slice p8 (j + 1) c8, by omega, by go_num, HOk2.out, HFin.out.1, HFin.out.2.1, HFin.out.2.2.1, HFin.out.2.2.2.1, HFin.out.2.2.2.2⟩
          case measure => simp [intOf]; omega
        · have hbad2 : hdOk P = false := by unfold hdOk; rw [decide_eq_false hP3, Bool.and_false]
          have GF2 := Lib.hid (fun w' g => HBad.out hbad2 w' g)
          have hRk : (numsR P).length = P.length := by unfold numsR; rw [if_pos hA2, nums_length]
          have tk : (((numsR P).length : Int) != 3) = true := by simp; omega
          rw [hA2] at HIw
          generalize numsR P = R2 at *
          clear HBad hRk hP3
          go_wp2_with (first
            | (go_at_call 63; ((with_reducible refine (HSw.out _).mono ?_); rintro e w5 ⟨v5, rfl, o5, g5⟩); replace RBr := RBr.ge g5)
            | (go_at_call 64; ((with_reducible refine (HIw.out _ _ (SlS.of_owns o5)).mono ?_); rintro e w6 ⟨v6, rfl, o6, g6⟩); obtain ⟨p6, c6, rfl⟩ := owns_form o6; replace RBr := RBr.ge g6; obtain ⟨b0, b1, b2, b3, b4, b5, b6, b7⟩ := RBr))
          exact bodyPost_ret (v := .tuple #[.agg #[.int .i64 0, .int .i64 0, .int .i64 0, .slice none 0 0], .bool false]) (by simp [results, Try.results23, go_sem, *]) rfl (GF2.out _ (by (repeat (first | with_reducible exact Ge.refl _ | assumption | with_reducible refine Ge.drew ?_ | with_reducible refine Ge.drewN ?_ _ | with_reducible refine Ge.alloc ?_ _ | (with_reducible refine Ge.setCell ?_ (by first | (simp; done) | omega | (simp; omega)) _) | with_reducible refine Ge.trans ?_ (by assumption)))))
      · have hA3 : allB P = false := by simpa using hA2
        have hbad2 : hdOk P = false := by unfold hdOk; rw [hA3]; rfl
        have GF2 := Lib.hid (fun w' g => HBad.out hbad2 w' g)
        rw [hA3] at HIw
        generalize numsR P = R2 at *
        clear HBad
        go_wp2_with (first
          | (go_at_call 63; ((with_reducible refine (HSw.out _).mono ?_); rintro e w5 ⟨v5, rfl, o5, g5⟩); replace RBr := RBr.ge g5)
          | (go_at_call 64; ((with_reducible refine (HIw.out _ _ (SlS.of_owns o5)).mono ?_); rintro e w6 ⟨v6, rfl, o6, g6⟩); obtain ⟨p6, c6, rfl⟩ := owns_form o6; replace RBr := RBr.ge g6; obtain ⟨b0, b1, b2, b3, b4, b5, b6, b7⟩ := RBr))
        exact bodyPost_ret (v := .tuple #[.agg #[.int .i64 0, .int .i64 0, .int .i64 0, .slice none 0 0], .bool false]) (by simp [results, Try.results23, go_sem, *]) rfl (GF2.out _ (by (repeat (first | with_reducible exact Ge.refl _ | assumption | with_reducible refine Ge.drew ?_ | with_reducible refine Ge.drewN ?_ _ | with_reducible refine Ge.alloc ?_ _ | (with_reducible refine Ge.setCell ?_ (by first | (simp; done) | omega | (simp; omega)) _) | with_reducible refine Ge.trans ?_ (by assumption)))))
    · have hjm : m = j := by omega
      subst hjm
      have HFm := Lib.hid (fun wq (g : Ge wr wq) => sFormatNet N E S u m (wX l m) wq ((SlF.of_owns hown).ge g) (by omega))
      have HNk := Lib.hid (sNetOk N E S u m (wX l m) wr (SlF.of_owns hown) (by omega))
      have hwk := wiresOk_t HOk.out
      have HG2 := Lib.hid (fun h2 w' ho g => HGt.out hwk h2 u w' ho g)
      clear hwk HGt
      generalize wX l m = L at *
      obtain ⟨pu, cu, rfl⟩ := owns_form hown
      have zwc : w.heap.size < wc.heap.size := by omega
      cases hNB : netB N E S m L with
      | false =>
        have GF3 := Lib.hid (fun w' g => HNb.out hNB w' g)
        rw [hNB] at HNk
        clear HG2 HGf
        go_wp2_with (go_at_call 49; ((with_reducible refine (HNk.out).mono ?_); rintro e w8 ⟨rfl, g8⟩); have e0 := g8.keep d0; have e1 := g8.keep d1; have e2 := g8.keep d2; have e3 := g8.keep c3; replace RBr := RBr.ge g8; obtain ⟨b0, b1, b2, b3, b4, b5, b6, b7⟩ := RBr)
        exact bodyPost_ret (v := .tuple #[.agg #[.int .i64 0, .int .i64 0, .int .i64 0, .slice none 0 0], .bool false]) (by simp [results, Try.results23, go_sem, *]) rfl (GF3.out _ (by (repeat (first | with_reducible exact Ge.refl _ | assumption | with_reducible refine Ge.drew ?_ | with_reducible refine Ge.drewN ?_ _ | with_reducible refine Ge.alloc ?_ _ | (with_reducible refine Ge.setCell ?_ (by first | (simp; done) | omega | (simp; omega)) _) | with_reducible refine Ge.trans ?_ (by assumption)))))
      | true =>
        rw [hNB] at HNk
        by_cases hT : netTxt N E S m L = s
        · have HG3 := Lib.hid (fun w' ho g => HG2.out hT w' ho g)
          rw [hT] at HFm
          clear hT HG2 HGf hNB
          go_wp2_with (first | (go_at_call 49; ((with_reducible refine (HNk.out).mono ?_); rintro e w8 ⟨rfl, g8⟩); have e0 := g8.keep d0; have e1 := g8.keep d1; have e2 := g8.keep d2; have e3 := g8.keep c3; replace RBr := RBr.ge g8) | (go_at_call 16; ((with_reducible refine (HFm.out _ g8).mono ?_); rintro e w9 ⟨rfl, g9⟩); have e0' := g9.keep e0; have e1' := g9.keep e1; have e2' := g9.keep e2; have e3' := g9.keep e3; replace RBr := RBr.ge g9; obtain ⟨b0, b1, b2, b3, b4, b5, b6, b7⟩ := RBr; have own9 := Ge.owns (Ge.trans g8 g9) hown))
          exact bodyPost_ret (v := .tuple #[.agg #[.int .i64 N, .int .i64 E, .int .i64 S, .slice pu m cu], .bool true]) (by simp [results, Try.results23, go_sem, *]) rfl (HG3.out _ (by refine owns_mono (base := wc.heap.size) ?_ (by omega); repeat (first | exact own9 | refine owns_set ?_ zwc _)) (by (repeat (first | with_reducible exact Ge.refl _ | assumption | with_reducible refine Ge.drew ?_ | with_reducible refine Ge.drewN ?_ _ | with_reducible refine Ge.alloc ?_ _ | (with_reducible refine Ge.setCell ?_ (by first | (simp; done) | omega | (simp; omega)) _) | with_reducible refine Ge.trans ?_ (by assumption)))))
        · have GF3 := Lib.hid (fun w' g => HGf.out hT w' g)
          have tn := bstr_neq hT
          clear HG2 HGf hNB
          generalize netTxt N E S m L = TX at *
          go_wp2_with (first | (go_at_call 49; ((with_reducible refine (HNk.out).mono ?_); rintro e w8 ⟨rfl, g8⟩); have e0 := g8.keep d0; have e1 := g8.keep d1; have e2 := g8.keep d2; have e3 := g8.keep c3; replace RBr := RBr.ge g8) | (go_at_call 16; ((with_reducible refine (HFm.out _ g8).mono ?_); rintro e w9 ⟨rfl, g9⟩); have e0' := g9.keep e0; have e1' := g9.keep e1; have e2' := g9.keep e2; have e3' := g9.keep e3; replace RBr := RBr.ge g9; obtain ⟨b0, b1, b2, b3, b4, b5, b6, b7⟩ := RBr; have own9 := Ge.owns (Ge.trans g8 g9) hown))
          exact bodyPost_ret (v := .tuple #[.agg #[.int .i64 0, .int .i64 0, .int .i64 0, .slice none 0 0], .bool false]) (by simp [results, Try.results23, go_sem, *]) rfl (GF3.out _ (by (repeat (first | with_reducible exact Ge.refl _ | assumption | with_reducible refine Ge.drew ?_ | with_reducible refine Ge.drewN ?_ _ | with_reducible refine Ge.alloc ?_ _ | (with_reducible refine Ge.setCell ?_ (by first | (simp; done) | omega | (simp; omega)) _) | with_reducible refine Ge.trans ?_ (by assumption)))))

end Go.Proofs.Ytppabikbepdobaa
