/- slices.Compact of fractions. No condition. -/
import Derived.Test.YtmcnfhpjjmbdmaaWFlR
import Derived.Test.YtmcnfhpjjmbdmaaWBase
import Derived.Deep.DeepCutAuto
import Derived.Deep.QuietTactic
namespace Go.Proofs.Ytmcnfhpjjmbdmaa
set_option maxRecDepth 100000
open Go.ChangeShapes Go.WideShapes Go.ChangeAt Go.RowKit Go.Joins Go.Lib

set_option maxHeartbeats 3200000 in
theorem compactA (base g c : Nat) (d : Array Rt) (w w0 : World) (h : OwR w base (.slice (some ⟨g, 0, none⟩) d.size c) d.toList) (hm : d.size ≤ 1000) (hg0 : Ge w0 w) (hgs : w0.heap.size ≤ g) :
    Calls Try.prog 40 #[.slice (some ⟨g, 0, none⟩) d.size c] w fun e w' => ∃ m, (compactUpTo d d.size).length = m ∧
      e = .returned (.slice (some ⟨g, 0, none⟩) m c) ∧ OwR w' base (.slice (some ⟨g, 0, none⟩) m c) (compactUpTo d d.size) ∧ Ge w0 w' := by
  have hcap : d.size ≤ c ∧ c ≤ 9223372036854775807 := by
    rcases h.2 with ⟨h', _⟩ | ⟨g', cap', cur, h', _, _, hnc, hmx, _⟩
    · simp at h'
    · simp at h'
      unfold maxLen at hmx
      simp at hnc
      omega
  obtain ⟨hc1, hc2⟩ := hcap
  obtain ⟨n, hn⟩ : ∃ n, d.size = n := ⟨_, rfl⟩
  have same : (∀ j, j < n → keeps d j = true) → compactUpTo d n = d.toList := by
    intro hall
    rw [compactUpTo_all d _ hall, ← hn, range_map_get]
  have HS := Lib.hid same
  have HD := Lib.hid hn
  have HO := Lib.hid h
  rw [hn] at hc1 hm HO ⊢
  clear same hn h
  by_cases h2 : n < 2
  · have HK := Lib.hid (HS.out (fun j hj => keeps_lt_one d j (by omega)))
    go_enter Try.func40, Try.ntmps40
    go_wp2_with fail
    go_ret
    exact ⟨n, by rw [HK.out]; simpa using HD.out, rfl, by rw [HK.out]; exact HO.out, hg0⟩
  · go_enter Try.func40, Try.ntmps40
    go_wp2_with fail
    go_loopw [3] (fun s3 wr => ∃ k : Nat, 1 ≤ k ∧ k ≤ n ∧ s3 = .int .i64 k ∧ OwR wr base (.slice (some ⟨g, 0, none⟩) n c) d.toList ∧ Hid (∀ j, j < k → keeps d j = true) ∧ Ge w0 wr) (fun i _ => n - (intOf i).toNat)
    case atStart => exact ⟨1, Nat.le_refl _, by omega, rfl, HO.out, keeps_lt_one d, hg0⟩
    case round =>
      obtain ⟨k, hk1, hk, rfl, hown, hall, hg⟩ := hrel
      clear HO
      by_cases hlt : k < n
      · obtain ⟨c1, c2⟩ := hown.cellA (k := k) (by rw [HD.out]; exact hlt)
        obtain ⟨e1, e2⟩ := hown.cellA (k := k - 1) (by rw [HD.out]; omega)
        have HO := Lib.hid hown
        clear hown
        generalize hx : d[k]! = x at c1 c2
        generalize hy : d[k - 1]! = y at e1 e2
        have B := Lib.hid (And.intro hx hy)
        clear hx hy
        by_cases hdup : x = y
        · subst hdup
          have HK := Lib.hid (keeps_neg (d := d) (m := k) (by omega) (by rw [B.out.1, B.out.2]))
          obtain ⟨xn, xd⟩ := x
          go_wp2_with fail
          go_quiet (fail)
          go_wp2_with fail
          clear c1 c2 e1 e2
          have HW := Lib.hid (And.intro hall.out HK.out)
          have HO2 := Lib.hid (HO.out.ge ((Ge.refl wr).drewN nq))
          have hg2 := hg.drewN nq
          clear HO hg HK hall B
          generalize wr.drewN nq = wa at *
          go_loopw [3, 5] (fun s3 s5 wr => ∃ (kk k2 : Nat) (dk : Array Rt), s3 = .int .i64 kk ∧ s5 = .int .i64 k2 ∧ 1 ≤ k2 ∧ k + k2 ≤ n ∧ OwR wr base (.slice (some ⟨g, 0, none⟩) n c) dk.toList ∧ CompInv d (k + k2) kk dk ∧ Ge w0 wr) (fun _ s5 _ => n - (intOf s5).toNat)
          case atStart => exact ⟨k, 1, d, rfl, rfl, Nat.le_refl _, by omega, HO2.out, CompInv.start HW.out.1 HW.out.2, hg2⟩
          case round =>
            obtain ⟨kk, k2, dk, rfl, rfl, h1, hle, hown, hI, hg⟩ := hrel
            clear HO2 hg2
            have hkk := hI.lt
            have hds : dk.size = n := by rw [hI.size]; exact HD.out
            by_cases hlt2 : k + k2 < n
            · obtain ⟨m1, m2⟩ := hown.cellA (k := k + k2) (by omega)
              obtain ⟨p1, p2⟩ := hown.cellA (k := k + k2 - 1) (by omega)
              obtain ⟨o1, o2⟩ := hown.cellA (k := kk) (by omega)
              have f1 := hown.frozen (kk * 2)
              have f2 := hown.frozen (kk * 2 + 1)
              rw [hI.high (k + k2) (by omega), show (k + k2) * 2 = k * 2 + k2 * 2 by omega] at m1 m2
              rw [hI.high (k + k2 - 1) (by omega), show (k + k2 - 1) * 2 = k * 2 + (k2 - 1) * 2 by omega] at p1 p2
              have HO := Lib.hid hown
              have I2 := Lib.hid hI
              have HL := Lib.hid (show dk.toList.length = n by simpa using hds)
              clear hown hI hds
              generalize hx : d[k + k2]! = x at m1 m2
              generalize hy : d[k + k2 - 1]! = y at p1 p2
              generalize dk[kk]! = old at o1 o2
              have B := Lib.hid (And.intro hx hy)
              clear hx hy
              by_cases hdup : x = y
              · subst hdup
                have HK := Lib.hid (keeps_neg (d := d) (m := k + k2) (by omega) (by rw [B.out.1, B.out.2]))
                obtain ⟨un, ud⟩ := x
                clear o1 o2 f1 f2
                go_wp2_with fail
                go_quiet (fail)
                go_wp2_with fail
                go_roundw
                case rel => exact ⟨kk, k2 + 1, dk, rfl, by go_num, by omega, by omega, HO.out.ge ((Ge.refl _).drewN _), I2.out.skip HK.out, hg.drewN _⟩
                case measure => simp [intOf]; omega
              · have HK := Lib.hid (keeps_pos (d := d) (m := k + k2) (by rw [B.out.1, B.out.2]; exact hdup))
                have HC := Lib.hid (I2.out.keep (by rw [HD.out]; exact hlt2) HK.out)
                rw [B.out.1] at HC
                have hne := rt_ne hdup
                obtain ⟨un, ud⟩ := x
                obtain ⟨yn, yd⟩ := y
                simp only at m1 m2 p1 p2
                rcases hne with hne | ⟨he, hne⟩
                · have HN := Lib.hid hne
                  clear hdup B
                  have tn : (un == yn) = false := by simpa using hne
                  clear hne
                  go_wp2_with fail
                  go_quiet (fail)
                  go_wp2_with fail
                  have HT := OwR.set (HO.out.ge ((Ge.refl _).drewN nq)) HL.out (hg.drewN nq) hgs kk ⟨un, ud⟩
                  go_roundw
                  case rel => exact ⟨kk + 1, k2 + 1, dk.setIfInBounds kk ⟨un, ud⟩, by go_num, by go_num, by omega, by omega, by rw [Array.toList_setIfInBounds]; exact HT.1, HC.out, HT.2⟩
                  case measure => simp [intOf]; omega
                · have HN := Lib.hid hne
                  simp only at he
                  subst he
                  clear hdup B
                  have tn : (ud == yd) = false := by simpa using hne
                  clear hne
                  go_wp2_with fail
                  go_quiet (fail)
                  go_wp2_with fail
                  have HT := OwR.set (HO.out.ge ((Ge.refl _).drewN nq)) HL.out (hg.drewN nq) hgs kk ⟨un, ud⟩
                  go_roundw
                  case rel => exact ⟨kk + 1, k2 + 1, dk.setIfInBounds kk ⟨un, ud⟩, by go_num, by go_num, by omega, by omega, by rw [Array.toList_setIfInBounds]; exact HT.1, HC.out, HT.2⟩
                  case measure => simp [intOf]; omega
            · have hend : k + k2 = n := by omega
              have hkn : kk < n := by omega
              have hLl : (fl dk.toList).length = n * 2 := by rw [fl_len]; simp [hds]
              have hcell : ∀ j, j < (n - kk) * 2 → (wr.cell? ⟨g, kk * 2 + j, none⟩).isSome = true := fun j hj => by
                have hq : ∃ q r, kk * 2 + j = q * 2 + r ∧ r < 2 ∧ q < n := ⟨kk + j / 2, j % 2, by omega, by omega, by omega⟩
                obtain ⟨q, r, e, hr, hqn⟩ := hq
                obtain ⟨z1, z2⟩ := hown.cellA (k := q) (by omega)
                rw [e]
                have h4 : r = 0 ∨ r = 1 := by omega
                rcases h4 with rfl | rfl
                · rw [Nat.add_zero, z1]; rfl
                · rw [z2]; rfl
              obtain ⟨vs, hvl, hcl⟩ := clear_ratio wr g (kk * 2) (n - kk) (c - kk) (by omega) hcell (fun j _ => hown.frozen _)
              have HO := Lib.hid hown
              have I2 := Lib.hid hI
              clear hown hI hcell
              go_wp2_with fail
              have hst := own_setCells2 vs (kk * 2) wr (fl dk.toList) (by have := HO.out; unfold OwR at this; rwa [show dk.toList.length = n by simpa using hds] at this) (by rw [hLl, hvl]; omega)
              have hfin : OwR (wr.setCells g (kk * 2) (vs.map (Value.int .i64))) base (.slice (some ⟨g, 0, none⟩) kk c) (compactUpTo d n) := by
                have h5 := owns_take2 hst.1 (k := kk) (by omega)
                have e5 : (icells ((fl dk.toList).take (kk * 2) ++ vs)).take (kk * 2) = icells (fl (compactUpTo d n)) := by
                  have hI := I2.out
                  rw [hend] at hI
                  rw [← comp_head hI (by omega), ← fl_take]
                  simp only [icells, List.map_append]
                  rw [List.take_append_of_le_length (by rw [List.length_map, List.length_take, hLl]; omega), ← List.map_take, List.take_take, Nat.min_self]
                rw [e5] at h5
                have hI := I2.out
                rw [hend] at hI
                unfold OwR
                rw [hI.len]
                exact h5
              have hge : Ge w0 (wr.setCells g (kk * 2) (vs.map (Value.int .i64))) := hg.grown hst.2 (fun k' hk' => by simp at hk'; omega)
              have HF := Lib.hid (And.intro hfin hge)
              have HLn : Hid ((compactUpTo d n).length = kk) := by
                have hI := I2.out
                rw [hend] at hI
                exact hI.len
              clear hst hfin hge
              go_ret
              exact ⟨kk, HLn.out, rfl, HF.out.1, HF.out.2⟩
        · have HK := Lib.hid (keeps_pos (d := d) (m := k) (by rw [B.out.1, B.out.2]; exact hdup))
          have HA : Hid (∀ j, j < k + 1 → keeps d j = true) := by
            show ∀ j, _
            intro j hj
            by_cases e : j = k
            · rw [e]; exact HK.out
            · exact hall.out j (by omega)
          have hne := rt_ne hdup
          obtain ⟨un, ud⟩ := x
          obtain ⟨yn, yd⟩ := y
          simp only at c1 c2 e1 e2
          rcases hne with hne | ⟨he, hne⟩
          · have tn : (un == yn) = false := by simpa using hne
            clear hne hdup B HK
            go_wp2_with fail
            go_quiet (fail)
            go_wp2_with fail
            go_roundw
            case rel => exact ⟨k + 1, by omega, by omega, by go_num, HO.out.ge ((Ge.refl _).drewN _), HA.out, hg.drewN _⟩
            case measure => simp [intOf]; omega
          · simp only at he
            subst he
            have tn : (ud == yd) = false := by simpa using hne
            clear hne hdup B HK
            go_wp2_with fail
            go_quiet (fail)
            go_wp2_with fail
            go_roundw
            case rel => exact ⟨k + 1, by omega, by omega, by go_num, HO.out.ge ((Ge.refl _).drewN _), HA.out, hg.drewN _⟩
            case measure => simp [intOf]; omega
      · have hkn : k = n := by omega
        subst hkn
        have HO := Lib.hid hown
        have HK := Lib.hid (HS.out (fun j hj => hall.out j hj))
        clear hown
        go_wp2_with fail
        go_ret
        exact ⟨k, by rw [HK.out]; simpa using HD.out, rfl, by rw [HK.out]; exact HO.out, hg⟩
end Go.Proofs.Ytmcnfhpjjmbdmaa
