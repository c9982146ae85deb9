/- l03Drop, l03Canon of the reference. No condition. -/
import Derived.Test.YtenfkpdbfmeebaaWNetAt
import Derived.Test.YtenfkpdbfmeebaaWGeY
import Derived.Test.YtenfkpdbfmeebaaWRatio
namespace Go.Proofs.Ytenfkpdbfmeebaa
set_option maxRecDepth 100000
open Go.ChangeShapes Go.WideShapes Go.ChangeAt Go.RowKit Go.Joins

/-- The cells of wire k, in every later world. -/
theorem wires_at {w : World} {v : Value} {L : List Wr} {n : Nat} (hs : SlF w v n 3 (flatW L)) (hn : L.length = n) : ∃ p cap, v = .slice p n cap ∧ ∀ wr, Ge w wr → ∀ k, k < n → ∃ b o, p = some ⟨b, o, none⟩ ∧ wr.cell? ⟨b, o + k * 3, none⟩ = some (.int .i64 (nthW L k).a) ∧ wr.cell? ⟨b, o + k * 3 + 1, none⟩ = some (.int .i64 (nthW L k).b) ∧ wr.cell? ⟨b, o + k * 3 + 2, none⟩ = some (.int .i64 (nthW L k).w) := by
  obtain ⟨p, cap, rfl, hc⟩ := hs.open
  refine ⟨p, cap, rfl, fun wr g k hk => ?_⟩
  obtain ⟨b, o, hp, c0, c1, c2⟩ := wire_cells hc hn hk
  exact ⟨b, o, hp, g.keep c0, g.keep c1, g.keep c2⟩

/-- The greatest common divisor of a scale and weights. -/
def gcdF (S : Int) (L : List Wr) : Int := L.foldl (fun g e => (gcdN g e.w : Int)) S
theorem gcdF_snoc (S : Int) (L : List Wr) (e : Wr) : gcdF S (L ++ [e]) = (gcdN (gcdF S L) e.w : Int) := by simp [gcdF]
theorem gcdN_le_left {a b : Int} (h : 0 < a) : (0 : Int) < (gcdN a b : Int) ∧ (gcdN a b : Int) ≤ a := by
  have h1 := gcdN_dvd_left a b
  have h2 : 0 < gcdN a b := Nat.pos_of_ne_zero (fun e => by rw [e] at h1; have := Nat.eq_zero_of_zero_dvd h1; omega)
  have h3 := Nat.le_of_dvd (by omega) h1
  omega
theorem gcdF_bd : ∀ (L : List Wr) {S : Int}, 0 < S → 0 < gcdF S L ∧ gcdF S L ≤ S
  | [], S, h => ⟨h, Int.le_refl _⟩
  | e :: l, S, h => by
    have h1 := gcdN_le_left (b := e.w) h
    have h2 := gcdF_bd l (S := (gcdN S e.w : Int)) h1.1
    have h3 : gcdF S (e :: l) = gcdF (gcdN S e.w : Int) l := rfl
    rw [h3]
    omega
theorem tdiv_in {x g : Int} (hx : 0 ≤ x) (hg : 0 < g) : 0 ≤ x.tdiv g ∧ x.tdiv g ≤ x := by
  rw [Int.tdiv_eq_ediv_of_nonneg hx]
  exact ⟨Int.ediv_nonneg hx (by omega), Int.ediv_le_self _ hx⟩
/-- The weights divided. -/
def cutW (g : Int) (L : List Wr) : List Wr := L.map fun e => ⟨e.a, e.b, e.w.tdiv g⟩
theorem cutW_length (g : Int) (L : List Wr) : (cutW g L).length = L.length := by simp [cutW]
theorem cutW_snoc (g : Int) (L : List Wr) (e : Wr) : cutW g (L ++ [e]) = cutW g L ++ [⟨e.a, e.b, e.w.tdiv g⟩] := by simp [cutW]

end Go.Proofs.Ytenfkpdbfmeebaa
