/- The laws of TilingOk, HeightOf, WidthOf, walked. No condition. -/
import Derived.Test.YtenfkpdbfmeebaaWTile5
import Derived.Test.YtenfkpdbfmeebaaWSqArg
namespace Go.Proofs.Ytenfkpdbfmeebaa
set_option maxRecDepth 100000
open Go.ChangeShapes Go.WideShapes Go.ChangeAt Go.RowKit Go.Joins

theorem owns_capT {w : World} {base : Nat} {e : TypeId} {sz : Nat} {v : Value} {n : Nat} {xs : List Value} (h : w.ownsRow base e sz v n xs) : ∀ p c, v = .slice p n c → n ≤ c := by
  intro p c hv
  rcases h.2 with ⟨h', h0⟩ | ⟨g, cap, cur, h', _, _, hnc, _⟩
  · omega
  · subst h'
    simp at hv
    omega

def szI (L : Int) (n : Nat) : Int := if L - n < 0 then -1 else L - n
set_option maxHeartbeats 400000 in
theorem lSzSquareS (p : Option Addr) (n cap : Nat) (L : Int) (w : World) (hm : n ≤ 9223372036854775807) (h0 : 0 ≤ L) (h1 : L ≤ 1048576) :
    Calls Try.prog 5 #[.slice p n cap, .int .i64 L] w fun e w' => e = .returned (.int .i64 (szI L n)) ∧ w = w' := by
  by_cases h : L - n < 0
  · have HF : Hid (szI L n = -1) := by simp [szI, h, Lib.hid]
    go_enter Try.func5, Try.ntmps5
    go_wp2_with fail
    go_ret
    exact ⟨ret_int HF.out.symm, rfl⟩
  · have HF : Hid (szI L n = L - n) := by simp [szI, h, Lib.hid]
    go_enter Try.func5, Try.ntmps5
    go_wp2_with fail
    go_ret
    exact ⟨ret_int HF.out.symm, rfl⟩

end Go.Proofs.Ytenfkpdbfmeebaa
