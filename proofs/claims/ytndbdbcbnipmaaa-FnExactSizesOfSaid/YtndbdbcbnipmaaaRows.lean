/-
  No cell of these rows narrows 'for every input' (looked for: loops, veiled, ifaces, maps, wideKeys, modest, calm, conditions, laid).
  DERIVED. THE GIVEN ROWS OF THIS SEAT. 12 by the template 'for every input the law returns true; each argument reads behind the call as it read before'; 0 by the template 'total and deterministic' (their statements: YtndbdbcbnipmaaaTotals.lean).
  GIVEN WITH THE SEED: the statements are not yours to turn. If you find one false, say at which input.
  Laid BY PROGRAM, IN A SANDBOX (cutbox-rows.mjs): the forced cells as the released guide's own fill.sh prints them over the translation b25d8a81182c68dc… (all of the seat's roots in one cut). By AI agents, Wed Nov 11 2026. No macro, syntax, notation, axiom, sorry.
-/
import Derived.Test.YtndbdbcbnipmaaaChecked
import GoSem.Claim
import GoSem.ClaimJoined
import GoSem.ClaimMapViews
import Derived.JoinedTies
import Derived.KernelRfl
namespace Go.Proofs.Ytndbdbcbnipmaaa
/- THE CELL 'sum', in the pinned program and in every row, IS THE sha256 OF THE DUMP (.gsa) THAT YtndbdbcbnipmaaaProg.lean LOADS. Nothing in Lean hashes anything: it is a label: what it is worth is what the hold of that sum in a sandbox is worth. -/
noncomputable def Try.pinned : Pinned := { name := "ytndbdbcbnipmaaa", sum := "b25d8a81182c68dc6322e37df13f4b13b0acc72e76b85301257d86a3275b1189", checked := Try.checked }
namespace Rows
def none {H : Type} : Left H := { results := [], args := [] }

/-- 'laws.FnExactParseRow': WHATEVER THE INPUT: true; the input reads as it did. -/
def fnExactParseRowSpec : ChangeSpec := { name := "fnExactParseRow", fn := fun _ => fun
  | [d] => { results := [.lit (.bool true)], args := [d] }
  | _ => none }
def fnExactParseRowRow : OpenClaim := { program := "ytndbdbcbnipmaaa", sum := "b25d8a81182c68dc6322e37df13f4b13b0acc72e76b85301257d86a3275b1189", func := "loop.example/g00859/laws.FnExactParseRow", spec := "fnExactParseRow", inPlace := ["internal/bytealg.IndexByteString"], recurses := true, apart := false }
def FnExactParseRowSaid : Prop := fnExactParseRowRow.holds Try.pinned (OpenSpec.ofChange fnExactParseRowSpec)

/-- ITS FALSE NEIGHBOUR: 'it returns false'. Refute it at one input. -/
def fnExactParseRowWrong : ChangeSpec := { name := "fnExactParseRow", fn := fun _ => fun
  | [d] => { results := [.lit (.bool false)], args := [d] }
  | _ => none }
def FnExactParseRowWrongFalsely : Prop := fnExactParseRowRow.holds Try.pinned (OpenSpec.ofChange fnExactParseRowWrong)

/-- 'laws.FnExactTilingOk': WHATEVER THE INPUT: true; the input reads as it did. -/
def fnExactTilingOkSpec : ChangeSpec := { name := "fnExactTilingOk", fn := fun _ => fun
  | [d] => { results := [.lit (.bool true)], args := [d] }
  | _ => none }
def fnExactTilingOkRow : OpenClaim := { program := "ytndbdbcbnipmaaa", sum := "b25d8a81182c68dc6322e37df13f4b13b0acc72e76b85301257d86a3275b1189", func := "loop.example/g00859/laws.FnExactTilingOk", spec := "fnExactTilingOk", apart := false }
def FnExactTilingOkSaid : Prop := fnExactTilingOkRow.holds Try.pinned (OpenSpec.ofChange fnExactTilingOkSpec)

/-- ITS FALSE NEIGHBOUR: 'it returns false'. Refute it at one input. -/
def fnExactTilingOkWrong : ChangeSpec := { name := "fnExactTilingOk", fn := fun _ => fun
  | [d] => { results := [.lit (.bool false)], args := [d] }
  | _ => none }
def FnExactTilingOkWrongFalsely : Prop := fnExactTilingOkRow.holds Try.pinned (OpenSpec.ofChange fnExactTilingOkWrong)

/-- 'laws.FnExactHeightOf': WHATEVER THE INPUT: true; the input reads as it did. -/
def fnExactHeightOfSpec : ChangeSpec := { name := "fnExactHeightOf", fn := fun _ => fun
  | [d] => { results := [.lit (.bool true)], args := [d] }
  | _ => none }
def fnExactHeightOfRow : OpenClaim := { program := "ytndbdbcbnipmaaa", sum := "b25d8a81182c68dc6322e37df13f4b13b0acc72e76b85301257d86a3275b1189", func := "loop.example/g00859/laws.FnExactHeightOf", spec := "fnExactHeightOf", apart := false }
def FnExactHeightOfSaid : Prop := fnExactHeightOfRow.holds Try.pinned (OpenSpec.ofChange fnExactHeightOfSpec)

/-- ITS FALSE NEIGHBOUR: 'it returns false'. Refute it at one input. -/
def fnExactHeightOfWrong : ChangeSpec := { name := "fnExactHeightOf", fn := fun _ => fun
  | [d] => { results := [.lit (.bool false)], args := [d] }
  | _ => none }
def FnExactHeightOfWrongFalsely : Prop := fnExactHeightOfRow.holds Try.pinned (OpenSpec.ofChange fnExactHeightOfWrong)

/-- 'laws.FnExactWidthOf': WHATEVER THE INPUT: true; the input reads as it did. -/
def fnExactWidthOfSpec : ChangeSpec := { name := "fnExactWidthOf", fn := fun _ => fun
  | [d] => { results := [.lit (.bool true)], args := [d] }
  | _ => none }
def fnExactWidthOfRow : OpenClaim := { program := "ytndbdbcbnipmaaa", sum := "b25d8a81182c68dc6322e37df13f4b13b0acc72e76b85301257d86a3275b1189", func := "loop.example/g00859/laws.FnExactWidthOf", spec := "fnExactWidthOf", apart := false }
def FnExactWidthOfSaid : Prop := fnExactWidthOfRow.holds Try.pinned (OpenSpec.ofChange fnExactWidthOfSpec)

/-- ITS FALSE NEIGHBOUR: 'it returns false'. Refute it at one input. -/
def fnExactWidthOfWrong : ChangeSpec := { name := "fnExactWidthOf", fn := fun _ => fun
  | [d] => { results := [.lit (.bool false)], args := [d] }
  | _ => none }
def FnExactWidthOfWrongFalsely : Prop := fnExactWidthOfRow.holds Try.pinned (OpenSpec.ofChange fnExactWidthOfWrong)

/-- 'laws.FnExactTilingLine': WHATEVER THE INPUT: true; the input reads as it did. -/
def fnExactTilingLineSpec : ChangeSpec := { name := "fnExactTilingLine", fn := fun _ => fun
  | [d] => { results := [.lit (.bool true)], args := [d] }
  | _ => none }
def fnExactTilingLineRow : OpenClaim := { program := "ytndbdbcbnipmaaa", sum := "b25d8a81182c68dc6322e37df13f4b13b0acc72e76b85301257d86a3275b1189", func := "loop.example/g00859/laws.FnExactTilingLine", spec := "fnExactTilingLine", inPlace := ["internal/abi.NoEscape", "internal/bytealg.MakeNoZero"], recurses := true, apart := false }
def FnExactTilingLineSaid : Prop := fnExactTilingLineRow.holds Try.pinned (OpenSpec.ofChange fnExactTilingLineSpec)

/-- ITS FALSE NEIGHBOUR: 'it returns false'. Refute it at one input. -/
def fnExactTilingLineWrong : ChangeSpec := { name := "fnExactTilingLine", fn := fun _ => fun
  | [d] => { results := [.lit (.bool false)], args := [d] }
  | _ => none }
def FnExactTilingLineWrongFalsely : Prop := fnExactTilingLineRow.holds Try.pinned (OpenSpec.ofChange fnExactTilingLineWrong)

/-- 'laws.FnExactCutTiling': WHATEVER THE INPUT: true; the input reads as it did. -/
def fnExactCutTilingSpec : ChangeSpec := { name := "fnExactCutTiling", fn := fun _ => fun
  | [d1, d2] => { results := [.lit (.bool true)], args := [d1, d2] }
  | _ => none }
def fnExactCutTilingRow : OpenClaim := { program := "ytndbdbcbnipmaaa", sum := "b25d8a81182c68dc6322e37df13f4b13b0acc72e76b85301257d86a3275b1189", func := "loop.example/g00859/laws.FnExactCutTiling", spec := "fnExactCutTiling", unfollowed := true, recurses := true, apart := false }
def FnExactCutTilingSaid : Prop := fnExactCutTilingRow.holds Try.pinned (OpenSpec.ofChange fnExactCutTilingSpec)

/-- ITS FALSE NEIGHBOUR: 'it returns false'. Refute it at one input. -/
def fnExactCutTilingWrong : ChangeSpec := { name := "fnExactCutTiling", fn := fun _ => fun
  | [d1, d2] => { results := [.lit (.bool false)], args := [d1, d2] }
  | _ => none }
def FnExactCutTilingWrongFalsely : Prop := fnExactCutTilingRow.holds Try.pinned (OpenSpec.ofChange fnExactCutTilingWrong)

/-- 'laws.FnExactHasEqualSquares': WHATEVER THE INPUT: true; the input reads as it did. -/
def fnExactHasEqualSquaresSpec : ChangeSpec := { name := "fnExactHasEqualSquares", fn := fun _ => fun
  | [d] => { results := [.lit (.bool true)], args := [d] }
  | _ => none }
def fnExactHasEqualSquaresRow : OpenClaim := { program := "ytndbdbcbnipmaaa", sum := "b25d8a81182c68dc6322e37df13f4b13b0acc72e76b85301257d86a3275b1189", func := "loop.example/g00859/laws.FnExactHasEqualSquares", spec := "fnExactHasEqualSquares", recurses := true, apart := false }
def FnExactHasEqualSquaresSaid : Prop := fnExactHasEqualSquaresRow.holds Try.pinned (OpenSpec.ofChange fnExactHasEqualSquaresSpec)

/-- ITS FALSE NEIGHBOUR: 'it returns false'. Refute it at one input. -/
def fnExactHasEqualSquaresWrong : ChangeSpec := { name := "fnExactHasEqualSquares", fn := fun _ => fun
  | [d] => { results := [.lit (.bool false)], args := [d] }
  | _ => none }
def FnExactHasEqualSquaresWrongFalsely : Prop := fnExactHasEqualSquaresRow.holds Try.pinned (OpenSpec.ofChange fnExactHasEqualSquaresWrong)

/-- 'laws.FnExactSizesOf': WHATEVER THE INPUT: true; the input reads as it did. -/
def fnExactSizesOfSpec : ChangeSpec := { name := "fnExactSizesOf", fn := fun _ => fun
  | [d] => { results := [.lit (.bool true)], args := [d] }
  | _ => none }
def fnExactSizesOfRow : OpenClaim := { program := "ytndbdbcbnipmaaa", sum := "b25d8a81182c68dc6322e37df13f4b13b0acc72e76b85301257d86a3275b1189", func := "loop.example/g00859/laws.FnExactSizesOf", spec := "fnExactSizesOf", recurses := true, apart := false }
def FnExactSizesOfSaid : Prop := fnExactSizesOfRow.holds Try.pinned (OpenSpec.ofChange fnExactSizesOfSpec)

/-- ITS FALSE NEIGHBOUR: 'it returns false'. Refute it at one input. -/
def fnExactSizesOfWrong : ChangeSpec := { name := "fnExactSizesOf", fn := fun _ => fun
  | [d] => { results := [.lit (.bool false)], args := [d] }
  | _ => none }
def FnExactSizesOfWrongFalsely : Prop := fnExactSizesOfRow.holds Try.pinned (OpenSpec.ofChange fnExactSizesOfWrong)

/-- 'laws.FnExactLevelsOf': WHATEVER THE INPUT: true; the input reads as it did. -/
def fnExactLevelsOfSpec : ChangeSpec := { name := "fnExactLevelsOf", fn := fun _ => fun
  | [d] => { results := [.lit (.bool true)], args := [d] }
  | _ => none }
def fnExactLevelsOfRow : OpenClaim := { program := "ytndbdbcbnipmaaa", sum := "b25d8a81182c68dc6322e37df13f4b13b0acc72e76b85301257d86a3275b1189", func := "loop.example/g00859/laws.FnExactLevelsOf", spec := "fnExactLevelsOf", unfollowed := true, recurses := true, apart := false }
def FnExactLevelsOfSaid : Prop := fnExactLevelsOfRow.holds Try.pinned (OpenSpec.ofChange fnExactLevelsOfSpec)

/-- ITS FALSE NEIGHBOUR: 'it returns false'. Refute it at one input. -/
def fnExactLevelsOfWrong : ChangeSpec := { name := "fnExactLevelsOf", fn := fun _ => fun
  | [d] => { results := [.lit (.bool false)], args := [d] }
  | _ => none }
def FnExactLevelsOfWrongFalsely : Prop := fnExactLevelsOfRow.holds Try.pinned (OpenSpec.ofChange fnExactLevelsOfWrong)

/-- 'laws.FnLadders': WHATEVER THE INPUT: true; the input reads as it did. -/
def fnLaddersSpec : ChangeSpec := { name := "fnLadders", fn := fun _ => fun
  | [d] => { results := [.lit (.bool true)], args := [d] }
  | _ => none }
def fnLaddersRow : OpenClaim := { program := "ytndbdbcbnipmaaa", sum := "b25d8a81182c68dc6322e37df13f4b13b0acc72e76b85301257d86a3275b1189", func := "loop.example/g00859/laws.FnLadders", spec := "fnLadders", apart := false }
def FnLaddersSaid : Prop := fnLaddersRow.holds Try.pinned (OpenSpec.ofChange fnLaddersSpec)

/-- ITS FALSE NEIGHBOUR: 'it returns false'. Refute it at one input. -/
def fnLaddersWrong : ChangeSpec := { name := "fnLadders", fn := fun _ => fun
  | [d] => { results := [.lit (.bool false)], args := [d] }
  | _ => none }
def FnLaddersWrongFalsely : Prop := fnLaddersRow.holds Try.pinned (OpenSpec.ofChange fnLaddersWrong)

/-- 'laws.FnCuts': WHATEVER THE INPUT: true; the input reads as it did. -/
def fnCutsSpec : ChangeSpec := { name := "fnCuts", fn := fun _ => fun
  | [d] => { results := [.lit (.bool true)], args := [d] }
  | _ => none }
def fnCutsRow : OpenClaim := { program := "ytndbdbcbnipmaaa", sum := "b25d8a81182c68dc6322e37df13f4b13b0acc72e76b85301257d86a3275b1189", func := "loop.example/g00859/laws.FnCuts", spec := "fnCuts", unfollowed := true, recurses := true, apart := false }
def FnCutsSaid : Prop := fnCutsRow.holds Try.pinned (OpenSpec.ofChange fnCutsSpec)

/-- ITS FALSE NEIGHBOUR: 'it returns false'. Refute it at one input. -/
def fnCutsWrong : ChangeSpec := { name := "fnCuts", fn := fun _ => fun
  | [d] => { results := [.lit (.bool false)], args := [d] }
  | _ => none }
def FnCutsWrongFalsely : Prop := fnCutsRow.holds Try.pinned (OpenSpec.ofChange fnCutsWrong)

/-- 'laws.FnExactNetOfTiling': WHATEVER THE INPUT: true; the input reads as it did. -/
def fnExactNetOfTilingSpec : ChangeSpec := { name := "fnExactNetOfTiling", fn := fun _ => fun
  | [d] => { results := [.lit (.bool true)], args := [d] }
  | _ => none }
def fnExactNetOfTilingRow : OpenClaim := { program := "ytndbdbcbnipmaaa", sum := "b25d8a81182c68dc6322e37df13f4b13b0acc72e76b85301257d86a3275b1189", func := "loop.example/g00859/laws.FnExactNetOfTiling", spec := "fnExactNetOfTiling", unfollowed := true, recurses := true, apart := false }
def FnExactNetOfTilingSaid : Prop := fnExactNetOfTilingRow.holds Try.pinned (OpenSpec.ofChange fnExactNetOfTilingSpec)

/-- ITS FALSE NEIGHBOUR: 'it returns false'. Refute it at one input. -/
def fnExactNetOfTilingWrong : ChangeSpec := { name := "fnExactNetOfTiling", fn := fun _ => fun
  | [d] => { results := [.lit (.bool false)], args := [d] }
  | _ => none }
def FnExactNetOfTilingWrongFalsely : Prop := fnExactNetOfTilingRow.holds Try.pinned (OpenSpec.ofChange fnExactNetOfTilingWrong)

/- THE SECOND FORM. 'bulk': how many values and letters a reading holds, each counted each time it is reached (what is shared counts as often as it is met; a slice's spare places count too). A statement '..UptoSaid' is the law's where the arguments, and the package variables that the reading takes, are together of bulk at most 1048576: NARROWER than '..Said'. Prove '..Said' where nothing that the law and all that it calls make is longer than what came in: it says more and counts as full. Else prove '..UptoSaid'. A law counts once. -/
mutual
def uptoBulk {H : Type} : DataW H → Nat
  | .lit (.string bytes) => bytes.length + 1
  | .lit _ => 1
  | .nil => 1
  | .ptr d => uptoBulk d + 1
  | .slice elems spare => uptoBulkAll elems + uptoBulkAll spare + 1
  | .agg parts => uptoBulkAll parts + 1
  | .iface _ d => uptoBulk d + 1
  | .map entries => uptoBulkEntries entries + 1
  | .held _ => 1
def uptoBulkAll {H : Type} : List (DataW H) → Nat
  | [] => 0
  | d :: r => uptoBulk d + uptoBulkAll r
def uptoBulkEntries {H : Type} : List (Lit × DataW H) → Nat
  | [] => 0
  | x :: r => uptoBulkEntry x + uptoBulkEntries r
def uptoBulkEntry {H : Type} : Lit × DataW H → Nat
  | (.string bytes, d) => bytes.length + uptoBulk d + 1
  | (_, d) => uptoBulk d + 1
 end
def uptoSmall : (H : Type) → List (DataW H) → Bool := fun _ ds => decide (uptoBulkAll ds ≤ 1048576)
def OpenSpec.upto (s : _root_.Go.ChangeSpec) : _root_.Go.OpenSpec := { _root_.Go.OpenSpec.ofChange s with cond := some uptoSmall }

/-- 'laws.FnExactParseRow', WHERE WHAT IT READS IS OF BULK AT MOST 1048576: true; the input reads as it did. -/
def fnExactParseRowUptoRow : OpenClaim := { program := "ytndbdbcbnipmaaa", sum := "b25d8a81182c68dc6322e37df13f4b13b0acc72e76b85301257d86a3275b1189", func := "loop.example/g00859/laws.FnExactParseRow", spec := "fnExactParseRow", inPlace := ["internal/bytealg.IndexByteString"], recurses := true, apart := false, narrowed := true }
def FnExactParseRowUptoSaid : Prop := fnExactParseRowUptoRow.holds Try.pinned (OpenSpec.upto fnExactParseRowSpec)

/-- 'laws.FnExactTilingOk', WHERE WHAT IT READS IS OF BULK AT MOST 1048576: true; the input reads as it did. -/
def fnExactTilingOkUptoRow : OpenClaim := { program := "ytndbdbcbnipmaaa", sum := "b25d8a81182c68dc6322e37df13f4b13b0acc72e76b85301257d86a3275b1189", func := "loop.example/g00859/laws.FnExactTilingOk", spec := "fnExactTilingOk", apart := false, narrowed := true }
def FnExactTilingOkUptoSaid : Prop := fnExactTilingOkUptoRow.holds Try.pinned (OpenSpec.upto fnExactTilingOkSpec)

/-- 'laws.FnExactHeightOf', WHERE WHAT IT READS IS OF BULK AT MOST 1048576: true; the input reads as it did. -/
def fnExactHeightOfUptoRow : OpenClaim := { program := "ytndbdbcbnipmaaa", sum := "b25d8a81182c68dc6322e37df13f4b13b0acc72e76b85301257d86a3275b1189", func := "loop.example/g00859/laws.FnExactHeightOf", spec := "fnExactHeightOf", apart := false, narrowed := true }
def FnExactHeightOfUptoSaid : Prop := fnExactHeightOfUptoRow.holds Try.pinned (OpenSpec.upto fnExactHeightOfSpec)

/-- 'laws.FnExactWidthOf', WHERE WHAT IT READS IS OF BULK AT MOST 1048576: true; the input reads as it did. -/
def fnExactWidthOfUptoRow : OpenClaim := { program := "ytndbdbcbnipmaaa", sum := "b25d8a81182c68dc6322e37df13f4b13b0acc72e76b85301257d86a3275b1189", func := "loop.example/g00859/laws.FnExactWidthOf", spec := "fnExactWidthOf", apart := false, narrowed := true }
def FnExactWidthOfUptoSaid : Prop := fnExactWidthOfUptoRow.holds Try.pinned (OpenSpec.upto fnExactWidthOfSpec)

/-- 'laws.FnExactTilingLine', WHERE WHAT IT READS IS OF BULK AT MOST 1048576: true; the input reads as it did. -/
def fnExactTilingLineUptoRow : OpenClaim := { program := "ytndbdbcbnipmaaa", sum := "b25d8a81182c68dc6322e37df13f4b13b0acc72e76b85301257d86a3275b1189", func := "loop.example/g00859/laws.FnExactTilingLine", spec := "fnExactTilingLine", inPlace := ["internal/abi.NoEscape", "internal/bytealg.MakeNoZero"], recurses := true, apart := false, narrowed := true }
def FnExactTilingLineUptoSaid : Prop := fnExactTilingLineUptoRow.holds Try.pinned (OpenSpec.upto fnExactTilingLineSpec)

/-- 'laws.FnExactCutTiling', WHERE WHAT IT READS IS OF BULK AT MOST 1048576: true; the input reads as it did. -/
def fnExactCutTilingUptoRow : OpenClaim := { program := "ytndbdbcbnipmaaa", sum := "b25d8a81182c68dc6322e37df13f4b13b0acc72e76b85301257d86a3275b1189", func := "loop.example/g00859/laws.FnExactCutTiling", spec := "fnExactCutTiling", unfollowed := true, recurses := true, apart := false, narrowed := true }
def FnExactCutTilingUptoSaid : Prop := fnExactCutTilingUptoRow.holds Try.pinned (OpenSpec.upto fnExactCutTilingSpec)

/-- 'laws.FnExactHasEqualSquares', WHERE WHAT IT READS IS OF BULK AT MOST 1048576: true; the input reads as it did. -/
def fnExactHasEqualSquaresUptoRow : OpenClaim := { program := "ytndbdbcbnipmaaa", sum := "b25d8a81182c68dc6322e37df13f4b13b0acc72e76b85301257d86a3275b1189", func := "loop.example/g00859/laws.FnExactHasEqualSquares", spec := "fnExactHasEqualSquares", recurses := true, apart := false, narrowed := true }
def FnExactHasEqualSquaresUptoSaid : Prop := fnExactHasEqualSquaresUptoRow.holds Try.pinned (OpenSpec.upto fnExactHasEqualSquaresSpec)

/-- 'laws.FnExactSizesOf', WHERE WHAT IT READS IS OF BULK AT MOST 1048576: true; the input reads as it did. -/
def fnExactSizesOfUptoRow : OpenClaim := { program := "ytndbdbcbnipmaaa", sum := "b25d8a81182c68dc6322e37df13f4b13b0acc72e76b85301257d86a3275b1189", func := "loop.example/g00859/laws.FnExactSizesOf", spec := "fnExactSizesOf", recurses := true, apart := false, narrowed := true }
def FnExactSizesOfUptoSaid : Prop := fnExactSizesOfUptoRow.holds Try.pinned (OpenSpec.upto fnExactSizesOfSpec)

/-- 'laws.FnExactLevelsOf', WHERE WHAT IT READS IS OF BULK AT MOST 1048576: true; the input reads as it did. -/
def fnExactLevelsOfUptoRow : OpenClaim := { program := "ytndbdbcbnipmaaa", sum := "b25d8a81182c68dc6322e37df13f4b13b0acc72e76b85301257d86a3275b1189", func := "loop.example/g00859/laws.FnExactLevelsOf", spec := "fnExactLevelsOf", unfollowed := true, recurses := true, apart := false, narrowed := true }
def FnExactLevelsOfUptoSaid : Prop := fnExactLevelsOfUptoRow.holds Try.pinned (OpenSpec.upto fnExactLevelsOfSpec)

/-- 'laws.FnLadders', WHERE WHAT IT READS IS OF BULK AT MOST 1048576: true; the input reads as it did. -/
def fnLaddersUptoRow : OpenClaim := { program := "ytndbdbcbnipmaaa", sum := "b25d8a81182c68dc6322e37df13f4b13b0acc72e76b85301257d86a3275b1189", func := "loop.example/g00859/laws.FnLadders", spec := "fnLadders", apart := false, narrowed := true }
def FnLaddersUptoSaid : Prop := fnLaddersUptoRow.holds Try.pinned (OpenSpec.upto fnLaddersSpec)

/-- 'laws.FnCuts', WHERE WHAT IT READS IS OF BULK AT MOST 1048576: true; the input reads as it did. -/
def fnCutsUptoRow : OpenClaim := { program := "ytndbdbcbnipmaaa", sum := "b25d8a81182c68dc6322e37df13f4b13b0acc72e76b85301257d86a3275b1189", func := "loop.example/g00859/laws.FnCuts", spec := "fnCuts", unfollowed := true, recurses := true, apart := false, narrowed := true }
def FnCutsUptoSaid : Prop := fnCutsUptoRow.holds Try.pinned (OpenSpec.upto fnCutsSpec)

/-- 'laws.FnExactNetOfTiling', WHERE WHAT IT READS IS OF BULK AT MOST 1048576: true; the input reads as it did. -/
def fnExactNetOfTilingUptoRow : OpenClaim := { program := "ytndbdbcbnipmaaa", sum := "b25d8a81182c68dc6322e37df13f4b13b0acc72e76b85301257d86a3275b1189", func := "loop.example/g00859/laws.FnExactNetOfTiling", spec := "fnExactNetOfTiling", unfollowed := true, recurses := true, apart := false, narrowed := true }
def FnExactNetOfTilingUptoSaid : Prop := fnExactNetOfTilingUptoRow.holds Try.pinned (OpenSpec.upto fnExactNetOfTilingSpec)

end Rows
end Go.Proofs.Ytndbdbcbnipmaaa
