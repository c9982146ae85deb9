/-
  No cell of these rows narrows 'for every input' (looked for: loops, veiled, ifaces, maps, wideKeys, modest, calm, conditions, laid).
  DERIVED. THE GIVEN ROWS OF THIS SEAT. 12 by the template 'for every input the law returns true; each argument reads behind the call as it read before'; 0 by the template 'total and deterministic' (their statements: YtmkmdcifakaflaaTotals.lean).
  GIVEN WITH THE SEED: the statements are not yours to turn. If you find one false, say at which input.
  Laid BY PROGRAM, IN A SANDBOX (cutbox-rows.mjs): the forced cells as the released guide's own fill.sh prints them over the translation 2ff3268d1cd3f866… (all of the seat's roots in one cut). By AI agents, Wed Nov 11 2026. No macro, syntax, notation, axiom, sorry.
-/
import Derived.Test.YtmkmdcifakaflaaChecked
import GoSem.Claim
import GoSem.ClaimJoined
import GoSem.ClaimMapViews
import Derived.JoinedTies
import Derived.KernelRfl
namespace Go.Proofs.Ytmkmdcifakaflaa
/- THE CELL 'sum', in the pinned program and in every row, IS THE sha256 OF THE DUMP (.gsa) THAT YtmkmdcifakaflaaProg.lean LOADS. Nothing in Lean hashes anything: it is a label: what it is worth is what the hold of that sum in a sandbox is worth. -/
noncomputable def Try.pinned : Pinned := { name := "ytmkmdcifakaflaa", sum := "2ff3268d1cd3f86641f6bf242293d9913bb87657870aeeb3d1457ba437486a51", checked := Try.checked }
namespace Rows
def none {H : Type} : Left H := { results := [], args := [] }

/-- 'laws.FnExactFormatFault': WHATEVER THE INPUT: true; the input reads as it did. -/
def fnExactFormatFaultSpec : ChangeSpec := { name := "fnExactFormatFault", fn := fun _ => fun
  | [d] => { results := [.lit (.bool true)], args := [d] }
  | _ => none }
def fnExactFormatFaultRow : OpenClaim := { program := "ytmkmdcifakaflaa", sum := "2ff3268d1cd3f86641f6bf242293d9913bb87657870aeeb3d1457ba437486a51", func := "loop.example/g00859/laws.FnExactFormatFault", spec := "fnExactFormatFault", recurses := true, apart := false }
def FnExactFormatFaultSaid : Prop := fnExactFormatFaultRow.holds Try.pinned (OpenSpec.ofChange fnExactFormatFaultSpec)

/-- ITS FALSE NEIGHBOUR: 'it returns false'. Refute it at one input. -/
def fnExactFormatFaultWrong : ChangeSpec := { name := "fnExactFormatFault", fn := fun _ => fun
  | [d] => { results := [.lit (.bool false)], args := [d] }
  | _ => none }
def FnExactFormatFaultWrongFalsely : Prop := fnExactFormatFaultRow.holds Try.pinned (OpenSpec.ofChange fnExactFormatFaultWrong)

/-- 'laws.FnExactFormatSquare': WHATEVER THE INPUT: true; the input reads as it did. -/
def fnExactFormatSquareSpec : ChangeSpec := { name := "fnExactFormatSquare", fn := fun _ => fun
  | [d] => { results := [.lit (.bool true)], args := [d] }
  | _ => none }
def fnExactFormatSquareRow : OpenClaim := { program := "ytmkmdcifakaflaa", sum := "2ff3268d1cd3f86641f6bf242293d9913bb87657870aeeb3d1457ba437486a51", func := "loop.example/g00859/laws.FnExactFormatSquare", spec := "fnExactFormatSquare", recurses := true, apart := false }
def FnExactFormatSquareSaid : Prop := fnExactFormatSquareRow.holds Try.pinned (OpenSpec.ofChange fnExactFormatSquareSpec)

/-- ITS FALSE NEIGHBOUR: 'it returns false'. Refute it at one input. -/
def fnExactFormatSquareWrong : ChangeSpec := { name := "fnExactFormatSquare", fn := fun _ => fun
  | [d] => { results := [.lit (.bool false)], args := [d] }
  | _ => none }
def FnExactFormatSquareWrongFalsely : Prop := fnExactFormatSquareRow.holds Try.pinned (OpenSpec.ofChange fnExactFormatSquareWrong)

/-- 'laws.FnExactCountUnits': WHATEVER THE INPUT: true; the input reads as it did. -/
def fnExactCountUnitsSpec : ChangeSpec := { name := "fnExactCountUnits", fn := fun _ => fun
  | [d1, d2] => { results := [.lit (.bool true)], args := [d1, d2] }
  | _ => none }
def fnExactCountUnitsRow : OpenClaim := { program := "ytmkmdcifakaflaa", sum := "2ff3268d1cd3f86641f6bf242293d9913bb87657870aeeb3d1457ba437486a51", func := "loop.example/g00859/laws.FnExactCountUnits", spec := "fnExactCountUnits", apart := false }
def FnExactCountUnitsSaid : Prop := fnExactCountUnitsRow.holds Try.pinned (OpenSpec.ofChange fnExactCountUnitsSpec)

/-- ITS FALSE NEIGHBOUR: 'it returns false'. Refute it at one input. -/
def fnExactCountUnitsWrong : ChangeSpec := { name := "fnExactCountUnits", fn := fun _ => fun
  | [d1, d2] => { results := [.lit (.bool false)], args := [d1, d2] }
  | _ => none }
def FnExactCountUnitsWrongFalsely : Prop := fnExactCountUnitsRow.holds Try.pinned (OpenSpec.ofChange fnExactCountUnitsWrong)

/-- 'laws.FnExactTermsOf': WHATEVER THE INPUT: true; the input reads as it did. -/
def fnExactTermsOfSpec : ChangeSpec := { name := "fnExactTermsOf", fn := fun _ => fun
  | [d1, d2] => { results := [.lit (.bool true)], args := [d1, d2] }
  | _ => none }
def fnExactTermsOfRow : OpenClaim := { program := "ytmkmdcifakaflaa", sum := "2ff3268d1cd3f86641f6bf242293d9913bb87657870aeeb3d1457ba437486a51", func := "loop.example/g00859/laws.FnExactTermsOf", spec := "fnExactTermsOf", apart := false }
def FnExactTermsOfSaid : Prop := fnExactTermsOfRow.holds Try.pinned (OpenSpec.ofChange fnExactTermsOfSpec)

/-- ITS FALSE NEIGHBOUR: 'it returns false'. Refute it at one input. -/
def fnExactTermsOfWrong : ChangeSpec := { name := "fnExactTermsOf", fn := fun _ => fun
  | [d1, d2] => { results := [.lit (.bool false)], args := [d1, d2] }
  | _ => none }
def FnExactTermsOfWrongFalsely : Prop := fnExactTermsOfRow.holds Try.pinned (OpenSpec.ofChange fnExactTermsOfWrong)

/-- 'laws.FnExactNewConsole': WHATEVER THE INPUT: true; the input reads as it did. -/
def fnExactNewConsoleSpec : ChangeSpec := { name := "fnExactNewConsole", fn := fun _ => fun
  | [] => { results := [.lit (.bool true)], args := [] }
  | _ => none }
def fnExactNewConsoleRow : OpenClaim := { program := "ytmkmdcifakaflaa", sum := "2ff3268d1cd3f86641f6bf242293d9913bb87657870aeeb3d1457ba437486a51", func := "loop.example/g00859/laws.FnExactNewConsole", spec := "fnExactNewConsole", apart := false }
def FnExactNewConsoleSaid : Prop := fnExactNewConsoleRow.holds Try.pinned (OpenSpec.ofChange fnExactNewConsoleSpec)

/-- ITS FALSE NEIGHBOUR: 'it returns false'. Refute it at one input. -/
def fnExactNewConsoleWrong : ChangeSpec := { name := "fnExactNewConsole", fn := fun _ => fun
  | [] => { results := [.lit (.bool false)], args := [] }
  | _ => none }
def FnExactNewConsoleWrongFalsely : Prop := fnExactNewConsoleRow.holds Try.pinned (OpenSpec.ofChange fnExactNewConsoleWrong)

/-- 'laws.FnExactSeriesRatio': WHATEVER THE INPUT: true; the input reads as it did. -/
def fnExactSeriesRatioSpec : ChangeSpec := { name := "fnExactSeriesRatio", fn := fun _ => fun
  | [d1, d2] => { results := [.lit (.bool true)], args := [d1, d2] }
  | _ => none }
def fnExactSeriesRatioRow : OpenClaim := { program := "ytmkmdcifakaflaa", sum := "2ff3268d1cd3f86641f6bf242293d9913bb87657870aeeb3d1457ba437486a51", func := "loop.example/g00859/laws.FnExactSeriesRatio", spec := "fnExactSeriesRatio", apart := false }
def FnExactSeriesRatioSaid : Prop := fnExactSeriesRatioRow.holds Try.pinned (OpenSpec.ofChange fnExactSeriesRatioSpec)

/-- ITS FALSE NEIGHBOUR: 'it returns false'. Refute it at one input. -/
def fnExactSeriesRatioWrong : ChangeSpec := { name := "fnExactSeriesRatio", fn := fun _ => fun
  | [d1, d2] => { results := [.lit (.bool false)], args := [d1, d2] }
  | _ => none }
def FnExactSeriesRatioWrongFalsely : Prop := fnExactSeriesRatioRow.holds Try.pinned (OpenSpec.ofChange fnExactSeriesRatioWrong)

/-- 'laws.FnExactRatioOfTerms': WHATEVER THE INPUT: true; the input reads as it did. -/
def fnExactRatioOfTermsSpec : ChangeSpec := { name := "fnExactRatioOfTerms", fn := fun _ => fun
  | [d] => { results := [.lit (.bool true)], args := [d] }
  | _ => none }
def fnExactRatioOfTermsRow : OpenClaim := { program := "ytmkmdcifakaflaa", sum := "2ff3268d1cd3f86641f6bf242293d9913bb87657870aeeb3d1457ba437486a51", func := "loop.example/g00859/laws.FnExactRatioOfTerms", spec := "fnExactRatioOfTerms", apart := false }
def FnExactRatioOfTermsSaid : Prop := fnExactRatioOfTermsRow.holds Try.pinned (OpenSpec.ofChange fnExactRatioOfTermsSpec)

/-- ITS FALSE NEIGHBOUR: 'it returns false'. Refute it at one input. -/
def fnExactRatioOfTermsWrong : ChangeSpec := { name := "fnExactRatioOfTerms", fn := fun _ => fun
  | [d] => { results := [.lit (.bool false)], args := [d] }
  | _ => none }
def FnExactRatioOfTermsWrongFalsely : Prop := fnExactRatioOfTermsRow.holds Try.pinned (OpenSpec.ofChange fnExactRatioOfTermsWrong)

/-- 'laws.FnExactParallelRatio': WHATEVER THE INPUT: true; the input reads as it did. -/
def fnExactParallelRatioSpec : ChangeSpec := { name := "fnExactParallelRatio", fn := fun _ => fun
  | [d1, d2] => { results := [.lit (.bool true)], args := [d1, d2] }
  | _ => none }
def fnExactParallelRatioRow : OpenClaim := { program := "ytmkmdcifakaflaa", sum := "2ff3268d1cd3f86641f6bf242293d9913bb87657870aeeb3d1457ba437486a51", func := "loop.example/g00859/laws.FnExactParallelRatio", spec := "fnExactParallelRatio", apart := false }
def FnExactParallelRatioSaid : Prop := fnExactParallelRatioRow.holds Try.pinned (OpenSpec.ofChange fnExactParallelRatioSpec)

/-- ITS FALSE NEIGHBOUR: 'it returns false'. Refute it at one input. -/
def fnExactParallelRatioWrong : ChangeSpec := { name := "fnExactParallelRatio", fn := fun _ => fun
  | [d1, d2] => { results := [.lit (.bool false)], args := [d1, d2] }
  | _ => none }
def FnExactParallelRatioWrongFalsely : Prop := fnExactParallelRatioRow.holds Try.pinned (OpenSpec.ofChange fnExactParallelRatioWrong)

/-- 'laws.FnExactFaultLine': WHATEVER THE INPUT: true; the input reads as it did. -/
def fnExactFaultLineSpec : ChangeSpec := { name := "fnExactFaultLine", fn := fun _ => fun
  | [d] => { results := [.lit (.bool true)], args := [d] }
  | _ => none }
def fnExactFaultLineRow : OpenClaim := { program := "ytmkmdcifakaflaa", sum := "2ff3268d1cd3f86641f6bf242293d9913bb87657870aeeb3d1457ba437486a51", func := "loop.example/g00859/laws.FnExactFaultLine", spec := "fnExactFaultLine", inPlace := ["internal/abi.NoEscape", "internal/bytealg.MakeNoZero"], recurses := true, apart := false }
def FnExactFaultLineSaid : Prop := fnExactFaultLineRow.holds Try.pinned (OpenSpec.ofChange fnExactFaultLineSpec)

/-- ITS FALSE NEIGHBOUR: 'it returns false'. Refute it at one input. -/
def fnExactFaultLineWrong : ChangeSpec := { name := "fnExactFaultLine", fn := fun _ => fun
  | [d] => { results := [.lit (.bool false)], args := [d] }
  | _ => none }
def FnExactFaultLineWrongFalsely : Prop := fnExactFaultLineRow.holds Try.pinned (OpenSpec.ofChange fnExactFaultLineWrong)

/-- 'laws.FnExactParseInts': WHATEVER THE INPUT: true; the input reads as it did. -/
def fnExactParseIntsSpec : ChangeSpec := { name := "fnExactParseInts", fn := fun _ => fun
  | [d] => { results := [.lit (.bool true)], args := [d] }
  | _ => none }
def fnExactParseIntsRow : OpenClaim := { program := "ytmkmdcifakaflaa", sum := "2ff3268d1cd3f86641f6bf242293d9913bb87657870aeeb3d1457ba437486a51", func := "loop.example/g00859/laws.FnExactParseInts", spec := "fnExactParseInts", inPlace := ["internal/bytealg.IndexByteString"], recurses := true, apart := false }
def FnExactParseIntsSaid : Prop := fnExactParseIntsRow.holds Try.pinned (OpenSpec.ofChange fnExactParseIntsSpec)

/-- ITS FALSE NEIGHBOUR: 'it returns false'. Refute it at one input. -/
def fnExactParseIntsWrong : ChangeSpec := { name := "fnExactParseInts", fn := fun _ => fun
  | [d] => { results := [.lit (.bool false)], args := [d] }
  | _ => none }
def FnExactParseIntsWrongFalsely : Prop := fnExactParseIntsRow.holds Try.pinned (OpenSpec.ofChange fnExactParseIntsWrong)

/-- 'laws.FnExactFormatRow': WHATEVER THE INPUT: true; the input reads as it did. -/
def fnExactFormatRowSpec : ChangeSpec := { name := "fnExactFormatRow", fn := fun _ => fun
  | [d] => { results := [.lit (.bool true)], args := [d] }
  | _ => none }
def fnExactFormatRowRow : OpenClaim := { program := "ytmkmdcifakaflaa", sum := "2ff3268d1cd3f86641f6bf242293d9913bb87657870aeeb3d1457ba437486a51", func := "loop.example/g00859/laws.FnExactFormatRow", spec := "fnExactFormatRow", inPlace := ["internal/abi.NoEscape", "internal/bytealg.MakeNoZero"], recurses := true, apart := false }
def FnExactFormatRowSaid : Prop := fnExactFormatRowRow.holds Try.pinned (OpenSpec.ofChange fnExactFormatRowSpec)

/-- ITS FALSE NEIGHBOUR: 'it returns false'. Refute it at one input. -/
def fnExactFormatRowWrong : ChangeSpec := { name := "fnExactFormatRow", fn := fun _ => fun
  | [d] => { results := [.lit (.bool false)], args := [d] }
  | _ => none }
def FnExactFormatRowWrongFalsely : Prop := fnExactFormatRowRow.holds Try.pinned (OpenSpec.ofChange fnExactFormatRowWrong)

/-- 'laws.FnExactFormatMatrix': WHATEVER THE INPUT: true; the input reads as it did. -/
def fnExactFormatMatrixSpec : ChangeSpec := { name := "fnExactFormatMatrix", fn := fun _ => fun
  | [d] => { results := [.lit (.bool true)], args := [d] }
  | _ => none }
def fnExactFormatMatrixRow : OpenClaim := { program := "ytmkmdcifakaflaa", sum := "2ff3268d1cd3f86641f6bf242293d9913bb87657870aeeb3d1457ba437486a51", func := "loop.example/g00859/laws.FnExactFormatMatrix", spec := "fnExactFormatMatrix", inPlace := ["internal/abi.NoEscape", "internal/bytealg.MakeNoZero"], recurses := true, apart := false }
def FnExactFormatMatrixSaid : Prop := fnExactFormatMatrixRow.holds Try.pinned (OpenSpec.ofChange fnExactFormatMatrixSpec)

/-- ITS FALSE NEIGHBOUR: 'it returns false'. Refute it at one input. -/
def fnExactFormatMatrixWrong : ChangeSpec := { name := "fnExactFormatMatrix", fn := fun _ => fun
  | [d] => { results := [.lit (.bool false)], args := [d] }
  | _ => none }
def FnExactFormatMatrixWrongFalsely : Prop := fnExactFormatMatrixRow.holds Try.pinned (OpenSpec.ofChange fnExactFormatMatrixWrong)

/- THE SECOND FORM. 'bulk': how many values and letters a reading holds, each counted each time it is reached (what is shared counts as often as it is met; a slice's spare places count too). A statement '..UptoSaid' is the law's where the arguments, and the package variables that the reading takes, are together of bulk at most 1048576: NARROWER than '..Said'. Prove '..Said' where nothing that the law and all that it calls make is longer than what came in: it says more and counts as full. Else prove '..UptoSaid'. A law counts once. -/
mutual
def uptoBulk {H : Type} : DataW H → Nat
  | .lit (.string bytes) => bytes.length + 1
  | .lit _ => 1
  | .nil => 1
  | .ptr d => uptoBulk d + 1
  | .slice elems spare => uptoBulkAll elems + uptoBulkAll spare + 1
  | .agg parts => uptoBulkAll parts + 1
  | .iface _ d => uptoBulk d + 1
  | .map entries => uptoBulkEntries entries + 1
  | .held _ => 1
def uptoBulkAll {H : Type} : List (DataW H) → Nat
  | [] => 0
  | d :: r => uptoBulk d + uptoBulkAll r
def uptoBulkEntries {H : Type} : List (Lit × DataW H) → Nat
  | [] => 0
  | x :: r => uptoBulkEntry x + uptoBulkEntries r
def uptoBulkEntry {H : Type} : Lit × DataW H → Nat
  | (.string bytes, d) => bytes.length + uptoBulk d + 1
  | (_, d) => uptoBulk d + 1
 end
def uptoSmall : (H : Type) → List (DataW H) → Bool := fun _ ds => decide (uptoBulkAll ds ≤ 1048576)
def OpenSpec.upto (s : _root_.Go.ChangeSpec) : _root_.Go.OpenSpec := { _root_.Go.OpenSpec.ofChange s with cond := some uptoSmall }

/-- 'laws.FnExactFormatFault', WHERE WHAT IT READS IS OF BULK AT MOST 1048576: true; the input reads as it did. -/
def fnExactFormatFaultUptoRow : OpenClaim := { program := "ytmkmdcifakaflaa", sum := "2ff3268d1cd3f86641f6bf242293d9913bb87657870aeeb3d1457ba437486a51", func := "loop.example/g00859/laws.FnExactFormatFault", spec := "fnExactFormatFault", recurses := true, apart := false, narrowed := true }
def FnExactFormatFaultUptoSaid : Prop := fnExactFormatFaultUptoRow.holds Try.pinned (OpenSpec.upto fnExactFormatFaultSpec)

/-- 'laws.FnExactFormatSquare', WHERE WHAT IT READS IS OF BULK AT MOST 1048576: true; the input reads as it did. -/
def fnExactFormatSquareUptoRow : OpenClaim := { program := "ytmkmdcifakaflaa", sum := "2ff3268d1cd3f86641f6bf242293d9913bb87657870aeeb3d1457ba437486a51", func := "loop.example/g00859/laws.FnExactFormatSquare", spec := "fnExactFormatSquare", recurses := true, apart := false, narrowed := true }
def FnExactFormatSquareUptoSaid : Prop := fnExactFormatSquareUptoRow.holds Try.pinned (OpenSpec.upto fnExactFormatSquareSpec)

/-- 'laws.FnExactCountUnits', WHERE WHAT IT READS IS OF BULK AT MOST 1048576: true; the input reads as it did. -/
def fnExactCountUnitsUptoRow : OpenClaim := { program := "ytmkmdcifakaflaa", sum := "2ff3268d1cd3f86641f6bf242293d9913bb87657870aeeb3d1457ba437486a51", func := "loop.example/g00859/laws.FnExactCountUnits", spec := "fnExactCountUnits", apart := false, narrowed := true }
def FnExactCountUnitsUptoSaid : Prop := fnExactCountUnitsUptoRow.holds Try.pinned (OpenSpec.upto fnExactCountUnitsSpec)

/-- 'laws.FnExactTermsOf', WHERE WHAT IT READS IS OF BULK AT MOST 1048576: true; the input reads as it did. -/
def fnExactTermsOfUptoRow : OpenClaim := { program := "ytmkmdcifakaflaa", sum := "2ff3268d1cd3f86641f6bf242293d9913bb87657870aeeb3d1457ba437486a51", func := "loop.example/g00859/laws.FnExactTermsOf", spec := "fnExactTermsOf", apart := false, narrowed := true }
def FnExactTermsOfUptoSaid : Prop := fnExactTermsOfUptoRow.holds Try.pinned (OpenSpec.upto fnExactTermsOfSpec)

/-- 'laws.FnExactNewConsole', WHERE WHAT IT READS IS OF BULK AT MOST 1048576: true; the input reads as it did. -/
def fnExactNewConsoleUptoRow : OpenClaim := { program := "ytmkmdcifakaflaa", sum := "2ff3268d1cd3f86641f6bf242293d9913bb87657870aeeb3d1457ba437486a51", func := "loop.example/g00859/laws.FnExactNewConsole", spec := "fnExactNewConsole", apart := false, narrowed := true }
def FnExactNewConsoleUptoSaid : Prop := fnExactNewConsoleUptoRow.holds Try.pinned (OpenSpec.upto fnExactNewConsoleSpec)

/-- 'laws.FnExactSeriesRatio', WHERE WHAT IT READS IS OF BULK AT MOST 1048576: true; the input reads as it did. -/
def fnExactSeriesRatioUptoRow : OpenClaim := { program := "ytmkmdcifakaflaa", sum := "2ff3268d1cd3f86641f6bf242293d9913bb87657870aeeb3d1457ba437486a51", func := "loop.example/g00859/laws.FnExactSeriesRatio", spec := "fnExactSeriesRatio", apart := false, narrowed := true }
def FnExactSeriesRatioUptoSaid : Prop := fnExactSeriesRatioUptoRow.holds Try.pinned (OpenSpec.upto fnExactSeriesRatioSpec)

/-- 'laws.FnExactRatioOfTerms', WHERE WHAT IT READS IS OF BULK AT MOST 1048576: true; the input reads as it did. -/
def fnExactRatioOfTermsUptoRow : OpenClaim := { program := "ytmkmdcifakaflaa", sum := "2ff3268d1cd3f86641f6bf242293d9913bb87657870aeeb3d1457ba437486a51", func := "loop.example/g00859/laws.FnExactRatioOfTerms", spec := "fnExactRatioOfTerms", apart := false, narrowed := true }
def FnExactRatioOfTermsUptoSaid : Prop := fnExactRatioOfTermsUptoRow.holds Try.pinned (OpenSpec.upto fnExactRatioOfTermsSpec)

/-- 'laws.FnExactParallelRatio', WHERE WHAT IT READS IS OF BULK AT MOST 1048576: true; the input reads as it did. -/
def fnExactParallelRatioUptoRow : OpenClaim := { program := "ytmkmdcifakaflaa", sum := "2ff3268d1cd3f86641f6bf242293d9913bb87657870aeeb3d1457ba437486a51", func := "loop.example/g00859/laws.FnExactParallelRatio", spec := "fnExactParallelRatio", apart := false, narrowed := true }
def FnExactParallelRatioUptoSaid : Prop := fnExactParallelRatioUptoRow.holds Try.pinned (OpenSpec.upto fnExactParallelRatioSpec)

/-- 'laws.FnExactFaultLine', WHERE WHAT IT READS IS OF BULK AT MOST 1048576: true; the input reads as it did. -/
def fnExactFaultLineUptoRow : OpenClaim := { program := "ytmkmdcifakaflaa", sum := "2ff3268d1cd3f86641f6bf242293d9913bb87657870aeeb3d1457ba437486a51", func := "loop.example/g00859/laws.FnExactFaultLine", spec := "fnExactFaultLine", inPlace := ["internal/abi.NoEscape", "internal/bytealg.MakeNoZero"], recurses := true, apart := false, narrowed := true }
def FnExactFaultLineUptoSaid : Prop := fnExactFaultLineUptoRow.holds Try.pinned (OpenSpec.upto fnExactFaultLineSpec)

/-- 'laws.FnExactParseInts', WHERE WHAT IT READS IS OF BULK AT MOST 1048576: true; the input reads as it did. -/
def fnExactParseIntsUptoRow : OpenClaim := { program := "ytmkmdcifakaflaa", sum := "2ff3268d1cd3f86641f6bf242293d9913bb87657870aeeb3d1457ba437486a51", func := "loop.example/g00859/laws.FnExactParseInts", spec := "fnExactParseInts", inPlace := ["internal/bytealg.IndexByteString"], recurses := true, apart := false, narrowed := true }
def FnExactParseIntsUptoSaid : Prop := fnExactParseIntsUptoRow.holds Try.pinned (OpenSpec.upto fnExactParseIntsSpec)

/-- 'laws.FnExactFormatRow', WHERE WHAT IT READS IS OF BULK AT MOST 1048576: true; the input reads as it did. -/
def fnExactFormatRowUptoRow : OpenClaim := { program := "ytmkmdcifakaflaa", sum := "2ff3268d1cd3f86641f6bf242293d9913bb87657870aeeb3d1457ba437486a51", func := "loop.example/g00859/laws.FnExactFormatRow", spec := "fnExactFormatRow", inPlace := ["internal/abi.NoEscape", "internal/bytealg.MakeNoZero"], recurses := true, apart := false, narrowed := true }
def FnExactFormatRowUptoSaid : Prop := fnExactFormatRowUptoRow.holds Try.pinned (OpenSpec.upto fnExactFormatRowSpec)

/-- 'laws.FnExactFormatMatrix', WHERE WHAT IT READS IS OF BULK AT MOST 1048576: true; the input reads as it did. -/
def fnExactFormatMatrixUptoRow : OpenClaim := { program := "ytmkmdcifakaflaa", sum := "2ff3268d1cd3f86641f6bf242293d9913bb87657870aeeb3d1457ba437486a51", func := "loop.example/g00859/laws.FnExactFormatMatrix", spec := "fnExactFormatMatrix", inPlace := ["internal/abi.NoEscape", "internal/bytealg.MakeNoZero"], recurses := true, apart := false, narrowed := true }
def FnExactFormatMatrixUptoSaid : Prop := fnExactFormatMatrixUptoRow.holds Try.pinned (OpenSpec.upto fnExactFormatMatrixSpec)

end Rows
end Go.Proofs.Ytmkmdcifakaflaa
