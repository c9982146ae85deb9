/-
  No cell of these rows narrows 'for every input' (looked for: loops, veiled, ifaces, maps, wideKeys, modest, calm, conditions, laid).
  DERIVED. THE GIVEN ROWS OF THIS SEAT. 12 by the template 'for every input the law returns true; each argument reads behind the call as it read before'; 0 by the template 'total and deterministic' (their statements: YtppabikbepdobaaTotals.lean).
  GIVEN WITH THE SEED: the statements are not yours to turn. If you find one false, say at which input.
  Laid BY PROGRAM, IN A SANDBOX (cutbox-rows.mjs): the forced cells as the released guide's own fill.sh prints them over the translation 2cd44c58e6059703… (all of the seat's roots in one cut). By AI agents, Wed Nov 11 2026. No macro, syntax, notation, axiom, sorry.
-/
import Derived.Test.YtppabikbepdobaaChecked
import GoSem.Claim
import GoSem.ClaimJoined
import GoSem.ClaimMapViews
import Derived.JoinedTies
import Derived.KernelRfl
namespace Go.Proofs.Ytppabikbepdobaa
/- THE CELL 'sum', in the pinned program and in every row, IS THE sha256 OF THE DUMP (.gsa) THAT YtppabikbepdobaaProg.lean LOADS. Nothing in Lean hashes anything: it is a label: what it is worth is what the hold of that sum in a sandbox is worth. -/
noncomputable def Try.pinned : Pinned := { name := "ytppabikbepdobaa", sum := "2cd44c58e605970395d4cf57e6fa8a545b68d13b017ef05e0ae6f23b0d8eeb06", checked := Try.checked }
namespace Rows
def none {H : Type} : Left H := { results := [], args := [] }

/-- 'laws.FnExactFormatNet': WHATEVER THE INPUT: true; the input reads as it did. -/
def fnExactFormatNetSpec : ChangeSpec := { name := "fnExactFormatNet", fn := fun _ => fun
  | [d] => { results := [.lit (.bool true)], args := [d] }
  | _ => none }
def fnExactFormatNetRow : OpenClaim := { program := "ytppabikbepdobaa", sum := "2cd44c58e605970395d4cf57e6fa8a545b68d13b017ef05e0ae6f23b0d8eeb06", func := "loop.example/g00859/laws.FnExactFormatNet", spec := "fnExactFormatNet", recurses := true, apart := false }
def FnExactFormatNetSaid : Prop := fnExactFormatNetRow.holds Try.pinned (OpenSpec.ofChange fnExactFormatNetSpec)

/-- ITS FALSE NEIGHBOUR: 'it returns false'. Refute it at one input. -/
def fnExactFormatNetWrong : ChangeSpec := { name := "fnExactFormatNet", fn := fun _ => fun
  | [d] => { results := [.lit (.bool false)], args := [d] }
  | _ => none }
def FnExactFormatNetWrongFalsely : Prop := fnExactFormatNetRow.holds Try.pinned (OpenSpec.ofChange fnExactFormatNetWrong)

/-- 'laws.FnExactStepChance': WHATEVER THE INPUT: true; the input reads as it did. -/
def fnExactStepChanceSpec : ChangeSpec := { name := "fnExactStepChance", fn := fun _ => fun
  | [d1, d2, d3] => { results := [.lit (.bool true)], args := [d1, d2, d3] }
  | _ => none }
def fnExactStepChanceRow : OpenClaim := { program := "ytppabikbepdobaa", sum := "2cd44c58e605970395d4cf57e6fa8a545b68d13b017ef05e0ae6f23b0d8eeb06", func := "loop.example/g00859/laws.FnExactStepChance", spec := "fnExactStepChance", apart := false }
def FnExactStepChanceSaid : Prop := fnExactStepChanceRow.holds Try.pinned (OpenSpec.ofChange fnExactStepChanceSpec)

/-- ITS FALSE NEIGHBOUR: 'it returns false'. Refute it at one input. -/
def fnExactStepChanceWrong : ChangeSpec := { name := "fnExactStepChance", fn := fun _ => fun
  | [d1, d2, d3] => { results := [.lit (.bool false)], args := [d1, d2, d3] }
  | _ => none }
def FnExactStepChanceWrongFalsely : Prop := fnExactStepChanceRow.holds Try.pinned (OpenSpec.ofChange fnExactStepChanceWrong)

/-- 'laws.FnExactParseNet': WHATEVER THE INPUT: true; the input reads as it did. -/
def fnExactParseNetSpec : ChangeSpec := { name := "fnExactParseNet", fn := fun _ => fun
  | [d] => { results := [.lit (.bool true)], args := [d] }
  | _ => none }
def fnExactParseNetRow : OpenClaim := { program := "ytppabikbepdobaa", sum := "2cd44c58e605970395d4cf57e6fa8a545b68d13b017ef05e0ae6f23b0d8eeb06", func := "loop.example/g00859/laws.FnExactParseNet", spec := "fnExactParseNet", inPlace := ["internal/bytealg.IndexByteString"], recurses := true, apart := false }
def FnExactParseNetSaid : Prop := fnExactParseNetRow.holds Try.pinned (OpenSpec.ofChange fnExactParseNetSpec)

/-- ITS FALSE NEIGHBOUR: 'it returns false'. Refute it at one input. -/
def fnExactParseNetWrong : ChangeSpec := { name := "fnExactParseNet", fn := fun _ => fun
  | [d] => { results := [.lit (.bool false)], args := [d] }
  | _ => none }
def FnExactParseNetWrongFalsely : Prop := fnExactParseNetRow.holds Try.pinned (OpenSpec.ofChange fnExactParseNetWrong)

/-- 'laws.FnExactTreeChance': WHATEVER THE INPUT: true; the input reads as it did. -/
def fnExactTreeChanceSpec : ChangeSpec := { name := "fnExactTreeChance", fn := fun _ => fun
  | [d1, d2] => { results := [.lit (.bool true)], args := [d1, d2] }
  | _ => none }
def fnExactTreeChanceRow : OpenClaim := { program := "ytppabikbepdobaa", sum := "2cd44c58e605970395d4cf57e6fa8a545b68d13b017ef05e0ae6f23b0d8eeb06", func := "loop.example/g00859/laws.FnExactTreeChance", spec := "fnExactTreeChance", recurses := true, apart := false }
def FnExactTreeChanceSaid : Prop := fnExactTreeChanceRow.holds Try.pinned (OpenSpec.ofChange fnExactTreeChanceSpec)

/-- ITS FALSE NEIGHBOUR: 'it returns false'. Refute it at one input. -/
def fnExactTreeChanceWrong : ChangeSpec := { name := "fnExactTreeChance", fn := fun _ => fun
  | [d1, d2] => { results := [.lit (.bool false)], args := [d1, d2] }
  | _ => none }
def FnExactTreeChanceWrongFalsely : Prop := fnExactTreeChanceRow.holds Try.pinned (OpenSpec.ofChange fnExactTreeChanceWrong)

/-- 'laws.FnExactEscapeChance': WHATEVER THE INPUT: true; the input reads as it did. -/
def fnExactEscapeChanceSpec : ChangeSpec := { name := "fnExactEscapeChance", fn := fun _ => fun
  | [d1, d2, d3] => { results := [.lit (.bool true)], args := [d1, d2, d3] }
  | _ => none }
def fnExactEscapeChanceRow : OpenClaim := { program := "ytppabikbepdobaa", sum := "2cd44c58e605970395d4cf57e6fa8a545b68d13b017ef05e0ae6f23b0d8eeb06", func := "loop.example/g00859/laws.FnExactEscapeChance", spec := "fnExactEscapeChance", recurses := true, apart := false }
def FnExactEscapeChanceSaid : Prop := fnExactEscapeChanceRow.holds Try.pinned (OpenSpec.ofChange fnExactEscapeChanceSpec)

/-- ITS FALSE NEIGHBOUR: 'it returns false'. Refute it at one input. -/
def fnExactEscapeChanceWrong : ChangeSpec := { name := "fnExactEscapeChance", fn := fun _ => fun
  | [d1, d2, d3] => { results := [.lit (.bool false)], args := [d1, d2, d3] }
  | _ => none }
def FnExactEscapeChanceWrongFalsely : Prop := fnExactEscapeChanceRow.holds Try.pinned (OpenSpec.ofChange fnExactEscapeChanceWrong)

/-- 'laws.FnExactHitTime': WHATEVER THE INPUT: true; the input reads as it did. -/
def fnExactHitTimeSpec : ChangeSpec := { name := "fnExactHitTime", fn := fun _ => fun
  | [d1, d2, d3] => { results := [.lit (.bool true)], args := [d1, d2, d3] }
  | _ => none }
def fnExactHitTimeRow : OpenClaim := { program := "ytppabikbepdobaa", sum := "2cd44c58e605970395d4cf57e6fa8a545b68d13b017ef05e0ae6f23b0d8eeb06", func := "loop.example/g00859/laws.FnExactHitTime", spec := "fnExactHitTime", recurses := true, apart := false }
def FnExactHitTimeSaid : Prop := fnExactHitTimeRow.holds Try.pinned (OpenSpec.ofChange fnExactHitTimeSpec)

/-- ITS FALSE NEIGHBOUR: 'it returns false'. Refute it at one input. -/
def fnExactHitTimeWrong : ChangeSpec := { name := "fnExactHitTime", fn := fun _ => fun
  | [d1, d2, d3] => { results := [.lit (.bool false)], args := [d1, d2, d3] }
  | _ => none }
def FnExactHitTimeWrongFalsely : Prop := fnExactHitTimeRow.holds Try.pinned (OpenSpec.ofChange fnExactHitTimeWrong)

/-- 'laws.FnExactHitChance': WHATEVER THE INPUT: true; the input reads as it did. -/
def fnExactHitChanceSpec : ChangeSpec := { name := "fnExactHitChance", fn := fun _ => fun
  | [d1, d2, d3, d4] => { results := [.lit (.bool true)], args := [d1, d2, d3, d4] }
  | _ => none }
def fnExactHitChanceRow : OpenClaim := { program := "ytppabikbepdobaa", sum := "2cd44c58e605970395d4cf57e6fa8a545b68d13b017ef05e0ae6f23b0d8eeb06", func := "loop.example/g00859/laws.FnExactHitChance", spec := "fnExactHitChance", recurses := true, apart := false }
def FnExactHitChanceSaid : Prop := fnExactHitChanceRow.holds Try.pinned (OpenSpec.ofChange fnExactHitChanceSpec)

/-- ITS FALSE NEIGHBOUR: 'it returns false'. Refute it at one input. -/
def fnExactHitChanceWrong : ChangeSpec := { name := "fnExactHitChance", fn := fun _ => fun
  | [d1, d2, d3, d4] => { results := [.lit (.bool false)], args := [d1, d2, d3, d4] }
  | _ => none }
def FnExactHitChanceWrongFalsely : Prop := fnExactHitChanceRow.holds Try.pinned (OpenSpec.ofChange fnExactHitChanceWrong)

/-- 'laws.FnExactCommuteTime': WHATEVER THE INPUT: true; the input reads as it did. -/
def fnExactCommuteTimeSpec : ChangeSpec := { name := "fnExactCommuteTime", fn := fun _ => fun
  | [d1, d2, d3] => { results := [.lit (.bool true)], args := [d1, d2, d3] }
  | _ => none }
def fnExactCommuteTimeRow : OpenClaim := { program := "ytppabikbepdobaa", sum := "2cd44c58e605970395d4cf57e6fa8a545b68d13b017ef05e0ae6f23b0d8eeb06", func := "loop.example/g00859/laws.FnExactCommuteTime", spec := "fnExactCommuteTime", recurses := true, apart := false }
def FnExactCommuteTimeSaid : Prop := fnExactCommuteTimeRow.holds Try.pinned (OpenSpec.ofChange fnExactCommuteTimeSpec)

/-- ITS FALSE NEIGHBOUR: 'it returns false'. Refute it at one input. -/
def fnExactCommuteTimeWrong : ChangeSpec := { name := "fnExactCommuteTime", fn := fun _ => fun
  | [d1, d2, d3] => { results := [.lit (.bool false)], args := [d1, d2, d3] }
  | _ => none }
def FnExactCommuteTimeWrongFalsely : Prop := fnExactCommuteTimeRow.holds Try.pinned (OpenSpec.ofChange fnExactCommuteTimeWrong)

/-- 'laws.FnExactResistLine': WHATEVER THE INPUT: true; the input reads as it did. -/
def fnExactResistLineSpec : ChangeSpec := { name := "fnExactResistLine", fn := fun _ => fun
  | [d1, d2, d3] => { results := [.lit (.bool true)], args := [d1, d2, d3] }
  | _ => none }
def fnExactResistLineRow : OpenClaim := { program := "ytppabikbepdobaa", sum := "2cd44c58e605970395d4cf57e6fa8a545b68d13b017ef05e0ae6f23b0d8eeb06", func := "loop.example/g00859/laws.FnExactResistLine", spec := "fnExactResistLine", recurses := true, apart := false }
def FnExactResistLineSaid : Prop := fnExactResistLineRow.holds Try.pinned (OpenSpec.ofChange fnExactResistLineSpec)

/-- ITS FALSE NEIGHBOUR: 'it returns false'. Refute it at one input. -/
def fnExactResistLineWrong : ChangeSpec := { name := "fnExactResistLine", fn := fun _ => fun
  | [d1, d2, d3] => { results := [.lit (.bool false)], args := [d1, d2, d3] }
  | _ => none }
def FnExactResistLineWrongFalsely : Prop := fnExactResistLineRow.holds Try.pinned (OpenSpec.ofChange fnExactResistLineWrong)

/-- 'laws.FnExactPotentialLine': WHATEVER THE INPUT: true; the input reads as it did. -/
def fnExactPotentialLineSpec : ChangeSpec := { name := "fnExactPotentialLine", fn := fun _ => fun
  | [d1, d2, d3] => { results := [.lit (.bool true)], args := [d1, d2, d3] }
  | _ => none }
def fnExactPotentialLineRow : OpenClaim := { program := "ytppabikbepdobaa", sum := "2cd44c58e605970395d4cf57e6fa8a545b68d13b017ef05e0ae6f23b0d8eeb06", func := "loop.example/g00859/laws.FnExactPotentialLine", spec := "fnExactPotentialLine", inPlace := ["internal/abi.NoEscape", "internal/bytealg.MakeNoZero"], recurses := true, apart := false }
def FnExactPotentialLineSaid : Prop := fnExactPotentialLineRow.holds Try.pinned (OpenSpec.ofChange fnExactPotentialLineSpec)

/-- ITS FALSE NEIGHBOUR: 'it returns false'. Refute it at one input. -/
def fnExactPotentialLineWrong : ChangeSpec := { name := "fnExactPotentialLine", fn := fun _ => fun
  | [d1, d2, d3] => { results := [.lit (.bool false)], args := [d1, d2, d3] }
  | _ => none }
def FnExactPotentialLineWrongFalsely : Prop := fnExactPotentialLineRow.holds Try.pinned (OpenSpec.ofChange fnExactPotentialLineWrong)

/-- 'laws.FnExactNetLines': WHATEVER THE INPUT: true; the input reads as it did. -/
def fnExactNetLinesSpec : ChangeSpec := { name := "fnExactNetLines", fn := fun _ => fun
  | [d] => { results := [.lit (.bool true)], args := [d] }
  | _ => none }
def fnExactNetLinesRow : OpenClaim := { program := "ytppabikbepdobaa", sum := "2cd44c58e605970395d4cf57e6fa8a545b68d13b017ef05e0ae6f23b0d8eeb06", func := "loop.example/g00859/laws.FnExactNetLines", spec := "fnExactNetLines", inPlace := ["internal/abi.NoEscape", "internal/bytealg.MakeNoZero"], recurses := true, apart := false }
def FnExactNetLinesSaid : Prop := fnExactNetLinesRow.holds Try.pinned (OpenSpec.ofChange fnExactNetLinesSpec)

/-- ITS FALSE NEIGHBOUR: 'it returns false'. Refute it at one input. -/
def fnExactNetLinesWrong : ChangeSpec := { name := "fnExactNetLines", fn := fun _ => fun
  | [d] => { results := [.lit (.bool false)], args := [d] }
  | _ => none }
def FnExactNetLinesWrongFalsely : Prop := fnExactNetLinesRow.holds Try.pinned (OpenSpec.ofChange fnExactNetLinesWrong)

/-- 'laws.FnExactReduceLine': WHATEVER THE INPUT: true; the input reads as it did. -/
def fnExactReduceLineSpec : ChangeSpec := { name := "fnExactReduceLine", fn := fun _ => fun
  | [d] => { results := [.lit (.bool true)], args := [d] }
  | _ => none }
def fnExactReduceLineRow : OpenClaim := { program := "ytppabikbepdobaa", sum := "2cd44c58e605970395d4cf57e6fa8a545b68d13b017ef05e0ae6f23b0d8eeb06", func := "loop.example/g00859/laws.FnExactReduceLine", spec := "fnExactReduceLine", recurses := true, apart := false }
def FnExactReduceLineSaid : Prop := fnExactReduceLineRow.holds Try.pinned (OpenSpec.ofChange fnExactReduceLineSpec)

/-- ITS FALSE NEIGHBOUR: 'it returns false'. Refute it at one input. -/
def fnExactReduceLineWrong : ChangeSpec := { name := "fnExactReduceLine", fn := fun _ => fun
  | [d] => { results := [.lit (.bool false)], args := [d] }
  | _ => none }
def FnExactReduceLineWrongFalsely : Prop := fnExactReduceLineRow.holds Try.pinned (OpenSpec.ofChange fnExactReduceLineWrong)

/- THE SECOND FORM. 'bulk': how many values and letters a reading holds, each counted each time it is reached (what is shared counts as often as it is met; a slice's spare places count too). A statement '..UptoSaid' is the law's where the arguments, and the package variables that the reading takes, are together of bulk at most 1048576: NARROWER than '..Said'. Prove '..Said' where nothing that the law and all that it calls make is longer than what came in: it says more and counts as full. Else prove '..UptoSaid'. A law counts once. -/
mutual
def uptoBulk {H : Type} : DataW H → Nat
  | .lit (.string bytes) => bytes.length + 1
  | .lit _ => 1
  | .nil => 1
  | .ptr d => uptoBulk d + 1
  | .slice elems spare => uptoBulkAll elems + uptoBulkAll spare + 1
  | .agg parts => uptoBulkAll parts + 1
  | .iface _ d => uptoBulk d + 1
  | .map entries => uptoBulkEntries entries + 1
  | .held _ => 1
def uptoBulkAll {H : Type} : List (DataW H) → Nat
  | [] => 0
  | d :: r => uptoBulk d + uptoBulkAll r
def uptoBulkEntries {H : Type} : List (Lit × DataW H) → Nat
  | [] => 0
  | x :: r => uptoBulkEntry x + uptoBulkEntries r
def uptoBulkEntry {H : Type} : Lit × DataW H → Nat
  | (.string bytes, d) => bytes.length + uptoBulk d + 1
  | (_, d) => uptoBulk d + 1
 end
def uptoSmall : (H : Type) → List (DataW H) → Bool := fun _ ds => decide (uptoBulkAll ds ≤ 1048576)
def OpenSpec.upto (s : _root_.Go.ChangeSpec) : _root_.Go.OpenSpec := { _root_.Go.OpenSpec.ofChange s with cond := some uptoSmall }

/-- 'laws.FnExactFormatNet', WHERE WHAT IT READS IS OF BULK AT MOST 1048576: true; the input reads as it did. -/
def fnExactFormatNetUptoRow : OpenClaim := { program := "ytppabikbepdobaa", sum := "2cd44c58e605970395d4cf57e6fa8a545b68d13b017ef05e0ae6f23b0d8eeb06", func := "loop.example/g00859/laws.FnExactFormatNet", spec := "fnExactFormatNet", recurses := true, apart := false, narrowed := true }
def FnExactFormatNetUptoSaid : Prop := fnExactFormatNetUptoRow.holds Try.pinned (OpenSpec.upto fnExactFormatNetSpec)

/-- 'laws.FnExactStepChance', WHERE WHAT IT READS IS OF BULK AT MOST 1048576: true; the input reads as it did. -/
def fnExactStepChanceUptoRow : OpenClaim := { program := "ytppabikbepdobaa", sum := "2cd44c58e605970395d4cf57e6fa8a545b68d13b017ef05e0ae6f23b0d8eeb06", func := "loop.example/g00859/laws.FnExactStepChance", spec := "fnExactStepChance", apart := false, narrowed := true }
def FnExactStepChanceUptoSaid : Prop := fnExactStepChanceUptoRow.holds Try.pinned (OpenSpec.upto fnExactStepChanceSpec)

/-- 'laws.FnExactParseNet', WHERE WHAT IT READS IS OF BULK AT MOST 1048576: true; the input reads as it did. -/
def fnExactParseNetUptoRow : OpenClaim := { program := "ytppabikbepdobaa", sum := "2cd44c58e605970395d4cf57e6fa8a545b68d13b017ef05e0ae6f23b0d8eeb06", func := "loop.example/g00859/laws.FnExactParseNet", spec := "fnExactParseNet", inPlace := ["internal/bytealg.IndexByteString"], recurses := true, apart := false, narrowed := true }
def FnExactParseNetUptoSaid : Prop := fnExactParseNetUptoRow.holds Try.pinned (OpenSpec.upto fnExactParseNetSpec)

/-- 'laws.FnExactTreeChance', WHERE WHAT IT READS IS OF BULK AT MOST 1048576: true; the input reads as it did. -/
def fnExactTreeChanceUptoRow : OpenClaim := { program := "ytppabikbepdobaa", sum := "2cd44c58e605970395d4cf57e6fa8a545b68d13b017ef05e0ae6f23b0d8eeb06", func := "loop.example/g00859/laws.FnExactTreeChance", spec := "fnExactTreeChance", recurses := true, apart := false, narrowed := true }
def FnExactTreeChanceUptoSaid : Prop := fnExactTreeChanceUptoRow.holds Try.pinned (OpenSpec.upto fnExactTreeChanceSpec)

/-- 'laws.FnExactEscapeChance', WHERE WHAT IT READS IS OF BULK AT MOST 1048576: true; the input reads as it did. -/
def fnExactEscapeChanceUptoRow : OpenClaim := { program := "ytppabikbepdobaa", sum := "2cd44c58e605970395d4cf57e6fa8a545b68d13b017ef05e0ae6f23b0d8eeb06", func := "loop.example/g00859/laws.FnExactEscapeChance", spec := "fnExactEscapeChance", recurses := true, apart := false, narrowed := true }
def FnExactEscapeChanceUptoSaid : Prop := fnExactEscapeChanceUptoRow.holds Try.pinned (OpenSpec.upto fnExactEscapeChanceSpec)

/-- 'laws.FnExactHitTime', WHERE WHAT IT READS IS OF BULK AT MOST 1048576: true; the input reads as it did. -/
def fnExactHitTimeUptoRow : OpenClaim := { program := "ytppabikbepdobaa", sum := "2cd44c58e605970395d4cf57e6fa8a545b68d13b017ef05e0ae6f23b0d8eeb06", func := "loop.example/g00859/laws.FnExactHitTime", spec := "fnExactHitTime", recurses := true, apart := false, narrowed := true }
def FnExactHitTimeUptoSaid : Prop := fnExactHitTimeUptoRow.holds Try.pinned (OpenSpec.upto fnExactHitTimeSpec)

/-- 'laws.FnExactHitChance', WHERE WHAT IT READS IS OF BULK AT MOST 1048576: true; the input reads as it did. -/
def fnExactHitChanceUptoRow : OpenClaim := { program := "ytppabikbepdobaa", sum := "2cd44c58e605970395d4cf57e6fa8a545b68d13b017ef05e0ae6f23b0d8eeb06", func := "loop.example/g00859/laws.FnExactHitChance", spec := "fnExactHitChance", recurses := true, apart := false, narrowed := true }
def FnExactHitChanceUptoSaid : Prop := fnExactHitChanceUptoRow.holds Try.pinned (OpenSpec.upto fnExactHitChanceSpec)

/-- 'laws.FnExactCommuteTime', WHERE WHAT IT READS IS OF BULK AT MOST 1048576: true; the input reads as it did. -/
def fnExactCommuteTimeUptoRow : OpenClaim := { program := "ytppabikbepdobaa", sum := "2cd44c58e605970395d4cf57e6fa8a545b68d13b017ef05e0ae6f23b0d8eeb06", func := "loop.example/g00859/laws.FnExactCommuteTime", spec := "fnExactCommuteTime", recurses := true, apart := false, narrowed := true }
def FnExactCommuteTimeUptoSaid : Prop := fnExactCommuteTimeUptoRow.holds Try.pinned (OpenSpec.upto fnExactCommuteTimeSpec)

/-- 'laws.FnExactResistLine', WHERE WHAT IT READS IS OF BULK AT MOST 1048576: true; the input reads as it did. -/
def fnExactResistLineUptoRow : OpenClaim := { program := "ytppabikbepdobaa", sum := "2cd44c58e605970395d4cf57e6fa8a545b68d13b017ef05e0ae6f23b0d8eeb06", func := "loop.example/g00859/laws.FnExactResistLine", spec := "fnExactResistLine", recurses := true, apart := false, narrowed := true }
def FnExactResistLineUptoSaid : Prop := fnExactResistLineUptoRow.holds Try.pinned (OpenSpec.upto fnExactResistLineSpec)

/-- 'laws.FnExactPotentialLine', WHERE WHAT IT READS IS OF BULK AT MOST 1048576: true; the input reads as it did. -/
def fnExactPotentialLineUptoRow : OpenClaim := { program := "ytppabikbepdobaa", sum := "2cd44c58e605970395d4cf57e6fa8a545b68d13b017ef05e0ae6f23b0d8eeb06", func := "loop.example/g00859/laws.FnExactPotentialLine", spec := "fnExactPotentialLine", inPlace := ["internal/abi.NoEscape", "internal/bytealg.MakeNoZero"], recurses := true, apart := false, narrowed := true }
def FnExactPotentialLineUptoSaid : Prop := fnExactPotentialLineUptoRow.holds Try.pinned (OpenSpec.upto fnExactPotentialLineSpec)

/-- 'laws.FnExactNetLines', WHERE WHAT IT READS IS OF BULK AT MOST 1048576: true; the input reads as it did. -/
def fnExactNetLinesUptoRow : OpenClaim := { program := "ytppabikbepdobaa", sum := "2cd44c58e605970395d4cf57e6fa8a545b68d13b017ef05e0ae6f23b0d8eeb06", func := "loop.example/g00859/laws.FnExactNetLines", spec := "fnExactNetLines", inPlace := ["internal/abi.NoEscape", "internal/bytealg.MakeNoZero"], recurses := true, apart := false, narrowed := true }
def FnExactNetLinesUptoSaid : Prop := fnExactNetLinesUptoRow.holds Try.pinned (OpenSpec.upto fnExactNetLinesSpec)

/-- 'laws.FnExactReduceLine', WHERE WHAT IT READS IS OF BULK AT MOST 1048576: true; the input reads as it did. -/
def fnExactReduceLineUptoRow : OpenClaim := { program := "ytppabikbepdobaa", sum := "2cd44c58e605970395d4cf57e6fa8a545b68d13b017ef05e0ae6f23b0d8eeb06", func := "loop.example/g00859/laws.FnExactReduceLine", spec := "fnExactReduceLine", recurses := true, apart := false, narrowed := true }
def FnExactReduceLineUptoSaid : Prop := fnExactReduceLineUptoRow.holds Try.pinned (OpenSpec.upto fnExactReduceLineSpec)

end Rows
end Go.Proofs.Ytppabikbepdobaa
