/-
  No cell of these rows narrows 'for every input' (looked for: loops, veiled, ifaces, maps, wideKeys, modest, calm, conditions, laid).
  DERIVED. THE GIVEN ROWS OF THIS SEAT. 5 by the template 'for every input the law returns true; each argument reads behind the call as it read before'; 0 by the template 'total and deterministic' (their statements: YtdepjlplhffahaaTotals.lean).
  GIVEN WITH THE SEED: the statements are not yours to turn. If you find one false, say at which input.
  Laid BY PROGRAM, IN A SANDBOX (cutbox-rows.mjs): the forced cells as the released guide's own fill.sh prints them over the translation 3bbd974bc3be894f… (all of the seat's roots in one cut). By AI agents, Wed Nov 11 2026. No macro, syntax, notation, axiom, sorry.
-/
import Derived.Test.YtdepjlplhffahaaChecked
import GoSem.Claim
import GoSem.ClaimJoined
import GoSem.ClaimMapViews
import Derived.JoinedTies
import Derived.KernelRfl
namespace Go.Proofs.Ytdepjlplhffahaa
/- THE CELL 'sum', in the pinned program and in every row, IS THE sha256 OF THE DUMP (.gsa) THAT YtdepjlplhffahaaProg.lean LOADS. Nothing in Lean hashes anything: it is a label: what it is worth is what the hold of that sum in a sandbox is worth. -/
noncomputable def Try.pinned : Pinned := { name := "ytdepjlplhffahaa", sum := "3bbd974bc3be894f4bc4bcbe8a65e26051c13339132102214248d974cb8accf7", checked := Try.checked }
namespace Rows
def none {H : Type} : Left H := { results := [], args := [] }

/-- 'laws.FnExactFormatFault': WHATEVER THE INPUT: true; the input reads as it did. -/
def fnExactFormatFaultSpec : ChangeSpec := { name := "fnExactFormatFault", fn := fun _ => fun
  | [d] => { results := [.lit (.bool true)], args := [d] }
  | _ => none }
def fnExactFormatFaultRow : OpenClaim := { program := "ytdepjlplhffahaa", sum := "3bbd974bc3be894f4bc4bcbe8a65e26051c13339132102214248d974cb8accf7", func := "loop.example/g00859/laws.FnExactFormatFault", spec := "fnExactFormatFault", recurses := true, apart := false }
def FnExactFormatFaultSaid : Prop := fnExactFormatFaultRow.holds Try.pinned (OpenSpec.ofChange fnExactFormatFaultSpec)

/-- ITS FALSE NEIGHBOUR: 'it returns false'. Refute it at one input. -/
def fnExactFormatFaultWrong : ChangeSpec := { name := "fnExactFormatFault", fn := fun _ => fun
  | [d] => { results := [.lit (.bool false)], args := [d] }
  | _ => none }
def FnExactFormatFaultWrongFalsely : Prop := fnExactFormatFaultRow.holds Try.pinned (OpenSpec.ofChange fnExactFormatFaultWrong)

/-- 'laws.FnExactFormatSquare': WHATEVER THE INPUT: true; the input reads as it did. -/
def fnExactFormatSquareSpec : ChangeSpec := { name := "fnExactFormatSquare", fn := fun _ => fun
  | [d] => { results := [.lit (.bool true)], args := [d] }
  | _ => none }
def fnExactFormatSquareRow : OpenClaim := { program := "ytdepjlplhffahaa", sum := "3bbd974bc3be894f4bc4bcbe8a65e26051c13339132102214248d974cb8accf7", func := "loop.example/g00859/laws.FnExactFormatSquare", spec := "fnExactFormatSquare", recurses := true, apart := false }
def FnExactFormatSquareSaid : Prop := fnExactFormatSquareRow.holds Try.pinned (OpenSpec.ofChange fnExactFormatSquareSpec)

/-- ITS FALSE NEIGHBOUR: 'it returns false'. Refute it at one input. -/
def fnExactFormatSquareWrong : ChangeSpec := { name := "fnExactFormatSquare", fn := fun _ => fun
  | [d] => { results := [.lit (.bool false)], args := [d] }
  | _ => none }
def FnExactFormatSquareWrongFalsely : Prop := fnExactFormatSquareRow.holds Try.pinned (OpenSpec.ofChange fnExactFormatSquareWrong)

/-- 'laws.FnExactCountUnits': WHATEVER THE INPUT: true; the input reads as it did. -/
def fnExactCountUnitsSpec : ChangeSpec := { name := "fnExactCountUnits", fn := fun _ => fun
  | [d1, d2] => { results := [.lit (.bool true)], args := [d1, d2] }
  | _ => none }
def fnExactCountUnitsRow : OpenClaim := { program := "ytdepjlplhffahaa", sum := "3bbd974bc3be894f4bc4bcbe8a65e26051c13339132102214248d974cb8accf7", func := "loop.example/g00859/laws.FnExactCountUnits", spec := "fnExactCountUnits", apart := false }
def FnExactCountUnitsSaid : Prop := fnExactCountUnitsRow.holds Try.pinned (OpenSpec.ofChange fnExactCountUnitsSpec)

/-- ITS FALSE NEIGHBOUR: 'it returns false'. Refute it at one input. -/
def fnExactCountUnitsWrong : ChangeSpec := { name := "fnExactCountUnits", fn := fun _ => fun
  | [d1, d2] => { results := [.lit (.bool false)], args := [d1, d2] }
  | _ => none }
def FnExactCountUnitsWrongFalsely : Prop := fnExactCountUnitsRow.holds Try.pinned (OpenSpec.ofChange fnExactCountUnitsWrong)

/-- 'laws.FnExactTermsOf': WHATEVER THE INPUT: true; the input reads as it did. -/
def fnExactTermsOfSpec : ChangeSpec := { name := "fnExactTermsOf", fn := fun _ => fun
  | [d1, d2] => { results := [.lit (.bool true)], args := [d1, d2] }
  | _ => none }
def fnExactTermsOfRow : OpenClaim := { program := "ytdepjlplhffahaa", sum := "3bbd974bc3be894f4bc4bcbe8a65e26051c13339132102214248d974cb8accf7", func := "loop.example/g00859/laws.FnExactTermsOf", spec := "fnExactTermsOf", apart := false }
def FnExactTermsOfSaid : Prop := fnExactTermsOfRow.holds Try.pinned (OpenSpec.ofChange fnExactTermsOfSpec)

/-- ITS FALSE NEIGHBOUR: 'it returns false'. Refute it at one input. -/
def fnExactTermsOfWrong : ChangeSpec := { name := "fnExactTermsOf", fn := fun _ => fun
  | [d1, d2] => { results := [.lit (.bool false)], args := [d1, d2] }
  | _ => none }
def FnExactTermsOfWrongFalsely : Prop := fnExactTermsOfRow.holds Try.pinned (OpenSpec.ofChange fnExactTermsOfWrong)

/-- 'laws.FnExactNewConsole': WHATEVER THE INPUT: true; the input reads as it did. -/
def fnExactNewConsoleSpec : ChangeSpec := { name := "fnExactNewConsole", fn := fun _ => fun
  | [] => { results := [.lit (.bool true)], args := [] }
  | _ => none }
def fnExactNewConsoleRow : OpenClaim := { program := "ytdepjlplhffahaa", sum := "3bbd974bc3be894f4bc4bcbe8a65e26051c13339132102214248d974cb8accf7", func := "loop.example/g00859/laws.FnExactNewConsole", spec := "fnExactNewConsole", apart := false }
def FnExactNewConsoleSaid : Prop := fnExactNewConsoleRow.holds Try.pinned (OpenSpec.ofChange fnExactNewConsoleSpec)

/-- ITS FALSE NEIGHBOUR: 'it returns false'. Refute it at one input. -/
def fnExactNewConsoleWrong : ChangeSpec := { name := "fnExactNewConsole", fn := fun _ => fun
  | [] => { results := [.lit (.bool false)], args := [] }
  | _ => none }
def FnExactNewConsoleWrongFalsely : Prop := fnExactNewConsoleRow.holds Try.pinned (OpenSpec.ofChange fnExactNewConsoleWrong)

/- THE SECOND FORM. 'bulk': how many values and letters a reading holds, each counted each time it is reached (what is shared counts as often as it is met; a slice's spare places count too). A statement '..UptoSaid' is the law's where the arguments, and the package variables that the reading takes, are together of bulk at most 1048576: NARROWER than '..Said'. Prove '..Said' where nothing that the law and all that it calls make is longer than what came in: it says more and counts as full. Else prove '..UptoSaid'. A law counts once. -/
mutual
def uptoBulk {H : Type} : DataW H → Nat
  | .lit (.string bytes) => bytes.length + 1
  | .lit _ => 1
  | .nil => 1
  | .ptr d => uptoBulk d + 1
  | .slice elems spare => uptoBulkAll elems + uptoBulkAll spare + 1
  | .agg parts => uptoBulkAll parts + 1
  | .iface _ d => uptoBulk d + 1
  | .map entries => uptoBulkEntries entries + 1
  | .held _ => 1
def uptoBulkAll {H : Type} : List (DataW H) → Nat
  | [] => 0
  | d :: r => uptoBulk d + uptoBulkAll r
def uptoBulkEntries {H : Type} : List (Lit × DataW H) → Nat
  | [] => 0
  | x :: r => uptoBulkEntry x + uptoBulkEntries r
def uptoBulkEntry {H : Type} : Lit × DataW H → Nat
  | (.string bytes, d) => bytes.length + uptoBulk d + 1
  | (_, d) => uptoBulk d + 1
 end
def uptoSmall : (H : Type) → List (DataW H) → Bool := fun _ ds => decide (uptoBulkAll ds ≤ 1048576)
def OpenSpec.upto (s : _root_.Go.ChangeSpec) : _root_.Go.OpenSpec := { _root_.Go.OpenSpec.ofChange s with cond := some uptoSmall }

/-- 'laws.FnExactFormatFault', WHERE WHAT IT READS IS OF BULK AT MOST 1048576: true; the input reads as it did. -/
def fnExactFormatFaultUptoRow : OpenClaim := { program := "ytdepjlplhffahaa", sum := "3bbd974bc3be894f4bc4bcbe8a65e26051c13339132102214248d974cb8accf7", func := "loop.example/g00859/laws.FnExactFormatFault", spec := "fnExactFormatFault", recurses := true, apart := false, narrowed := true }
def FnExactFormatFaultUptoSaid : Prop := fnExactFormatFaultUptoRow.holds Try.pinned (OpenSpec.upto fnExactFormatFaultSpec)

/-- 'laws.FnExactFormatSquare', WHERE WHAT IT READS IS OF BULK AT MOST 1048576: true; the input reads as it did. -/
def fnExactFormatSquareUptoRow : OpenClaim := { program := "ytdepjlplhffahaa", sum := "3bbd974bc3be894f4bc4bcbe8a65e26051c13339132102214248d974cb8accf7", func := "loop.example/g00859/laws.FnExactFormatSquare", spec := "fnExactFormatSquare", recurses := true, apart := false, narrowed := true }
def FnExactFormatSquareUptoSaid : Prop := fnExactFormatSquareUptoRow.holds Try.pinned (OpenSpec.upto fnExactFormatSquareSpec)

/-- 'laws.FnExactCountUnits', WHERE WHAT IT READS IS OF BULK AT MOST 1048576: true; the input reads as it did. -/
def fnExactCountUnitsUptoRow : OpenClaim := { program := "ytdepjlplhffahaa", sum := "3bbd974bc3be894f4bc4bcbe8a65e26051c13339132102214248d974cb8accf7", func := "loop.example/g00859/laws.FnExactCountUnits", spec := "fnExactCountUnits", apart := false, narrowed := true }
def FnExactCountUnitsUptoSaid : Prop := fnExactCountUnitsUptoRow.holds Try.pinned (OpenSpec.upto fnExactCountUnitsSpec)

/-- 'laws.FnExactTermsOf', WHERE WHAT IT READS IS OF BULK AT MOST 1048576: true; the input reads as it did. -/
def fnExactTermsOfUptoRow : OpenClaim := { program := "ytdepjlplhffahaa", sum := "3bbd974bc3be894f4bc4bcbe8a65e26051c13339132102214248d974cb8accf7", func := "loop.example/g00859/laws.FnExactTermsOf", spec := "fnExactTermsOf", apart := false, narrowed := true }
def FnExactTermsOfUptoSaid : Prop := fnExactTermsOfUptoRow.holds Try.pinned (OpenSpec.upto fnExactTermsOfSpec)

/-- 'laws.FnExactNewConsole', WHERE WHAT IT READS IS OF BULK AT MOST 1048576: true; the input reads as it did. -/
def fnExactNewConsoleUptoRow : OpenClaim := { program := "ytdepjlplhffahaa", sum := "3bbd974bc3be894f4bc4bcbe8a65e26051c13339132102214248d974cb8accf7", func := "loop.example/g00859/laws.FnExactNewConsole", spec := "fnExactNewConsole", apart := false, narrowed := true }
def FnExactNewConsoleUptoSaid : Prop := fnExactNewConsoleUptoRow.holds Try.pinned (OpenSpec.upto fnExactNewConsoleSpec)

end Rows
end Go.Proofs.Ytdepjlplhffahaa
