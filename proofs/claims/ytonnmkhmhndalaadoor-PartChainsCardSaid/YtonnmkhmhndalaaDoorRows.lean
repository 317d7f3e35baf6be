/-
  NARROWER THAN 'FOR EVERY INPUT', by the rows' own cells (each row's printed sentence says how): LevelRuns: laid · LevelOrders: laid · LevelRings: laid · LevelJoins: laid · PartRuns: laid · PartChecks: laid · PartTurns: laid · PartLoops: laid · PartChains: laid.
  DERIVED. THE GIVEN ROWS OF THIS SEAT. 9 by the template 'for every input the law returns true; each argument reads behind the call as it read before'; 0 by the template 'total and deterministic' (their statements: YtonnmkhmhndalaaDoorTotals.lean).
  GIVEN WITH THE SEED: the statements are not yours to turn. If you find one false, say at which input.
  Laid BY PROGRAM, IN A SANDBOX (cutbox-rows.mjs): the forced cells as the released guide's own fill.sh prints them over the translation fc527809cdcdc344… (all of the seat's roots in one cut). By AI agents, Wed Nov 11 2026. No macro, syntax, notation, axiom, sorry.
-/
import Derived.Test.YtonnmkhmhndalaaDoorChecked
import GoSem.PinnedTables
import GoSem.Claim
import GoSem.ClaimJoined
import GoSem.ClaimMapViews
import Derived.JoinedTies
import Derived.KernelRfl
namespace Go.Proofs.YtonnmkhmhndalaaDoor
/- THE CELL 'sum', in the pinned program and in every row, IS THE sha256 OF THE DUMP (.gsa) THAT YtonnmkhmhndalaaDoorProg.lean LOADS. Nothing in Lean hashes anything: it is a label: what it is worth is what the hold of that sum in a sandbox is worth. -/
noncomputable def Tryd.pinned : Pinned := { name := "ytonnmkhmhndalaadoor", sum := "fc527809cdcdc34405613c4e38760f9a8b222511d85b63b4ad8625be37cd35d8", checked := Tryd.checked }
namespace Rows
def none {H : Type} : Left H := { results := [], args := [] }

/- WHAT THE LISTED PACKAGE-LEVEL VARIABLES READ AS WHEN THE CALL BEGINS. Each datum BY PROGRAM (the guide's laid-datum.mjs) off the statement by which the dump's own 'gosem.cut.vars' lays the variable. In a bare row this is a premise. The card (YtonnmkhmhndalaaDoorCards.lean) ties it to the program's text. -/
def laid_unicode_utf8_acceptRanges {H : Type} : DataW H := .agg [.agg [.lit (.int .u8 128), .lit (.int .u8 191)], .agg [.lit (.int .u8 160), .lit (.int .u8 191)], .agg [.lit (.int .u8 128), .lit (.int .u8 159)], .agg [.lit (.int .u8 144), .lit (.int .u8 191)], .agg [.lit (.int .u8 128), .lit (.int .u8 143)], .agg [.lit (.int .u8 0), .lit (.int .u8 0)], .agg [.lit (.int .u8 0), .lit (.int .u8 0)], .agg [.lit (.int .u8 0), .lit (.int .u8 0)], .agg [.lit (.int .u8 0), .lit (.int .u8 0)], .agg [.lit (.int .u8 0), .lit (.int .u8 0)], .agg [.lit (.int .u8 0), .lit (.int .u8 0)], .agg [.lit (.int .u8 0), .lit (.int .u8 0)], .agg [.lit (.int .u8 0), .lit (.int .u8 0)], .agg [.lit (.int .u8 0), .lit (.int .u8 0)], .agg [.lit (.int .u8 0), .lit (.int .u8 0)], .agg [.lit (.int .u8 0), .lit (.int .u8 0)]]
/-- One of Go's own tables, pinned by name: the form's constant. -/
def laid_unicode_utf8_first : DataW Unit := Go.Pinned.utf8First

/-- 'silkwormlaw11.LevelRuns': WHATEVER THE INPUT: true; the input reads as it did. -/
def levelRunsSpec : ChangeSpec := { name := "levelRuns", fn := fun _ => fun
  | [d] => { results := [.lit (.bool true)], args := [d] }
  | _ => none }
def levelRunsRow : OpenClaim := { program := "ytonnmkhmhndalaadoor", sum := "fc527809cdcdc34405613c4e38760f9a8b222511d85b63b4ad8625be37cd35d8", func := "silkworm/silkwormlaw11.LevelRuns", spec := "levelRuns", inPlace := ["internal/bytealg.IndexByteString", "internal/bytealg.IndexString"], unfollowed := true, recurses := true, named := ["unicode/utf8.first", "unicode/utf8.acceptRanges", "internal/bytealg.MaxLen"], apart := false, laid := [("unicode/utf8.acceptRanges", laid_unicode_utf8_acceptRanges), ("unicode/utf8.first", laid_unicode_utf8_first)] }
def LevelRunsSaid : Prop := levelRunsRow.holds Tryd.pinned (OpenSpec.ofChange levelRunsSpec)

/-- ITS FALSE NEIGHBOUR: 'it returns false'. Refute it at one input. -/
def levelRunsWrong : ChangeSpec := { name := "levelRuns", fn := fun _ => fun
  | [d] => { results := [.lit (.bool false)], args := [d] }
  | _ => none }
def LevelRunsWrongFalsely : Prop := levelRunsRow.holds Tryd.pinned (OpenSpec.ofChange levelRunsWrong)

/-- 'silkwormlaw11.LevelOrders': WHATEVER THE INPUT: true; the input reads as it did. -/
def levelOrdersSpec : ChangeSpec := { name := "levelOrders", fn := fun _ => fun
  | [d] => { results := [.lit (.bool true)], args := [d] }
  | _ => none }
def levelOrdersRow : OpenClaim := { program := "ytonnmkhmhndalaadoor", sum := "fc527809cdcdc34405613c4e38760f9a8b222511d85b63b4ad8625be37cd35d8", func := "silkworm/silkwormlaw11.LevelOrders", spec := "levelOrders", inPlace := ["internal/bytealg.IndexByteString", "internal/bytealg.IndexString"], unfollowed := true, recurses := true, named := ["unicode/utf8.first", "unicode/utf8.acceptRanges", "internal/bytealg.MaxLen"], apart := false, laid := [("unicode/utf8.acceptRanges", laid_unicode_utf8_acceptRanges), ("unicode/utf8.first", laid_unicode_utf8_first)] }
def LevelOrdersSaid : Prop := levelOrdersRow.holds Tryd.pinned (OpenSpec.ofChange levelOrdersSpec)

/-- ITS FALSE NEIGHBOUR: 'it returns false'. Refute it at one input. -/
def levelOrdersWrong : ChangeSpec := { name := "levelOrders", fn := fun _ => fun
  | [d] => { results := [.lit (.bool false)], args := [d] }
  | _ => none }
def LevelOrdersWrongFalsely : Prop := levelOrdersRow.holds Tryd.pinned (OpenSpec.ofChange levelOrdersWrong)

/-- 'silkwormlaw11.LevelRings': WHATEVER THE INPUT: true; the input reads as it did. -/
def levelRingsSpec : ChangeSpec := { name := "levelRings", fn := fun _ => fun
  | [d1, d2] => { results := [.lit (.bool true)], args := [d1, d2] }
  | _ => none }
def levelRingsRow : OpenClaim := { program := "ytonnmkhmhndalaadoor", sum := "fc527809cdcdc34405613c4e38760f9a8b222511d85b63b4ad8625be37cd35d8", func := "silkworm/silkwormlaw11.LevelRings", spec := "levelRings", inPlace := ["internal/bytealg.IndexByteString", "internal/bytealg.IndexString"], unfollowed := true, recurses := true, named := ["unicode/utf8.first", "unicode/utf8.acceptRanges", "internal/bytealg.MaxLen"], apart := false, laid := [("unicode/utf8.acceptRanges", laid_unicode_utf8_acceptRanges), ("unicode/utf8.first", laid_unicode_utf8_first)] }
def LevelRingsSaid : Prop := levelRingsRow.holds Tryd.pinned (OpenSpec.ofChange levelRingsSpec)

/-- ITS FALSE NEIGHBOUR: 'it returns false'. Refute it at one input. -/
def levelRingsWrong : ChangeSpec := { name := "levelRings", fn := fun _ => fun
  | [d1, d2] => { results := [.lit (.bool false)], args := [d1, d2] }
  | _ => none }
def LevelRingsWrongFalsely : Prop := levelRingsRow.holds Tryd.pinned (OpenSpec.ofChange levelRingsWrong)

/-- 'silkwormlaw11.LevelJoins': WHATEVER THE INPUT: true; the input reads as it did. -/
def levelJoinsSpec : ChangeSpec := { name := "levelJoins", fn := fun _ => fun
  | [d1, d2] => { results := [.lit (.bool true)], args := [d1, d2] }
  | _ => none }
def levelJoinsRow : OpenClaim := { program := "ytonnmkhmhndalaadoor", sum := "fc527809cdcdc34405613c4e38760f9a8b222511d85b63b4ad8625be37cd35d8", func := "silkworm/silkwormlaw11.LevelJoins", spec := "levelJoins", inPlace := ["internal/bytealg.IndexByteString", "internal/bytealg.IndexString"], unfollowed := true, recurses := true, named := ["unicode/utf8.first", "unicode/utf8.acceptRanges", "internal/bytealg.MaxLen"], apart := false, laid := [("unicode/utf8.acceptRanges", laid_unicode_utf8_acceptRanges), ("unicode/utf8.first", laid_unicode_utf8_first)] }
def LevelJoinsSaid : Prop := levelJoinsRow.holds Tryd.pinned (OpenSpec.ofChange levelJoinsSpec)

/-- ITS FALSE NEIGHBOUR: 'it returns false'. Refute it at one input. -/
def levelJoinsWrong : ChangeSpec := { name := "levelJoins", fn := fun _ => fun
  | [d1, d2] => { results := [.lit (.bool false)], args := [d1, d2] }
  | _ => none }
def LevelJoinsWrongFalsely : Prop := levelJoinsRow.holds Tryd.pinned (OpenSpec.ofChange levelJoinsWrong)

/-- 'silkwormlaw13.PartRuns': WHATEVER THE INPUT: true; the input reads as it did. -/
def partRunsSpec : ChangeSpec := { name := "partRuns", fn := fun _ => fun
  | [d1, d2] => { results := [.lit (.bool true)], args := [d1, d2] }
  | _ => none }
def partRunsRow : OpenClaim := { program := "ytonnmkhmhndalaadoor", sum := "fc527809cdcdc34405613c4e38760f9a8b222511d85b63b4ad8625be37cd35d8", func := "silkworm/silkwormlaw13.PartRuns", spec := "partRuns", inPlace := ["internal/bytealg.IndexByteString", "internal/bytealg.IndexString"], unfollowed := true, recurses := true, named := ["unicode/utf8.first", "unicode/utf8.acceptRanges", "internal/bytealg.MaxLen"], apart := false, laid := [("unicode/utf8.acceptRanges", laid_unicode_utf8_acceptRanges), ("unicode/utf8.first", laid_unicode_utf8_first)] }
def PartRunsSaid : Prop := partRunsRow.holds Tryd.pinned (OpenSpec.ofChange partRunsSpec)

/-- ITS FALSE NEIGHBOUR: 'it returns false'. Refute it at one input. -/
def partRunsWrong : ChangeSpec := { name := "partRuns", fn := fun _ => fun
  | [d1, d2] => { results := [.lit (.bool false)], args := [d1, d2] }
  | _ => none }
def PartRunsWrongFalsely : Prop := partRunsRow.holds Tryd.pinned (OpenSpec.ofChange partRunsWrong)

/-- 'silkwormlaw13.PartChecks': WHATEVER THE INPUT: true; the input reads as it did. -/
def partChecksSpec : ChangeSpec := { name := "partChecks", fn := fun _ => fun
  | [d1, d2] => { results := [.lit (.bool true)], args := [d1, d2] }
  | _ => none }
def partChecksRow : OpenClaim := { program := "ytonnmkhmhndalaadoor", sum := "fc527809cdcdc34405613c4e38760f9a8b222511d85b63b4ad8625be37cd35d8", func := "silkworm/silkwormlaw13.PartChecks", spec := "partChecks", inPlace := ["internal/bytealg.IndexByteString", "internal/bytealg.IndexString"], unfollowed := true, recurses := true, named := ["unicode/utf8.first", "unicode/utf8.acceptRanges", "internal/bytealg.MaxLen"], apart := false, laid := [("unicode/utf8.acceptRanges", laid_unicode_utf8_acceptRanges), ("unicode/utf8.first", laid_unicode_utf8_first)] }
def PartChecksSaid : Prop := partChecksRow.holds Tryd.pinned (OpenSpec.ofChange partChecksSpec)

/-- ITS FALSE NEIGHBOUR: 'it returns false'. Refute it at one input. -/
def partChecksWrong : ChangeSpec := { name := "partChecks", fn := fun _ => fun
  | [d1, d2] => { results := [.lit (.bool false)], args := [d1, d2] }
  | _ => none }
def PartChecksWrongFalsely : Prop := partChecksRow.holds Tryd.pinned (OpenSpec.ofChange partChecksWrong)

/-- 'silkwormlaw13.PartTurns': WHATEVER THE INPUT: true; the input reads as it did. -/
def partTurnsSpec : ChangeSpec := { name := "partTurns", fn := fun _ => fun
  | [d1, d2, d3] => { results := [.lit (.bool true)], args := [d1, d2, d3] }
  | _ => none }
def partTurnsRow : OpenClaim := { program := "ytonnmkhmhndalaadoor", sum := "fc527809cdcdc34405613c4e38760f9a8b222511d85b63b4ad8625be37cd35d8", func := "silkworm/silkwormlaw13.PartTurns", spec := "partTurns", inPlace := ["internal/bytealg.IndexByteString", "internal/bytealg.IndexString"], unfollowed := true, recurses := true, named := ["unicode/utf8.first", "unicode/utf8.acceptRanges", "internal/bytealg.MaxLen"], apart := false, laid := [("unicode/utf8.acceptRanges", laid_unicode_utf8_acceptRanges), ("unicode/utf8.first", laid_unicode_utf8_first)] }
def PartTurnsSaid : Prop := partTurnsRow.holds Tryd.pinned (OpenSpec.ofChange partTurnsSpec)

/-- ITS FALSE NEIGHBOUR: 'it returns false'. Refute it at one input. -/
def partTurnsWrong : ChangeSpec := { name := "partTurns", fn := fun _ => fun
  | [d1, d2, d3] => { results := [.lit (.bool false)], args := [d1, d2, d3] }
  | _ => none }
def PartTurnsWrongFalsely : Prop := partTurnsRow.holds Tryd.pinned (OpenSpec.ofChange partTurnsWrong)

/-- 'silkwormlaw13.PartLoops': WHATEVER THE INPUT: true; the input reads as it did. -/
def partLoopsSpec : ChangeSpec := { name := "partLoops", fn := fun _ => fun
  | [d1, d2] => { results := [.lit (.bool true)], args := [d1, d2] }
  | _ => none }
def partLoopsRow : OpenClaim := { program := "ytonnmkhmhndalaadoor", sum := "fc527809cdcdc34405613c4e38760f9a8b222511d85b63b4ad8625be37cd35d8", func := "silkworm/silkwormlaw13.PartLoops", spec := "partLoops", inPlace := ["internal/bytealg.IndexByteString", "internal/bytealg.IndexString"], unfollowed := true, recurses := true, named := ["unicode/utf8.first", "unicode/utf8.acceptRanges", "internal/bytealg.MaxLen"], apart := false, laid := [("unicode/utf8.acceptRanges", laid_unicode_utf8_acceptRanges), ("unicode/utf8.first", laid_unicode_utf8_first)] }
def PartLoopsSaid : Prop := partLoopsRow.holds Tryd.pinned (OpenSpec.ofChange partLoopsSpec)

/-- ITS FALSE NEIGHBOUR: 'it returns false'. Refute it at one input. -/
def partLoopsWrong : ChangeSpec := { name := "partLoops", fn := fun _ => fun
  | [d1, d2] => { results := [.lit (.bool false)], args := [d1, d2] }
  | _ => none }
def PartLoopsWrongFalsely : Prop := partLoopsRow.holds Tryd.pinned (OpenSpec.ofChange partLoopsWrong)

/-- 'silkwormlaw13.PartChains': WHATEVER THE INPUT: true; the input reads as it did. -/
def partChainsSpec : ChangeSpec := { name := "partChains", fn := fun _ => fun
  | [d1, d2, d3] => { results := [.lit (.bool true)], args := [d1, d2, d3] }
  | _ => none }
def partChainsRow : OpenClaim := { program := "ytonnmkhmhndalaadoor", sum := "fc527809cdcdc34405613c4e38760f9a8b222511d85b63b4ad8625be37cd35d8", func := "silkworm/silkwormlaw13.PartChains", spec := "partChains", inPlace := ["internal/bytealg.IndexByteString", "internal/bytealg.IndexString"], unfollowed := true, recurses := true, named := ["unicode/utf8.first", "unicode/utf8.acceptRanges", "internal/bytealg.MaxLen"], apart := false, laid := [("unicode/utf8.acceptRanges", laid_unicode_utf8_acceptRanges), ("unicode/utf8.first", laid_unicode_utf8_first)] }
def PartChainsSaid : Prop := partChainsRow.holds Tryd.pinned (OpenSpec.ofChange partChainsSpec)

/-- ITS FALSE NEIGHBOUR: 'it returns false'. Refute it at one input. -/
def partChainsWrong : ChangeSpec := { name := "partChains", fn := fun _ => fun
  | [d1, d2, d3] => { results := [.lit (.bool false)], args := [d1, d2, d3] }
  | _ => none }
def PartChainsWrongFalsely : Prop := partChainsRow.holds Tryd.pinned (OpenSpec.ofChange partChainsWrong)

/- THE SECOND FORM. 'bulk': how many values and letters a reading holds, each counted each time it is reached (what is shared counts as often as it is met; a slice's spare places count too). A statement '..UptoSaid' is the law's where the arguments, and the package variables that the reading takes, are together of bulk at most 1048576: NARROWER than '..Said'. Prove '..Said' where nothing that the law and all that it calls make is longer than what came in: it says more and counts as full. Else prove '..UptoSaid'. A law counts once. -/
mutual
def uptoBulk {H : Type} : DataW H → Nat
  | .lit (.string bytes) => bytes.length + 1
  | .lit _ => 1
  | .nil => 1
  | .ptr d => uptoBulk d + 1
  | .slice elems spare => uptoBulkAll elems + uptoBulkAll spare + 1
  | .agg parts => uptoBulkAll parts + 1
  | .iface _ d => uptoBulk d + 1
  | .map entries => uptoBulkEntries entries + 1
  | .held _ => 1
def uptoBulkAll {H : Type} : List (DataW H) → Nat
  | [] => 0
  | d :: r => uptoBulk d + uptoBulkAll r
def uptoBulkEntries {H : Type} : List (Lit × DataW H) → Nat
  | [] => 0
  | x :: r => uptoBulkEntry x + uptoBulkEntries r
def uptoBulkEntry {H : Type} : Lit × DataW H → Nat
  | (.string bytes, d) => bytes.length + uptoBulk d + 1
  | (_, d) => uptoBulk d + 1
 end
def uptoSmall : (H : Type) → List (DataW H) → Bool := fun _ ds => decide (uptoBulkAll ds ≤ 1048576)
def OpenSpec.upto (s : _root_.Go.ChangeSpec) : _root_.Go.OpenSpec := { _root_.Go.OpenSpec.ofChange s with cond := some uptoSmall }

/-- 'silkwormlaw11.LevelRuns', WHERE WHAT IT READS IS OF BULK AT MOST 1048576: true; the input reads as it did. -/
def levelRunsUptoRow : OpenClaim := { program := "ytonnmkhmhndalaadoor", sum := "fc527809cdcdc34405613c4e38760f9a8b222511d85b63b4ad8625be37cd35d8", func := "silkworm/silkwormlaw11.LevelRuns", spec := "levelRuns", inPlace := ["internal/bytealg.IndexByteString", "internal/bytealg.IndexString"], unfollowed := true, recurses := true, named := ["unicode/utf8.first", "unicode/utf8.acceptRanges", "internal/bytealg.MaxLen"], apart := false, laid := [("unicode/utf8.acceptRanges", laid_unicode_utf8_acceptRanges), ("unicode/utf8.first", laid_unicode_utf8_first)], narrowed := true }
def LevelRunsUptoSaid : Prop := levelRunsUptoRow.holds Tryd.pinned (OpenSpec.upto levelRunsSpec)

/-- 'silkwormlaw11.LevelOrders', WHERE WHAT IT READS IS OF BULK AT MOST 1048576: true; the input reads as it did. -/
def levelOrdersUptoRow : OpenClaim := { program := "ytonnmkhmhndalaadoor", sum := "fc527809cdcdc34405613c4e38760f9a8b222511d85b63b4ad8625be37cd35d8", func := "silkworm/silkwormlaw11.LevelOrders", spec := "levelOrders", inPlace := ["internal/bytealg.IndexByteString", "internal/bytealg.IndexString"], unfollowed := true, recurses := true, named := ["unicode/utf8.first", "unicode/utf8.acceptRanges", "internal/bytealg.MaxLen"], apart := false, laid := [("unicode/utf8.acceptRanges", laid_unicode_utf8_acceptRanges), ("unicode/utf8.first", laid_unicode_utf8_first)], narrowed := true }
def LevelOrdersUptoSaid : Prop := levelOrdersUptoRow.holds Tryd.pinned (OpenSpec.upto levelOrdersSpec)

/-- 'silkwormlaw11.LevelRings', WHERE WHAT IT READS IS OF BULK AT MOST 1048576: true; the input reads as it did. -/
def levelRingsUptoRow : OpenClaim := { program := "ytonnmkhmhndalaadoor", sum := "fc527809cdcdc34405613c4e38760f9a8b222511d85b63b4ad8625be37cd35d8", func := "silkworm/silkwormlaw11.LevelRings", spec := "levelRings", inPlace := ["internal/bytealg.IndexByteString", "internal/bytealg.IndexString"], unfollowed := true, recurses := true, named := ["unicode/utf8.first", "unicode/utf8.acceptRanges", "internal/bytealg.MaxLen"], apart := false, laid := [("unicode/utf8.acceptRanges", laid_unicode_utf8_acceptRanges), ("unicode/utf8.first", laid_unicode_utf8_first)], narrowed := true }
def LevelRingsUptoSaid : Prop := levelRingsUptoRow.holds Tryd.pinned (OpenSpec.upto levelRingsSpec)

/-- 'silkwormlaw11.LevelJoins', WHERE WHAT IT READS IS OF BULK AT MOST 1048576: true; the input reads as it did. -/
def levelJoinsUptoRow : OpenClaim := { program := "ytonnmkhmhndalaadoor", sum := "fc527809cdcdc34405613c4e38760f9a8b222511d85b63b4ad8625be37cd35d8", func := "silkworm/silkwormlaw11.LevelJoins", spec := "levelJoins", inPlace := ["internal/bytealg.IndexByteString", "internal/bytealg.IndexString"], unfollowed := true, recurses := true, named := ["unicode/utf8.first", "unicode/utf8.acceptRanges", "internal/bytealg.MaxLen"], apart := false, laid := [("unicode/utf8.acceptRanges", laid_unicode_utf8_acceptRanges), ("unicode/utf8.first", laid_unicode_utf8_first)], narrowed := true }
def LevelJoinsUptoSaid : Prop := levelJoinsUptoRow.holds Tryd.pinned (OpenSpec.upto levelJoinsSpec)

/-- 'silkwormlaw13.PartRuns', WHERE WHAT IT READS IS OF BULK AT MOST 1048576: true; the input reads as it did. -/
def partRunsUptoRow : OpenClaim := { program := "ytonnmkhmhndalaadoor", sum := "fc527809cdcdc34405613c4e38760f9a8b222511d85b63b4ad8625be37cd35d8", func := "silkworm/silkwormlaw13.PartRuns", spec := "partRuns", inPlace := ["internal/bytealg.IndexByteString", "internal/bytealg.IndexString"], unfollowed := true, recurses := true, named := ["unicode/utf8.first", "unicode/utf8.acceptRanges", "internal/bytealg.MaxLen"], apart := false, laid := [("unicode/utf8.acceptRanges", laid_unicode_utf8_acceptRanges), ("unicode/utf8.first", laid_unicode_utf8_first)], narrowed := true }
def PartRunsUptoSaid : Prop := partRunsUptoRow.holds Tryd.pinned (OpenSpec.upto partRunsSpec)

/-- 'silkwormlaw13.PartChecks', WHERE WHAT IT READS IS OF BULK AT MOST 1048576: true; the input reads as it did. -/
def partChecksUptoRow : OpenClaim := { program := "ytonnmkhmhndalaadoor", sum := "fc527809cdcdc34405613c4e38760f9a8b222511d85b63b4ad8625be37cd35d8", func := "silkworm/silkwormlaw13.PartChecks", spec := "partChecks", inPlace := ["internal/bytealg.IndexByteString", "internal/bytealg.IndexString"], unfollowed := true, recurses := true, named := ["unicode/utf8.first", "unicode/utf8.acceptRanges", "internal/bytealg.MaxLen"], apart := false, laid := [("unicode/utf8.acceptRanges", laid_unicode_utf8_acceptRanges), ("unicode/utf8.first", laid_unicode_utf8_first)], narrowed := true }
def PartChecksUptoSaid : Prop := partChecksUptoRow.holds Tryd.pinned (OpenSpec.upto partChecksSpec)

/-- 'silkwormlaw13.PartTurns', WHERE WHAT IT READS IS OF BULK AT MOST 1048576: true; the input reads as it did. -/
def partTurnsUptoRow : OpenClaim := { program := "ytonnmkhmhndalaadoor", sum := "fc527809cdcdc34405613c4e38760f9a8b222511d85b63b4ad8625be37cd35d8", func := "silkworm/silkwormlaw13.PartTurns", spec := "partTurns", inPlace := ["internal/bytealg.IndexByteString", "internal/bytealg.IndexString"], unfollowed := true, recurses := true, named := ["unicode/utf8.first", "unicode/utf8.acceptRanges", "internal/bytealg.MaxLen"], apart := false, laid := [("unicode/utf8.acceptRanges", laid_unicode_utf8_acceptRanges), ("unicode/utf8.first", laid_unicode_utf8_first)], narrowed := true }
def PartTurnsUptoSaid : Prop := partTurnsUptoRow.holds Tryd.pinned (OpenSpec.upto partTurnsSpec)

/-- 'silkwormlaw13.PartLoops', WHERE WHAT IT READS IS OF BULK AT MOST 1048576: true; the input reads as it did. -/
def partLoopsUptoRow : OpenClaim := { program := "ytonnmkhmhndalaadoor", sum := "fc527809cdcdc34405613c4e38760f9a8b222511d85b63b4ad8625be37cd35d8", func := "silkworm/silkwormlaw13.PartLoops", spec := "partLoops", inPlace := ["internal/bytealg.IndexByteString", "internal/bytealg.IndexString"], unfollowed := true, recurses := true, named := ["unicode/utf8.first", "unicode/utf8.acceptRanges", "internal/bytealg.MaxLen"], apart := false, laid := [("unicode/utf8.acceptRanges", laid_unicode_utf8_acceptRanges), ("unicode/utf8.first", laid_unicode_utf8_first)], narrowed := true }
def PartLoopsUptoSaid : Prop := partLoopsUptoRow.holds Tryd.pinned (OpenSpec.upto partLoopsSpec)

/-- 'silkwormlaw13.PartChains', WHERE WHAT IT READS IS OF BULK AT MOST 1048576: true; the input reads as it did. -/
def partChainsUptoRow : OpenClaim := { program := "ytonnmkhmhndalaadoor", sum := "fc527809cdcdc34405613c4e38760f9a8b222511d85b63b4ad8625be37cd35d8", func := "silkworm/silkwormlaw13.PartChains", spec := "partChains", inPlace := ["internal/bytealg.IndexByteString", "internal/bytealg.IndexString"], unfollowed := true, recurses := true, named := ["unicode/utf8.first", "unicode/utf8.acceptRanges", "internal/bytealg.MaxLen"], apart := false, laid := [("unicode/utf8.acceptRanges", laid_unicode_utf8_acceptRanges), ("unicode/utf8.first", laid_unicode_utf8_first)], narrowed := true }
def PartChainsUptoSaid : Prop := partChainsUptoRow.holds Tryd.pinned (OpenSpec.upto partChainsSpec)

end Rows
end Go.Proofs.YtonnmkhmhndalaaDoor
