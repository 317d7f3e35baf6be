/-
  NARROWER THAN 'FOR EVERY INPUT', by the rows' own cells (each row's printed sentence says how): WaveChecks: laid · WaveCuts: laid · WaveBegins: laid · WaveSteps: laid · StatsOf: laid · StatsRatios: laid · StatsOrders: laid · StatsMills: laid · StatsEven: laid · StatsParts: laid · StatsSigns: laid · WaveMerges: laid · WaveParts: laid.
  DERIVED. THE GIVEN ROWS OF THIS SEAT. 13 by the template 'for every input the law returns true; each argument reads behind the call as it read before'; 0 by the template 'total and deterministic' (their statements: YtcbkgammlfjjoaaDoorTotals.lean).
  GIVEN WITH THE SEED: the statements are not yours to turn. If you find one false, say at which input.
  Laid BY PROGRAM, IN A SANDBOX (cutbox-rows.mjs): the forced cells as the released guide's own fill.sh prints them over the translation cb5891435cdbe790… (all of the seat's roots in one cut). By AI agents, Wed Nov 11 2026. No macro, syntax, notation, axiom, sorry.
-/
import Derived.Test.YtcbkgammlfjjoaaDoorChecked
import GoSem.PinnedTables
import GoSem.Claim
import GoSem.ClaimJoined
import GoSem.ClaimMapViews
import Derived.JoinedTies
import Derived.KernelRfl
namespace Go.Proofs.YtcbkgammlfjjoaaDoor
/- THE CELL 'sum', in the pinned program and in every row, IS THE sha256 OF THE DUMP (.gsa) THAT YtcbkgammlfjjoaaDoorProg.lean LOADS. Nothing in Lean hashes anything: it is a label: what it is worth is what the hold of that sum in a sandbox is worth. -/
noncomputable def Tryd.pinned : Pinned := { name := "ytcbkgammlfjjoaadoor", sum := "cb5891435cdbe79012b4b379ec580b382a417dd3d0a74cd0642d85030d286794", checked := Tryd.checked }
namespace Rows
def none {H : Type} : Left H := { results := [], args := [] }

/- WHAT THE LISTED PACKAGE-LEVEL VARIABLES READ AS WHEN THE CALL BEGINS. Each datum BY PROGRAM (the guide's laid-datum.mjs) off the statement by which the dump's own 'gosem.cut.vars' lays the variable. In a bare row this is a premise. The card (YtcbkgammlfjjoaaDoorCards.lean) ties it to the program's text. -/
def laid_unicode_utf8_acceptRanges {H : Type} : DataW H := .agg [.agg [.lit (.int .u8 128), .lit (.int .u8 191)], .agg [.lit (.int .u8 160), .lit (.int .u8 191)], .agg [.lit (.int .u8 128), .lit (.int .u8 159)], .agg [.lit (.int .u8 144), .lit (.int .u8 191)], .agg [.lit (.int .u8 128), .lit (.int .u8 143)], .agg [.lit (.int .u8 0), .lit (.int .u8 0)], .agg [.lit (.int .u8 0), .lit (.int .u8 0)], .agg [.lit (.int .u8 0), .lit (.int .u8 0)], .agg [.lit (.int .u8 0), .lit (.int .u8 0)], .agg [.lit (.int .u8 0), .lit (.int .u8 0)], .agg [.lit (.int .u8 0), .lit (.int .u8 0)], .agg [.lit (.int .u8 0), .lit (.int .u8 0)], .agg [.lit (.int .u8 0), .lit (.int .u8 0)], .agg [.lit (.int .u8 0), .lit (.int .u8 0)], .agg [.lit (.int .u8 0), .lit (.int .u8 0)], .agg [.lit (.int .u8 0), .lit (.int .u8 0)]]
/-- One of Go's own tables, pinned by name: the form's constant. -/
def laid_unicode_utf8_first : DataW Unit := Go.Pinned.utf8First

/-- 'silkwormlaw18.WaveChecks': WHATEVER THE INPUT: true; the input reads as it did. -/
def waveChecksSpec : ChangeSpec := { name := "waveChecks", fn := fun _ => fun
  | [d] => { results := [.lit (.bool true)], args := [d] }
  | _ => none }
def waveChecksRow : OpenClaim := { program := "ytcbkgammlfjjoaadoor", sum := "cb5891435cdbe79012b4b379ec580b382a417dd3d0a74cd0642d85030d286794", func := "silkworm/silkwormlaw18.WaveChecks", spec := "waveChecks", inPlace := ["internal/bytealg.IndexByteString", "internal/bytealg.IndexString"], unfollowed := true, recurses := true, named := ["unicode/utf8.first", "unicode/utf8.acceptRanges", "internal/bytealg.MaxLen"], apart := false, laid := [("unicode/utf8.acceptRanges", laid_unicode_utf8_acceptRanges), ("unicode/utf8.first", laid_unicode_utf8_first)] }
def WaveChecksSaid : Prop := waveChecksRow.holds Tryd.pinned (OpenSpec.ofChange waveChecksSpec)

/-- ITS FALSE NEIGHBOUR: 'it returns false'. Refute it at one input. -/
def waveChecksWrong : ChangeSpec := { name := "waveChecks", fn := fun _ => fun
  | [d] => { results := [.lit (.bool false)], args := [d] }
  | _ => none }
def WaveChecksWrongFalsely : Prop := waveChecksRow.holds Tryd.pinned (OpenSpec.ofChange waveChecksWrong)

/-- 'silkwormlaw18.WaveCuts': WHATEVER THE INPUT: true; the input reads as it did. -/
def waveCutsSpec : ChangeSpec := { name := "waveCuts", fn := fun _ => fun
  | [d1, d2] => { results := [.lit (.bool true)], args := [d1, d2] }
  | _ => none }
def waveCutsRow : OpenClaim := { program := "ytcbkgammlfjjoaadoor", sum := "cb5891435cdbe79012b4b379ec580b382a417dd3d0a74cd0642d85030d286794", func := "silkworm/silkwormlaw18.WaveCuts", spec := "waveCuts", inPlace := ["internal/bytealg.IndexByteString", "internal/bytealg.IndexString"], unfollowed := true, recurses := true, named := ["unicode/utf8.first", "unicode/utf8.acceptRanges", "internal/bytealg.MaxLen"], apart := false, laid := [("unicode/utf8.acceptRanges", laid_unicode_utf8_acceptRanges), ("unicode/utf8.first", laid_unicode_utf8_first)] }
def WaveCutsSaid : Prop := waveCutsRow.holds Tryd.pinned (OpenSpec.ofChange waveCutsSpec)

/-- ITS FALSE NEIGHBOUR: 'it returns false'. Refute it at one input. -/
def waveCutsWrong : ChangeSpec := { name := "waveCuts", fn := fun _ => fun
  | [d1, d2] => { results := [.lit (.bool false)], args := [d1, d2] }
  | _ => none }
def WaveCutsWrongFalsely : Prop := waveCutsRow.holds Tryd.pinned (OpenSpec.ofChange waveCutsWrong)

/-- 'silkwormlaw18.WaveBegins': WHATEVER THE INPUT: true; the input reads as it did. -/
def waveBeginsSpec : ChangeSpec := { name := "waveBegins", fn := fun _ => fun
  | [d1, d2, d3] => { results := [.lit (.bool true)], args := [d1, d2, d3] }
  | _ => none }
def waveBeginsRow : OpenClaim := { program := "ytcbkgammlfjjoaadoor", sum := "cb5891435cdbe79012b4b379ec580b382a417dd3d0a74cd0642d85030d286794", func := "silkworm/silkwormlaw18.WaveBegins", spec := "waveBegins", inPlace := ["internal/bytealg.IndexByteString", "internal/bytealg.IndexString"], unfollowed := true, recurses := true, named := ["unicode/utf8.first", "unicode/utf8.acceptRanges", "internal/bytealg.MaxLen"], apart := false, laid := [("unicode/utf8.acceptRanges", laid_unicode_utf8_acceptRanges), ("unicode/utf8.first", laid_unicode_utf8_first)] }
def WaveBeginsSaid : Prop := waveBeginsRow.holds Tryd.pinned (OpenSpec.ofChange waveBeginsSpec)

/-- ITS FALSE NEIGHBOUR: 'it returns false'. Refute it at one input. -/
def waveBeginsWrong : ChangeSpec := { name := "waveBegins", fn := fun _ => fun
  | [d1, d2, d3] => { results := [.lit (.bool false)], args := [d1, d2, d3] }
  | _ => none }
def WaveBeginsWrongFalsely : Prop := waveBeginsRow.holds Tryd.pinned (OpenSpec.ofChange waveBeginsWrong)

/-- 'silkwormlaw18.WaveSteps': WHATEVER THE INPUT: true; the input reads as it did. -/
def waveStepsSpec : ChangeSpec := { name := "waveSteps", fn := fun _ => fun
  | [d1, d2, d3] => { results := [.lit (.bool true)], args := [d1, d2, d3] }
  | _ => none }
def waveStepsRow : OpenClaim := { program := "ytcbkgammlfjjoaadoor", sum := "cb5891435cdbe79012b4b379ec580b382a417dd3d0a74cd0642d85030d286794", func := "silkworm/silkwormlaw18.WaveSteps", spec := "waveSteps", inPlace := ["internal/bytealg.IndexByteString", "internal/bytealg.IndexString"], unfollowed := true, recurses := true, named := ["unicode/utf8.first", "unicode/utf8.acceptRanges", "internal/bytealg.MaxLen"], apart := false, laid := [("unicode/utf8.acceptRanges", laid_unicode_utf8_acceptRanges), ("unicode/utf8.first", laid_unicode_utf8_first)] }
def WaveStepsSaid : Prop := waveStepsRow.holds Tryd.pinned (OpenSpec.ofChange waveStepsSpec)

/-- ITS FALSE NEIGHBOUR: 'it returns false'. Refute it at one input. -/
def waveStepsWrong : ChangeSpec := { name := "waveSteps", fn := fun _ => fun
  | [d1, d2, d3] => { results := [.lit (.bool false)], args := [d1, d2, d3] }
  | _ => none }
def WaveStepsWrongFalsely : Prop := waveStepsRow.holds Tryd.pinned (OpenSpec.ofChange waveStepsWrong)

/-- 'silkwormlaw20.StatsOf': WHATEVER THE INPUT: true; the input reads as it did. -/
def statsOfSpec : ChangeSpec := { name := "statsOf", fn := fun _ => fun
  | [d1, d2, d3] => { results := [.lit (.bool true)], args := [d1, d2, d3] }
  | _ => none }
def statsOfRow : OpenClaim := { program := "ytcbkgammlfjjoaadoor", sum := "cb5891435cdbe79012b4b379ec580b382a417dd3d0a74cd0642d85030d286794", func := "silkworm/silkwormlaw20.StatsOf", spec := "statsOf", inPlace := ["internal/bytealg.IndexByteString", "internal/bytealg.IndexString", "math.Float64frombits", "math.Float64bits"], unfollowed := true, recurses := true, named := ["unicode/utf8.first", "unicode/utf8.acceptRanges", "internal/bytealg.MaxLen"], apart := false, laid := [("unicode/utf8.acceptRanges", laid_unicode_utf8_acceptRanges), ("unicode/utf8.first", laid_unicode_utf8_first)] }
def StatsOfSaid : Prop := statsOfRow.holds Tryd.pinned (OpenSpec.ofChange statsOfSpec)

/-- ITS FALSE NEIGHBOUR: 'it returns false'. Refute it at one input. -/
def statsOfWrong : ChangeSpec := { name := "statsOf", fn := fun _ => fun
  | [d1, d2, d3] => { results := [.lit (.bool false)], args := [d1, d2, d3] }
  | _ => none }
def StatsOfWrongFalsely : Prop := statsOfRow.holds Tryd.pinned (OpenSpec.ofChange statsOfWrong)

/-- 'silkwormlaw20.StatsRatios': WHATEVER THE INPUT: true; the input reads as it did. -/
def statsRatiosSpec : ChangeSpec := { name := "statsRatios", fn := fun _ => fun
  | [d1, d2] => { results := [.lit (.bool true)], args := [d1, d2] }
  | _ => none }
def statsRatiosRow : OpenClaim := { program := "ytcbkgammlfjjoaadoor", sum := "cb5891435cdbe79012b4b379ec580b382a417dd3d0a74cd0642d85030d286794", func := "silkworm/silkwormlaw20.StatsRatios", spec := "statsRatios", inPlace := ["internal/bytealg.IndexByteString", "internal/bytealg.IndexString", "math.Float64frombits", "math.Float64bits"], unfollowed := true, recurses := true, named := ["unicode/utf8.first", "unicode/utf8.acceptRanges", "internal/bytealg.MaxLen"], apart := false, laid := [("unicode/utf8.acceptRanges", laid_unicode_utf8_acceptRanges), ("unicode/utf8.first", laid_unicode_utf8_first)] }
def StatsRatiosSaid : Prop := statsRatiosRow.holds Tryd.pinned (OpenSpec.ofChange statsRatiosSpec)

/-- ITS FALSE NEIGHBOUR: 'it returns false'. Refute it at one input. -/
def statsRatiosWrong : ChangeSpec := { name := "statsRatios", fn := fun _ => fun
  | [d1, d2] => { results := [.lit (.bool false)], args := [d1, d2] }
  | _ => none }
def StatsRatiosWrongFalsely : Prop := statsRatiosRow.holds Tryd.pinned (OpenSpec.ofChange statsRatiosWrong)

/-- 'silkwormlaw20.StatsOrders': WHATEVER THE INPUT: true; the input reads as it did. -/
def statsOrdersSpec : ChangeSpec := { name := "statsOrders", fn := fun _ => fun
  | [d1, d2, d3] => { results := [.lit (.bool true)], args := [d1, d2, d3] }
  | _ => none }
def statsOrdersRow : OpenClaim := { program := "ytcbkgammlfjjoaadoor", sum := "cb5891435cdbe79012b4b379ec580b382a417dd3d0a74cd0642d85030d286794", func := "silkworm/silkwormlaw20.StatsOrders", spec := "statsOrders", inPlace := ["math.Float64bits", "internal/bytealg.IndexByteString", "internal/bytealg.IndexString", "math.Float64frombits"], unfollowed := true, recurses := true, named := ["unicode/utf8.first", "unicode/utf8.acceptRanges", "internal/bytealg.MaxLen"], apart := false, laid := [("unicode/utf8.acceptRanges", laid_unicode_utf8_acceptRanges), ("unicode/utf8.first", laid_unicode_utf8_first)] }
def StatsOrdersSaid : Prop := statsOrdersRow.holds Tryd.pinned (OpenSpec.ofChange statsOrdersSpec)

/-- ITS FALSE NEIGHBOUR: 'it returns false'. Refute it at one input. -/
def statsOrdersWrong : ChangeSpec := { name := "statsOrders", fn := fun _ => fun
  | [d1, d2, d3] => { results := [.lit (.bool false)], args := [d1, d2, d3] }
  | _ => none }
def StatsOrdersWrongFalsely : Prop := statsOrdersRow.holds Tryd.pinned (OpenSpec.ofChange statsOrdersWrong)

/-- 'silkwormlaw20.StatsMills': WHATEVER THE INPUT: true; the input reads as it did. -/
def statsMillsSpec : ChangeSpec := { name := "statsMills", fn := fun _ => fun
  | [d1, d2] => { results := [.lit (.bool true)], args := [d1, d2] }
  | _ => none }
def statsMillsRow : OpenClaim := { program := "ytcbkgammlfjjoaadoor", sum := "cb5891435cdbe79012b4b379ec580b382a417dd3d0a74cd0642d85030d286794", func := "silkworm/silkwormlaw20.StatsMills", spec := "statsMills", inPlace := ["math.Float64bits", "math.Float64frombits", "internal/bytealg.IndexByteString", "internal/bytealg.IndexString"], unfollowed := true, recurses := true, named := ["unicode/utf8.first", "unicode/utf8.acceptRanges", "internal/bytealg.MaxLen"], apart := false, laid := [("unicode/utf8.acceptRanges", laid_unicode_utf8_acceptRanges), ("unicode/utf8.first", laid_unicode_utf8_first)] }
def StatsMillsSaid : Prop := statsMillsRow.holds Tryd.pinned (OpenSpec.ofChange statsMillsSpec)

/-- ITS FALSE NEIGHBOUR: 'it returns false'. Refute it at one input. -/
def statsMillsWrong : ChangeSpec := { name := "statsMills", fn := fun _ => fun
  | [d1, d2] => { results := [.lit (.bool false)], args := [d1, d2] }
  | _ => none }
def StatsMillsWrongFalsely : Prop := statsMillsRow.holds Tryd.pinned (OpenSpec.ofChange statsMillsWrong)

/-- 'silkwormlaw20.StatsEven': WHATEVER THE INPUT: true; the input reads as it did. -/
def statsEvenSpec : ChangeSpec := { name := "statsEven", fn := fun _ => fun
  | [d1, d2] => { results := [.lit (.bool true)], args := [d1, d2] }
  | _ => none }
def statsEvenRow : OpenClaim := { program := "ytcbkgammlfjjoaadoor", sum := "cb5891435cdbe79012b4b379ec580b382a417dd3d0a74cd0642d85030d286794", func := "silkworm/silkwormlaw20.StatsEven", spec := "statsEven", inPlace := ["internal/bytealg.IndexByteString", "internal/bytealg.IndexString", "math.Float64frombits", "math.Float64bits"], unfollowed := true, recurses := true, named := ["unicode/utf8.first", "unicode/utf8.acceptRanges", "internal/bytealg.MaxLen"], apart := false, laid := [("unicode/utf8.acceptRanges", laid_unicode_utf8_acceptRanges), ("unicode/utf8.first", laid_unicode_utf8_first)] }
def StatsEvenSaid : Prop := statsEvenRow.holds Tryd.pinned (OpenSpec.ofChange statsEvenSpec)

/-- ITS FALSE NEIGHBOUR: 'it returns false'. Refute it at one input. -/
def statsEvenWrong : ChangeSpec := { name := "statsEven", fn := fun _ => fun
  | [d1, d2] => { results := [.lit (.bool false)], args := [d1, d2] }
  | _ => none }
def StatsEvenWrongFalsely : Prop := statsEvenRow.holds Tryd.pinned (OpenSpec.ofChange statsEvenWrong)

/-- 'silkwormlaw20.StatsParts': WHATEVER THE INPUT: true; the input reads as it did. -/
def statsPartsSpec : ChangeSpec := { name := "statsParts", fn := fun _ => fun
  | [d1, d2, d3] => { results := [.lit (.bool true)], args := [d1, d2, d3] }
  | _ => none }
def statsPartsRow : OpenClaim := { program := "ytcbkgammlfjjoaadoor", sum := "cb5891435cdbe79012b4b379ec580b382a417dd3d0a74cd0642d85030d286794", func := "silkworm/silkwormlaw20.StatsParts", spec := "statsParts", inPlace := ["internal/bytealg.IndexByteString", "internal/bytealg.IndexString", "math.Float64frombits", "math.Float64bits"], unfollowed := true, recurses := true, named := ["unicode/utf8.first", "unicode/utf8.acceptRanges", "internal/bytealg.MaxLen"], apart := false, laid := [("unicode/utf8.acceptRanges", laid_unicode_utf8_acceptRanges), ("unicode/utf8.first", laid_unicode_utf8_first)] }
def StatsPartsSaid : Prop := statsPartsRow.holds Tryd.pinned (OpenSpec.ofChange statsPartsSpec)

/-- ITS FALSE NEIGHBOUR: 'it returns false'. Refute it at one input. -/
def statsPartsWrong : ChangeSpec := { name := "statsParts", fn := fun _ => fun
  | [d1, d2, d3] => { results := [.lit (.bool false)], args := [d1, d2, d3] }
  | _ => none }
def StatsPartsWrongFalsely : Prop := statsPartsRow.holds Tryd.pinned (OpenSpec.ofChange statsPartsWrong)

/-- 'silkwormlaw20.StatsSigns': WHATEVER THE INPUT: true; the input reads as it did. -/
def statsSignsSpec : ChangeSpec := { name := "statsSigns", fn := fun _ => fun
  | [d1, d2] => { results := [.lit (.bool true)], args := [d1, d2] }
  | _ => none }
def statsSignsRow : OpenClaim := { program := "ytcbkgammlfjjoaadoor", sum := "cb5891435cdbe79012b4b379ec580b382a417dd3d0a74cd0642d85030d286794", func := "silkworm/silkwormlaw20.StatsSigns", spec := "statsSigns", inPlace := ["math.Float64bits", "math.Float64frombits", "internal/bytealg.IndexByteString", "internal/bytealg.IndexString"], unfollowed := true, recurses := true, named := ["unicode/utf8.first", "unicode/utf8.acceptRanges", "internal/bytealg.MaxLen"], apart := false, laid := [("unicode/utf8.acceptRanges", laid_unicode_utf8_acceptRanges), ("unicode/utf8.first", laid_unicode_utf8_first)] }
def StatsSignsSaid : Prop := statsSignsRow.holds Tryd.pinned (OpenSpec.ofChange statsSignsSpec)

/-- ITS FALSE NEIGHBOUR: 'it returns false'. Refute it at one input. -/
def statsSignsWrong : ChangeSpec := { name := "statsSigns", fn := fun _ => fun
  | [d1, d2] => { results := [.lit (.bool false)], args := [d1, d2] }
  | _ => none }
def StatsSignsWrongFalsely : Prop := statsSignsRow.holds Tryd.pinned (OpenSpec.ofChange statsSignsWrong)

/-- 'silkwormlaw18.WaveMerges': WHATEVER THE INPUT: true; the input reads as it did. -/
def waveMergesSpec : ChangeSpec := { name := "waveMerges", fn := fun _ => fun
  | [d1, d2] => { results := [.lit (.bool true)], args := [d1, d2] }
  | _ => none }
def waveMergesRow : OpenClaim := { program := "ytcbkgammlfjjoaadoor", sum := "cb5891435cdbe79012b4b379ec580b382a417dd3d0a74cd0642d85030d286794", func := "silkworm/silkwormlaw18.WaveMerges", spec := "waveMerges", inPlace := ["internal/bytealg.IndexByteString", "internal/bytealg.IndexString"], unfollowed := true, recurses := true, named := ["unicode/utf8.first", "unicode/utf8.acceptRanges", "internal/bytealg.MaxLen"], apart := false, laid := [("unicode/utf8.acceptRanges", laid_unicode_utf8_acceptRanges), ("unicode/utf8.first", laid_unicode_utf8_first)] }
def WaveMergesSaid : Prop := waveMergesRow.holds Tryd.pinned (OpenSpec.ofChange waveMergesSpec)

/-- ITS FALSE NEIGHBOUR: 'it returns false'. Refute it at one input. -/
def waveMergesWrong : ChangeSpec := { name := "waveMerges", fn := fun _ => fun
  | [d1, d2] => { results := [.lit (.bool false)], args := [d1, d2] }
  | _ => none }
def WaveMergesWrongFalsely : Prop := waveMergesRow.holds Tryd.pinned (OpenSpec.ofChange waveMergesWrong)

/-- 'silkwormlaw18.WaveParts': WHATEVER THE INPUT: true; the input reads as it did. -/
def wavePartsSpec : ChangeSpec := { name := "waveParts", fn := fun _ => fun
  | [d1, d2] => { results := [.lit (.bool true)], args := [d1, d2] }
  | _ => none }
def wavePartsRow : OpenClaim := { program := "ytcbkgammlfjjoaadoor", sum := "cb5891435cdbe79012b4b379ec580b382a417dd3d0a74cd0642d85030d286794", func := "silkworm/silkwormlaw18.WaveParts", spec := "waveParts", inPlace := ["internal/bytealg.IndexByteString", "internal/bytealg.IndexString"], unfollowed := true, recurses := true, named := ["unicode/utf8.first", "unicode/utf8.acceptRanges", "internal/bytealg.MaxLen"], apart := false, laid := [("unicode/utf8.acceptRanges", laid_unicode_utf8_acceptRanges), ("unicode/utf8.first", laid_unicode_utf8_first)] }
def WavePartsSaid : Prop := wavePartsRow.holds Tryd.pinned (OpenSpec.ofChange wavePartsSpec)

/-- ITS FALSE NEIGHBOUR: 'it returns false'. Refute it at one input. -/
def wavePartsWrong : ChangeSpec := { name := "waveParts", fn := fun _ => fun
  | [d1, d2] => { results := [.lit (.bool false)], args := [d1, d2] }
  | _ => none }
def WavePartsWrongFalsely : Prop := wavePartsRow.holds Tryd.pinned (OpenSpec.ofChange wavePartsWrong)

/- THE SECOND FORM. 'bulk': how many values and letters a reading holds, each counted each time it is reached (what is shared counts as often as it is met; a slice's spare places count too). A statement '..UptoSaid' is the law's where the arguments, and the package variables that the reading takes, are together of bulk at most 1048576: NARROWER than '..Said'. Prove '..Said' where nothing that the law and all that it calls make is longer than what came in: it says more and counts as full. Else prove '..UptoSaid'. A law counts once. -/
mutual
def uptoBulk {H : Type} : DataW H → Nat
  | .lit (.string bytes) => bytes.length + 1
  | .lit _ => 1
  | .nil => 1
  | .ptr d => uptoBulk d + 1
  | .slice elems spare => uptoBulkAll elems + uptoBulkAll spare + 1
  | .agg parts => uptoBulkAll parts + 1
  | .iface _ d => uptoBulk d + 1
  | .map entries => uptoBulkEntries entries + 1
  | .held _ => 1
def uptoBulkAll {H : Type} : List (DataW H) → Nat
  | [] => 0
  | d :: r => uptoBulk d + uptoBulkAll r
def uptoBulkEntries {H : Type} : List (Lit × DataW H) → Nat
  | [] => 0
  | x :: r => uptoBulkEntry x + uptoBulkEntries r
def uptoBulkEntry {H : Type} : Lit × DataW H → Nat
  | (.string bytes, d) => bytes.length + uptoBulk d + 1
  | (_, d) => uptoBulk d + 1
 end
def uptoSmall : (H : Type) → List (DataW H) → Bool := fun _ ds => decide (uptoBulkAll ds ≤ 1048576)
def OpenSpec.upto (s : _root_.Go.ChangeSpec) : _root_.Go.OpenSpec := { _root_.Go.OpenSpec.ofChange s with cond := some uptoSmall }

/-- 'silkwormlaw18.WaveChecks', WHERE WHAT IT READS IS OF BULK AT MOST 1048576: true; the input reads as it did. -/
def waveChecksUptoRow : OpenClaim := { program := "ytcbkgammlfjjoaadoor", sum := "cb5891435cdbe79012b4b379ec580b382a417dd3d0a74cd0642d85030d286794", func := "silkworm/silkwormlaw18.WaveChecks", spec := "waveChecks", inPlace := ["internal/bytealg.IndexByteString", "internal/bytealg.IndexString"], unfollowed := true, recurses := true, named := ["unicode/utf8.first", "unicode/utf8.acceptRanges", "internal/bytealg.MaxLen"], apart := false, laid := [("unicode/utf8.acceptRanges", laid_unicode_utf8_acceptRanges), ("unicode/utf8.first", laid_unicode_utf8_first)], narrowed := true }
def WaveChecksUptoSaid : Prop := waveChecksUptoRow.holds Tryd.pinned (OpenSpec.upto waveChecksSpec)

/-- 'silkwormlaw18.WaveCuts', WHERE WHAT IT READS IS OF BULK AT MOST 1048576: true; the input reads as it did. -/
def waveCutsUptoRow : OpenClaim := { program := "ytcbkgammlfjjoaadoor", sum := "cb5891435cdbe79012b4b379ec580b382a417dd3d0a74cd0642d85030d286794", func := "silkworm/silkwormlaw18.WaveCuts", spec := "waveCuts", inPlace := ["internal/bytealg.IndexByteString", "internal/bytealg.IndexString"], unfollowed := true, recurses := true, named := ["unicode/utf8.first", "unicode/utf8.acceptRanges", "internal/bytealg.MaxLen"], apart := false, laid := [("unicode/utf8.acceptRanges", laid_unicode_utf8_acceptRanges), ("unicode/utf8.first", laid_unicode_utf8_first)], narrowed := true }
def WaveCutsUptoSaid : Prop := waveCutsUptoRow.holds Tryd.pinned (OpenSpec.upto waveCutsSpec)

/-- 'silkwormlaw18.WaveBegins', WHERE WHAT IT READS IS OF BULK AT MOST 1048576: true; the input reads as it did. -/
def waveBeginsUptoRow : OpenClaim := { program := "ytcbkgammlfjjoaadoor", sum := "cb5891435cdbe79012b4b379ec580b382a417dd3d0a74cd0642d85030d286794", func := "silkworm/silkwormlaw18.WaveBegins", spec := "waveBegins", inPlace := ["internal/bytealg.IndexByteString", "internal/bytealg.IndexString"], unfollowed := true, recurses := true, named := ["unicode/utf8.first", "unicode/utf8.acceptRanges", "internal/bytealg.MaxLen"], apart := false, laid := [("unicode/utf8.acceptRanges", laid_unicode_utf8_acceptRanges), ("unicode/utf8.first", laid_unicode_utf8_first)], narrowed := true }
def WaveBeginsUptoSaid : Prop := waveBeginsUptoRow.holds Tryd.pinned (OpenSpec.upto waveBeginsSpec)

/-- 'silkwormlaw18.WaveSteps', WHERE WHAT IT READS IS OF BULK AT MOST 1048576: true; the input reads as it did. -/
def waveStepsUptoRow : OpenClaim := { program := "ytcbkgammlfjjoaadoor", sum := "cb5891435cdbe79012b4b379ec580b382a417dd3d0a74cd0642d85030d286794", func := "silkworm/silkwormlaw18.WaveSteps", spec := "waveSteps", inPlace := ["internal/bytealg.IndexByteString", "internal/bytealg.IndexString"], unfollowed := true, recurses := true, named := ["unicode/utf8.first", "unicode/utf8.acceptRanges", "internal/bytealg.MaxLen"], apart := false, laid := [("unicode/utf8.acceptRanges", laid_unicode_utf8_acceptRanges), ("unicode/utf8.first", laid_unicode_utf8_first)], narrowed := true }
def WaveStepsUptoSaid : Prop := waveStepsUptoRow.holds Tryd.pinned (OpenSpec.upto waveStepsSpec)

/-- 'silkwormlaw20.StatsOf', WHERE WHAT IT READS IS OF BULK AT MOST 1048576: true; the input reads as it did. -/
def statsOfUptoRow : OpenClaim := { program := "ytcbkgammlfjjoaadoor", sum := "cb5891435cdbe79012b4b379ec580b382a417dd3d0a74cd0642d85030d286794", func := "silkworm/silkwormlaw20.StatsOf", spec := "statsOf", inPlace := ["internal/bytealg.IndexByteString", "internal/bytealg.IndexString", "math.Float64frombits", "math.Float64bits"], unfollowed := true, recurses := true, named := ["unicode/utf8.first", "unicode/utf8.acceptRanges", "internal/bytealg.MaxLen"], apart := false, laid := [("unicode/utf8.acceptRanges", laid_unicode_utf8_acceptRanges), ("unicode/utf8.first", laid_unicode_utf8_first)], narrowed := true }
def StatsOfUptoSaid : Prop := statsOfUptoRow.holds Tryd.pinned (OpenSpec.upto statsOfSpec)

/-- 'silkwormlaw20.StatsRatios', WHERE WHAT IT READS IS OF BULK AT MOST 1048576: true; the input reads as it did. -/
def statsRatiosUptoRow : OpenClaim := { program := "ytcbkgammlfjjoaadoor", sum := "cb5891435cdbe79012b4b379ec580b382a417dd3d0a74cd0642d85030d286794", func := "silkworm/silkwormlaw20.StatsRatios", spec := "statsRatios", inPlace := ["internal/bytealg.IndexByteString", "internal/bytealg.IndexString", "math.Float64frombits", "math.Float64bits"], unfollowed := true, recurses := true, named := ["unicode/utf8.first", "unicode/utf8.acceptRanges", "internal/bytealg.MaxLen"], apart := false, laid := [("unicode/utf8.acceptRanges", laid_unicode_utf8_acceptRanges), ("unicode/utf8.first", laid_unicode_utf8_first)], narrowed := true }
def StatsRatiosUptoSaid : Prop := statsRatiosUptoRow.holds Tryd.pinned (OpenSpec.upto statsRatiosSpec)

/-- 'silkwormlaw20.StatsOrders', WHERE WHAT IT READS IS OF BULK AT MOST 1048576: true; the input reads as it did. -/
def statsOrdersUptoRow : OpenClaim := { program := "ytcbkgammlfjjoaadoor", sum := "cb5891435cdbe79012b4b379ec580b382a417dd3d0a74cd0642d85030d286794", func := "silkworm/silkwormlaw20.StatsOrders", spec := "statsOrders", inPlace := ["math.Float64bits", "internal/bytealg.IndexByteString", "internal/bytealg.IndexString", "math.Float64frombits"], unfollowed := true, recurses := true, named := ["unicode/utf8.first", "unicode/utf8.acceptRanges", "internal/bytealg.MaxLen"], apart := false, laid := [("unicode/utf8.acceptRanges", laid_unicode_utf8_acceptRanges), ("unicode/utf8.first", laid_unicode_utf8_first)], narrowed := true }
def StatsOrdersUptoSaid : Prop := statsOrdersUptoRow.holds Tryd.pinned (OpenSpec.upto statsOrdersSpec)

/-- 'silkwormlaw20.StatsMills', WHERE WHAT IT READS IS OF BULK AT MOST 1048576: true; the input reads as it did. -/
def statsMillsUptoRow : OpenClaim := { program := "ytcbkgammlfjjoaadoor", sum := "cb5891435cdbe79012b4b379ec580b382a417dd3d0a74cd0642d85030d286794", func := "silkworm/silkwormlaw20.StatsMills", spec := "statsMills", inPlace := ["math.Float64bits", "math.Float64frombits", "internal/bytealg.IndexByteString", "internal/bytealg.IndexString"], unfollowed := true, recurses := true, named := ["unicode/utf8.first", "unicode/utf8.acceptRanges", "internal/bytealg.MaxLen"], apart := false, laid := [("unicode/utf8.acceptRanges", laid_unicode_utf8_acceptRanges), ("unicode/utf8.first", laid_unicode_utf8_first)], narrowed := true }
def StatsMillsUptoSaid : Prop := statsMillsUptoRow.holds Tryd.pinned (OpenSpec.upto statsMillsSpec)

/-- 'silkwormlaw20.StatsEven', WHERE WHAT IT READS IS OF BULK AT MOST 1048576: true; the input reads as it did. -/
def statsEvenUptoRow : OpenClaim := { program := "ytcbkgammlfjjoaadoor", sum := "cb5891435cdbe79012b4b379ec580b382a417dd3d0a74cd0642d85030d286794", func := "silkworm/silkwormlaw20.StatsEven", spec := "statsEven", inPlace := ["internal/bytealg.IndexByteString", "internal/bytealg.IndexString", "math.Float64frombits", "math.Float64bits"], unfollowed := true, recurses := true, named := ["unicode/utf8.first", "unicode/utf8.acceptRanges", "internal/bytealg.MaxLen"], apart := false, laid := [("unicode/utf8.acceptRanges", laid_unicode_utf8_acceptRanges), ("unicode/utf8.first", laid_unicode_utf8_first)], narrowed := true }
def StatsEvenUptoSaid : Prop := statsEvenUptoRow.holds Tryd.pinned (OpenSpec.upto statsEvenSpec)

/-- 'silkwormlaw20.StatsParts', WHERE WHAT IT READS IS OF BULK AT MOST 1048576: true; the input reads as it did. -/
def statsPartsUptoRow : OpenClaim := { program := "ytcbkgammlfjjoaadoor", sum := "cb5891435cdbe79012b4b379ec580b382a417dd3d0a74cd0642d85030d286794", func := "silkworm/silkwormlaw20.StatsParts", spec := "statsParts", inPlace := ["internal/bytealg.IndexByteString", "internal/bytealg.IndexString", "math.Float64frombits", "math.Float64bits"], unfollowed := true, recurses := true, named := ["unicode/utf8.first", "unicode/utf8.acceptRanges", "internal/bytealg.MaxLen"], apart := false, laid := [("unicode/utf8.acceptRanges", laid_unicode_utf8_acceptRanges), ("unicode/utf8.first", laid_unicode_utf8_first)], narrowed := true }
def StatsPartsUptoSaid : Prop := statsPartsUptoRow.holds Tryd.pinned (OpenSpec.upto statsPartsSpec)

/-- 'silkwormlaw20.StatsSigns', WHERE WHAT IT READS IS OF BULK AT MOST 1048576: true; the input reads as it did. -/
def statsSignsUptoRow : OpenClaim := { program := "ytcbkgammlfjjoaadoor", sum := "cb5891435cdbe79012b4b379ec580b382a417dd3d0a74cd0642d85030d286794", func := "silkworm/silkwormlaw20.StatsSigns", spec := "statsSigns", inPlace := ["math.Float64bits", "math.Float64frombits", "internal/bytealg.IndexByteString", "internal/bytealg.IndexString"], unfollowed := true, recurses := true, named := ["unicode/utf8.first", "unicode/utf8.acceptRanges", "internal/bytealg.MaxLen"], apart := false, laid := [("unicode/utf8.acceptRanges", laid_unicode_utf8_acceptRanges), ("unicode/utf8.first", laid_unicode_utf8_first)], narrowed := true }
def StatsSignsUptoSaid : Prop := statsSignsUptoRow.holds Tryd.pinned (OpenSpec.upto statsSignsSpec)

/-- 'silkwormlaw18.WaveMerges', WHERE WHAT IT READS IS OF BULK AT MOST 1048576: true; the input reads as it did. -/
def waveMergesUptoRow : OpenClaim := { program := "ytcbkgammlfjjoaadoor", sum := "cb5891435cdbe79012b4b379ec580b382a417dd3d0a74cd0642d85030d286794", func := "silkworm/silkwormlaw18.WaveMerges", spec := "waveMerges", inPlace := ["internal/bytealg.IndexByteString", "internal/bytealg.IndexString"], unfollowed := true, recurses := true, named := ["unicode/utf8.first", "unicode/utf8.acceptRanges", "internal/bytealg.MaxLen"], apart := false, laid := [("unicode/utf8.acceptRanges", laid_unicode_utf8_acceptRanges), ("unicode/utf8.first", laid_unicode_utf8_first)], narrowed := true }
def WaveMergesUptoSaid : Prop := waveMergesUptoRow.holds Tryd.pinned (OpenSpec.upto waveMergesSpec)

/-- 'silkwormlaw18.WaveParts', WHERE WHAT IT READS IS OF BULK AT MOST 1048576: true; the input reads as it did. -/
def wavePartsUptoRow : OpenClaim := { program := "ytcbkgammlfjjoaadoor", sum := "cb5891435cdbe79012b4b379ec580b382a417dd3d0a74cd0642d85030d286794", func := "silkworm/silkwormlaw18.WaveParts", spec := "waveParts", inPlace := ["internal/bytealg.IndexByteString", "internal/bytealg.IndexString"], unfollowed := true, recurses := true, named := ["unicode/utf8.first", "unicode/utf8.acceptRanges", "internal/bytealg.MaxLen"], apart := false, laid := [("unicode/utf8.acceptRanges", laid_unicode_utf8_acceptRanges), ("unicode/utf8.first", laid_unicode_utf8_first)], narrowed := true }
def WavePartsUptoSaid : Prop := wavePartsUptoRow.holds Tryd.pinned (OpenSpec.upto wavePartsSpec)

end Rows
end Go.Proofs.YtcbkgammlfjjoaaDoor
