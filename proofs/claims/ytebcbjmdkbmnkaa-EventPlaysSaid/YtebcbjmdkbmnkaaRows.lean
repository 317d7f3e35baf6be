/-
  No cell of these rows narrows 'for every input' (looked for: loops, veiled, ifaces, maps, wideKeys, modest, calm, conditions, laid).
  DERIVED. THE GIVEN ROWS OF THIS SEAT. 5 by the template 'for every input the law returns true; each argument reads behind the call as it read before'; 0 by the template 'total and deterministic' (their statements: YtebcbjmdkbmnkaaTotals.lean).
  GIVEN WITH THE SEED: the statements are not yours to turn. If you find one false, say at which input.
  Laid BY PROGRAM, IN A SANDBOX (cutbox-rows.mjs): the forced cells as the released guide's own fill.sh prints them over the translation a7333793786ebfe6… (all of the seat's roots in one cut). By AI agents, Wed Nov 11 2026. No macro, syntax, notation, axiom, sorry.
-/
import Derived.Test.YtebcbjmdkbmnkaaChecked
import GoSem.Claim
import GoSem.ClaimJoined
import GoSem.ClaimMapViews
import Derived.JoinedTies
import Derived.KernelRfl
namespace Go.Proofs.Ytebcbjmdkbmnkaa
/- THE CELL 'sum', in the pinned program and in every row, IS THE sha256 OF THE DUMP (.gsa) THAT YtebcbjmdkbmnkaaProg.lean LOADS. Nothing in Lean hashes anything: it is a label: what it is worth is what the hold of that sum in a sandbox is worth. -/
noncomputable def Try.pinned : Pinned := { name := "ytebcbjmdkbmnkaa", sum := "a7333793786ebfe6a7851924df114a1e320090877428887a41ad6328412c4aa3", checked := Try.checked }
namespace Rows
def none {H : Type} : Left H := { results := [], args := [] }

/-- 'silkwormlaw14.EventOrders': WHATEVER THE INPUT: true; the input reads as it did. -/
def eventOrdersSpec : ChangeSpec := { name := "eventOrders", fn := fun _ => fun
  | [d] => { results := [.lit (.bool true)], args := [d] }
  | _ => none }
def eventOrdersRow : OpenClaim := { program := "ytebcbjmdkbmnkaa", sum := "a7333793786ebfe6a7851924df114a1e320090877428887a41ad6328412c4aa3", func := "silkworm/silkwormlaw14.EventOrders", spec := "eventOrders", unfollowed := true, recurses := true, apart := false }
def EventOrdersSaid : Prop := eventOrdersRow.holds Try.pinned (OpenSpec.ofChange eventOrdersSpec)

/-- ITS FALSE NEIGHBOUR: 'it returns false'. Refute it at one input. -/
def eventOrdersWrong : ChangeSpec := { name := "eventOrders", fn := fun _ => fun
  | [d] => { results := [.lit (.bool false)], args := [d] }
  | _ => none }
def EventOrdersWrongFalsely : Prop := eventOrdersRow.holds Try.pinned (OpenSpec.ofChange eventOrdersWrong)

/-- 'silkwormlaw14.EventCopies': WHATEVER THE INPUT: true; the input reads as it did. -/
def eventCopiesSpec : ChangeSpec := { name := "eventCopies", fn := fun _ => fun
  | [d1, d2] => { results := [.lit (.bool true)], args := [d1, d2] }
  | _ => none }
def eventCopiesRow : OpenClaim := { program := "ytebcbjmdkbmnkaa", sum := "a7333793786ebfe6a7851924df114a1e320090877428887a41ad6328412c4aa3", func := "silkworm/silkwormlaw14.EventCopies", spec := "eventCopies", unfollowed := true, recurses := true, apart := false }
def EventCopiesSaid : Prop := eventCopiesRow.holds Try.pinned (OpenSpec.ofChange eventCopiesSpec)

/-- ITS FALSE NEIGHBOUR: 'it returns false'. Refute it at one input. -/
def eventCopiesWrong : ChangeSpec := { name := "eventCopies", fn := fun _ => fun
  | [d1, d2] => { results := [.lit (.bool false)], args := [d1, d2] }
  | _ => none }
def EventCopiesWrongFalsely : Prop := eventCopiesRow.holds Try.pinned (OpenSpec.ofChange eventCopiesWrong)

/-- 'silkwormlaw14.EventCancels': WHATEVER THE INPUT: true; the input reads as it did. -/
def eventCancelsSpec : ChangeSpec := { name := "eventCancels", fn := fun _ => fun
  | [d1, d2] => { results := [.lit (.bool true)], args := [d1, d2] }
  | _ => none }
def eventCancelsRow : OpenClaim := { program := "ytebcbjmdkbmnkaa", sum := "a7333793786ebfe6a7851924df114a1e320090877428887a41ad6328412c4aa3", func := "silkworm/silkwormlaw14.EventCancels", spec := "eventCancels", unfollowed := true, recurses := true, apart := false }
def EventCancelsSaid : Prop := eventCancelsRow.holds Try.pinned (OpenSpec.ofChange eventCancelsSpec)

/-- ITS FALSE NEIGHBOUR: 'it returns false'. Refute it at one input. -/
def eventCancelsWrong : ChangeSpec := { name := "eventCancels", fn := fun _ => fun
  | [d1, d2] => { results := [.lit (.bool false)], args := [d1, d2] }
  | _ => none }
def EventCancelsWrongFalsely : Prop := eventCancelsRow.holds Try.pinned (OpenSpec.ofChange eventCancelsWrong)

/-- 'silkwormlaw14.EventPlays': WHATEVER THE INPUT: true; the input reads as it did. -/
def eventPlaysSpec : ChangeSpec := { name := "eventPlays", fn := fun _ => fun
  | [d1, d2] => { results := [.lit (.bool true)], args := [d1, d2] }
  | _ => none }
def eventPlaysRow : OpenClaim := { program := "ytebcbjmdkbmnkaa", sum := "a7333793786ebfe6a7851924df114a1e320090877428887a41ad6328412c4aa3", func := "silkworm/silkwormlaw14.EventPlays", spec := "eventPlays", unfollowed := true, recurses := true, apart := false }
def EventPlaysSaid : Prop := eventPlaysRow.holds Try.pinned (OpenSpec.ofChange eventPlaysSpec)

/-- ITS FALSE NEIGHBOUR: 'it returns false'. Refute it at one input. -/
def eventPlaysWrong : ChangeSpec := { name := "eventPlays", fn := fun _ => fun
  | [d1, d2] => { results := [.lit (.bool false)], args := [d1, d2] }
  | _ => none }
def EventPlaysWrongFalsely : Prop := eventPlaysRow.holds Try.pinned (OpenSpec.ofChange eventPlaysWrong)

/-- 'silkwormlaw14.EventNobody': WHATEVER THE INPUT: true; the input reads as it did. -/
def eventNobodySpec : ChangeSpec := { name := "eventNobody", fn := fun _ => fun
  | [d] => { results := [.lit (.bool true)], args := [d] }
  | _ => none }
def eventNobodyRow : OpenClaim := { program := "ytebcbjmdkbmnkaa", sum := "a7333793786ebfe6a7851924df114a1e320090877428887a41ad6328412c4aa3", func := "silkworm/silkwormlaw14.EventNobody", spec := "eventNobody", unfollowed := true, recurses := true, apart := false }
def EventNobodySaid : Prop := eventNobodyRow.holds Try.pinned (OpenSpec.ofChange eventNobodySpec)

/-- ITS FALSE NEIGHBOUR: 'it returns false'. Refute it at one input. -/
def eventNobodyWrong : ChangeSpec := { name := "eventNobody", fn := fun _ => fun
  | [d] => { results := [.lit (.bool false)], args := [d] }
  | _ => none }
def EventNobodyWrongFalsely : Prop := eventNobodyRow.holds Try.pinned (OpenSpec.ofChange eventNobodyWrong)

/- THE SECOND FORM. 'bulk': how many values and letters a reading holds, each counted each time it is reached (what is shared counts as often as it is met; a slice's spare places count too). A statement '..UptoSaid' is the law's where the arguments, and the package variables that the reading takes, are together of bulk at most 1048576: NARROWER than '..Said'. Prove '..Said' where nothing that the law and all that it calls make is longer than what came in: it says more and counts as full. Else prove '..UptoSaid'. A law counts once. -/
mutual
def uptoBulk {H : Type} : DataW H → Nat
  | .lit (.string bytes) => bytes.length + 1
  | .lit _ => 1
  | .nil => 1
  | .ptr d => uptoBulk d + 1
  | .slice elems spare => uptoBulkAll elems + uptoBulkAll spare + 1
  | .agg parts => uptoBulkAll parts + 1
  | .iface _ d => uptoBulk d + 1
  | .map entries => uptoBulkEntries entries + 1
  | .held _ => 1
def uptoBulkAll {H : Type} : List (DataW H) → Nat
  | [] => 0
  | d :: r => uptoBulk d + uptoBulkAll r
def uptoBulkEntries {H : Type} : List (Lit × DataW H) → Nat
  | [] => 0
  | x :: r => uptoBulkEntry x + uptoBulkEntries r
def uptoBulkEntry {H : Type} : Lit × DataW H → Nat
  | (.string bytes, d) => bytes.length + uptoBulk d + 1
  | (_, d) => uptoBulk d + 1
 end
def uptoSmall : (H : Type) → List (DataW H) → Bool := fun _ ds => decide (uptoBulkAll ds ≤ 1048576)
def OpenSpec.upto (s : _root_.Go.ChangeSpec) : _root_.Go.OpenSpec := { _root_.Go.OpenSpec.ofChange s with cond := some uptoSmall }

/-- 'silkwormlaw14.EventOrders', WHERE WHAT IT READS IS OF BULK AT MOST 1048576: true; the input reads as it did. -/
def eventOrdersUptoRow : OpenClaim := { program := "ytebcbjmdkbmnkaa", sum := "a7333793786ebfe6a7851924df114a1e320090877428887a41ad6328412c4aa3", func := "silkworm/silkwormlaw14.EventOrders", spec := "eventOrders", unfollowed := true, recurses := true, apart := false, narrowed := true }
def EventOrdersUptoSaid : Prop := eventOrdersUptoRow.holds Try.pinned (OpenSpec.upto eventOrdersSpec)

/-- 'silkwormlaw14.EventCopies', WHERE WHAT IT READS IS OF BULK AT MOST 1048576: true; the input reads as it did. -/
def eventCopiesUptoRow : OpenClaim := { program := "ytebcbjmdkbmnkaa", sum := "a7333793786ebfe6a7851924df114a1e320090877428887a41ad6328412c4aa3", func := "silkworm/silkwormlaw14.EventCopies", spec := "eventCopies", unfollowed := true, recurses := true, apart := false, narrowed := true }
def EventCopiesUptoSaid : Prop := eventCopiesUptoRow.holds Try.pinned (OpenSpec.upto eventCopiesSpec)

/-- 'silkwormlaw14.EventCancels', WHERE WHAT IT READS IS OF BULK AT MOST 1048576: true; the input reads as it did. -/
def eventCancelsUptoRow : OpenClaim := { program := "ytebcbjmdkbmnkaa", sum := "a7333793786ebfe6a7851924df114a1e320090877428887a41ad6328412c4aa3", func := "silkworm/silkwormlaw14.EventCancels", spec := "eventCancels", unfollowed := true, recurses := true, apart := false, narrowed := true }
def EventCancelsUptoSaid : Prop := eventCancelsUptoRow.holds Try.pinned (OpenSpec.upto eventCancelsSpec)

/-- 'silkwormlaw14.EventPlays', WHERE WHAT IT READS IS OF BULK AT MOST 1048576: true; the input reads as it did. -/
def eventPlaysUptoRow : OpenClaim := { program := "ytebcbjmdkbmnkaa", sum := "a7333793786ebfe6a7851924df114a1e320090877428887a41ad6328412c4aa3", func := "silkworm/silkwormlaw14.EventPlays", spec := "eventPlays", unfollowed := true, recurses := true, apart := false, narrowed := true }
def EventPlaysUptoSaid : Prop := eventPlaysUptoRow.holds Try.pinned (OpenSpec.upto eventPlaysSpec)

/-- 'silkwormlaw14.EventNobody', WHERE WHAT IT READS IS OF BULK AT MOST 1048576: true; the input reads as it did. -/
def eventNobodyUptoRow : OpenClaim := { program := "ytebcbjmdkbmnkaa", sum := "a7333793786ebfe6a7851924df114a1e320090877428887a41ad6328412c4aa3", func := "silkworm/silkwormlaw14.EventNobody", spec := "eventNobody", unfollowed := true, recurses := true, apart := false, narrowed := true }
def EventNobodyUptoSaid : Prop := eventNobodyUptoRow.holds Try.pinned (OpenSpec.upto eventNobodySpec)

end Rows
end Go.Proofs.Ytebcbjmdkbmnkaa
