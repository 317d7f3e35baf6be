/-
  No cell of these rows narrows 'for every input' (looked for: loops, veiled, ifaces, maps, wideKeys, modest, calm, conditions, laid).
  DERIVED. THE GIVEN ROWS OF THIS SEAT. 3 by the template 'for every input the law returns true; each argument reads behind the call as it read before'; 0 by the template 'total and deterministic' (their statements: YtimcmhfcmnooeaaTotals.lean).
  GIVEN WITH THE SEED: the statements are not yours to turn. If you find one false, say at which input.
  Laid BY PROGRAM, IN A SANDBOX (cutbox-rows.mjs): the forced cells as the released guide's own fill.sh prints them over the translation f67d45acbab8fd78… (all of the seat's roots in one cut). By AI agents, Wed Nov 11 2026. No macro, syntax, notation, axiom, sorry.
-/
import Derived.Test.YtimcmhfcmnooeaaChecked
import GoSem.Claim
import GoSem.ClaimJoined
import GoSem.ClaimMapViews
import Derived.JoinedTies
import Derived.KernelRfl
namespace Go.Proofs.Ytimcmhfcmnooeaa
/- THE CELL 'sum', in the pinned program and in every row, IS THE sha256 OF THE DUMP (.gsa) THAT YtimcmhfcmnooeaaProg.lean LOADS. Nothing in Lean hashes anything: it is a label: what it is worth is what the hold of that sum in a sandbox is worth. -/
noncomputable def Try.pinned : Pinned := { name := "ytimcmhfcmnooeaa", sum := "f67d45acbab8fd7890e781b84e8be460e95e83a9620704aec8354db820f60a31", checked := Try.checked }
namespace Rows
def none {H : Type} : Left H := { results := [], args := [] }

/-- 'silkwormlaw03.PrePlain': WHATEVER THE INPUT: true; the input reads as it did. -/
def prePlainSpec : ChangeSpec := { name := "prePlain", fn := fun _ => fun
  | [d] => { results := [.lit (.bool true)], args := [d] }
  | _ => none }
def prePlainRow : OpenClaim := { program := "ytimcmhfcmnooeaa", sum := "f67d45acbab8fd7890e781b84e8be460e95e83a9620704aec8354db820f60a31", func := "silkworm/silkwormlaw03.PrePlain", spec := "prePlain", unfollowed := true, recurses := true, apart := false }
def PrePlainSaid : Prop := prePlainRow.holds Try.pinned (OpenSpec.ofChange prePlainSpec)

/-- ITS FALSE NEIGHBOUR: 'it returns false'. Refute it at one input. -/
def prePlainWrong : ChangeSpec := { name := "prePlain", fn := fun _ => fun
  | [d] => { results := [.lit (.bool false)], args := [d] }
  | _ => none }
def PrePlainWrongFalsely : Prop := prePlainRow.holds Try.pinned (OpenSpec.ofChange prePlainWrong)

/-- 'silkwormlaw03.PreParts': WHATEVER THE INPUT: true; the input reads as it did. -/
def prePartsSpec : ChangeSpec := { name := "preParts", fn := fun _ => fun
  | [d1, d2, d3] => { results := [.lit (.bool true)], args := [d1, d2, d3] }
  | _ => none }
def prePartsRow : OpenClaim := { program := "ytimcmhfcmnooeaa", sum := "f67d45acbab8fd7890e781b84e8be460e95e83a9620704aec8354db820f60a31", func := "silkworm/silkwormlaw03.PreParts", spec := "preParts", unfollowed := true, recurses := true, apart := false }
def PrePartsSaid : Prop := prePartsRow.holds Try.pinned (OpenSpec.ofChange prePartsSpec)

/-- ITS FALSE NEIGHBOUR: 'it returns false'. Refute it at one input. -/
def prePartsWrong : ChangeSpec := { name := "preParts", fn := fun _ => fun
  | [d1, d2, d3] => { results := [.lit (.bool false)], args := [d1, d2, d3] }
  | _ => none }
def PrePartsWrongFalsely : Prop := prePartsRow.holds Try.pinned (OpenSpec.ofChange prePartsWrong)

/-- 'silkwormlaw03.PreDoubles': WHATEVER THE INPUT: true; the input reads as it did. -/
def preDoublesSpec : ChangeSpec := { name := "preDoubles", fn := fun _ => fun
  | [d] => { results := [.lit (.bool true)], args := [d] }
  | _ => none }
def preDoublesRow : OpenClaim := { program := "ytimcmhfcmnooeaa", sum := "f67d45acbab8fd7890e781b84e8be460e95e83a9620704aec8354db820f60a31", func := "silkworm/silkwormlaw03.PreDoubles", spec := "preDoubles", unfollowed := true, recurses := true, apart := false }
def PreDoublesSaid : Prop := preDoublesRow.holds Try.pinned (OpenSpec.ofChange preDoublesSpec)

/-- ITS FALSE NEIGHBOUR: 'it returns false'. Refute it at one input. -/
def preDoublesWrong : ChangeSpec := { name := "preDoubles", fn := fun _ => fun
  | [d] => { results := [.lit (.bool false)], args := [d] }
  | _ => none }
def PreDoublesWrongFalsely : Prop := preDoublesRow.holds Try.pinned (OpenSpec.ofChange preDoublesWrong)

/- THE SECOND FORM. 'bulk': how many values and letters a reading holds, each counted each time it is reached (what is shared counts as often as it is met; a slice's spare places count too). A statement '..UptoSaid' is the law's where the arguments, and the package variables that the reading takes, are together of bulk at most 1048576: NARROWER than '..Said'. Prove '..Said' where nothing that the law and all that it calls make is longer than what came in: it says more and counts as full. Else prove '..UptoSaid'. A law counts once. -/
mutual
def uptoBulk {H : Type} : DataW H → Nat
  | .lit (.string bytes) => bytes.length + 1
  | .lit _ => 1
  | .nil => 1
  | .ptr d => uptoBulk d + 1
  | .slice elems spare => uptoBulkAll elems + uptoBulkAll spare + 1
  | .agg parts => uptoBulkAll parts + 1
  | .iface _ d => uptoBulk d + 1
  | .map entries => uptoBulkEntries entries + 1
  | .held _ => 1
def uptoBulkAll {H : Type} : List (DataW H) → Nat
  | [] => 0
  | d :: r => uptoBulk d + uptoBulkAll r
def uptoBulkEntries {H : Type} : List (Lit × DataW H) → Nat
  | [] => 0
  | x :: r => uptoBulkEntry x + uptoBulkEntries r
def uptoBulkEntry {H : Type} : Lit × DataW H → Nat
  | (.string bytes, d) => bytes.length + uptoBulk d + 1
  | (_, d) => uptoBulk d + 1
 end
def uptoSmall : (H : Type) → List (DataW H) → Bool := fun _ ds => decide (uptoBulkAll ds ≤ 1048576)
def OpenSpec.upto (s : _root_.Go.ChangeSpec) : _root_.Go.OpenSpec := { _root_.Go.OpenSpec.ofChange s with cond := some uptoSmall }

/-- 'silkwormlaw03.PrePlain', WHERE WHAT IT READS IS OF BULK AT MOST 1048576: true; the input reads as it did. -/
def prePlainUptoRow : OpenClaim := { program := "ytimcmhfcmnooeaa", sum := "f67d45acbab8fd7890e781b84e8be460e95e83a9620704aec8354db820f60a31", func := "silkworm/silkwormlaw03.PrePlain", spec := "prePlain", unfollowed := true, recurses := true, apart := false, narrowed := true }
def PrePlainUptoSaid : Prop := prePlainUptoRow.holds Try.pinned (OpenSpec.upto prePlainSpec)

/-- 'silkwormlaw03.PreParts', WHERE WHAT IT READS IS OF BULK AT MOST 1048576: true; the input reads as it did. -/
def prePartsUptoRow : OpenClaim := { program := "ytimcmhfcmnooeaa", sum := "f67d45acbab8fd7890e781b84e8be460e95e83a9620704aec8354db820f60a31", func := "silkworm/silkwormlaw03.PreParts", spec := "preParts", unfollowed := true, recurses := true, apart := false, narrowed := true }
def PrePartsUptoSaid : Prop := prePartsUptoRow.holds Try.pinned (OpenSpec.upto prePartsSpec)

/-- 'silkwormlaw03.PreDoubles', WHERE WHAT IT READS IS OF BULK AT MOST 1048576: true; the input reads as it did. -/
def preDoublesUptoRow : OpenClaim := { program := "ytimcmhfcmnooeaa", sum := "f67d45acbab8fd7890e781b84e8be460e95e83a9620704aec8354db820f60a31", func := "silkworm/silkwormlaw03.PreDoubles", spec := "preDoubles", unfollowed := true, recurses := true, apart := false, narrowed := true }
def PreDoublesUptoSaid : Prop := preDoublesUptoRow.holds Try.pinned (OpenSpec.upto preDoublesSpec)

end Rows
end Go.Proofs.Ytimcmhfcmnooeaa
