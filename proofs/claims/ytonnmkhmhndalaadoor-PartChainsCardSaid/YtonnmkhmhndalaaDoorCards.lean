/-
  DERIVED. GIVEN WITH THE SEED: THE CARDS: each row of YtonnmkhmhndalaaDoorRows.lean that lists a variable, with what it lists TIED to the program's text (the seventh form; the later family's looks); each row that meets fmt, with fmt's text TOLD by the authors' own Lean function (tested against real Go, not proved from fmt's source: count such statements apart). THE CARD IS WHAT COUNTS. Prove the row's statement (the work); the ties are given (YtonnmkhmhndalaaDoorTie.lean); close each card by the builder's one call (the guide's Derived/Test/ToyasCard.lean, 'card_holds'). Laid BY PROGRAM, IN A SANDBOX (cutbox-door.mjs). By AI agents, Wed Nov 11 2026. No macro, syntax, notation, axiom, sorry.
-/
import Derived.Test.YtonnmkhmhndalaaDoorRows
import GoSem.ClaimSeven
namespace Go.Proofs.YtonnmkhmhndalaaDoor
namespace Rows

/-- THE TIED CARD OF 'silkwormlaw11.LevelRuns'. -/
def levelRunsCard : Claim7 := { stood := { row := levelRunsRow, standIns := [], harness := (true, "9dca6ac59b02cd2734d69e974d4b5d0fee50dd5ed78749cc4b0840cdebbf469a"), looks := false }, kinds := [], alts := [], laidByText := true, laidKinds := [.data, .pinned], laidTests := true, laidLooks := .later }
def LevelRunsCardSaid : Prop := Claim7.holds Tryd.pinned (.plain (OpenSpec.ofChange levelRunsSpec)) levelRunsCard

/-- THE TIED CARD OF 'silkwormlaw11.LevelOrders'. -/
def levelOrdersCard : Claim7 := { stood := { row := levelOrdersRow, standIns := [], harness := (true, "9dca6ac59b02cd2734d69e974d4b5d0fee50dd5ed78749cc4b0840cdebbf469a"), looks := false }, kinds := [], alts := [], laidByText := true, laidKinds := [.data, .pinned], laidTests := true, laidLooks := .later }
def LevelOrdersCardSaid : Prop := Claim7.holds Tryd.pinned (.plain (OpenSpec.ofChange levelOrdersSpec)) levelOrdersCard

/-- THE TIED CARD OF 'silkwormlaw11.LevelRings'. -/
def levelRingsCard : Claim7 := { stood := { row := levelRingsRow, standIns := [], harness := (true, "9dca6ac59b02cd2734d69e974d4b5d0fee50dd5ed78749cc4b0840cdebbf469a"), looks := false }, kinds := [], alts := [], laidByText := true, laidKinds := [.data, .pinned], laidTests := true, laidLooks := .later }
def LevelRingsCardSaid : Prop := Claim7.holds Tryd.pinned (.plain (OpenSpec.ofChange levelRingsSpec)) levelRingsCard

/-- THE TIED CARD OF 'silkwormlaw11.LevelJoins'. -/
def levelJoinsCard : Claim7 := { stood := { row := levelJoinsRow, standIns := [], harness := (true, "9dca6ac59b02cd2734d69e974d4b5d0fee50dd5ed78749cc4b0840cdebbf469a"), looks := false }, kinds := [], alts := [], laidByText := true, laidKinds := [.data, .pinned], laidTests := true, laidLooks := .later }
def LevelJoinsCardSaid : Prop := Claim7.holds Tryd.pinned (.plain (OpenSpec.ofChange levelJoinsSpec)) levelJoinsCard

/-- THE TIED CARD OF 'silkwormlaw13.PartRuns'. -/
def partRunsCard : Claim7 := { stood := { row := partRunsRow, standIns := [], harness := (true, "9dca6ac59b02cd2734d69e974d4b5d0fee50dd5ed78749cc4b0840cdebbf469a"), looks := false }, kinds := [], alts := [], laidByText := true, laidKinds := [.data, .pinned], laidTests := true, laidLooks := .later }
def PartRunsCardSaid : Prop := Claim7.holds Tryd.pinned (.plain (OpenSpec.ofChange partRunsSpec)) partRunsCard

/-- THE TIED CARD OF 'silkwormlaw13.PartChecks'. -/
def partChecksCard : Claim7 := { stood := { row := partChecksRow, standIns := [], harness := (true, "9dca6ac59b02cd2734d69e974d4b5d0fee50dd5ed78749cc4b0840cdebbf469a"), looks := false }, kinds := [], alts := [], laidByText := true, laidKinds := [.data, .pinned], laidTests := true, laidLooks := .later }
def PartChecksCardSaid : Prop := Claim7.holds Tryd.pinned (.plain (OpenSpec.ofChange partChecksSpec)) partChecksCard

/-- THE TIED CARD OF 'silkwormlaw13.PartTurns'. -/
def partTurnsCard : Claim7 := { stood := { row := partTurnsRow, standIns := [], harness := (true, "9dca6ac59b02cd2734d69e974d4b5d0fee50dd5ed78749cc4b0840cdebbf469a"), looks := false }, kinds := [], alts := [], laidByText := true, laidKinds := [.data, .pinned], laidTests := true, laidLooks := .later }
def PartTurnsCardSaid : Prop := Claim7.holds Tryd.pinned (.plain (OpenSpec.ofChange partTurnsSpec)) partTurnsCard

/-- THE TIED CARD OF 'silkwormlaw13.PartLoops'. -/
def partLoopsCard : Claim7 := { stood := { row := partLoopsRow, standIns := [], harness := (true, "9dca6ac59b02cd2734d69e974d4b5d0fee50dd5ed78749cc4b0840cdebbf469a"), looks := false }, kinds := [], alts := [], laidByText := true, laidKinds := [.data, .pinned], laidTests := true, laidLooks := .later }
def PartLoopsCardSaid : Prop := Claim7.holds Tryd.pinned (.plain (OpenSpec.ofChange partLoopsSpec)) partLoopsCard

/-- THE TIED CARD OF 'silkwormlaw13.PartChains'. -/
def partChainsCard : Claim7 := { stood := { row := partChainsRow, standIns := [], harness := (true, "9dca6ac59b02cd2734d69e974d4b5d0fee50dd5ed78749cc4b0840cdebbf469a"), looks := false }, kinds := [], alts := [], laidByText := true, laidKinds := [.data, .pinned], laidTests := true, laidLooks := .later }
def PartChainsCardSaid : Prop := Claim7.holds Tryd.pinned (.plain (OpenSpec.ofChange partChainsSpec)) partChainsCard

/-- THE SECOND FORM's CARD OF 'silkwormlaw11.LevelRuns'. -/
def levelRunsUptoCard : Claim7 := { stood := { row := levelRunsUptoRow, standIns := [], harness := (true, "9dca6ac59b02cd2734d69e974d4b5d0fee50dd5ed78749cc4b0840cdebbf469a"), looks := false }, kinds := [], alts := [], laidByText := true, laidKinds := [.data, .pinned], laidTests := true, laidLooks := .later }
def LevelRunsUptoCardSaid : Prop := Claim7.holds Tryd.pinned (.plain (OpenSpec.upto levelRunsSpec)) levelRunsUptoCard

/-- THE SECOND FORM's CARD OF 'silkwormlaw11.LevelOrders'. -/
def levelOrdersUptoCard : Claim7 := { stood := { row := levelOrdersUptoRow, standIns := [], harness := (true, "9dca6ac59b02cd2734d69e974d4b5d0fee50dd5ed78749cc4b0840cdebbf469a"), looks := false }, kinds := [], alts := [], laidByText := true, laidKinds := [.data, .pinned], laidTests := true, laidLooks := .later }
def LevelOrdersUptoCardSaid : Prop := Claim7.holds Tryd.pinned (.plain (OpenSpec.upto levelOrdersSpec)) levelOrdersUptoCard

/-- THE SECOND FORM's CARD OF 'silkwormlaw11.LevelRings'. -/
def levelRingsUptoCard : Claim7 := { stood := { row := levelRingsUptoRow, standIns := [], harness := (true, "9dca6ac59b02cd2734d69e974d4b5d0fee50dd5ed78749cc4b0840cdebbf469a"), looks := false }, kinds := [], alts := [], laidByText := true, laidKinds := [.data, .pinned], laidTests := true, laidLooks := .later }
def LevelRingsUptoCardSaid : Prop := Claim7.holds Tryd.pinned (.plain (OpenSpec.upto levelRingsSpec)) levelRingsUptoCard

/-- THE SECOND FORM's CARD OF 'silkwormlaw11.LevelJoins'. -/
def levelJoinsUptoCard : Claim7 := { stood := { row := levelJoinsUptoRow, standIns := [], harness := (true, "9dca6ac59b02cd2734d69e974d4b5d0fee50dd5ed78749cc4b0840cdebbf469a"), looks := false }, kinds := [], alts := [], laidByText := true, laidKinds := [.data, .pinned], laidTests := true, laidLooks := .later }
def LevelJoinsUptoCardSaid : Prop := Claim7.holds Tryd.pinned (.plain (OpenSpec.upto levelJoinsSpec)) levelJoinsUptoCard

/-- THE SECOND FORM's CARD OF 'silkwormlaw13.PartRuns'. -/
def partRunsUptoCard : Claim7 := { stood := { row := partRunsUptoRow, standIns := [], harness := (true, "9dca6ac59b02cd2734d69e974d4b5d0fee50dd5ed78749cc4b0840cdebbf469a"), looks := false }, kinds := [], alts := [], laidByText := true, laidKinds := [.data, .pinned], laidTests := true, laidLooks := .later }
def PartRunsUptoCardSaid : Prop := Claim7.holds Tryd.pinned (.plain (OpenSpec.upto partRunsSpec)) partRunsUptoCard

/-- THE SECOND FORM's CARD OF 'silkwormlaw13.PartChecks'. -/
def partChecksUptoCard : Claim7 := { stood := { row := partChecksUptoRow, standIns := [], harness := (true, "9dca6ac59b02cd2734d69e974d4b5d0fee50dd5ed78749cc4b0840cdebbf469a"), looks := false }, kinds := [], alts := [], laidByText := true, laidKinds := [.data, .pinned], laidTests := true, laidLooks := .later }
def PartChecksUptoCardSaid : Prop := Claim7.holds Tryd.pinned (.plain (OpenSpec.upto partChecksSpec)) partChecksUptoCard

/-- THE SECOND FORM's CARD OF 'silkwormlaw13.PartTurns'. -/
def partTurnsUptoCard : Claim7 := { stood := { row := partTurnsUptoRow, standIns := [], harness := (true, "9dca6ac59b02cd2734d69e974d4b5d0fee50dd5ed78749cc4b0840cdebbf469a"), looks := false }, kinds := [], alts := [], laidByText := true, laidKinds := [.data, .pinned], laidTests := true, laidLooks := .later }
def PartTurnsUptoCardSaid : Prop := Claim7.holds Tryd.pinned (.plain (OpenSpec.upto partTurnsSpec)) partTurnsUptoCard

/-- THE SECOND FORM's CARD OF 'silkwormlaw13.PartLoops'. -/
def partLoopsUptoCard : Claim7 := { stood := { row := partLoopsUptoRow, standIns := [], harness := (true, "9dca6ac59b02cd2734d69e974d4b5d0fee50dd5ed78749cc4b0840cdebbf469a"), looks := false }, kinds := [], alts := [], laidByText := true, laidKinds := [.data, .pinned], laidTests := true, laidLooks := .later }
def PartLoopsUptoCardSaid : Prop := Claim7.holds Tryd.pinned (.plain (OpenSpec.upto partLoopsSpec)) partLoopsUptoCard

/-- THE SECOND FORM's CARD OF 'silkwormlaw13.PartChains'. -/
def partChainsUptoCard : Claim7 := { stood := { row := partChainsUptoRow, standIns := [], harness := (true, "9dca6ac59b02cd2734d69e974d4b5d0fee50dd5ed78749cc4b0840cdebbf469a"), looks := false }, kinds := [], alts := [], laidByText := true, laidKinds := [.data, .pinned], laidTests := true, laidLooks := .later }
def PartChainsUptoCardSaid : Prop := Claim7.holds Tryd.pinned (.plain (OpenSpec.upto partChainsSpec)) partChainsUptoCard
end Rows
end Go.Proofs.YtonnmkhmhndalaaDoor
