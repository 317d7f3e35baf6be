/-
  DERIVED. GIVEN WITH THE SEED: THE CARDS: each row of YtcbkgammlfjjoaaDoorRows.lean that lists a variable, with what it lists TIED to the program's text (the seventh form; the later family's looks); each row that meets fmt, with fmt's text TOLD by the authors' own Lean function (tested against real Go, not proved from fmt's source: count such statements apart). THE CARD IS WHAT COUNTS. Prove the row's statement (the work); the ties are given (YtcbkgammlfjjoaaDoorTie.lean); close each card by the builder's one call (the guide's Derived/Test/ToyasCard.lean, 'card_holds'). Laid BY PROGRAM, IN A SANDBOX (cutbox-door.mjs). By AI agents, Wed Nov 11 2026. No macro, syntax, notation, axiom, sorry.
-/
import Derived.Test.YtcbkgammlfjjoaaDoorRows
import GoSem.ClaimSeven
namespace Go.Proofs.YtcbkgammlfjjoaaDoor
namespace Rows

/-- THE TIED CARD OF 'silkwormlaw18.WaveChecks'. -/
def waveChecksCard : Claim7 := { stood := { row := waveChecksRow, standIns := [], harness := (true, "b1e3d2c1a0483ddef54a9d61e3b8ec701174ac6fc32b60beecc409e0fc33847c"), looks := false }, kinds := [], alts := [], laidByText := true, laidKinds := [.data, .pinned], laidTests := true, laidLooks := .later }
def WaveChecksCardSaid : Prop := Claim7.holds Tryd.pinned (.plain (OpenSpec.ofChange waveChecksSpec)) waveChecksCard

/-- THE TIED CARD OF 'silkwormlaw18.WaveCuts'. -/
def waveCutsCard : Claim7 := { stood := { row := waveCutsRow, standIns := [], harness := (true, "b1e3d2c1a0483ddef54a9d61e3b8ec701174ac6fc32b60beecc409e0fc33847c"), looks := false }, kinds := [], alts := [], laidByText := true, laidKinds := [.data, .pinned], laidTests := true, laidLooks := .later }
def WaveCutsCardSaid : Prop := Claim7.holds Tryd.pinned (.plain (OpenSpec.ofChange waveCutsSpec)) waveCutsCard

/-- THE TIED CARD OF 'silkwormlaw18.WaveBegins'. -/
def waveBeginsCard : Claim7 := { stood := { row := waveBeginsRow, standIns := [], harness := (true, "b1e3d2c1a0483ddef54a9d61e3b8ec701174ac6fc32b60beecc409e0fc33847c"), looks := false }, kinds := [], alts := [], laidByText := true, laidKinds := [.data, .pinned], laidTests := true, laidLooks := .later }
def WaveBeginsCardSaid : Prop := Claim7.holds Tryd.pinned (.plain (OpenSpec.ofChange waveBeginsSpec)) waveBeginsCard

/-- THE TIED CARD OF 'silkwormlaw18.WaveSteps'. -/
def waveStepsCard : Claim7 := { stood := { row := waveStepsRow, standIns := [], harness := (true, "b1e3d2c1a0483ddef54a9d61e3b8ec701174ac6fc32b60beecc409e0fc33847c"), looks := false }, kinds := [], alts := [], laidByText := true, laidKinds := [.data, .pinned], laidTests := true, laidLooks := .later }
def WaveStepsCardSaid : Prop := Claim7.holds Tryd.pinned (.plain (OpenSpec.ofChange waveStepsSpec)) waveStepsCard

/-- THE TIED CARD OF 'silkwormlaw20.StatsOf'. -/
def statsOfCard : Claim7 := { stood := { row := statsOfRow, standIns := [], harness := (true, "b1e3d2c1a0483ddef54a9d61e3b8ec701174ac6fc32b60beecc409e0fc33847c"), looks := false }, kinds := [], alts := [], laidByText := true, laidKinds := [.data, .pinned], laidTests := true, laidLooks := .later }
def StatsOfCardSaid : Prop := Claim7.holds Tryd.pinned (.plain (OpenSpec.ofChange statsOfSpec)) statsOfCard

/-- THE TIED CARD OF 'silkwormlaw20.StatsRatios'. -/
def statsRatiosCard : Claim7 := { stood := { row := statsRatiosRow, standIns := [], harness := (true, "b1e3d2c1a0483ddef54a9d61e3b8ec701174ac6fc32b60beecc409e0fc33847c"), looks := false }, kinds := [], alts := [], laidByText := true, laidKinds := [.data, .pinned], laidTests := true, laidLooks := .later }
def StatsRatiosCardSaid : Prop := Claim7.holds Tryd.pinned (.plain (OpenSpec.ofChange statsRatiosSpec)) statsRatiosCard

/-- THE TIED CARD OF 'silkwormlaw20.StatsOrders'. -/
def statsOrdersCard : Claim7 := { stood := { row := statsOrdersRow, standIns := [], harness := (true, "b1e3d2c1a0483ddef54a9d61e3b8ec701174ac6fc32b60beecc409e0fc33847c"), looks := false }, kinds := [], alts := [], laidByText := true, laidKinds := [.data, .pinned], laidTests := true, laidLooks := .later }
def StatsOrdersCardSaid : Prop := Claim7.holds Tryd.pinned (.plain (OpenSpec.ofChange statsOrdersSpec)) statsOrdersCard

/-- THE TIED CARD OF 'silkwormlaw20.StatsMills'. -/
def statsMillsCard : Claim7 := { stood := { row := statsMillsRow, standIns := [], harness := (true, "b1e3d2c1a0483ddef54a9d61e3b8ec701174ac6fc32b60beecc409e0fc33847c"), looks := false }, kinds := [], alts := [], laidByText := true, laidKinds := [.data, .pinned], laidTests := true, laidLooks := .later }
def StatsMillsCardSaid : Prop := Claim7.holds Tryd.pinned (.plain (OpenSpec.ofChange statsMillsSpec)) statsMillsCard

/-- THE TIED CARD OF 'silkwormlaw20.StatsEven'. -/
def statsEvenCard : Claim7 := { stood := { row := statsEvenRow, standIns := [], harness := (true, "b1e3d2c1a0483ddef54a9d61e3b8ec701174ac6fc32b60beecc409e0fc33847c"), looks := false }, kinds := [], alts := [], laidByText := true, laidKinds := [.data, .pinned], laidTests := true, laidLooks := .later }
def StatsEvenCardSaid : Prop := Claim7.holds Tryd.pinned (.plain (OpenSpec.ofChange statsEvenSpec)) statsEvenCard

/-- THE TIED CARD OF 'silkwormlaw20.StatsParts'. -/
def statsPartsCard : Claim7 := { stood := { row := statsPartsRow, standIns := [], harness := (true, "b1e3d2c1a0483ddef54a9d61e3b8ec701174ac6fc32b60beecc409e0fc33847c"), looks := false }, kinds := [], alts := [], laidByText := true, laidKinds := [.data, .pinned], laidTests := true, laidLooks := .later }
def StatsPartsCardSaid : Prop := Claim7.holds Tryd.pinned (.plain (OpenSpec.ofChange statsPartsSpec)) statsPartsCard

/-- THE TIED CARD OF 'silkwormlaw20.StatsSigns'. -/
def statsSignsCard : Claim7 := { stood := { row := statsSignsRow, standIns := [], harness := (true, "b1e3d2c1a0483ddef54a9d61e3b8ec701174ac6fc32b60beecc409e0fc33847c"), looks := false }, kinds := [], alts := [], laidByText := true, laidKinds := [.data, .pinned], laidTests := true, laidLooks := .later }
def StatsSignsCardSaid : Prop := Claim7.holds Tryd.pinned (.plain (OpenSpec.ofChange statsSignsSpec)) statsSignsCard

/-- THE TIED CARD OF 'silkwormlaw18.WaveMerges'. -/
def waveMergesCard : Claim7 := { stood := { row := waveMergesRow, standIns := [], harness := (true, "b1e3d2c1a0483ddef54a9d61e3b8ec701174ac6fc32b60beecc409e0fc33847c"), looks := false }, kinds := [], alts := [], laidByText := true, laidKinds := [.data, .pinned], laidTests := true, laidLooks := .later }
def WaveMergesCardSaid : Prop := Claim7.holds Tryd.pinned (.plain (OpenSpec.ofChange waveMergesSpec)) waveMergesCard

/-- THE TIED CARD OF 'silkwormlaw18.WaveParts'. -/
def wavePartsCard : Claim7 := { stood := { row := wavePartsRow, standIns := [], harness := (true, "b1e3d2c1a0483ddef54a9d61e3b8ec701174ac6fc32b60beecc409e0fc33847c"), looks := false }, kinds := [], alts := [], laidByText := true, laidKinds := [.data, .pinned], laidTests := true, laidLooks := .later }
def WavePartsCardSaid : Prop := Claim7.holds Tryd.pinned (.plain (OpenSpec.ofChange wavePartsSpec)) wavePartsCard

/-- THE SECOND FORM's CARD OF 'silkwormlaw18.WaveChecks'. -/
def waveChecksUptoCard : Claim7 := { stood := { row := waveChecksUptoRow, standIns := [], harness := (true, "b1e3d2c1a0483ddef54a9d61e3b8ec701174ac6fc32b60beecc409e0fc33847c"), looks := false }, kinds := [], alts := [], laidByText := true, laidKinds := [.data, .pinned], laidTests := true, laidLooks := .later }
def WaveChecksUptoCardSaid : Prop := Claim7.holds Tryd.pinned (.plain (OpenSpec.upto waveChecksSpec)) waveChecksUptoCard

/-- THE SECOND FORM's CARD OF 'silkwormlaw18.WaveCuts'. -/
def waveCutsUptoCard : Claim7 := { stood := { row := waveCutsUptoRow, standIns := [], harness := (true, "b1e3d2c1a0483ddef54a9d61e3b8ec701174ac6fc32b60beecc409e0fc33847c"), looks := false }, kinds := [], alts := [], laidByText := true, laidKinds := [.data, .pinned], laidTests := true, laidLooks := .later }
def WaveCutsUptoCardSaid : Prop := Claim7.holds Tryd.pinned (.plain (OpenSpec.upto waveCutsSpec)) waveCutsUptoCard

/-- THE SECOND FORM's CARD OF 'silkwormlaw18.WaveBegins'. -/
def waveBeginsUptoCard : Claim7 := { stood := { row := waveBeginsUptoRow, standIns := [], harness := (true, "b1e3d2c1a0483ddef54a9d61e3b8ec701174ac6fc32b60beecc409e0fc33847c"), looks := false }, kinds := [], alts := [], laidByText := true, laidKinds := [.data, .pinned], laidTests := true, laidLooks := .later }
def WaveBeginsUptoCardSaid : Prop := Claim7.holds Tryd.pinned (.plain (OpenSpec.upto waveBeginsSpec)) waveBeginsUptoCard

/-- THE SECOND FORM's CARD OF 'silkwormlaw18.WaveSteps'. -/
def waveStepsUptoCard : Claim7 := { stood := { row := waveStepsUptoRow, standIns := [], harness := (true, "b1e3d2c1a0483ddef54a9d61e3b8ec701174ac6fc32b60beecc409e0fc33847c"), looks := false }, kinds := [], alts := [], laidByText := true, laidKinds := [.data, .pinned], laidTests := true, laidLooks := .later }
def WaveStepsUptoCardSaid : Prop := Claim7.holds Tryd.pinned (.plain (OpenSpec.upto waveStepsSpec)) waveStepsUptoCard

/-- THE SECOND FORM's CARD OF 'silkwormlaw20.StatsOf'. -/
def statsOfUptoCard : Claim7 := { stood := { row := statsOfUptoRow, standIns := [], harness := (true, "b1e3d2c1a0483ddef54a9d61e3b8ec701174ac6fc32b60beecc409e0fc33847c"), looks := false }, kinds := [], alts := [], laidByText := true, laidKinds := [.data, .pinned], laidTests := true, laidLooks := .later }
def StatsOfUptoCardSaid : Prop := Claim7.holds Tryd.pinned (.plain (OpenSpec.upto statsOfSpec)) statsOfUptoCard

/-- THE SECOND FORM's CARD OF 'silkwormlaw20.StatsRatios'. -/
def statsRatiosUptoCard : Claim7 := { stood := { row := statsRatiosUptoRow, standIns := [], harness := (true, "b1e3d2c1a0483ddef54a9d61e3b8ec701174ac6fc32b60beecc409e0fc33847c"), looks := false }, kinds := [], alts := [], laidByText := true, laidKinds := [.data, .pinned], laidTests := true, laidLooks := .later }
def StatsRatiosUptoCardSaid : Prop := Claim7.holds Tryd.pinned (.plain (OpenSpec.upto statsRatiosSpec)) statsRatiosUptoCard

/-- THE SECOND FORM's CARD OF 'silkwormlaw20.StatsOrders'. -/
def statsOrdersUptoCard : Claim7 := { stood := { row := statsOrdersUptoRow, standIns := [], harness := (true, "b1e3d2c1a0483ddef54a9d61e3b8ec701174ac6fc32b60beecc409e0fc33847c"), looks := false }, kinds := [], alts := [], laidByText := true, laidKinds := [.data, .pinned], laidTests := true, laidLooks := .later }
def StatsOrdersUptoCardSaid : Prop := Claim7.holds Tryd.pinned (.plain (OpenSpec.upto statsOrdersSpec)) statsOrdersUptoCard

/-- THE SECOND FORM's CARD OF 'silkwormlaw20.StatsMills'. -/
def statsMillsUptoCard : Claim7 := { stood := { row := statsMillsUptoRow, standIns := [], harness := (true, "b1e3d2c1a0483ddef54a9d61e3b8ec701174ac6fc32b60beecc409e0fc33847c"), looks := false }, kinds := [], alts := [], laidByText := true, laidKinds := [.data, .pinned], laidTests := true, laidLooks := .later }
def StatsMillsUptoCardSaid : Prop := Claim7.holds Tryd.pinned (.plain (OpenSpec.upto statsMillsSpec)) statsMillsUptoCard

/-- THE SECOND FORM's CARD OF 'silkwormlaw20.StatsEven'. -/
def statsEvenUptoCard : Claim7 := { stood := { row := statsEvenUptoRow, standIns := [], harness := (true, "b1e3d2c1a0483ddef54a9d61e3b8ec701174ac6fc32b60beecc409e0fc33847c"), looks := false }, kinds := [], alts := [], laidByText := true, laidKinds := [.data, .pinned], laidTests := true, laidLooks := .later }
def StatsEvenUptoCardSaid : Prop := Claim7.holds Tryd.pinned (.plain (OpenSpec.upto statsEvenSpec)) statsEvenUptoCard

/-- THE SECOND FORM's CARD OF 'silkwormlaw20.StatsParts'. -/
def statsPartsUptoCard : Claim7 := { stood := { row := statsPartsUptoRow, standIns := [], harness := (true, "b1e3d2c1a0483ddef54a9d61e3b8ec701174ac6fc32b60beecc409e0fc33847c"), looks := false }, kinds := [], alts := [], laidByText := true, laidKinds := [.data, .pinned], laidTests := true, laidLooks := .later }
def StatsPartsUptoCardSaid : Prop := Claim7.holds Tryd.pinned (.plain (OpenSpec.upto statsPartsSpec)) statsPartsUptoCard

/-- THE SECOND FORM's CARD OF 'silkwormlaw20.StatsSigns'. -/
def statsSignsUptoCard : Claim7 := { stood := { row := statsSignsUptoRow, standIns := [], harness := (true, "b1e3d2c1a0483ddef54a9d61e3b8ec701174ac6fc32b60beecc409e0fc33847c"), looks := false }, kinds := [], alts := [], laidByText := true, laidKinds := [.data, .pinned], laidTests := true, laidLooks := .later }
def StatsSignsUptoCardSaid : Prop := Claim7.holds Tryd.pinned (.plain (OpenSpec.upto statsSignsSpec)) statsSignsUptoCard

/-- THE SECOND FORM's CARD OF 'silkwormlaw18.WaveMerges'. -/
def waveMergesUptoCard : Claim7 := { stood := { row := waveMergesUptoRow, standIns := [], harness := (true, "b1e3d2c1a0483ddef54a9d61e3b8ec701174ac6fc32b60beecc409e0fc33847c"), looks := false }, kinds := [], alts := [], laidByText := true, laidKinds := [.data, .pinned], laidTests := true, laidLooks := .later }
def WaveMergesUptoCardSaid : Prop := Claim7.holds Tryd.pinned (.plain (OpenSpec.upto waveMergesSpec)) waveMergesUptoCard

/-- THE SECOND FORM's CARD OF 'silkwormlaw18.WaveParts'. -/
def wavePartsUptoCard : Claim7 := { stood := { row := wavePartsUptoRow, standIns := [], harness := (true, "b1e3d2c1a0483ddef54a9d61e3b8ec701174ac6fc32b60beecc409e0fc33847c"), looks := false }, kinds := [], alts := [], laidByText := true, laidKinds := [.data, .pinned], laidTests := true, laidLooks := .later }
def WavePartsUptoCardSaid : Prop := Claim7.holds Tryd.pinned (.plain (OpenSpec.upto wavePartsSpec)) wavePartsUptoCard
end Rows
end Go.Proofs.YtcbkgammlfjjoaaDoor
