/-
  DERIVED. GIVEN WITH THE SEED: THE CARDS: each row of YtmelgjblkmbhjaaDoorRows.lean that lists a variable, with what it lists TIED to the program's text (the seventh form; the later family's looks); each row that meets fmt, with fmt's text TOLD by the authors' own Lean function (tested against real Go, not proved from fmt's source: count such statements apart). THE CARD IS WHAT COUNTS. Prove the row's statement (the work); the ties are given (YtmelgjblkmbhjaaDoorTie.lean); close each card by the builder's one call (the guide's Derived/Test/ToyasCard.lean, 'card_holds'). Laid BY PROGRAM, IN A SANDBOX (cutbox-door.mjs). By AI agents, Wed Nov 11 2026. No macro, syntax, notation, axiom, sorry.
-/
import Derived.Test.YtmelgjblkmbhjaaDoorRows
import GoSem.ClaimSeven
namespace Go.Proofs.YtmelgjblkmbhjaaDoor
namespace Rows

/-- THE TIED CARD OF 'laws.FnExactPrintProgram'. -/
def fnExactPrintProgramCard : Claim7 := { stood := { row := fnExactPrintProgramRow, standIns := [], harness := (true, "446b1630276c795e67323f3b8919a7d45666cd387dd9f6f75f205a1f036d3f2f"), looks := true }, kinds := [], alts := [], laidByText := true, laidKinds := [.data, .data, .data, .data], laidTests := true, laidLooks := .later }
def FnExactPrintProgramCardSaid : Prop := Claim7.holds Tryd.pinned (.plain (OpenSpec.ofChange fnExactPrintProgramSpec)) fnExactPrintProgramCard

/-- THE TIED CARD OF 'laws.FnExactNext'. -/
def fnExactNextCard : Claim7 := { stood := { row := fnExactNextRow, standIns := [], harness := (true, "446b1630276c795e67323f3b8919a7d45666cd387dd9f6f75f205a1f036d3f2f"), looks := true }, kinds := [], alts := [], laidByText := true, laidKinds := [.data, .data, .data, .data], laidTests := true, laidLooks := .later }
def FnExactNextCardSaid : Prop := Claim7.holds Tryd.pinned (.plain (OpenSpec.ofChange fnExactNextSpec)) fnExactNextCard

/-- THE TIED CARD OF 'laws.FnExactPrintStore'. -/
def fnExactPrintStoreCard : Claim7 := { stood := { row := fnExactPrintStoreRow, standIns := [], harness := (true, "446b1630276c795e67323f3b8919a7d45666cd387dd9f6f75f205a1f036d3f2f"), looks := true }, kinds := [], alts := [], laidByText := true, laidKinds := [.data, .data, .data, .data], laidTests := true, laidLooks := .later }
def FnExactPrintStoreCardSaid : Prop := Claim7.holds Tryd.pinned (.plain (OpenSpec.ofChange fnExactPrintStoreSpec)) fnExactPrintStoreCard

/-- THE TIED CARD OF 'laws.FnExactPutSource'. -/
def fnExactPutSourceCard : Claim7 := { stood := { row := fnExactPutSourceRow, standIns := [], harness := (true, "446b1630276c795e67323f3b8919a7d45666cd387dd9f6f75f205a1f036d3f2f"), looks := true }, kinds := [], alts := [], laidByText := true, laidKinds := [.data], laidTests := true, laidLooks := .later }
def FnExactPutSourceCardSaid : Prop := Claim7.holds Tryd.pinned (.plain (OpenSpec.ofChange fnExactPutSourceSpec)) fnExactPutSourceCard

/-- THE TIED CARD OF 'laws.FnExactPutTarget'. -/
def fnExactPutTargetCard : Claim7 := { stood := { row := fnExactPutTargetRow, standIns := [], harness := (true, "446b1630276c795e67323f3b8919a7d45666cd387dd9f6f75f205a1f036d3f2f"), looks := true }, kinds := [], alts := [], laidByText := true, laidKinds := [.data], laidTests := true, laidLooks := .later }
def FnExactPutTargetCardSaid : Prop := Claim7.holds Tryd.pinned (.plain (OpenSpec.ofChange fnExactPutTargetSpec)) fnExactPutTargetCard

/-- THE TIED CARD OF 'laws.FnExactParseProgram'. -/
def fnExactParseProgramCard : Claim7 := { stood := { row := fnExactParseProgramRow, standIns := [], harness := (true, "446b1630276c795e67323f3b8919a7d45666cd387dd9f6f75f205a1f036d3f2f"), looks := true }, kinds := [], alts := [], laidByText := true, laidKinds := [.data, .data, .data, .data, .sentinel, .sentinel, .data, .pinned], laidTests := true, laidLooks := .later }
def FnExactParseProgramCardSaid : Prop := Claim7.holds Tryd.pinned (.plain (OpenSpec.ofChange fnExactParseProgramSpec)) fnExactParseProgramCard

/-- THE TIED CARD OF 'laws.FnExactVouch'. -/
def fnExactVouchCard : Claim7 := { stood := { row := fnExactVouchRow, standIns := [], harness := (true, "446b1630276c795e67323f3b8919a7d45666cd387dd9f6f75f205a1f036d3f2f"), looks := true }, kinds := [], alts := [], laidByText := true, laidKinds := [.data, .data, .data, .data], laidTests := true, laidLooks := .later }
def FnExactVouchCardSaid : Prop := Claim7.holds Tryd.pinned (.plain (OpenSpec.ofChange fnExactVouchSpec)) fnExactVouchCard

/-- THE TIED CARD OF 'laws.FnExactClean'. -/
def fnExactCleanCard : Claim7 := { stood := { row := fnExactCleanRow, standIns := [], harness := (true, "446b1630276c795e67323f3b8919a7d45666cd387dd9f6f75f205a1f036d3f2f"), looks := true }, kinds := [], alts := [], laidByText := true, laidKinds := [.data, .data, .data, .data], laidTests := true, laidLooks := .later }
def FnExactCleanCardSaid : Prop := Claim7.holds Tryd.pinned (.plain (OpenSpec.ofChange fnExactCleanSpec)) fnExactCleanCard

/-- THE TIED CARD OF 'laws.FnExactTrail'. -/
def fnExactTrailCard : Claim7 := { stood := { row := fnExactTrailRow, standIns := [], harness := (true, "446b1630276c795e67323f3b8919a7d45666cd387dd9f6f75f205a1f036d3f2f"), looks := true }, kinds := [], alts := [], laidByText := true, laidKinds := [.data, .data, .data, .data], laidTests := true, laidLooks := .later }
def FnExactTrailCardSaid : Prop := Claim7.holds Tryd.pinned (.plain (OpenSpec.ofChange fnExactTrailSpec)) fnExactTrailCard

/-- THE SECOND FORM's CARD OF 'laws.FnExactPrintProgram'. -/
def fnExactPrintProgramUptoCard : Claim7 := { stood := { row := fnExactPrintProgramUptoRow, standIns := [], harness := (true, "446b1630276c795e67323f3b8919a7d45666cd387dd9f6f75f205a1f036d3f2f"), looks := true }, kinds := [], alts := [], laidByText := true, laidKinds := [.data, .data, .data, .data], laidTests := true, laidLooks := .later }
def FnExactPrintProgramUptoCardSaid : Prop := Claim7.holds Tryd.pinned (.plain (OpenSpec.upto fnExactPrintProgramSpec)) fnExactPrintProgramUptoCard

/-- THE SECOND FORM's CARD OF 'laws.FnExactNext'. -/
def fnExactNextUptoCard : Claim7 := { stood := { row := fnExactNextUptoRow, standIns := [], harness := (true, "446b1630276c795e67323f3b8919a7d45666cd387dd9f6f75f205a1f036d3f2f"), looks := true }, kinds := [], alts := [], laidByText := true, laidKinds := [.data, .data, .data, .data], laidTests := true, laidLooks := .later }
def FnExactNextUptoCardSaid : Prop := Claim7.holds Tryd.pinned (.plain (OpenSpec.upto fnExactNextSpec)) fnExactNextUptoCard

/-- THE SECOND FORM's CARD OF 'laws.FnExactPrintStore'. -/
def fnExactPrintStoreUptoCard : Claim7 := { stood := { row := fnExactPrintStoreUptoRow, standIns := [], harness := (true, "446b1630276c795e67323f3b8919a7d45666cd387dd9f6f75f205a1f036d3f2f"), looks := true }, kinds := [], alts := [], laidByText := true, laidKinds := [.data, .data, .data, .data], laidTests := true, laidLooks := .later }
def FnExactPrintStoreUptoCardSaid : Prop := Claim7.holds Tryd.pinned (.plain (OpenSpec.upto fnExactPrintStoreSpec)) fnExactPrintStoreUptoCard

/-- THE SECOND FORM's CARD OF 'laws.FnExactPutSource'. -/
def fnExactPutSourceUptoCard : Claim7 := { stood := { row := fnExactPutSourceUptoRow, standIns := [], harness := (true, "446b1630276c795e67323f3b8919a7d45666cd387dd9f6f75f205a1f036d3f2f"), looks := true }, kinds := [], alts := [], laidByText := true, laidKinds := [.data], laidTests := true, laidLooks := .later }
def FnExactPutSourceUptoCardSaid : Prop := Claim7.holds Tryd.pinned (.plain (OpenSpec.upto fnExactPutSourceSpec)) fnExactPutSourceUptoCard

/-- THE SECOND FORM's CARD OF 'laws.FnExactPutTarget'. -/
def fnExactPutTargetUptoCard : Claim7 := { stood := { row := fnExactPutTargetUptoRow, standIns := [], harness := (true, "446b1630276c795e67323f3b8919a7d45666cd387dd9f6f75f205a1f036d3f2f"), looks := true }, kinds := [], alts := [], laidByText := true, laidKinds := [.data], laidTests := true, laidLooks := .later }
def FnExactPutTargetUptoCardSaid : Prop := Claim7.holds Tryd.pinned (.plain (OpenSpec.upto fnExactPutTargetSpec)) fnExactPutTargetUptoCard

/-- THE SECOND FORM's CARD OF 'laws.FnExactParseProgram'. -/
def fnExactParseProgramUptoCard : Claim7 := { stood := { row := fnExactParseProgramUptoRow, standIns := [], harness := (true, "446b1630276c795e67323f3b8919a7d45666cd387dd9f6f75f205a1f036d3f2f"), looks := true }, kinds := [], alts := [], laidByText := true, laidKinds := [.data, .data, .data, .data, .sentinel, .sentinel, .data, .pinned], laidTests := true, laidLooks := .later }
def FnExactParseProgramUptoCardSaid : Prop := Claim7.holds Tryd.pinned (.plain (OpenSpec.upto fnExactParseProgramSpec)) fnExactParseProgramUptoCard

/-- THE SECOND FORM's CARD OF 'laws.FnExactVouch'. -/
def fnExactVouchUptoCard : Claim7 := { stood := { row := fnExactVouchUptoRow, standIns := [], harness := (true, "446b1630276c795e67323f3b8919a7d45666cd387dd9f6f75f205a1f036d3f2f"), looks := true }, kinds := [], alts := [], laidByText := true, laidKinds := [.data, .data, .data, .data], laidTests := true, laidLooks := .later }
def FnExactVouchUptoCardSaid : Prop := Claim7.holds Tryd.pinned (.plain (OpenSpec.upto fnExactVouchSpec)) fnExactVouchUptoCard

/-- THE SECOND FORM's CARD OF 'laws.FnExactClean'. -/
def fnExactCleanUptoCard : Claim7 := { stood := { row := fnExactCleanUptoRow, standIns := [], harness := (true, "446b1630276c795e67323f3b8919a7d45666cd387dd9f6f75f205a1f036d3f2f"), looks := true }, kinds := [], alts := [], laidByText := true, laidKinds := [.data, .data, .data, .data], laidTests := true, laidLooks := .later }
def FnExactCleanUptoCardSaid : Prop := Claim7.holds Tryd.pinned (.plain (OpenSpec.upto fnExactCleanSpec)) fnExactCleanUptoCard

/-- THE SECOND FORM's CARD OF 'laws.FnExactTrail'. -/
def fnExactTrailUptoCard : Claim7 := { stood := { row := fnExactTrailUptoRow, standIns := [], harness := (true, "446b1630276c795e67323f3b8919a7d45666cd387dd9f6f75f205a1f036d3f2f"), looks := true }, kinds := [], alts := [], laidByText := true, laidKinds := [.data, .data, .data, .data], laidTests := true, laidLooks := .later }
def FnExactTrailUptoCardSaid : Prop := Claim7.holds Tryd.pinned (.plain (OpenSpec.upto fnExactTrailSpec)) fnExactTrailUptoCard
end Rows
end Go.Proofs.YtmelgjblkmbhjaaDoor
