/-
  DERIVED. GIVEN WITH THE SEED: THE CARDS: each row of YtjlbcofopapajaaDoorRows.lean that lists a variable, with what it lists TIED to the program's text (the seventh form; the later family's looks); each row that meets fmt, with fmt's text TOLD by the authors' own Lean function (tested against real Go, not proved from fmt's source: count such statements apart). THE CARD IS WHAT COUNTS. Prove the row's statement (the work); the ties are given (YtjlbcofopapajaaDoorTie.lean); close each card by the builder's one call (the guide's Derived/Test/ToyasCard.lean, 'card_holds'). Laid BY PROGRAM, IN A SANDBOX (cutbox-door.mjs). By AI agents, Wed Nov 11 2026. No macro, syntax, notation, axiom, sorry.
-/
import Derived.Test.YtjlbcofopapajaaDoorRows
import GoSem.ClaimSeven
namespace Go.Proofs.YtjlbcofopapajaaDoor
namespace Rows

/-- THE TIED CARD OF 'laws.FnExactPrintProgram'. -/
def fnExactPrintProgramCard : Claim7 := { stood := { row := fnExactPrintProgramRow, standIns := [], harness := (true, "51549e53c7d523cc35051e099bbaa4ab5d15214d387d17cda168417e55ff9d31"), looks := true }, kinds := [], alts := [], laidByText := true, laidKinds := [.data, .data, .data, .data], laidTests := true, laidLooks := .later }
def FnExactPrintProgramCardSaid : Prop := Claim7.holds Tryd.pinned (.plain (OpenSpec.ofChange fnExactPrintProgramSpec)) fnExactPrintProgramCard

/-- THE TIED CARD OF 'laws.FnExactPrintStore'. -/
def fnExactPrintStoreCard : Claim7 := { stood := { row := fnExactPrintStoreRow, standIns := [], harness := (true, "51549e53c7d523cc35051e099bbaa4ab5d15214d387d17cda168417e55ff9d31"), looks := true }, kinds := [], alts := [], laidByText := true, laidKinds := [.data, .data, .data, .data], laidTests := true, laidLooks := .later }
def FnExactPrintStoreCardSaid : Prop := Claim7.holds Tryd.pinned (.plain (OpenSpec.ofChange fnExactPrintStoreSpec)) fnExactPrintStoreCard

/-- THE TIED CARD OF 'laws.FnExactPutSource'. -/
def fnExactPutSourceCard : Claim7 := { stood := { row := fnExactPutSourceRow, standIns := [], harness := (true, "51549e53c7d523cc35051e099bbaa4ab5d15214d387d17cda168417e55ff9d31"), looks := true }, kinds := [], alts := [], laidByText := true, laidKinds := [.data], laidTests := true, laidLooks := .later }
def FnExactPutSourceCardSaid : Prop := Claim7.holds Tryd.pinned (.plain (OpenSpec.ofChange fnExactPutSourceSpec)) fnExactPutSourceCard

/-- THE TIED CARD OF 'laws.FnExactPutTarget'. -/
def fnExactPutTargetCard : Claim7 := { stood := { row := fnExactPutTargetRow, standIns := [], harness := (true, "51549e53c7d523cc35051e099bbaa4ab5d15214d387d17cda168417e55ff9d31"), looks := true }, kinds := [], alts := [], laidByText := true, laidKinds := [.data], laidTests := true, laidLooks := .later }
def FnExactPutTargetCardSaid : Prop := Claim7.holds Tryd.pinned (.plain (OpenSpec.ofChange fnExactPutTargetSpec)) fnExactPutTargetCard

/-- THE TIED CARD OF 'laws.FnExactParseProgram'. -/
def fnExactParseProgramCard : Claim7 := { stood := { row := fnExactParseProgramRow, standIns := [], harness := (true, "51549e53c7d523cc35051e099bbaa4ab5d15214d387d17cda168417e55ff9d31"), looks := true }, kinds := [], alts := [], laidByText := true, laidKinds := [.data, .data, .data, .data, .sentinel, .sentinel, .data, .pinned], laidTests := true, laidLooks := .later }
def FnExactParseProgramCardSaid : Prop := Claim7.holds Tryd.pinned (.plain (OpenSpec.ofChange fnExactParseProgramSpec)) fnExactParseProgramCard

/-- THE TIED CARD OF 'laws.FnProgram'. -/
def fnProgramCard : Claim7 := { stood := { row := fnProgramRow, standIns := [], harness := (true, "51549e53c7d523cc35051e099bbaa4ab5d15214d387d17cda168417e55ff9d31"), looks := true }, kinds := [], alts := [], laidByText := true, laidKinds := [.data, .data, .data, .data, .sentinel, .sentinel, .data, .pinned], laidTests := true, laidLooks := .later }
def FnProgramCardSaid : Prop := Claim7.holds Tryd.pinned (.plain (OpenSpec.ofChange fnProgramSpec)) fnProgramCard

/-- THE TIED CARD OF 'laws.FnTrail'. -/
def fnTrailCard : Claim7 := { stood := { row := fnTrailRow, standIns := [], harness := (true, "51549e53c7d523cc35051e099bbaa4ab5d15214d387d17cda168417e55ff9d31"), looks := true }, kinds := [], alts := [], laidByText := true, laidKinds := [.data, .data, .data, .data], laidTests := true, laidLooks := .later }
def FnTrailCardSaid : Prop := Claim7.holds Tryd.pinned (.plain (OpenSpec.ofChange fnTrailSpec)) fnTrailCard

/-- THE TIED CARD OF 'laws.FnReplay'. -/
def fnReplayCard : Claim7 := { stood := { row := fnReplayRow, standIns := [], harness := (true, "51549e53c7d523cc35051e099bbaa4ab5d15214d387d17cda168417e55ff9d31"), looks := true }, kinds := [], alts := [], laidByText := true, laidKinds := [.data, .data, .data, .data], laidTests := true, laidLooks := .later }
def FnReplayCardSaid : Prop := Claim7.holds Tryd.pinned (.plain (OpenSpec.ofChange fnReplaySpec)) fnReplayCard

/-- THE SECOND FORM's CARD OF 'laws.FnExactPrintProgram'. -/
def fnExactPrintProgramUptoCard : Claim7 := { stood := { row := fnExactPrintProgramUptoRow, standIns := [], harness := (true, "51549e53c7d523cc35051e099bbaa4ab5d15214d387d17cda168417e55ff9d31"), looks := true }, kinds := [], alts := [], laidByText := true, laidKinds := [.data, .data, .data, .data], laidTests := true, laidLooks := .later }
def FnExactPrintProgramUptoCardSaid : Prop := Claim7.holds Tryd.pinned (.plain (OpenSpec.upto fnExactPrintProgramSpec)) fnExactPrintProgramUptoCard

/-- THE SECOND FORM's CARD OF 'laws.FnExactPrintStore'. -/
def fnExactPrintStoreUptoCard : Claim7 := { stood := { row := fnExactPrintStoreUptoRow, standIns := [], harness := (true, "51549e53c7d523cc35051e099bbaa4ab5d15214d387d17cda168417e55ff9d31"), looks := true }, kinds := [], alts := [], laidByText := true, laidKinds := [.data, .data, .data, .data], laidTests := true, laidLooks := .later }
def FnExactPrintStoreUptoCardSaid : Prop := Claim7.holds Tryd.pinned (.plain (OpenSpec.upto fnExactPrintStoreSpec)) fnExactPrintStoreUptoCard

/-- THE SECOND FORM's CARD OF 'laws.FnExactPutSource'. -/
def fnExactPutSourceUptoCard : Claim7 := { stood := { row := fnExactPutSourceUptoRow, standIns := [], harness := (true, "51549e53c7d523cc35051e099bbaa4ab5d15214d387d17cda168417e55ff9d31"), looks := true }, kinds := [], alts := [], laidByText := true, laidKinds := [.data], laidTests := true, laidLooks := .later }
def FnExactPutSourceUptoCardSaid : Prop := Claim7.holds Tryd.pinned (.plain (OpenSpec.upto fnExactPutSourceSpec)) fnExactPutSourceUptoCard

/-- THE SECOND FORM's CARD OF 'laws.FnExactPutTarget'. -/
def fnExactPutTargetUptoCard : Claim7 := { stood := { row := fnExactPutTargetUptoRow, standIns := [], harness := (true, "51549e53c7d523cc35051e099bbaa4ab5d15214d387d17cda168417e55ff9d31"), looks := true }, kinds := [], alts := [], laidByText := true, laidKinds := [.data], laidTests := true, laidLooks := .later }
def FnExactPutTargetUptoCardSaid : Prop := Claim7.holds Tryd.pinned (.plain (OpenSpec.upto fnExactPutTargetSpec)) fnExactPutTargetUptoCard

/-- THE SECOND FORM's CARD OF 'laws.FnExactParseProgram'. -/
def fnExactParseProgramUptoCard : Claim7 := { stood := { row := fnExactParseProgramUptoRow, standIns := [], harness := (true, "51549e53c7d523cc35051e099bbaa4ab5d15214d387d17cda168417e55ff9d31"), looks := true }, kinds := [], alts := [], laidByText := true, laidKinds := [.data, .data, .data, .data, .sentinel, .sentinel, .data, .pinned], laidTests := true, laidLooks := .later }
def FnExactParseProgramUptoCardSaid : Prop := Claim7.holds Tryd.pinned (.plain (OpenSpec.upto fnExactParseProgramSpec)) fnExactParseProgramUptoCard

/-- THE SECOND FORM's CARD OF 'laws.FnProgram'. -/
def fnProgramUptoCard : Claim7 := { stood := { row := fnProgramUptoRow, standIns := [], harness := (true, "51549e53c7d523cc35051e099bbaa4ab5d15214d387d17cda168417e55ff9d31"), looks := true }, kinds := [], alts := [], laidByText := true, laidKinds := [.data, .data, .data, .data, .sentinel, .sentinel, .data, .pinned], laidTests := true, laidLooks := .later }
def FnProgramUptoCardSaid : Prop := Claim7.holds Tryd.pinned (.plain (OpenSpec.upto fnProgramSpec)) fnProgramUptoCard

/-- THE SECOND FORM's CARD OF 'laws.FnTrail'. -/
def fnTrailUptoCard : Claim7 := { stood := { row := fnTrailUptoRow, standIns := [], harness := (true, "51549e53c7d523cc35051e099bbaa4ab5d15214d387d17cda168417e55ff9d31"), looks := true }, kinds := [], alts := [], laidByText := true, laidKinds := [.data, .data, .data, .data], laidTests := true, laidLooks := .later }
def FnTrailUptoCardSaid : Prop := Claim7.holds Tryd.pinned (.plain (OpenSpec.upto fnTrailSpec)) fnTrailUptoCard

/-- THE SECOND FORM's CARD OF 'laws.FnReplay'. -/
def fnReplayUptoCard : Claim7 := { stood := { row := fnReplayUptoRow, standIns := [], harness := (true, "51549e53c7d523cc35051e099bbaa4ab5d15214d387d17cda168417e55ff9d31"), looks := true }, kinds := [], alts := [], laidByText := true, laidKinds := [.data, .data, .data, .data], laidTests := true, laidLooks := .later }
def FnReplayUptoCardSaid : Prop := Claim7.holds Tryd.pinned (.plain (OpenSpec.upto fnReplaySpec)) fnReplayUptoCard
end Rows
end Go.Proofs.YtjlbcofopapajaaDoor
