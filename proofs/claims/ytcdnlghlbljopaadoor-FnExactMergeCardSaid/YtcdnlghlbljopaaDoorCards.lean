/-
  DERIVED. GIVEN WITH THE SEED: THE CARDS: each row of YtcdnlghlbljopaaDoorRows.lean that lists a variable, with what it lists TIED to the program's text (the seventh form; the later family's looks); each row that meets fmt, with fmt's text TOLD by the authors' own Lean function (tested against real Go, not proved from fmt's source: count such statements apart). THE CARD IS WHAT COUNTS. Prove the row's statement (the work); the ties are given (YtcdnlghlbljopaaDoorTie.lean); close each card by the builder's one call (the guide's Derived/Test/ToyasCard.lean, 'card_holds'). Laid BY PROGRAM, IN A SANDBOX (cutbox-door.mjs). By AI agents, Wed Nov 11 2026. No macro, syntax, notation, axiom, sorry.
-/
import Derived.Test.YtcdnlghlbljopaaDoorRows
import GoSem.ClaimSeven
namespace Go.Proofs.YtcdnlghlbljopaaDoor
namespace Rows

/-- THE TIED CARD OF 'laws.FnExactValidProgram'. -/
def fnExactValidProgramCard : Claim7 := { stood := { row := fnExactValidProgramRow, standIns := [], harness := (true, "586f7642ff347e89a38fc550382623073d5788cb860115320908d46d3308401e"), looks := false }, kinds := [], alts := [], laidByText := true, laidKinds := [.data], laidTests := true, laidLooks := .later }
def FnExactValidProgramCardSaid : Prop := Claim7.holds Tryd.pinned (.plain (OpenSpec.ofChange fnExactValidProgramSpec)) fnExactValidProgramCard

/-- THE TIED CARD OF 'laws.FnExactCheckSpace'. -/
def fnExactCheckSpaceCard : Claim7 := { stood := { row := fnExactCheckSpaceRow, standIns := [], harness := (true, "586f7642ff347e89a38fc550382623073d5788cb860115320908d46d3308401e"), looks := false }, kinds := [], alts := [], laidByText := true, laidKinds := [.data], laidTests := true, laidLooks := .later }
def FnExactCheckSpaceCardSaid : Prop := Claim7.holds Tryd.pinned (.plain (OpenSpec.ofChange fnExactCheckSpaceSpec)) fnExactCheckSpaceCard

/-- THE TIED CARD OF 'laws.FnExactPrintProgram'. -/
def fnExactPrintProgramCard : Claim7 := { stood := { row := fnExactPrintProgramRow, standIns := [], harness := (true, "586f7642ff347e89a38fc550382623073d5788cb860115320908d46d3308401e"), looks := false }, kinds := [], alts := [], laidByText := true, laidKinds := [.data, .data, .data, .data], laidTests := true, laidLooks := .later }
def FnExactPrintProgramCardSaid : Prop := Claim7.holds Tryd.pinned (.plain (OpenSpec.ofChange fnExactPrintProgramSpec)) fnExactPrintProgramCard

/-- THE TIED CARD OF 'laws.FnExactValidStore'. -/
def fnExactValidStoreCard : Claim7 := { stood := { row := fnExactValidStoreRow, standIns := [], harness := (true, "586f7642ff347e89a38fc550382623073d5788cb860115320908d46d3308401e"), looks := false }, kinds := [], alts := [], laidByText := true, laidKinds := [.data], laidTests := true, laidLooks := .later }
def FnExactValidStoreCardSaid : Prop := Claim7.holds Tryd.pinned (.plain (OpenSpec.ofChange fnExactValidStoreSpec)) fnExactValidStoreCard

/-- THE TIED CARD OF 'laws.FnExactGetText'. -/
def fnExactGetTextCard : Claim7 := { stood := { row := fnExactGetTextRow, standIns := [], harness := (true, "586f7642ff347e89a38fc550382623073d5788cb860115320908d46d3308401e"), looks := false }, kinds := [], alts := [], laidByText := true, laidKinds := [.data], laidTests := true, laidLooks := .later }
def FnExactGetTextCardSaid : Prop := Claim7.holds Tryd.pinned (.plain (OpenSpec.ofChange fnExactGetTextSpec)) fnExactGetTextCard

/-- THE TIED CARD OF 'laws.FnExactNote'. -/
def fnExactNoteCard : Claim7 := { stood := { row := fnExactNoteRow, standIns := [], harness := (true, "586f7642ff347e89a38fc550382623073d5788cb860115320908d46d3308401e"), looks := false }, kinds := [], alts := [], laidByText := true, laidKinds := [.data], laidTests := true, laidLooks := .later }
def FnExactNoteCardSaid : Prop := Claim7.holds Tryd.pinned (.plain (OpenSpec.ofChange fnExactNoteSpec)) fnExactNoteCard

/-- THE TIED CARD OF 'laws.FnExactDrop'. -/
def fnExactDropCard : Claim7 := { stood := { row := fnExactDropRow, standIns := [], harness := (true, "586f7642ff347e89a38fc550382623073d5788cb860115320908d46d3308401e"), looks := false }, kinds := [], alts := [], laidByText := true, laidKinds := [.data], laidTests := true, laidLooks := .later }
def FnExactDropCardSaid : Prop := Claim7.holds Tryd.pinned (.plain (OpenSpec.ofChange fnExactDropSpec)) fnExactDropCard

/-- THE TIED CARD OF 'laws.FnExactPutText'. -/
def fnExactPutTextCard : Claim7 := { stood := { row := fnExactPutTextRow, standIns := [], harness := (true, "586f7642ff347e89a38fc550382623073d5788cb860115320908d46d3308401e"), looks := false }, kinds := [], alts := [], laidByText := true, laidKinds := [.data], laidTests := true, laidLooks := .later }
def FnExactPutTextCardSaid : Prop := Claim7.holds Tryd.pinned (.plain (OpenSpec.ofChange fnExactPutTextSpec)) fnExactPutTextCard

/-- THE TIED CARD OF 'laws.FnExactNext'. -/
def fnExactNextCard : Claim7 := { stood := { row := fnExactNextRow, standIns := [], harness := (true, "586f7642ff347e89a38fc550382623073d5788cb860115320908d46d3308401e"), looks := false }, kinds := [], alts := [], laidByText := true, laidKinds := [.data, .data, .data, .data], laidTests := true, laidLooks := .later }
def FnExactNextCardSaid : Prop := Claim7.holds Tryd.pinned (.plain (OpenSpec.ofChange fnExactNextSpec)) fnExactNextCard

/-- THE TIED CARD OF 'laws.FnExactMerge'. -/
def fnExactMergeCard : Claim7 := { stood := { row := fnExactMergeRow, standIns := [], harness := (true, "586f7642ff347e89a38fc550382623073d5788cb860115320908d46d3308401e"), looks := false }, kinds := [], alts := [], laidByText := true, laidKinds := [.data], laidTests := true, laidLooks := .later }
def FnExactMergeCardSaid : Prop := Claim7.holds Tryd.pinned (.plain (OpenSpec.ofChange fnExactMergeSpec)) fnExactMergeCard

/-- THE TIED CARD OF 'laws.FnExactPrintStore'. -/
def fnExactPrintStoreCard : Claim7 := { stood := { row := fnExactPrintStoreRow, standIns := [], harness := (true, "586f7642ff347e89a38fc550382623073d5788cb860115320908d46d3308401e"), looks := false }, kinds := [], alts := [], laidByText := true, laidKinds := [.data, .data, .data, .data], laidTests := true, laidLooks := .later }
def FnExactPrintStoreCardSaid : Prop := Claim7.holds Tryd.pinned (.plain (OpenSpec.ofChange fnExactPrintStoreSpec)) fnExactPrintStoreCard

/-- THE SECOND FORM's CARD OF 'laws.FnExactValidProgram'. -/
def fnExactValidProgramUptoCard : Claim7 := { stood := { row := fnExactValidProgramUptoRow, standIns := [], harness := (true, "586f7642ff347e89a38fc550382623073d5788cb860115320908d46d3308401e"), looks := false }, kinds := [], alts := [], laidByText := true, laidKinds := [.data], laidTests := true, laidLooks := .later }
def FnExactValidProgramUptoCardSaid : Prop := Claim7.holds Tryd.pinned (.plain (OpenSpec.upto fnExactValidProgramSpec)) fnExactValidProgramUptoCard

/-- THE SECOND FORM's CARD OF 'laws.FnExactCheckSpace'. -/
def fnExactCheckSpaceUptoCard : Claim7 := { stood := { row := fnExactCheckSpaceUptoRow, standIns := [], harness := (true, "586f7642ff347e89a38fc550382623073d5788cb860115320908d46d3308401e"), looks := false }, kinds := [], alts := [], laidByText := true, laidKinds := [.data], laidTests := true, laidLooks := .later }
def FnExactCheckSpaceUptoCardSaid : Prop := Claim7.holds Tryd.pinned (.plain (OpenSpec.upto fnExactCheckSpaceSpec)) fnExactCheckSpaceUptoCard

/-- THE SECOND FORM's CARD OF 'laws.FnExactPrintProgram'. -/
def fnExactPrintProgramUptoCard : Claim7 := { stood := { row := fnExactPrintProgramUptoRow, standIns := [], harness := (true, "586f7642ff347e89a38fc550382623073d5788cb860115320908d46d3308401e"), looks := false }, kinds := [], alts := [], laidByText := true, laidKinds := [.data, .data, .data, .data], laidTests := true, laidLooks := .later }
def FnExactPrintProgramUptoCardSaid : Prop := Claim7.holds Tryd.pinned (.plain (OpenSpec.upto fnExactPrintProgramSpec)) fnExactPrintProgramUptoCard

/-- THE SECOND FORM's CARD OF 'laws.FnExactValidStore'. -/
def fnExactValidStoreUptoCard : Claim7 := { stood := { row := fnExactValidStoreUptoRow, standIns := [], harness := (true, "586f7642ff347e89a38fc550382623073d5788cb860115320908d46d3308401e"), looks := false }, kinds := [], alts := [], laidByText := true, laidKinds := [.data], laidTests := true, laidLooks := .later }
def FnExactValidStoreUptoCardSaid : Prop := Claim7.holds Tryd.pinned (.plain (OpenSpec.upto fnExactValidStoreSpec)) fnExactValidStoreUptoCard

/-- THE SECOND FORM's CARD OF 'laws.FnExactGetText'. -/
def fnExactGetTextUptoCard : Claim7 := { stood := { row := fnExactGetTextUptoRow, standIns := [], harness := (true, "586f7642ff347e89a38fc550382623073d5788cb860115320908d46d3308401e"), looks := false }, kinds := [], alts := [], laidByText := true, laidKinds := [.data], laidTests := true, laidLooks := .later }
def FnExactGetTextUptoCardSaid : Prop := Claim7.holds Tryd.pinned (.plain (OpenSpec.upto fnExactGetTextSpec)) fnExactGetTextUptoCard

/-- THE SECOND FORM's CARD OF 'laws.FnExactNote'. -/
def fnExactNoteUptoCard : Claim7 := { stood := { row := fnExactNoteUptoRow, standIns := [], harness := (true, "586f7642ff347e89a38fc550382623073d5788cb860115320908d46d3308401e"), looks := false }, kinds := [], alts := [], laidByText := true, laidKinds := [.data], laidTests := true, laidLooks := .later }
def FnExactNoteUptoCardSaid : Prop := Claim7.holds Tryd.pinned (.plain (OpenSpec.upto fnExactNoteSpec)) fnExactNoteUptoCard

/-- THE SECOND FORM's CARD OF 'laws.FnExactDrop'. -/
def fnExactDropUptoCard : Claim7 := { stood := { row := fnExactDropUptoRow, standIns := [], harness := (true, "586f7642ff347e89a38fc550382623073d5788cb860115320908d46d3308401e"), looks := false }, kinds := [], alts := [], laidByText := true, laidKinds := [.data], laidTests := true, laidLooks := .later }
def FnExactDropUptoCardSaid : Prop := Claim7.holds Tryd.pinned (.plain (OpenSpec.upto fnExactDropSpec)) fnExactDropUptoCard

/-- THE SECOND FORM's CARD OF 'laws.FnExactPutText'. -/
def fnExactPutTextUptoCard : Claim7 := { stood := { row := fnExactPutTextUptoRow, standIns := [], harness := (true, "586f7642ff347e89a38fc550382623073d5788cb860115320908d46d3308401e"), looks := false }, kinds := [], alts := [], laidByText := true, laidKinds := [.data], laidTests := true, laidLooks := .later }
def FnExactPutTextUptoCardSaid : Prop := Claim7.holds Tryd.pinned (.plain (OpenSpec.upto fnExactPutTextSpec)) fnExactPutTextUptoCard

/-- THE SECOND FORM's CARD OF 'laws.FnExactNext'. -/
def fnExactNextUptoCard : Claim7 := { stood := { row := fnExactNextUptoRow, standIns := [], harness := (true, "586f7642ff347e89a38fc550382623073d5788cb860115320908d46d3308401e"), looks := false }, kinds := [], alts := [], laidByText := true, laidKinds := [.data, .data, .data, .data], laidTests := true, laidLooks := .later }
def FnExactNextUptoCardSaid : Prop := Claim7.holds Tryd.pinned (.plain (OpenSpec.upto fnExactNextSpec)) fnExactNextUptoCard

/-- THE SECOND FORM's CARD OF 'laws.FnExactMerge'. -/
def fnExactMergeUptoCard : Claim7 := { stood := { row := fnExactMergeUptoRow, standIns := [], harness := (true, "586f7642ff347e89a38fc550382623073d5788cb860115320908d46d3308401e"), looks := false }, kinds := [], alts := [], laidByText := true, laidKinds := [.data], laidTests := true, laidLooks := .later }
def FnExactMergeUptoCardSaid : Prop := Claim7.holds Tryd.pinned (.plain (OpenSpec.upto fnExactMergeSpec)) fnExactMergeUptoCard

/-- THE SECOND FORM's CARD OF 'laws.FnExactPrintStore'. -/
def fnExactPrintStoreUptoCard : Claim7 := { stood := { row := fnExactPrintStoreUptoRow, standIns := [], harness := (true, "586f7642ff347e89a38fc550382623073d5788cb860115320908d46d3308401e"), looks := false }, kinds := [], alts := [], laidByText := true, laidKinds := [.data, .data, .data, .data], laidTests := true, laidLooks := .later }
def FnExactPrintStoreUptoCardSaid : Prop := Claim7.holds Tryd.pinned (.plain (OpenSpec.upto fnExactPrintStoreSpec)) fnExactPrintStoreUptoCard
end Rows
end Go.Proofs.YtcdnlghlbljopaaDoor
