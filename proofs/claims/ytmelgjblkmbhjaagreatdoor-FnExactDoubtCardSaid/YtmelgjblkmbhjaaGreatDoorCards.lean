/-
  DERIVED. GIVEN WITH THE SEED: THE CARDS: each row of YtmelgjblkmbhjaaGreatDoorRows.lean that lists a variable, with what it lists TIED to the program's text (the seventh form; the later family's looks); each row that meets fmt, with fmt's text TOLD by the authors' own Lean function (tested against real Go, not proved from fmt's source: count such statements apart). THE CARD IS WHAT COUNTS. Prove the row's statement (the work); the ties are given (YtmelgjblkmbhjaaGreatDoorTie.lean); close each card by the builder's one call (the guide's Derived/Test/ToyasCard.lean, 'card_holds'). Laid BY PROGRAM, IN A SANDBOX (cutbox-door.mjs). By AI agents, Wed Nov 11 2026. No macro, syntax, notation, axiom, sorry.
-/
import Derived.Test.YtmelgjblkmbhjaaGreatDoorRows
import GoSem.ClaimSeven
namespace Go.Proofs.YtmelgjblkmbhjaaGreatDoor
namespace Rows

/-- THE TIED CARD OF 'laws.FnExactVouched'. -/
def fnExactVouchedCard : Claim7 := { stood := { row := fnExactVouchedRow, standIns := [], harness := (true, "b37e3049139af2a52e4de1dc89c9db3ea468e2f43005e22cc63a6e4cc4774256"), looks := true }, kinds := [], alts := [], laidByText := true, laidKinds := [.data, .data, .data, .data], laidTests := true, laidLooks := .later }
def FnExactVouchedCardSaid : Prop := Claim7.holds Tryz.pinned (.plain (OpenSpec.ofChange fnExactVouchedSpec)) fnExactVouchedCard

/-- THE TIED CARD OF 'laws.FnExactDoubt'. -/
def fnExactDoubtCard : Claim7 := { stood := { row := fnExactDoubtRow, standIns := [], harness := (true, "b37e3049139af2a52e4de1dc89c9db3ea468e2f43005e22cc63a6e4cc4774256"), looks := true }, kinds := [], alts := [], laidByText := true, laidKinds := [.data, .data, .data, .data], laidTests := true, laidLooks := .later }
def FnExactDoubtCardSaid : Prop := Claim7.holds Tryz.pinned (.plain (OpenSpec.ofChange fnExactDoubtSpec)) fnExactDoubtCard

/-- THE TIED CARD OF 'laws.FnExactParseStore'. -/
def fnExactParseStoreCard : Claim7 := { stood := { row := fnExactParseStoreRow, standIns := [], harness := (true, "b37e3049139af2a52e4de1dc89c9db3ea468e2f43005e22cc63a6e4cc4774256"), looks := true }, kinds := [], alts := [], laidByText := true, laidKinds := [.data, .data, .data, .data, .sentinel, .sentinel, .data, .pinned], laidTests := true, laidLooks := .later }
def FnExactParseStoreCardSaid : Prop := Claim7.holds Tryz.pinned (.plain (OpenSpec.ofChange fnExactParseStoreSpec)) fnExactParseStoreCard

/-- THE SECOND FORM's CARD OF 'laws.FnExactVouched'. -/
def fnExactVouchedUptoCard : Claim7 := { stood := { row := fnExactVouchedUptoRow, standIns := [], harness := (true, "b37e3049139af2a52e4de1dc89c9db3ea468e2f43005e22cc63a6e4cc4774256"), looks := true }, kinds := [], alts := [], laidByText := true, laidKinds := [.data, .data, .data, .data], laidTests := true, laidLooks := .later }
def FnExactVouchedUptoCardSaid : Prop := Claim7.holds Tryz.pinned (.plain (OpenSpec.upto fnExactVouchedSpec)) fnExactVouchedUptoCard

/-- THE SECOND FORM's CARD OF 'laws.FnExactDoubt'. -/
def fnExactDoubtUptoCard : Claim7 := { stood := { row := fnExactDoubtUptoRow, standIns := [], harness := (true, "b37e3049139af2a52e4de1dc89c9db3ea468e2f43005e22cc63a6e4cc4774256"), looks := true }, kinds := [], alts := [], laidByText := true, laidKinds := [.data, .data, .data, .data], laidTests := true, laidLooks := .later }
def FnExactDoubtUptoCardSaid : Prop := Claim7.holds Tryz.pinned (.plain (OpenSpec.upto fnExactDoubtSpec)) fnExactDoubtUptoCard

/-- THE SECOND FORM's CARD OF 'laws.FnExactParseStore'. -/
def fnExactParseStoreUptoCard : Claim7 := { stood := { row := fnExactParseStoreUptoRow, standIns := [], harness := (true, "b37e3049139af2a52e4de1dc89c9db3ea468e2f43005e22cc63a6e4cc4774256"), looks := true }, kinds := [], alts := [], laidByText := true, laidKinds := [.data, .data, .data, .data, .sentinel, .sentinel, .data, .pinned], laidTests := true, laidLooks := .later }
def FnExactParseStoreUptoCardSaid : Prop := Claim7.holds Tryz.pinned (.plain (OpenSpec.upto fnExactParseStoreSpec)) fnExactParseStoreUptoCard
end Rows
end Go.Proofs.YtmelgjblkmbhjaaGreatDoor
