/-
  DERIVED. GIVEN WITH THE SEED: THE CARDS: each row of YtencbmgjdiillaaDoorRows.lean that lists a variable, with what it lists TIED to the program's text (the seventh form; the later family's looks); each row that meets fmt, with fmt's text TOLD by the authors' own Lean function (tested against real Go, not proved from fmt's source: count such statements apart). THE CARD IS WHAT COUNTS. Prove the row's statement (the work); the ties are given (YtencbmgjdiillaaDoorTie.lean); close each card by the builder's one call (the guide's Derived/Test/ToyasCard.lean, 'card_holds'). Laid BY PROGRAM, IN A SANDBOX (cutbox-door.mjs). By AI agents, Wed Nov 11 2026. No macro, syntax, notation, axiom, sorry.
-/
import Derived.Test.YtencbmgjdiillaaDoorRows
import GoSem.ClaimSeven
namespace Go.Proofs.YtencbmgjdiillaaDoor
namespace Rows

/-- THE TIED CARD OF 'bandplanlaw07.BitsetAll'. -/
def bitsetAllCard : Claim7 := { stood := { row := bitsetAllRow, standIns := [], harness := (true, "39aa42fe034a2cbedf78232cde6b0da1e7f2e4be5808576f250df2ef6185728f"), looks := false }, kinds := [], alts := [], laidByText := true, laidKinds := [.data, .data, .data], laidTests := true, laidLooks := .later }
def BitsetAllCardSaid : Prop := Claim7.holds Tryd.pinned (.plain (OpenSpec.ofChange bitsetAllSpec)) bitsetAllCard

/-- THE TIED CARD OF 'bandplanlaw07.BitsetBelow'. -/
def bitsetBelowCard : Claim7 := { stood := { row := bitsetBelowRow, standIns := [], harness := (true, "39aa42fe034a2cbedf78232cde6b0da1e7f2e4be5808576f250df2ef6185728f"), looks := false }, kinds := [], alts := [], laidByText := true, laidKinds := [.data, .data, .data], laidTests := true, laidLooks := .later }
def BitsetBelowCardSaid : Prop := Claim7.holds Tryd.pinned (.plain (OpenSpec.ofChange bitsetBelowSpec)) bitsetBelowCard

/-- THE TIED CARD OF 'bandplanlaw07.BitsetReads'. -/
def bitsetReadsCard : Claim7 := { stood := { row := bitsetReadsRow, standIns := [], harness := (true, "39aa42fe034a2cbedf78232cde6b0da1e7f2e4be5808576f250df2ef6185728f"), looks := false }, kinds := [], alts := [], laidByText := true, laidKinds := [.data, .data, .data], laidTests := true, laidLooks := .later }
def BitsetReadsCardSaid : Prop := Claim7.holds Tryd.pinned (.plain (OpenSpec.ofChange bitsetReadsSpec)) bitsetReadsCard

/-- THE TIED CARD OF 'bandplanlaw07.BitsetOf'. -/
def bitsetOfCard : Claim7 := { stood := { row := bitsetOfRow, standIns := [], harness := (true, "39aa42fe034a2cbedf78232cde6b0da1e7f2e4be5808576f250df2ef6185728f"), looks := false }, kinds := [], alts := [], laidByText := true, laidKinds := [.data, .data, .data], laidTests := true, laidLooks := .later }
def BitsetOfCardSaid : Prop := Claim7.holds Tryd.pinned (.plain (OpenSpec.ofChange bitsetOfSpec)) bitsetOfCard

/-- THE TIED CARD OF 'bandplanlaw07.BitsetDecodes'. -/
def bitsetDecodesCard : Claim7 := { stood := { row := bitsetDecodesRow, standIns := [], harness := (true, "39aa42fe034a2cbedf78232cde6b0da1e7f2e4be5808576f250df2ef6185728f"), looks := false }, kinds := [], alts := [], laidByText := true, laidKinds := [.data, .data, .data], laidTests := true, laidLooks := .later }
def BitsetDecodesCardSaid : Prop := Claim7.holds Tryd.pinned (.plain (OpenSpec.ofChange bitsetDecodesSpec)) bitsetDecodesCard

/-- THE TIED CARD OF 'bandplanlaw07.BitsetMembers'. -/
def bitsetMembersCard : Claim7 := { stood := { row := bitsetMembersRow, standIns := [], harness := (true, "39aa42fe034a2cbedf78232cde6b0da1e7f2e4be5808576f250df2ef6185728f"), looks := false }, kinds := [], alts := [], laidByText := true, laidKinds := [.data, .data, .data], laidTests := true, laidLooks := .later }
def BitsetMembersCardSaid : Prop := Claim7.holds Tryd.pinned (.plain (OpenSpec.ofChange bitsetMembersSpec)) bitsetMembersCard

/-- THE TIED CARD OF 'bandplanlaw07.BitsetPairs'. -/
def bitsetPairsCard : Claim7 := { stood := { row := bitsetPairsRow, standIns := [], harness := (true, "39aa42fe034a2cbedf78232cde6b0da1e7f2e4be5808576f250df2ef6185728f"), looks := false }, kinds := [], alts := [], laidByText := true, laidKinds := [.data, .data, .data], laidTests := true, laidLooks := .later }
def BitsetPairsCardSaid : Prop := Claim7.holds Tryd.pinned (.plain (OpenSpec.ofChange bitsetPairsSpec)) bitsetPairsCard

/-- THE TIED CARD OF 'bandplanlaw07.BitsetAlgebra'. -/
def bitsetAlgebraCard : Claim7 := { stood := { row := bitsetAlgebraRow, standIns := [], harness := (true, "39aa42fe034a2cbedf78232cde6b0da1e7f2e4be5808576f250df2ef6185728f"), looks := false }, kinds := [], alts := [], laidByText := true, laidKinds := [.data, .data, .data], laidTests := true, laidLooks := .later }
def BitsetAlgebraCardSaid : Prop := Claim7.holds Tryd.pinned (.plain (OpenSpec.ofChange bitsetAlgebraSpec)) bitsetAlgebraCard

/-- THE SECOND FORM's CARD OF 'bandplanlaw07.BitsetAll'. -/
def bitsetAllUptoCard : Claim7 := { stood := { row := bitsetAllUptoRow, standIns := [], harness := (true, "39aa42fe034a2cbedf78232cde6b0da1e7f2e4be5808576f250df2ef6185728f"), looks := false }, kinds := [], alts := [], laidByText := true, laidKinds := [.data, .data, .data], laidTests := true, laidLooks := .later }
def BitsetAllUptoCardSaid : Prop := Claim7.holds Tryd.pinned (.plain (OpenSpec.upto bitsetAllSpec)) bitsetAllUptoCard

/-- THE SECOND FORM's CARD OF 'bandplanlaw07.BitsetBelow'. -/
def bitsetBelowUptoCard : Claim7 := { stood := { row := bitsetBelowUptoRow, standIns := [], harness := (true, "39aa42fe034a2cbedf78232cde6b0da1e7f2e4be5808576f250df2ef6185728f"), looks := false }, kinds := [], alts := [], laidByText := true, laidKinds := [.data, .data, .data], laidTests := true, laidLooks := .later }
def BitsetBelowUptoCardSaid : Prop := Claim7.holds Tryd.pinned (.plain (OpenSpec.upto bitsetBelowSpec)) bitsetBelowUptoCard

/-- THE SECOND FORM's CARD OF 'bandplanlaw07.BitsetReads'. -/
def bitsetReadsUptoCard : Claim7 := { stood := { row := bitsetReadsUptoRow, standIns := [], harness := (true, "39aa42fe034a2cbedf78232cde6b0da1e7f2e4be5808576f250df2ef6185728f"), looks := false }, kinds := [], alts := [], laidByText := true, laidKinds := [.data, .data, .data], laidTests := true, laidLooks := .later }
def BitsetReadsUptoCardSaid : Prop := Claim7.holds Tryd.pinned (.plain (OpenSpec.upto bitsetReadsSpec)) bitsetReadsUptoCard

/-- THE SECOND FORM's CARD OF 'bandplanlaw07.BitsetOf'. -/
def bitsetOfUptoCard : Claim7 := { stood := { row := bitsetOfUptoRow, standIns := [], harness := (true, "39aa42fe034a2cbedf78232cde6b0da1e7f2e4be5808576f250df2ef6185728f"), looks := false }, kinds := [], alts := [], laidByText := true, laidKinds := [.data, .data, .data], laidTests := true, laidLooks := .later }
def BitsetOfUptoCardSaid : Prop := Claim7.holds Tryd.pinned (.plain (OpenSpec.upto bitsetOfSpec)) bitsetOfUptoCard

/-- THE SECOND FORM's CARD OF 'bandplanlaw07.BitsetDecodes'. -/
def bitsetDecodesUptoCard : Claim7 := { stood := { row := bitsetDecodesUptoRow, standIns := [], harness := (true, "39aa42fe034a2cbedf78232cde6b0da1e7f2e4be5808576f250df2ef6185728f"), looks := false }, kinds := [], alts := [], laidByText := true, laidKinds := [.data, .data, .data], laidTests := true, laidLooks := .later }
def BitsetDecodesUptoCardSaid : Prop := Claim7.holds Tryd.pinned (.plain (OpenSpec.upto bitsetDecodesSpec)) bitsetDecodesUptoCard

/-- THE SECOND FORM's CARD OF 'bandplanlaw07.BitsetMembers'. -/
def bitsetMembersUptoCard : Claim7 := { stood := { row := bitsetMembersUptoRow, standIns := [], harness := (true, "39aa42fe034a2cbedf78232cde6b0da1e7f2e4be5808576f250df2ef6185728f"), looks := false }, kinds := [], alts := [], laidByText := true, laidKinds := [.data, .data, .data], laidTests := true, laidLooks := .later }
def BitsetMembersUptoCardSaid : Prop := Claim7.holds Tryd.pinned (.plain (OpenSpec.upto bitsetMembersSpec)) bitsetMembersUptoCard

/-- THE SECOND FORM's CARD OF 'bandplanlaw07.BitsetPairs'. -/
def bitsetPairsUptoCard : Claim7 := { stood := { row := bitsetPairsUptoRow, standIns := [], harness := (true, "39aa42fe034a2cbedf78232cde6b0da1e7f2e4be5808576f250df2ef6185728f"), looks := false }, kinds := [], alts := [], laidByText := true, laidKinds := [.data, .data, .data], laidTests := true, laidLooks := .later }
def BitsetPairsUptoCardSaid : Prop := Claim7.holds Tryd.pinned (.plain (OpenSpec.upto bitsetPairsSpec)) bitsetPairsUptoCard

/-- THE SECOND FORM's CARD OF 'bandplanlaw07.BitsetAlgebra'. -/
def bitsetAlgebraUptoCard : Claim7 := { stood := { row := bitsetAlgebraUptoRow, standIns := [], harness := (true, "39aa42fe034a2cbedf78232cde6b0da1e7f2e4be5808576f250df2ef6185728f"), looks := false }, kinds := [], alts := [], laidByText := true, laidKinds := [.data, .data, .data], laidTests := true, laidLooks := .later }
def BitsetAlgebraUptoCardSaid : Prop := Claim7.holds Tryd.pinned (.plain (OpenSpec.upto bitsetAlgebraSpec)) bitsetAlgebraUptoCard
end Rows
end Go.Proofs.YtencbmgjdiillaaDoor
