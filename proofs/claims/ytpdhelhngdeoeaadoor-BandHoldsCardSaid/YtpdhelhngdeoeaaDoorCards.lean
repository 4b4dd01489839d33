/-
  DERIVED. GIVEN WITH THE SEED: THE CARDS: each row of YtpdhelhngdeoeaaDoorRows.lean that lists a variable, with what it lists TIED to the program's text (the seventh form; the later family's looks); each row that meets fmt, with fmt's text TOLD by the authors' own Lean function (tested against real Go, not proved from fmt's source: count such statements apart). THE CARD IS WHAT COUNTS. Prove the row's statement (the work); the ties are given (YtpdhelhngdeoeaaDoorTie.lean); close each card by the builder's one call (the guide's Derived/Test/ToyasCard.lean, 'card_holds'). Laid BY PROGRAM, IN A SANDBOX (cutbox-door.mjs). By AI agents, Wed Nov 11 2026. No macro, syntax, notation, axiom, sorry.
-/
import Derived.Test.YtpdhelhngdeoeaaDoorRows
import GoSem.ClaimSeven
namespace Go.Proofs.YtpdhelhngdeoeaaDoor
namespace Rows

/-- THE TIED CARD OF 'bandplanlaw26.BandLimits'. -/
def bandLimitsCard : Claim7 := { stood := { row := bandLimitsRow, standIns := [], harness := (true, "59b8d02ee9889ccebfb07942293381de826732be3e587d052c64cc088ea1f791"), looks := false }, kinds := [], alts := [], laidByText := true, laidKinds := [.data], laidTests := true, laidLooks := .later }
def BandLimitsCardSaid : Prop := Claim7.holds Tryd.pinned (.plain (OpenSpec.ofChange bandLimitsSpec)) bandLimitsCard

/-- THE TIED CARD OF 'bandplanlaw26.BandHolds'. -/
def bandHoldsCard : Claim7 := { stood := { row := bandHoldsRow, standIns := [], harness := (true, "59b8d02ee9889ccebfb07942293381de826732be3e587d052c64cc088ea1f791"), looks := false }, kinds := [], alts := [], laidByText := true, laidKinds := [.data], laidTests := true, laidLooks := .later }
def BandHoldsCardSaid : Prop := Claim7.holds Tryd.pinned (.plain (OpenSpec.ofChange bandHoldsSpec)) bandHoldsCard

/-- THE SECOND FORM's CARD OF 'bandplanlaw26.BandLimits'. -/
def bandLimitsUptoCard : Claim7 := { stood := { row := bandLimitsUptoRow, standIns := [], harness := (true, "59b8d02ee9889ccebfb07942293381de826732be3e587d052c64cc088ea1f791"), looks := false }, kinds := [], alts := [], laidByText := true, laidKinds := [.data], laidTests := true, laidLooks := .later }
def BandLimitsUptoCardSaid : Prop := Claim7.holds Tryd.pinned (.plain (OpenSpec.upto bandLimitsSpec)) bandLimitsUptoCard

/-- THE SECOND FORM's CARD OF 'bandplanlaw26.BandHolds'. -/
def bandHoldsUptoCard : Claim7 := { stood := { row := bandHoldsUptoRow, standIns := [], harness := (true, "59b8d02ee9889ccebfb07942293381de826732be3e587d052c64cc088ea1f791"), looks := false }, kinds := [], alts := [], laidByText := true, laidKinds := [.data], laidTests := true, laidLooks := .later }
def BandHoldsUptoCardSaid : Prop := Claim7.holds Tryd.pinned (.plain (OpenSpec.upto bandHoldsSpec)) bandHoldsUptoCard
end Rows
end Go.Proofs.YtpdhelhngdeoeaaDoor
