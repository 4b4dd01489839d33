/-
  DERIVED. GIVEN WITH THE SEED: THE CARDS: each row of YtjakdikhdndlgaaGreatDoorRows.lean that lists a variable, with what it lists TIED to the program's text (the seventh form; the later family's looks); each row that meets fmt, with fmt's text TOLD by the authors' own Lean function (tested against real Go, not proved from fmt's source: count such statements apart). THE CARD IS WHAT COUNTS. Prove the row's statement (the work); the ties are given (YtjakdikhdndlgaaGreatDoorTie.lean); close each card by the builder's one call (the guide's Derived/Test/ToyasCard.lean, 'card_holds'). Laid BY PROGRAM, IN A SANDBOX (cutbox-door.mjs). By AI agents, Wed Nov 11 2026. No macro, syntax, notation, axiom, sorry.
-/
import Derived.Test.YtjakdikhdndlgaaGreatDoorRows
import GoSem.ClaimSeven
namespace Go.Proofs.YtjakdikhdndlgaaGreatDoor
namespace Rows

/-- THE TIED CARD OF 'bandplanlaw19.ReduceShrinks'. -/
def reduceShrinksCard : Claim7 := { stood := { row := reduceShrinksRow, standIns := [], harness := (true, "60866ed61efe1440238383c15dd6059d6e8c591d87e8f8b121f25048c3dbf775"), looks := false }, kinds := [], alts := [], laidByText := true, laidKinds := [.data], laidTests := true, laidLooks := .later }
def ReduceShrinksCardSaid : Prop := Claim7.holds Tryz.pinned (.plain (OpenSpec.ofChange reduceShrinksSpec)) reduceShrinksCard

/-- THE TIED CARD OF 'bandplanlaw19.ReduceApart'. -/
def reduceApartCard : Claim7 := { stood := { row := reduceApartRow, standIns := [], harness := (true, "60866ed61efe1440238383c15dd6059d6e8c591d87e8f8b121f25048c3dbf775"), looks := false }, kinds := [], alts := [], laidByText := true, laidKinds := [.data], laidTests := true, laidLooks := .later }
def ReduceApartCardSaid : Prop := Claim7.holds Tryz.pinned (.plain (OpenSpec.ofChange reduceApartSpec)) reduceApartCard

/-- THE TIED CARD OF 'bandplanlaw19.ReduceBlocks'. -/
def reduceBlocksCard : Claim7 := { stood := { row := reduceBlocksRow, standIns := [], harness := (true, "60866ed61efe1440238383c15dd6059d6e8c591d87e8f8b121f25048c3dbf775"), looks := false }, kinds := [], alts := [], laidByText := true, laidKinds := [.data], laidTests := true, laidLooks := .later }
def ReduceBlocksCardSaid : Prop := Claim7.holds Tryz.pinned (.plain (OpenSpec.ofChange reduceBlocksSpec)) reduceBlocksCard

/-- THE TIED CARD OF 'bandplanlaw19.ReducePeels'. -/
def reducePeelsCard : Claim7 := { stood := { row := reducePeelsRow, standIns := [], harness := (true, "60866ed61efe1440238383c15dd6059d6e8c591d87e8f8b121f25048c3dbf775"), looks := false }, kinds := [], alts := [], laidByText := true, laidKinds := [.data], laidTests := true, laidLooks := .later }
def ReducePeelsCardSaid : Prop := Claim7.holds Tryz.pinned (.plain (OpenSpec.ofChange reducePeelsSpec)) reducePeelsCard

/-- THE TIED CARD OF 'bandplanlaw19.ReduceExtends'. -/
def reduceExtendsCard : Claim7 := { stood := { row := reduceExtendsRow, standIns := [], harness := (true, "60866ed61efe1440238383c15dd6059d6e8c591d87e8f8b121f25048c3dbf775"), looks := false }, kinds := [], alts := [], laidByText := true, laidKinds := [.data], laidTests := true, laidLooks := .later }
def ReduceExtendsCardSaid : Prop := Claim7.holds Tryz.pinned (.plain (OpenSpec.ofChange reduceExtendsSpec)) reduceExtendsCard

/-- THE TIED CARD OF 'bandplanlaw19.ReduceHolds'. -/
def reduceHoldsCard : Claim7 := { stood := { row := reduceHoldsRow, standIns := [], harness := (true, "60866ed61efe1440238383c15dd6059d6e8c591d87e8f8b121f25048c3dbf775"), looks := false }, kinds := [], alts := [], laidByText := true, laidKinds := [.data], laidTests := true, laidLooks := .later }
def ReduceHoldsCardSaid : Prop := Claim7.holds Tryz.pinned (.plain (OpenSpec.ofChange reduceHoldsSpec)) reduceHoldsCard

/-- THE SECOND FORM's CARD OF 'bandplanlaw19.ReduceShrinks'. -/
def reduceShrinksUptoCard : Claim7 := { stood := { row := reduceShrinksUptoRow, standIns := [], harness := (true, "60866ed61efe1440238383c15dd6059d6e8c591d87e8f8b121f25048c3dbf775"), looks := false }, kinds := [], alts := [], laidByText := true, laidKinds := [.data], laidTests := true, laidLooks := .later }
def ReduceShrinksUptoCardSaid : Prop := Claim7.holds Tryz.pinned (.plain (OpenSpec.upto reduceShrinksSpec)) reduceShrinksUptoCard

/-- THE SECOND FORM's CARD OF 'bandplanlaw19.ReduceApart'. -/
def reduceApartUptoCard : Claim7 := { stood := { row := reduceApartUptoRow, standIns := [], harness := (true, "60866ed61efe1440238383c15dd6059d6e8c591d87e8f8b121f25048c3dbf775"), looks := false }, kinds := [], alts := [], laidByText := true, laidKinds := [.data], laidTests := true, laidLooks := .later }
def ReduceApartUptoCardSaid : Prop := Claim7.holds Tryz.pinned (.plain (OpenSpec.upto reduceApartSpec)) reduceApartUptoCard

/-- THE SECOND FORM's CARD OF 'bandplanlaw19.ReduceBlocks'. -/
def reduceBlocksUptoCard : Claim7 := { stood := { row := reduceBlocksUptoRow, standIns := [], harness := (true, "60866ed61efe1440238383c15dd6059d6e8c591d87e8f8b121f25048c3dbf775"), looks := false }, kinds := [], alts := [], laidByText := true, laidKinds := [.data], laidTests := true, laidLooks := .later }
def ReduceBlocksUptoCardSaid : Prop := Claim7.holds Tryz.pinned (.plain (OpenSpec.upto reduceBlocksSpec)) reduceBlocksUptoCard

/-- THE SECOND FORM's CARD OF 'bandplanlaw19.ReducePeels'. -/
def reducePeelsUptoCard : Claim7 := { stood := { row := reducePeelsUptoRow, standIns := [], harness := (true, "60866ed61efe1440238383c15dd6059d6e8c591d87e8f8b121f25048c3dbf775"), looks := false }, kinds := [], alts := [], laidByText := true, laidKinds := [.data], laidTests := true, laidLooks := .later }
def ReducePeelsUptoCardSaid : Prop := Claim7.holds Tryz.pinned (.plain (OpenSpec.upto reducePeelsSpec)) reducePeelsUptoCard

/-- THE SECOND FORM's CARD OF 'bandplanlaw19.ReduceExtends'. -/
def reduceExtendsUptoCard : Claim7 := { stood := { row := reduceExtendsUptoRow, standIns := [], harness := (true, "60866ed61efe1440238383c15dd6059d6e8c591d87e8f8b121f25048c3dbf775"), looks := false }, kinds := [], alts := [], laidByText := true, laidKinds := [.data], laidTests := true, laidLooks := .later }
def ReduceExtendsUptoCardSaid : Prop := Claim7.holds Tryz.pinned (.plain (OpenSpec.upto reduceExtendsSpec)) reduceExtendsUptoCard

/-- THE SECOND FORM's CARD OF 'bandplanlaw19.ReduceHolds'. -/
def reduceHoldsUptoCard : Claim7 := { stood := { row := reduceHoldsUptoRow, standIns := [], harness := (true, "60866ed61efe1440238383c15dd6059d6e8c591d87e8f8b121f25048c3dbf775"), looks := false }, kinds := [], alts := [], laidByText := true, laidKinds := [.data], laidTests := true, laidLooks := .later }
def ReduceHoldsUptoCardSaid : Prop := Claim7.holds Tryz.pinned (.plain (OpenSpec.upto reduceHoldsSpec)) reduceHoldsUptoCard
end Rows
end Go.Proofs.YtjakdikhdndlgaaGreatDoor
