/-
  DERIVED. GIVEN WITH THE SEED: THE CARDS: each row of YtdpbbhbegehcjaaGreatDoorRows.lean that lists a variable, with what it lists TIED to the program's text (the seventh form; the later family's looks); each row that meets fmt, with fmt's text TOLD by the authors' own Lean function (tested against real Go, not proved from fmt's source: count such statements apart). THE CARD IS WHAT COUNTS. Prove the row's statement (the work); the ties are given (YtdpbbhbegehcjaaGreatDoorTie.lean); close each card by the builder's one call (the guide's Derived/Test/ToyasCard.lean, 'card_holds'). Laid BY PROGRAM, IN A SANDBOX (cutbox-door.mjs). By AI agents, Wed Nov 11 2026. No macro, syntax, notation, axiom, sorry.
-/
import Derived.Test.YtdpbbhbegehcjaaGreatDoorRows
import GoSem.ClaimSeven
namespace Go.Proofs.YtdpbbhbegehcjaaGreatDoor
namespace Rows

/-- THE TIED CARD OF 'bandplanlaw24.ContainHolds'. -/
def containHoldsCard : Claim7 := { stood := { row := containHoldsRow, standIns := [], harness := (true, "6a1e8bf9da2a490e4a6c8e160f0563e6348fe16053a562f29b6eba6119d16f53"), looks := false }, kinds := [], alts := [], laidByText := true, laidKinds := [.data], laidTests := true, laidLooks := .later }
def ContainHoldsCardSaid : Prop := Claim7.holds Tryz.pinned (.plain (OpenSpec.ofChange containHoldsSpec)) containHoldsCard

/-- THE TIED CARD OF 'bandplanlaw24.ContainApart'. -/
def containApartCard : Claim7 := { stood := { row := containApartRow, standIns := [], harness := (true, "6a1e8bf9da2a490e4a6c8e160f0563e6348fe16053a562f29b6eba6119d16f53"), looks := false }, kinds := [], alts := [], laidByText := true, laidKinds := [.data], laidTests := true, laidLooks := .later }
def ContainApartCardSaid : Prop := Claim7.holds Tryz.pinned (.plain (OpenSpec.ofChange containApartSpec)) containApartCard

/-- THE TIED CARD OF 'bandplanlaw24.ContainLoops'. -/
def containLoopsCard : Claim7 := { stood := { row := containLoopsRow, standIns := [], harness := (true, "6a1e8bf9da2a490e4a6c8e160f0563e6348fe16053a562f29b6eba6119d16f53"), looks := false }, kinds := [], alts := [], laidByText := true, laidKinds := [.data], laidTests := true, laidLooks := .later }
def ContainLoopsCardSaid : Prop := Claim7.holds Tryz.pinned (.plain (OpenSpec.ofChange containLoopsSpec)) containLoopsCard

/-- THE TIED CARD OF 'bandplanlaw24.ContainPlays'. -/
def containPlaysCard : Claim7 := { stood := { row := containPlaysRow, standIns := [], harness := (true, "6a1e8bf9da2a490e4a6c8e160f0563e6348fe16053a562f29b6eba6119d16f53"), looks := false }, kinds := [], alts := [], laidByText := true, laidKinds := [.data], laidTests := true, laidLooks := .later }
def ContainPlaysCardSaid : Prop := Claim7.holds Tryz.pinned (.plain (OpenSpec.ofChange containPlaysSpec)) containPlaysCard

/-- THE SECOND FORM's CARD OF 'bandplanlaw24.ContainHolds'. -/
def containHoldsUptoCard : Claim7 := { stood := { row := containHoldsUptoRow, standIns := [], harness := (true, "6a1e8bf9da2a490e4a6c8e160f0563e6348fe16053a562f29b6eba6119d16f53"), looks := false }, kinds := [], alts := [], laidByText := true, laidKinds := [.data], laidTests := true, laidLooks := .later }
def ContainHoldsUptoCardSaid : Prop := Claim7.holds Tryz.pinned (.plain (OpenSpec.upto containHoldsSpec)) containHoldsUptoCard

/-- THE SECOND FORM's CARD OF 'bandplanlaw24.ContainApart'. -/
def containApartUptoCard : Claim7 := { stood := { row := containApartUptoRow, standIns := [], harness := (true, "6a1e8bf9da2a490e4a6c8e160f0563e6348fe16053a562f29b6eba6119d16f53"), looks := false }, kinds := [], alts := [], laidByText := true, laidKinds := [.data], laidTests := true, laidLooks := .later }
def ContainApartUptoCardSaid : Prop := Claim7.holds Tryz.pinned (.plain (OpenSpec.upto containApartSpec)) containApartUptoCard

/-- THE SECOND FORM's CARD OF 'bandplanlaw24.ContainLoops'. -/
def containLoopsUptoCard : Claim7 := { stood := { row := containLoopsUptoRow, standIns := [], harness := (true, "6a1e8bf9da2a490e4a6c8e160f0563e6348fe16053a562f29b6eba6119d16f53"), looks := false }, kinds := [], alts := [], laidByText := true, laidKinds := [.data], laidTests := true, laidLooks := .later }
def ContainLoopsUptoCardSaid : Prop := Claim7.holds Tryz.pinned (.plain (OpenSpec.upto containLoopsSpec)) containLoopsUptoCard

/-- THE SECOND FORM's CARD OF 'bandplanlaw24.ContainPlays'. -/
def containPlaysUptoCard : Claim7 := { stood := { row := containPlaysUptoRow, standIns := [], harness := (true, "6a1e8bf9da2a490e4a6c8e160f0563e6348fe16053a562f29b6eba6119d16f53"), looks := false }, kinds := [], alts := [], laidByText := true, laidKinds := [.data], laidTests := true, laidLooks := .later }
def ContainPlaysUptoCardSaid : Prop := Claim7.holds Tryz.pinned (.plain (OpenSpec.upto containPlaysSpec)) containPlaysUptoCard
end Rows
end Go.Proofs.YtdpbbhbegehcjaaGreatDoor
