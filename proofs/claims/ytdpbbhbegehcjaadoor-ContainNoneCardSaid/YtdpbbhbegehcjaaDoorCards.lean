/-
  DERIVED. GIVEN WITH THE SEED: THE CARDS: each row of YtdpbbhbegehcjaaDoorRows.lean that lists a variable, with what it lists TIED to the program's text (the seventh form; the later family's looks); each row that meets fmt, with fmt's text TOLD by the authors' own Lean function (tested against real Go, not proved from fmt's source: count such statements apart). THE CARD IS WHAT COUNTS. Prove the row's statement (the work); the ties are given (YtdpbbhbegehcjaaDoorTie.lean); close each card by the builder's one call (the guide's Derived/Test/ToyasCard.lean, 'card_holds'). Laid BY PROGRAM, IN A SANDBOX (cutbox-door.mjs). By AI agents, Wed Nov 11 2026. No macro, syntax, notation, axiom, sorry.
-/
import Derived.Test.YtdpbbhbegehcjaaDoorRows
import GoSem.ClaimSeven
namespace Go.Proofs.YtdpbbhbegehcjaaDoor
namespace Rows

/-- THE TIED CARD OF 'bandplanlaw24.ContainNone'. -/
def containNoneCard : Claim7 := { stood := { row := containNoneRow, standIns := [], harness := (true, "fb04dc72e679fbdaff3f305ad7ac21ad168b4544c488fbe33aaa21a637137a19"), looks := false }, kinds := [], alts := [], laidByText := true, laidKinds := [.data], laidTests := true, laidLooks := .later }
def ContainNoneCardSaid : Prop := Claim7.holds Tryd.pinned (.plain (OpenSpec.ofChange containNoneSpec)) containNoneCard

/-- THE SECOND FORM's CARD OF 'bandplanlaw24.ContainNone'. -/
def containNoneUptoCard : Claim7 := { stood := { row := containNoneUptoRow, standIns := [], harness := (true, "fb04dc72e679fbdaff3f305ad7ac21ad168b4544c488fbe33aaa21a637137a19"), looks := false }, kinds := [], alts := [], laidByText := true, laidKinds := [.data], laidTests := true, laidLooks := .later }
def ContainNoneUptoCardSaid : Prop := Claim7.holds Tryd.pinned (.plain (OpenSpec.upto containNoneSpec)) containNoneUptoCard
end Rows
end Go.Proofs.YtdpbbhbegehcjaaDoor
