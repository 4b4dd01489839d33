/-
  DERIVED. GIVEN WITH THE SEED: THE CARDS: each row of YtpaakgngoocjeaaDoorRows.lean that lists a variable, with what it lists TIED to the program's text (the seventh form; the later family's looks); each row that meets fmt, with fmt's text TOLD by the authors' own Lean function (tested against real Go, not proved from fmt's source: count such statements apart). THE CARD IS WHAT COUNTS. Prove the row's statement (the work); the ties are given (YtpaakgngoocjeaaDoorTie.lean); close each card by the builder's one call (the guide's Derived/Test/ToyasCard.lean, 'card_holds'). Laid BY PROGRAM, IN A SANDBOX (cutbox-door.mjs). By AI agents, Wed Nov 11 2026. No macro, syntax, notation, axiom, sorry.
-/
import Derived.Test.YtpaakgngoocjeaaDoorRows
import GoSem.ClaimSeven
namespace Go.Proofs.YtpaakgngoocjeaaDoor
namespace Rows

/-- THE TIED CARD OF 'bandplanlaw09.DigraphAdds'. -/
def digraphAddsCard : Claim7 := { stood := { row := digraphAddsRow, standIns := [], harness := (true, "dec048aedef4f191fc220134fd400c69f28150d87cfbdac39091d757f58f0cd7"), looks := false }, kinds := [], alts := [], laidByText := true, laidKinds := [.data, .data, .data], laidTests := true, laidLooks := .later }
def DigraphAddsCardSaid : Prop := Claim7.holds Tryd.pinned (.plain (OpenSpec.ofChange digraphAddsSpec)) digraphAddsCard

/-- THE TIED CARD OF 'bandplanlaw09.DigraphReaches'. -/
def digraphReachesCard : Claim7 := { stood := { row := digraphReachesRow, standIns := [], harness := (true, "dec048aedef4f191fc220134fd400c69f28150d87cfbdac39091d757f58f0cd7"), looks := false }, kinds := [], alts := [], laidByText := true, laidKinds := [.data, .data, .data], laidTests := true, laidLooks := .later }
def DigraphReachesCardSaid : Prop := Claim7.holds Tryd.pinned (.plain (OpenSpec.ofChange digraphReachesSpec)) digraphReachesCard

/-- THE TIED CARD OF 'bandplanlaw09.DigraphComponents'. -/
def digraphComponentsCard : Claim7 := { stood := { row := digraphComponentsRow, standIns := [], harness := (true, "dec048aedef4f191fc220134fd400c69f28150d87cfbdac39091d757f58f0cd7"), looks := false }, kinds := [], alts := [], laidByText := true, laidKinds := [.data, .data, .data], laidTests := true, laidLooks := .later }
def DigraphComponentsCardSaid : Prop := Claim7.holds Tryd.pinned (.plain (OpenSpec.ofChange digraphComponentsSpec)) digraphComponentsCard

/-- THE TIED CARD OF 'bandplanlaw09.DigraphOrders'. -/
def digraphOrdersCard : Claim7 := { stood := { row := digraphOrdersRow, standIns := [], harness := (true, "dec048aedef4f191fc220134fd400c69f28150d87cfbdac39091d757f58f0cd7"), looks := false }, kinds := [], alts := [], laidByText := true, laidKinds := [.data, .data, .data], laidTests := true, laidLooks := .later }
def DigraphOrdersCardSaid : Prop := Claim7.holds Tryd.pinned (.plain (OpenSpec.ofChange digraphOrdersSpec)) digraphOrdersCard

/-- THE TIED CARD OF 'bandplanlaw09.DigraphPaths'. -/
def digraphPathsCard : Claim7 := { stood := { row := digraphPathsRow, standIns := [], harness := (true, "dec048aedef4f191fc220134fd400c69f28150d87cfbdac39091d757f58f0cd7"), looks := false }, kinds := [], alts := [], laidByText := true, laidKinds := [.data, .data, .data], laidTests := true, laidLooks := .later }
def DigraphPathsCardSaid : Prop := Claim7.holds Tryd.pinned (.plain (OpenSpec.ofChange digraphPathsSpec)) digraphPathsCard

/-- THE TIED CARD OF 'bandplanlaw09.DigraphTheory'. -/
def digraphTheoryCard : Claim7 := { stood := { row := digraphTheoryRow, standIns := [], harness := (true, "dec048aedef4f191fc220134fd400c69f28150d87cfbdac39091d757f58f0cd7"), looks := false }, kinds := [], alts := [], laidByText := true, laidKinds := [.data, .data, .data], laidTests := true, laidLooks := .later }
def DigraphTheoryCardSaid : Prop := Claim7.holds Tryd.pinned (.plain (OpenSpec.ofChange digraphTheorySpec)) digraphTheoryCard

/-- THE TIED CARD OF 'bandplanlaw09.DigraphCopies'. -/
def digraphCopiesCard : Claim7 := { stood := { row := digraphCopiesRow, standIns := [], harness := (true, "dec048aedef4f191fc220134fd400c69f28150d87cfbdac39091d757f58f0cd7"), looks := false }, kinds := [], alts := [], laidByText := true, laidKinds := [.data, .data, .data], laidTests := true, laidLooks := .later }
def DigraphCopiesCardSaid : Prop := Claim7.holds Tryd.pinned (.plain (OpenSpec.ofChange digraphCopiesSpec)) digraphCopiesCard

/-- THE TIED CARD OF 'bandplanlaw09.DigraphNone'. -/
def digraphNoneCard : Claim7 := { stood := { row := digraphNoneRow, standIns := [], harness := (true, "dec048aedef4f191fc220134fd400c69f28150d87cfbdac39091d757f58f0cd7"), looks := false }, kinds := [], alts := [], laidByText := true, laidKinds := [.data, .data, .data], laidTests := true, laidLooks := .later }
def DigraphNoneCardSaid : Prop := Claim7.holds Tryd.pinned (.plain (OpenSpec.ofChange digraphNoneSpec)) digraphNoneCard

/-- THE SECOND FORM's CARD OF 'bandplanlaw09.DigraphAdds'. -/
def digraphAddsUptoCard : Claim7 := { stood := { row := digraphAddsUptoRow, standIns := [], harness := (true, "dec048aedef4f191fc220134fd400c69f28150d87cfbdac39091d757f58f0cd7"), looks := false }, kinds := [], alts := [], laidByText := true, laidKinds := [.data, .data, .data], laidTests := true, laidLooks := .later }
def DigraphAddsUptoCardSaid : Prop := Claim7.holds Tryd.pinned (.plain (OpenSpec.upto digraphAddsSpec)) digraphAddsUptoCard

/-- THE SECOND FORM's CARD OF 'bandplanlaw09.DigraphReaches'. -/
def digraphReachesUptoCard : Claim7 := { stood := { row := digraphReachesUptoRow, standIns := [], harness := (true, "dec048aedef4f191fc220134fd400c69f28150d87cfbdac39091d757f58f0cd7"), looks := false }, kinds := [], alts := [], laidByText := true, laidKinds := [.data, .data, .data], laidTests := true, laidLooks := .later }
def DigraphReachesUptoCardSaid : Prop := Claim7.holds Tryd.pinned (.plain (OpenSpec.upto digraphReachesSpec)) digraphReachesUptoCard

/-- THE SECOND FORM's CARD OF 'bandplanlaw09.DigraphComponents'. -/
def digraphComponentsUptoCard : Claim7 := { stood := { row := digraphComponentsUptoRow, standIns := [], harness := (true, "dec048aedef4f191fc220134fd400c69f28150d87cfbdac39091d757f58f0cd7"), looks := false }, kinds := [], alts := [], laidByText := true, laidKinds := [.data, .data, .data], laidTests := true, laidLooks := .later }
def DigraphComponentsUptoCardSaid : Prop := Claim7.holds Tryd.pinned (.plain (OpenSpec.upto digraphComponentsSpec)) digraphComponentsUptoCard

/-- THE SECOND FORM's CARD OF 'bandplanlaw09.DigraphOrders'. -/
def digraphOrdersUptoCard : Claim7 := { stood := { row := digraphOrdersUptoRow, standIns := [], harness := (true, "dec048aedef4f191fc220134fd400c69f28150d87cfbdac39091d757f58f0cd7"), looks := false }, kinds := [], alts := [], laidByText := true, laidKinds := [.data, .data, .data], laidTests := true, laidLooks := .later }
def DigraphOrdersUptoCardSaid : Prop := Claim7.holds Tryd.pinned (.plain (OpenSpec.upto digraphOrdersSpec)) digraphOrdersUptoCard

/-- THE SECOND FORM's CARD OF 'bandplanlaw09.DigraphPaths'. -/
def digraphPathsUptoCard : Claim7 := { stood := { row := digraphPathsUptoRow, standIns := [], harness := (true, "dec048aedef4f191fc220134fd400c69f28150d87cfbdac39091d757f58f0cd7"), looks := false }, kinds := [], alts := [], laidByText := true, laidKinds := [.data, .data, .data], laidTests := true, laidLooks := .later }
def DigraphPathsUptoCardSaid : Prop := Claim7.holds Tryd.pinned (.plain (OpenSpec.upto digraphPathsSpec)) digraphPathsUptoCard

/-- THE SECOND FORM's CARD OF 'bandplanlaw09.DigraphTheory'. -/
def digraphTheoryUptoCard : Claim7 := { stood := { row := digraphTheoryUptoRow, standIns := [], harness := (true, "dec048aedef4f191fc220134fd400c69f28150d87cfbdac39091d757f58f0cd7"), looks := false }, kinds := [], alts := [], laidByText := true, laidKinds := [.data, .data, .data], laidTests := true, laidLooks := .later }
def DigraphTheoryUptoCardSaid : Prop := Claim7.holds Tryd.pinned (.plain (OpenSpec.upto digraphTheorySpec)) digraphTheoryUptoCard

/-- THE SECOND FORM's CARD OF 'bandplanlaw09.DigraphCopies'. -/
def digraphCopiesUptoCard : Claim7 := { stood := { row := digraphCopiesUptoRow, standIns := [], harness := (true, "dec048aedef4f191fc220134fd400c69f28150d87cfbdac39091d757f58f0cd7"), looks := false }, kinds := [], alts := [], laidByText := true, laidKinds := [.data, .data, .data], laidTests := true, laidLooks := .later }
def DigraphCopiesUptoCardSaid : Prop := Claim7.holds Tryd.pinned (.plain (OpenSpec.upto digraphCopiesSpec)) digraphCopiesUptoCard

/-- THE SECOND FORM's CARD OF 'bandplanlaw09.DigraphNone'. -/
def digraphNoneUptoCard : Claim7 := { stood := { row := digraphNoneUptoRow, standIns := [], harness := (true, "dec048aedef4f191fc220134fd400c69f28150d87cfbdac39091d757f58f0cd7"), looks := false }, kinds := [], alts := [], laidByText := true, laidKinds := [.data, .data, .data], laidTests := true, laidLooks := .later }
def DigraphNoneUptoCardSaid : Prop := Claim7.holds Tryd.pinned (.plain (OpenSpec.upto digraphNoneSpec)) digraphNoneUptoCard
end Rows
end Go.Proofs.YtpaakgngoocjeaaDoor
