/-
  DERIVED. GIVEN WITH THE SEED: THE CARDS: each row of YtpgomblalmnonaaDoorRows.lean that lists a variable, with what it lists TIED to the program's text (the seventh form; the later family's looks); each row that meets fmt, with fmt's text TOLD by the authors' own Lean function (tested against real Go, not proved from fmt's source: count such statements apart). THE CARD IS WHAT COUNTS. Prove the row's statement (the work); the ties are given (YtpgomblalmnonaaDoorTie.lean); close each card by the builder's one call (the guide's Derived/Test/ToyasCard.lean, 'card_holds'). Laid BY PROGRAM, IN A SANDBOX (cutbox-door.mjs). By AI agents, Wed Nov 11 2026. No macro, syntax, notation, axiom, sorry.
-/
import Derived.Test.YtpgomblalmnonaaDoorRows
import GoSem.ClaimSeven
namespace Go.Proofs.YtpgomblalmnonaaDoor
namespace Rows

/-- THE TIED CARD OF 'bandplanlaw33.ProductCategory'. -/
def productCategoryCard : Claim7 := { stood := { row := productCategoryRow, standIns := [], harness := (true, "99b0a6eeb5f712185567425eb08b9b8cd25ece7f1515afd70c80bd1073e70de0"), looks := false }, kinds := [], alts := [], laidByText := true, laidKinds := [.data, .data, .data], laidTests := true, laidLooks := .later }
def ProductCategoryCardSaid : Prop := Claim7.holds Tryd.pinned (.plain (OpenSpec.ofChange productCategorySpec)) productCategoryCard

/-- THE TIED CARD OF 'bandplanlaw33.ProductCatalogue'. -/
def productCatalogueCard : Claim7 := { stood := { row := productCatalogueRow, standIns := [], harness := (true, "99b0a6eeb5f712185567425eb08b9b8cd25ece7f1515afd70c80bd1073e70de0"), looks := false }, kinds := [], alts := [], laidByText := true, laidKinds := [.data, .data, .data], laidTests := true, laidLooks := .later }
def ProductCatalogueCardSaid : Prop := Claim7.holds Tryd.pinned (.plain (OpenSpec.ofChange productCatalogueSpec)) productCatalogueCard

/-- THE TIED CARD OF 'bandplanlaw33.ProductValid'. -/
def productValidCard : Claim7 := { stood := { row := productValidRow, standIns := [], harness := (true, "99b0a6eeb5f712185567425eb08b9b8cd25ece7f1515afd70c80bd1073e70de0"), looks := false }, kinds := [], alts := [], laidByText := true, laidKinds := [.data, .data, .data], laidTests := true, laidLooks := .later }
def ProductValidCardSaid : Prop := Claim7.holds Tryd.pinned (.plain (OpenSpec.ofChange productValidSpec)) productValidCard

/-- THE TIED CARD OF 'bandplanlaw33.ProductWorth'. -/
def productWorthCard : Claim7 := { stood := { row := productWorthRow, standIns := [], harness := (true, "99b0a6eeb5f712185567425eb08b9b8cd25ece7f1515afd70c80bd1073e70de0"), looks := false }, kinds := [], alts := [], laidByText := true, laidKinds := [.data, .data, .data], laidTests := true, laidLooks := .later }
def ProductWorthCardSaid : Prop := Claim7.holds Tryd.pinned (.plain (OpenSpec.ofChange productWorthSpec)) productWorthCard

/-- THE TIED CARD OF 'bandplanlaw33.ProductNames'. -/
def productNamesCard : Claim7 := { stood := { row := productNamesRow, standIns := [], harness := (true, "99b0a6eeb5f712185567425eb08b9b8cd25ece7f1515afd70c80bd1073e70de0"), looks := false }, kinds := [], alts := [], laidByText := true, laidKinds := [.data, .data, .data], laidTests := true, laidLooks := .later }
def ProductNamesCardSaid : Prop := Claim7.holds Tryd.pinned (.plain (OpenSpec.ofChange productNamesSpec)) productNamesCard

/-- THE TIED CARD OF 'bandplanlaw33.ProductFind'. -/
def productFindCard : Claim7 := { stood := { row := productFindRow, standIns := [], harness := (true, "99b0a6eeb5f712185567425eb08b9b8cd25ece7f1515afd70c80bd1073e70de0"), looks := false }, kinds := [], alts := [], laidByText := true, laidKinds := [.data, .data, .data], laidTests := true, laidLooks := .later }
def ProductFindCardSaid : Prop := Claim7.holds Tryd.pinned (.plain (OpenSpec.ofChange productFindSpec)) productFindCard

/-- THE TIED CARD OF 'bandplanlaw33.ProductHolds'. -/
def productHoldsCard : Claim7 := { stood := { row := productHoldsRow, standIns := [], harness := (true, "99b0a6eeb5f712185567425eb08b9b8cd25ece7f1515afd70c80bd1073e70de0"), looks := false }, kinds := [], alts := [], laidByText := true, laidKinds := [.data, .data, .data], laidTests := true, laidLooks := .later }
def ProductHoldsCardSaid : Prop := Claim7.holds Tryd.pinned (.plain (OpenSpec.ofChange productHoldsSpec)) productHoldsCard

/-- THE SECOND FORM's CARD OF 'bandplanlaw33.ProductCategory'. -/
def productCategoryUptoCard : Claim7 := { stood := { row := productCategoryUptoRow, standIns := [], harness := (true, "99b0a6eeb5f712185567425eb08b9b8cd25ece7f1515afd70c80bd1073e70de0"), looks := false }, kinds := [], alts := [], laidByText := true, laidKinds := [.data, .data, .data], laidTests := true, laidLooks := .later }
def ProductCategoryUptoCardSaid : Prop := Claim7.holds Tryd.pinned (.plain (OpenSpec.upto productCategorySpec)) productCategoryUptoCard

/-- THE SECOND FORM's CARD OF 'bandplanlaw33.ProductCatalogue'. -/
def productCatalogueUptoCard : Claim7 := { stood := { row := productCatalogueUptoRow, standIns := [], harness := (true, "99b0a6eeb5f712185567425eb08b9b8cd25ece7f1515afd70c80bd1073e70de0"), looks := false }, kinds := [], alts := [], laidByText := true, laidKinds := [.data, .data, .data], laidTests := true, laidLooks := .later }
def ProductCatalogueUptoCardSaid : Prop := Claim7.holds Tryd.pinned (.plain (OpenSpec.upto productCatalogueSpec)) productCatalogueUptoCard

/-- THE SECOND FORM's CARD OF 'bandplanlaw33.ProductValid'. -/
def productValidUptoCard : Claim7 := { stood := { row := productValidUptoRow, standIns := [], harness := (true, "99b0a6eeb5f712185567425eb08b9b8cd25ece7f1515afd70c80bd1073e70de0"), looks := false }, kinds := [], alts := [], laidByText := true, laidKinds := [.data, .data, .data], laidTests := true, laidLooks := .later }
def ProductValidUptoCardSaid : Prop := Claim7.holds Tryd.pinned (.plain (OpenSpec.upto productValidSpec)) productValidUptoCard

/-- THE SECOND FORM's CARD OF 'bandplanlaw33.ProductWorth'. -/
def productWorthUptoCard : Claim7 := { stood := { row := productWorthUptoRow, standIns := [], harness := (true, "99b0a6eeb5f712185567425eb08b9b8cd25ece7f1515afd70c80bd1073e70de0"), looks := false }, kinds := [], alts := [], laidByText := true, laidKinds := [.data, .data, .data], laidTests := true, laidLooks := .later }
def ProductWorthUptoCardSaid : Prop := Claim7.holds Tryd.pinned (.plain (OpenSpec.upto productWorthSpec)) productWorthUptoCard

/-- THE SECOND FORM's CARD OF 'bandplanlaw33.ProductNames'. -/
def productNamesUptoCard : Claim7 := { stood := { row := productNamesUptoRow, standIns := [], harness := (true, "99b0a6eeb5f712185567425eb08b9b8cd25ece7f1515afd70c80bd1073e70de0"), looks := false }, kinds := [], alts := [], laidByText := true, laidKinds := [.data, .data, .data], laidTests := true, laidLooks := .later }
def ProductNamesUptoCardSaid : Prop := Claim7.holds Tryd.pinned (.plain (OpenSpec.upto productNamesSpec)) productNamesUptoCard

/-- THE SECOND FORM's CARD OF 'bandplanlaw33.ProductFind'. -/
def productFindUptoCard : Claim7 := { stood := { row := productFindUptoRow, standIns := [], harness := (true, "99b0a6eeb5f712185567425eb08b9b8cd25ece7f1515afd70c80bd1073e70de0"), looks := false }, kinds := [], alts := [], laidByText := true, laidKinds := [.data, .data, .data], laidTests := true, laidLooks := .later }
def ProductFindUptoCardSaid : Prop := Claim7.holds Tryd.pinned (.plain (OpenSpec.upto productFindSpec)) productFindUptoCard

/-- THE SECOND FORM's CARD OF 'bandplanlaw33.ProductHolds'. -/
def productHoldsUptoCard : Claim7 := { stood := { row := productHoldsUptoRow, standIns := [], harness := (true, "99b0a6eeb5f712185567425eb08b9b8cd25ece7f1515afd70c80bd1073e70de0"), looks := false }, kinds := [], alts := [], laidByText := true, laidKinds := [.data, .data, .data], laidTests := true, laidLooks := .later }
def ProductHoldsUptoCardSaid : Prop := Claim7.holds Tryd.pinned (.plain (OpenSpec.upto productHoldsSpec)) productHoldsUptoCard
end Rows
end Go.Proofs.YtpgomblalmnonaaDoor
