/-
  NARROWER THAN 'FOR EVERY INPUT', by the rows' own cells (each row's printed sentence says how): ProductCategory: laid · ProductCatalogue: laid · ProductValid: laid · ProductWorth: laid · ProductNames: laid · ProductFind: laid · ProductHolds: laid.
  DERIVED. THE GIVEN ROWS OF THIS SEAT. 7 by the template 'for every input the law returns true; each argument reads behind the call as it read before'; 0 by the template 'total and deterministic' (their statements: YtpgomblalmnonaaDoorTotals.lean).
  GIVEN WITH THE SEED: the statements are not yours to turn. If you find one false, say at which input.
  Laid BY PROGRAM, IN A SANDBOX (cutbox-rows.mjs): the forced cells as the released guide's own fill.sh prints them over the translation 5f7b418eb8912b66… (all of the seat's roots in one cut). By AI agents, Wed Nov 11 2026. No macro, syntax, notation, axiom, sorry.
-/
import Derived.Test.YtpgomblalmnonaaDoorChecked
import GoSem.Claim
import GoSem.ClaimJoined
import GoSem.ClaimMapViews
import Derived.JoinedTies
import Derived.KernelRfl
namespace Go.Proofs.YtpgomblalmnonaaDoor
/- THE CELL 'sum', in the pinned program and in every row, IS THE sha256 OF THE DUMP (.gsa) THAT YtpgomblalmnonaaDoorProg.lean LOADS. Nothing in Lean hashes anything: it is a label: what it is worth is what the hold of that sum in a sandbox is worth. -/
noncomputable def Tryd.pinned : Pinned := { name := "ytpgomblalmnonaadoor", sum := "5f7b418eb8912b66b7f7891dc35d58747550f4ceaec6d1ea72636e88dfec541e", checked := Tryd.checked }
namespace Rows
def none {H : Type} : Left H := { results := [], args := [] }

/- WHAT THE LISTED PACKAGE-LEVEL VARIABLES READ AS WHEN THE CALL BEGINS. Each datum BY PROGRAM (the guide's laid-datum.mjs) off the statement by which the dump's own 'gosem.cut.vars' lays the variable. In a bare row this is a premise. The card (YtpgomblalmnonaaDoorCards.lean) ties it to the program's text. -/
def laid_math_bits_deBruijn32tab {H : Type} : DataW H := .agg [.lit (.int .u8 0), .lit (.int .u8 1), .lit (.int .u8 28), .lit (.int .u8 2), .lit (.int .u8 29), .lit (.int .u8 14), .lit (.int .u8 24), .lit (.int .u8 3), .lit (.int .u8 30), .lit (.int .u8 22), .lit (.int .u8 20), .lit (.int .u8 15), .lit (.int .u8 25), .lit (.int .u8 17), .lit (.int .u8 4), .lit (.int .u8 8), .lit (.int .u8 31), .lit (.int .u8 27), .lit (.int .u8 13), .lit (.int .u8 23), .lit (.int .u8 21), .lit (.int .u8 19), .lit (.int .u8 16), .lit (.int .u8 7), .lit (.int .u8 26), .lit (.int .u8 12), .lit (.int .u8 18), .lit (.int .u8 6), .lit (.int .u8 11), .lit (.int .u8 5), .lit (.int .u8 10), .lit (.int .u8 9)]
def laid_math_bits_deBruijn64tab {H : Type} : DataW H := .agg [.lit (.int .u8 0), .lit (.int .u8 1), .lit (.int .u8 56), .lit (.int .u8 2), .lit (.int .u8 57), .lit (.int .u8 49), .lit (.int .u8 28), .lit (.int .u8 3), .lit (.int .u8 61), .lit (.int .u8 58), .lit (.int .u8 42), .lit (.int .u8 50), .lit (.int .u8 38), .lit (.int .u8 29), .lit (.int .u8 17), .lit (.int .u8 4), .lit (.int .u8 62), .lit (.int .u8 47), .lit (.int .u8 59), .lit (.int .u8 36), .lit (.int .u8 45), .lit (.int .u8 43), .lit (.int .u8 51), .lit (.int .u8 22), .lit (.int .u8 53), .lit (.int .u8 39), .lit (.int .u8 33), .lit (.int .u8 30), .lit (.int .u8 24), .lit (.int .u8 18), .lit (.int .u8 12), .lit (.int .u8 5), .lit (.int .u8 63), .lit (.int .u8 55), .lit (.int .u8 48), .lit (.int .u8 27), .lit (.int .u8 60), .lit (.int .u8 41), .lit (.int .u8 37), .lit (.int .u8 16), .lit (.int .u8 46), .lit (.int .u8 35), .lit (.int .u8 44), .lit (.int .u8 21), .lit (.int .u8 52), .lit (.int .u8 32), .lit (.int .u8 23), .lit (.int .u8 11), .lit (.int .u8 54), .lit (.int .u8 26), .lit (.int .u8 40), .lit (.int .u8 15), .lit (.int .u8 34), .lit (.int .u8 20), .lit (.int .u8 31), .lit (.int .u8 10), .lit (.int .u8 25), .lit (.int .u8 14), .lit (.int .u8 19), .lit (.int .u8 9), .lit (.int .u8 13), .lit (.int .u8 8), .lit (.int .u8 7), .lit (.int .u8 6)]
def laid_internal_strconv_uint64pow10 {H : Type} : DataW H := .agg [.lit (.int .u64 1), .lit (.int .u64 10), .lit (.int .u64 100), .lit (.int .u64 1000), .lit (.int .u64 10000), .lit (.int .u64 100000), .lit (.int .u64 1000000), .lit (.int .u64 10000000), .lit (.int .u64 100000000), .lit (.int .u64 1000000000), .lit (.int .u64 10000000000), .lit (.int .u64 100000000000), .lit (.int .u64 1000000000000), .lit (.int .u64 10000000000000), .lit (.int .u64 100000000000000), .lit (.int .u64 1000000000000000), .lit (.int .u64 10000000000000000), .lit (.int .u64 100000000000000000), .lit (.int .u64 1000000000000000000), .lit (.int .u64 10000000000000000000)]

/-- 'bandplanlaw33.ProductCategory': WHATEVER THE INPUT: true; the input reads as it did. -/
def productCategorySpec : ChangeSpec := { name := "productCategory", fn := fun _ => fun
  | [d1, d2] => { results := [.lit (.bool true)], args := [d1, d2] }
  | _ => none }
def productCategoryRow : OpenClaim := { program := "ytpgomblalmnonaadoor", sum := "5f7b418eb8912b66b7f7891dc35d58747550f4ceaec6d1ea72636e88dfec541e", func := "bandplan/bandplanlaw33.ProductCategory", spec := "productCategory", unfollowed := true, recurses := true, named := ["internal/strconv.uint64pow10", "math/bits.deBruijn32tab", "math/bits.deBruijn64tab"], plainKeys := false, apart := false, laid := [("math/bits.deBruijn32tab", laid_math_bits_deBruijn32tab), ("math/bits.deBruijn64tab", laid_math_bits_deBruijn64tab), ("internal/strconv.uint64pow10", laid_internal_strconv_uint64pow10)] }
def ProductCategorySaid : Prop := productCategoryRow.holds Tryd.pinned (OpenSpec.ofChange productCategorySpec)

/-- ITS FALSE NEIGHBOUR: 'it returns false'. Refute it at one input. -/
def productCategoryWrong : ChangeSpec := { name := "productCategory", fn := fun _ => fun
  | [d1, d2] => { results := [.lit (.bool false)], args := [d1, d2] }
  | _ => none }
def ProductCategoryWrongFalsely : Prop := productCategoryRow.holds Tryd.pinned (OpenSpec.ofChange productCategoryWrong)

/-- 'bandplanlaw33.ProductCatalogue': WHATEVER THE INPUT: true; the input reads as it did. -/
def productCatalogueSpec : ChangeSpec := { name := "productCatalogue", fn := fun _ => fun
  | [d1, d2, d3, d4] => { results := [.lit (.bool true)], args := [d1, d2, d3, d4] }
  | _ => none }
def productCatalogueRow : OpenClaim := { program := "ytpgomblalmnonaadoor", sum := "5f7b418eb8912b66b7f7891dc35d58747550f4ceaec6d1ea72636e88dfec541e", func := "bandplan/bandplanlaw33.ProductCatalogue", spec := "productCatalogue", unfollowed := true, recurses := true, named := ["internal/strconv.uint64pow10", "math/bits.deBruijn32tab", "math/bits.deBruijn64tab"], plainKeys := false, apart := false, laid := [("math/bits.deBruijn32tab", laid_math_bits_deBruijn32tab), ("math/bits.deBruijn64tab", laid_math_bits_deBruijn64tab), ("internal/strconv.uint64pow10", laid_internal_strconv_uint64pow10)] }
def ProductCatalogueSaid : Prop := productCatalogueRow.holds Tryd.pinned (OpenSpec.ofChange productCatalogueSpec)

/-- ITS FALSE NEIGHBOUR: 'it returns false'. Refute it at one input. -/
def productCatalogueWrong : ChangeSpec := { name := "productCatalogue", fn := fun _ => fun
  | [d1, d2, d3, d4] => { results := [.lit (.bool false)], args := [d1, d2, d3, d4] }
  | _ => none }
def ProductCatalogueWrongFalsely : Prop := productCatalogueRow.holds Tryd.pinned (OpenSpec.ofChange productCatalogueWrong)

/-- 'bandplanlaw33.ProductValid': WHATEVER THE INPUT: true; the input reads as it did. -/
def productValidSpec : ChangeSpec := { name := "productValid", fn := fun _ => fun
  | [d] => { results := [.lit (.bool true)], args := [d] }
  | _ => none }
def productValidRow : OpenClaim := { program := "ytpgomblalmnonaadoor", sum := "5f7b418eb8912b66b7f7891dc35d58747550f4ceaec6d1ea72636e88dfec541e", func := "bandplan/bandplanlaw33.ProductValid", spec := "productValid", unfollowed := true, recurses := true, named := ["internal/strconv.uint64pow10", "math/bits.deBruijn32tab", "math/bits.deBruijn64tab"], plainKeys := false, apart := false, laid := [("math/bits.deBruijn32tab", laid_math_bits_deBruijn32tab), ("math/bits.deBruijn64tab", laid_math_bits_deBruijn64tab), ("internal/strconv.uint64pow10", laid_internal_strconv_uint64pow10)] }
def ProductValidSaid : Prop := productValidRow.holds Tryd.pinned (OpenSpec.ofChange productValidSpec)

/-- ITS FALSE NEIGHBOUR: 'it returns false'. Refute it at one input. -/
def productValidWrong : ChangeSpec := { name := "productValid", fn := fun _ => fun
  | [d] => { results := [.lit (.bool false)], args := [d] }
  | _ => none }
def ProductValidWrongFalsely : Prop := productValidRow.holds Tryd.pinned (OpenSpec.ofChange productValidWrong)

/-- 'bandplanlaw33.ProductWorth': WHATEVER THE INPUT: true; the input reads as it did. -/
def productWorthSpec : ChangeSpec := { name := "productWorth", fn := fun _ => fun
  | [d] => { results := [.lit (.bool true)], args := [d] }
  | _ => none }
def productWorthRow : OpenClaim := { program := "ytpgomblalmnonaadoor", sum := "5f7b418eb8912b66b7f7891dc35d58747550f4ceaec6d1ea72636e88dfec541e", func := "bandplan/bandplanlaw33.ProductWorth", spec := "productWorth", unfollowed := true, recurses := true, named := ["internal/strconv.uint64pow10", "math/bits.deBruijn32tab", "math/bits.deBruijn64tab"], plainKeys := false, apart := false, laid := [("math/bits.deBruijn32tab", laid_math_bits_deBruijn32tab), ("math/bits.deBruijn64tab", laid_math_bits_deBruijn64tab), ("internal/strconv.uint64pow10", laid_internal_strconv_uint64pow10)] }
def ProductWorthSaid : Prop := productWorthRow.holds Tryd.pinned (OpenSpec.ofChange productWorthSpec)

/-- ITS FALSE NEIGHBOUR: 'it returns false'. Refute it at one input. -/
def productWorthWrong : ChangeSpec := { name := "productWorth", fn := fun _ => fun
  | [d] => { results := [.lit (.bool false)], args := [d] }
  | _ => none }
def ProductWorthWrongFalsely : Prop := productWorthRow.holds Tryd.pinned (OpenSpec.ofChange productWorthWrong)

/-- 'bandplanlaw33.ProductNames': WHATEVER THE INPUT: true; the input reads as it did. -/
def productNamesSpec : ChangeSpec := { name := "productNames", fn := fun _ => fun
  | [d1, d2] => { results := [.lit (.bool true)], args := [d1, d2] }
  | _ => none }
def productNamesRow : OpenClaim := { program := "ytpgomblalmnonaadoor", sum := "5f7b418eb8912b66b7f7891dc35d58747550f4ceaec6d1ea72636e88dfec541e", func := "bandplan/bandplanlaw33.ProductNames", spec := "productNames", unfollowed := true, recurses := true, named := ["internal/strconv.uint64pow10", "math/bits.deBruijn32tab", "math/bits.deBruijn64tab"], plainKeys := false, apart := false, laid := [("math/bits.deBruijn32tab", laid_math_bits_deBruijn32tab), ("math/bits.deBruijn64tab", laid_math_bits_deBruijn64tab), ("internal/strconv.uint64pow10", laid_internal_strconv_uint64pow10)] }
def ProductNamesSaid : Prop := productNamesRow.holds Tryd.pinned (OpenSpec.ofChange productNamesSpec)

/-- ITS FALSE NEIGHBOUR: 'it returns false'. Refute it at one input. -/
def productNamesWrong : ChangeSpec := { name := "productNames", fn := fun _ => fun
  | [d1, d2] => { results := [.lit (.bool false)], args := [d1, d2] }
  | _ => none }
def ProductNamesWrongFalsely : Prop := productNamesRow.holds Tryd.pinned (OpenSpec.ofChange productNamesWrong)

/-- 'bandplanlaw33.ProductFind': WHATEVER THE INPUT: true; the input reads as it did. -/
def productFindSpec : ChangeSpec := { name := "productFind", fn := fun _ => fun
  | [d1, d2, d3] => { results := [.lit (.bool true)], args := [d1, d2, d3] }
  | _ => none }
def productFindRow : OpenClaim := { program := "ytpgomblalmnonaadoor", sum := "5f7b418eb8912b66b7f7891dc35d58747550f4ceaec6d1ea72636e88dfec541e", func := "bandplan/bandplanlaw33.ProductFind", spec := "productFind", unfollowed := true, recurses := true, named := ["internal/strconv.uint64pow10", "math/bits.deBruijn32tab", "math/bits.deBruijn64tab"], plainKeys := false, apart := false, laid := [("math/bits.deBruijn32tab", laid_math_bits_deBruijn32tab), ("math/bits.deBruijn64tab", laid_math_bits_deBruijn64tab), ("internal/strconv.uint64pow10", laid_internal_strconv_uint64pow10)] }
def ProductFindSaid : Prop := productFindRow.holds Tryd.pinned (OpenSpec.ofChange productFindSpec)

/-- ITS FALSE NEIGHBOUR: 'it returns false'. Refute it at one input. -/
def productFindWrong : ChangeSpec := { name := "productFind", fn := fun _ => fun
  | [d1, d2, d3] => { results := [.lit (.bool false)], args := [d1, d2, d3] }
  | _ => none }
def ProductFindWrongFalsely : Prop := productFindRow.holds Tryd.pinned (OpenSpec.ofChange productFindWrong)

/-- 'bandplanlaw33.ProductHolds': WHATEVER THE INPUT: true; the input reads as it did. -/
def productHoldsSpec : ChangeSpec := { name := "productHolds", fn := fun _ => fun
  | [d1, d2, d3, d4, d5] => { results := [.lit (.bool true)], args := [d1, d2, d3, d4, d5] }
  | _ => none }
def productHoldsRow : OpenClaim := { program := "ytpgomblalmnonaadoor", sum := "5f7b418eb8912b66b7f7891dc35d58747550f4ceaec6d1ea72636e88dfec541e", func := "bandplan/bandplanlaw33.ProductHolds", spec := "productHolds", unfollowed := true, recurses := true, named := ["internal/strconv.uint64pow10", "math/bits.deBruijn32tab", "math/bits.deBruijn64tab"], plainKeys := false, apart := false, laid := [("math/bits.deBruijn32tab", laid_math_bits_deBruijn32tab), ("math/bits.deBruijn64tab", laid_math_bits_deBruijn64tab), ("internal/strconv.uint64pow10", laid_internal_strconv_uint64pow10)] }
def ProductHoldsSaid : Prop := productHoldsRow.holds Tryd.pinned (OpenSpec.ofChange productHoldsSpec)

/-- ITS FALSE NEIGHBOUR: 'it returns false'. Refute it at one input. -/
def productHoldsWrong : ChangeSpec := { name := "productHolds", fn := fun _ => fun
  | [d1, d2, d3, d4, d5] => { results := [.lit (.bool false)], args := [d1, d2, d3, d4, d5] }
  | _ => none }
def ProductHoldsWrongFalsely : Prop := productHoldsRow.holds Tryd.pinned (OpenSpec.ofChange productHoldsWrong)

/- THE SECOND FORM. 'bulk': how many values and letters a reading holds, each counted each time it is reached (what is shared counts as often as it is met; a slice's spare places count too). A statement '..UptoSaid' is the law's where the arguments, and the package variables that the reading takes, are together of bulk at most 1048576: NARROWER than '..Said'. Prove '..Said' where nothing that the law and all that it calls make is longer than what came in: it says more and counts as full. Else prove '..UptoSaid'. A law counts once. -/
mutual
def uptoBulk {H : Type} : DataW H → Nat
  | .lit (.string bytes) => bytes.length + 1
  | .lit _ => 1
  | .nil => 1
  | .ptr d => uptoBulk d + 1
  | .slice elems spare => uptoBulkAll elems + uptoBulkAll spare + 1
  | .agg parts => uptoBulkAll parts + 1
  | .iface _ d => uptoBulk d + 1
  | .map entries => uptoBulkEntries entries + 1
  | .held _ => 1
def uptoBulkAll {H : Type} : List (DataW H) → Nat
  | [] => 0
  | d :: r => uptoBulk d + uptoBulkAll r
def uptoBulkEntries {H : Type} : List (Lit × DataW H) → Nat
  | [] => 0
  | x :: r => uptoBulkEntry x + uptoBulkEntries r
def uptoBulkEntry {H : Type} : Lit × DataW H → Nat
  | (.string bytes, d) => bytes.length + uptoBulk d + 1
  | (_, d) => uptoBulk d + 1
 end
def uptoSmall : (H : Type) → List (DataW H) → Bool := fun _ ds => decide (uptoBulkAll ds ≤ 1048576)
def OpenSpec.upto (s : _root_.Go.ChangeSpec) : _root_.Go.OpenSpec := { _root_.Go.OpenSpec.ofChange s with cond := some uptoSmall }

/-- 'bandplanlaw33.ProductCategory', WHERE WHAT IT READS IS OF BULK AT MOST 1048576: true; the input reads as it did. -/
def productCategoryUptoRow : OpenClaim := { program := "ytpgomblalmnonaadoor", sum := "5f7b418eb8912b66b7f7891dc35d58747550f4ceaec6d1ea72636e88dfec541e", func := "bandplan/bandplanlaw33.ProductCategory", spec := "productCategory", unfollowed := true, recurses := true, named := ["internal/strconv.uint64pow10", "math/bits.deBruijn32tab", "math/bits.deBruijn64tab"], plainKeys := false, apart := false, laid := [("math/bits.deBruijn32tab", laid_math_bits_deBruijn32tab), ("math/bits.deBruijn64tab", laid_math_bits_deBruijn64tab), ("internal/strconv.uint64pow10", laid_internal_strconv_uint64pow10)], narrowed := true }
def ProductCategoryUptoSaid : Prop := productCategoryUptoRow.holds Tryd.pinned (OpenSpec.upto productCategorySpec)

/-- 'bandplanlaw33.ProductCatalogue', WHERE WHAT IT READS IS OF BULK AT MOST 1048576: true; the input reads as it did. -/
def productCatalogueUptoRow : OpenClaim := { program := "ytpgomblalmnonaadoor", sum := "5f7b418eb8912b66b7f7891dc35d58747550f4ceaec6d1ea72636e88dfec541e", func := "bandplan/bandplanlaw33.ProductCatalogue", spec := "productCatalogue", unfollowed := true, recurses := true, named := ["internal/strconv.uint64pow10", "math/bits.deBruijn32tab", "math/bits.deBruijn64tab"], plainKeys := false, apart := false, laid := [("math/bits.deBruijn32tab", laid_math_bits_deBruijn32tab), ("math/bits.deBruijn64tab", laid_math_bits_deBruijn64tab), ("internal/strconv.uint64pow10", laid_internal_strconv_uint64pow10)], narrowed := true }
def ProductCatalogueUptoSaid : Prop := productCatalogueUptoRow.holds Tryd.pinned (OpenSpec.upto productCatalogueSpec)

/-- 'bandplanlaw33.ProductValid', WHERE WHAT IT READS IS OF BULK AT MOST 1048576: true; the input reads as it did. -/
def productValidUptoRow : OpenClaim := { program := "ytpgomblalmnonaadoor", sum := "5f7b418eb8912b66b7f7891dc35d58747550f4ceaec6d1ea72636e88dfec541e", func := "bandplan/bandplanlaw33.ProductValid", spec := "productValid", unfollowed := true, recurses := true, named := ["internal/strconv.uint64pow10", "math/bits.deBruijn32tab", "math/bits.deBruijn64tab"], plainKeys := false, apart := false, laid := [("math/bits.deBruijn32tab", laid_math_bits_deBruijn32tab), ("math/bits.deBruijn64tab", laid_math_bits_deBruijn64tab), ("internal/strconv.uint64pow10", laid_internal_strconv_uint64pow10)], narrowed := true }
def ProductValidUptoSaid : Prop := productValidUptoRow.holds Tryd.pinned (OpenSpec.upto productValidSpec)

/-- 'bandplanlaw33.ProductWorth', WHERE WHAT IT READS IS OF BULK AT MOST 1048576: true; the input reads as it did. -/
def productWorthUptoRow : OpenClaim := { program := "ytpgomblalmnonaadoor", sum := "5f7b418eb8912b66b7f7891dc35d58747550f4ceaec6d1ea72636e88dfec541e", func := "bandplan/bandplanlaw33.ProductWorth", spec := "productWorth", unfollowed := true, recurses := true, named := ["internal/strconv.uint64pow10", "math/bits.deBruijn32tab", "math/bits.deBruijn64tab"], plainKeys := false, apart := false, laid := [("math/bits.deBruijn32tab", laid_math_bits_deBruijn32tab), ("math/bits.deBruijn64tab", laid_math_bits_deBruijn64tab), ("internal/strconv.uint64pow10", laid_internal_strconv_uint64pow10)], narrowed := true }
def ProductWorthUptoSaid : Prop := productWorthUptoRow.holds Tryd.pinned (OpenSpec.upto productWorthSpec)

/-- 'bandplanlaw33.ProductNames', WHERE WHAT IT READS IS OF BULK AT MOST 1048576: true; the input reads as it did. -/
def productNamesUptoRow : OpenClaim := { program := "ytpgomblalmnonaadoor", sum := "5f7b418eb8912b66b7f7891dc35d58747550f4ceaec6d1ea72636e88dfec541e", func := "bandplan/bandplanlaw33.ProductNames", spec := "productNames", unfollowed := true, recurses := true, named := ["internal/strconv.uint64pow10", "math/bits.deBruijn32tab", "math/bits.deBruijn64tab"], plainKeys := false, apart := false, laid := [("math/bits.deBruijn32tab", laid_math_bits_deBruijn32tab), ("math/bits.deBruijn64tab", laid_math_bits_deBruijn64tab), ("internal/strconv.uint64pow10", laid_internal_strconv_uint64pow10)], narrowed := true }
def ProductNamesUptoSaid : Prop := productNamesUptoRow.holds Tryd.pinned (OpenSpec.upto productNamesSpec)

/-- 'bandplanlaw33.ProductFind', WHERE WHAT IT READS IS OF BULK AT MOST 1048576: true; the input reads as it did. -/
def productFindUptoRow : OpenClaim := { program := "ytpgomblalmnonaadoor", sum := "5f7b418eb8912b66b7f7891dc35d58747550f4ceaec6d1ea72636e88dfec541e", func := "bandplan/bandplanlaw33.ProductFind", spec := "productFind", unfollowed := true, recurses := true, named := ["internal/strconv.uint64pow10", "math/bits.deBruijn32tab", "math/bits.deBruijn64tab"], plainKeys := false, apart := false, laid := [("math/bits.deBruijn32tab", laid_math_bits_deBruijn32tab), ("math/bits.deBruijn64tab", laid_math_bits_deBruijn64tab), ("internal/strconv.uint64pow10", laid_internal_strconv_uint64pow10)], narrowed := true }
def ProductFindUptoSaid : Prop := productFindUptoRow.holds Tryd.pinned (OpenSpec.upto productFindSpec)

/-- 'bandplanlaw33.ProductHolds', WHERE WHAT IT READS IS OF BULK AT MOST 1048576: true; the input reads as it did. -/
def productHoldsUptoRow : OpenClaim := { program := "ytpgomblalmnonaadoor", sum := "5f7b418eb8912b66b7f7891dc35d58747550f4ceaec6d1ea72636e88dfec541e", func := "bandplan/bandplanlaw33.ProductHolds", spec := "productHolds", unfollowed := true, recurses := true, named := ["internal/strconv.uint64pow10", "math/bits.deBruijn32tab", "math/bits.deBruijn64tab"], plainKeys := false, apart := false, laid := [("math/bits.deBruijn32tab", laid_math_bits_deBruijn32tab), ("math/bits.deBruijn64tab", laid_math_bits_deBruijn64tab), ("internal/strconv.uint64pow10", laid_internal_strconv_uint64pow10)], narrowed := true }
def ProductHoldsUptoSaid : Prop := productHoldsUptoRow.holds Tryd.pinned (OpenSpec.upto productHoldsSpec)

end Rows
end Go.Proofs.YtpgomblalmnonaaDoor
