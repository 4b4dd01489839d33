/-
  NARROWER THAN 'FOR EVERY INPUT', by the rows' own cells (each row's printed sentence says how): BitsetAll: laid · BitsetBelow: laid · BitsetReads: laid · BitsetOf: laid · BitsetDecodes: laid · BitsetMembers: laid · BitsetPairs: laid · BitsetAlgebra: laid.
  DERIVED. THE GIVEN ROWS OF THIS SEAT. 8 by the template 'for every input the law returns true; each argument reads behind the call as it read before'; 0 by the template 'total and deterministic' (their statements: YtencbmgjdiillaaDoorTotals.lean).
  GIVEN WITH THE SEED: the statements are not yours to turn. If you find one false, say at which input.
  Laid BY PROGRAM, IN A SANDBOX (cutbox-rows.mjs): the forced cells as the released guide's own fill.sh prints them over the translation 8aec3b6cff723e92… (all of the seat's roots in one cut). By AI agents, Wed Nov 11 2026. No macro, syntax, notation, axiom, sorry.
-/
import Derived.Test.YtencbmgjdiillaaDoorChecked
import GoSem.Claim
import GoSem.ClaimJoined
import GoSem.ClaimMapViews
import Derived.JoinedTies
import Derived.KernelRfl
namespace Go.Proofs.YtencbmgjdiillaaDoor
/- THE CELL 'sum', in the pinned program and in every row, IS THE sha256 OF THE DUMP (.gsa) THAT YtencbmgjdiillaaDoorProg.lean LOADS. Nothing in Lean hashes anything: it is a label: what it is worth is what the hold of that sum in a sandbox is worth. -/
noncomputable def Tryd.pinned : Pinned := { name := "ytencbmgjdiillaadoor", sum := "8aec3b6cff723e9223d8ab2dee2090621a109fe6ecec56336702cf46fec24bc5", checked := Tryd.checked }
namespace Rows
def none {H : Type} : Left H := { results := [], args := [] }

/- WHAT THE LISTED PACKAGE-LEVEL VARIABLES READ AS WHEN THE CALL BEGINS. Each datum BY PROGRAM (the guide's laid-datum.mjs) off the statement by which the dump's own 'gosem.cut.vars' lays the variable. In a bare row this is a premise. The card (YtencbmgjdiillaaDoorCards.lean) ties it to the program's text. -/
def laid_math_bits_deBruijn32tab {H : Type} : DataW H := .agg [.lit (.int .u8 0), .lit (.int .u8 1), .lit (.int .u8 28), .lit (.int .u8 2), .lit (.int .u8 29), .lit (.int .u8 14), .lit (.int .u8 24), .lit (.int .u8 3), .lit (.int .u8 30), .lit (.int .u8 22), .lit (.int .u8 20), .lit (.int .u8 15), .lit (.int .u8 25), .lit (.int .u8 17), .lit (.int .u8 4), .lit (.int .u8 8), .lit (.int .u8 31), .lit (.int .u8 27), .lit (.int .u8 13), .lit (.int .u8 23), .lit (.int .u8 21), .lit (.int .u8 19), .lit (.int .u8 16), .lit (.int .u8 7), .lit (.int .u8 26), .lit (.int .u8 12), .lit (.int .u8 18), .lit (.int .u8 6), .lit (.int .u8 11), .lit (.int .u8 5), .lit (.int .u8 10), .lit (.int .u8 9)]
def laid_math_bits_deBruijn64tab {H : Type} : DataW H := .agg [.lit (.int .u8 0), .lit (.int .u8 1), .lit (.int .u8 56), .lit (.int .u8 2), .lit (.int .u8 57), .lit (.int .u8 49), .lit (.int .u8 28), .lit (.int .u8 3), .lit (.int .u8 61), .lit (.int .u8 58), .lit (.int .u8 42), .lit (.int .u8 50), .lit (.int .u8 38), .lit (.int .u8 29), .lit (.int .u8 17), .lit (.int .u8 4), .lit (.int .u8 62), .lit (.int .u8 47), .lit (.int .u8 59), .lit (.int .u8 36), .lit (.int .u8 45), .lit (.int .u8 43), .lit (.int .u8 51), .lit (.int .u8 22), .lit (.int .u8 53), .lit (.int .u8 39), .lit (.int .u8 33), .lit (.int .u8 30), .lit (.int .u8 24), .lit (.int .u8 18), .lit (.int .u8 12), .lit (.int .u8 5), .lit (.int .u8 63), .lit (.int .u8 55), .lit (.int .u8 48), .lit (.int .u8 27), .lit (.int .u8 60), .lit (.int .u8 41), .lit (.int .u8 37), .lit (.int .u8 16), .lit (.int .u8 46), .lit (.int .u8 35), .lit (.int .u8 44), .lit (.int .u8 21), .lit (.int .u8 52), .lit (.int .u8 32), .lit (.int .u8 23), .lit (.int .u8 11), .lit (.int .u8 54), .lit (.int .u8 26), .lit (.int .u8 40), .lit (.int .u8 15), .lit (.int .u8 34), .lit (.int .u8 20), .lit (.int .u8 31), .lit (.int .u8 10), .lit (.int .u8 25), .lit (.int .u8 14), .lit (.int .u8 19), .lit (.int .u8 9), .lit (.int .u8 13), .lit (.int .u8 8), .lit (.int .u8 7), .lit (.int .u8 6)]
def laid_internal_strconv_uint64pow10 {H : Type} : DataW H := .agg [.lit (.int .u64 1), .lit (.int .u64 10), .lit (.int .u64 100), .lit (.int .u64 1000), .lit (.int .u64 10000), .lit (.int .u64 100000), .lit (.int .u64 1000000), .lit (.int .u64 10000000), .lit (.int .u64 100000000), .lit (.int .u64 1000000000), .lit (.int .u64 10000000000), .lit (.int .u64 100000000000), .lit (.int .u64 1000000000000), .lit (.int .u64 10000000000000), .lit (.int .u64 100000000000000), .lit (.int .u64 1000000000000000), .lit (.int .u64 10000000000000000), .lit (.int .u64 100000000000000000), .lit (.int .u64 1000000000000000000), .lit (.int .u64 10000000000000000000)]

/-- 'bandplanlaw07.BitsetAll': WHATEVER THE INPUT: true; the input reads as it did. -/
def bitsetAllSpec : ChangeSpec := { name := "bitsetAll", fn := fun _ => fun
  | [d1, d2] => { results := [.lit (.bool true)], args := [d1, d2] }
  | _ => none }
def bitsetAllRow : OpenClaim := { program := "ytencbmgjdiillaadoor", sum := "8aec3b6cff723e9223d8ab2dee2090621a109fe6ecec56336702cf46fec24bc5", func := "bandplan/bandplanlaw07.BitsetAll", spec := "bitsetAll", inPlace := ["internal/bytealg.IndexByteString", "internal/bytealg.IndexString"], unfollowed := true, recurses := true, named := ["math/bits.deBruijn64tab", "internal/strconv.uint64pow10", "math/bits.deBruijn32tab", "internal/bytealg.MaxLen"], apart := false, laid := [("math/bits.deBruijn32tab", laid_math_bits_deBruijn32tab), ("math/bits.deBruijn64tab", laid_math_bits_deBruijn64tab), ("internal/strconv.uint64pow10", laid_internal_strconv_uint64pow10)] }
def BitsetAllSaid : Prop := bitsetAllRow.holds Tryd.pinned (OpenSpec.ofChange bitsetAllSpec)

/-- ITS FALSE NEIGHBOUR: 'it returns false'. Refute it at one input. -/
def bitsetAllWrong : ChangeSpec := { name := "bitsetAll", fn := fun _ => fun
  | [d1, d2] => { results := [.lit (.bool false)], args := [d1, d2] }
  | _ => none }
def BitsetAllWrongFalsely : Prop := bitsetAllRow.holds Tryd.pinned (OpenSpec.ofChange bitsetAllWrong)

/-- 'bandplanlaw07.BitsetBelow': WHATEVER THE INPUT: true; the input reads as it did. -/
def bitsetBelowSpec : ChangeSpec := { name := "bitsetBelow", fn := fun _ => fun
  | [d] => { results := [.lit (.bool true)], args := [d] }
  | _ => none }
def bitsetBelowRow : OpenClaim := { program := "ytencbmgjdiillaadoor", sum := "8aec3b6cff723e9223d8ab2dee2090621a109fe6ecec56336702cf46fec24bc5", func := "bandplan/bandplanlaw07.BitsetBelow", spec := "bitsetBelow", inPlace := ["internal/bytealg.IndexByteString", "internal/bytealg.IndexString"], unfollowed := true, recurses := true, named := ["math/bits.deBruijn64tab", "internal/strconv.uint64pow10", "math/bits.deBruijn32tab", "internal/bytealg.MaxLen"], apart := false, laid := [("math/bits.deBruijn32tab", laid_math_bits_deBruijn32tab), ("math/bits.deBruijn64tab", laid_math_bits_deBruijn64tab), ("internal/strconv.uint64pow10", laid_internal_strconv_uint64pow10)] }
def BitsetBelowSaid : Prop := bitsetBelowRow.holds Tryd.pinned (OpenSpec.ofChange bitsetBelowSpec)

/-- ITS FALSE NEIGHBOUR: 'it returns false'. Refute it at one input. -/
def bitsetBelowWrong : ChangeSpec := { name := "bitsetBelow", fn := fun _ => fun
  | [d] => { results := [.lit (.bool false)], args := [d] }
  | _ => none }
def BitsetBelowWrongFalsely : Prop := bitsetBelowRow.holds Tryd.pinned (OpenSpec.ofChange bitsetBelowWrong)

/-- 'bandplanlaw07.BitsetReads': WHATEVER THE INPUT: true; the input reads as it did. -/
def bitsetReadsSpec : ChangeSpec := { name := "bitsetReads", fn := fun _ => fun
  | [d] => { results := [.lit (.bool true)], args := [d] }
  | _ => none }
def bitsetReadsRow : OpenClaim := { program := "ytencbmgjdiillaadoor", sum := "8aec3b6cff723e9223d8ab2dee2090621a109fe6ecec56336702cf46fec24bc5", func := "bandplan/bandplanlaw07.BitsetReads", spec := "bitsetReads", inPlace := ["internal/bytealg.IndexByteString", "internal/bytealg.IndexString"], unfollowed := true, recurses := true, named := ["math/bits.deBruijn64tab", "internal/strconv.uint64pow10", "math/bits.deBruijn32tab", "internal/bytealg.MaxLen"], apart := false, laid := [("math/bits.deBruijn32tab", laid_math_bits_deBruijn32tab), ("math/bits.deBruijn64tab", laid_math_bits_deBruijn64tab), ("internal/strconv.uint64pow10", laid_internal_strconv_uint64pow10)] }
def BitsetReadsSaid : Prop := bitsetReadsRow.holds Tryd.pinned (OpenSpec.ofChange bitsetReadsSpec)

/-- ITS FALSE NEIGHBOUR: 'it returns false'. Refute it at one input. -/
def bitsetReadsWrong : ChangeSpec := { name := "bitsetReads", fn := fun _ => fun
  | [d] => { results := [.lit (.bool false)], args := [d] }
  | _ => none }
def BitsetReadsWrongFalsely : Prop := bitsetReadsRow.holds Tryd.pinned (OpenSpec.ofChange bitsetReadsWrong)

/-- 'bandplanlaw07.BitsetOf': WHATEVER THE INPUT: true; the input reads as it did. -/
def bitsetOfSpec : ChangeSpec := { name := "bitsetOf", fn := fun _ => fun
  | [d] => { results := [.lit (.bool true)], args := [d] }
  | _ => none }
def bitsetOfRow : OpenClaim := { program := "ytencbmgjdiillaadoor", sum := "8aec3b6cff723e9223d8ab2dee2090621a109fe6ecec56336702cf46fec24bc5", func := "bandplan/bandplanlaw07.BitsetOf", spec := "bitsetOf", inPlace := ["internal/bytealg.IndexByteString", "internal/bytealg.IndexString"], unfollowed := true, recurses := true, named := ["math/bits.deBruijn64tab", "internal/strconv.uint64pow10", "math/bits.deBruijn32tab", "internal/bytealg.MaxLen"], apart := false, laid := [("math/bits.deBruijn32tab", laid_math_bits_deBruijn32tab), ("math/bits.deBruijn64tab", laid_math_bits_deBruijn64tab), ("internal/strconv.uint64pow10", laid_internal_strconv_uint64pow10)] }
def BitsetOfSaid : Prop := bitsetOfRow.holds Tryd.pinned (OpenSpec.ofChange bitsetOfSpec)

/-- ITS FALSE NEIGHBOUR: 'it returns false'. Refute it at one input. -/
def bitsetOfWrong : ChangeSpec := { name := "bitsetOf", fn := fun _ => fun
  | [d] => { results := [.lit (.bool false)], args := [d] }
  | _ => none }
def BitsetOfWrongFalsely : Prop := bitsetOfRow.holds Tryd.pinned (OpenSpec.ofChange bitsetOfWrong)

/-- 'bandplanlaw07.BitsetDecodes': WHATEVER THE INPUT: true; the input reads as it did. -/
def bitsetDecodesSpec : ChangeSpec := { name := "bitsetDecodes", fn := fun _ => fun
  | [d] => { results := [.lit (.bool true)], args := [d] }
  | _ => none }
def bitsetDecodesRow : OpenClaim := { program := "ytencbmgjdiillaadoor", sum := "8aec3b6cff723e9223d8ab2dee2090621a109fe6ecec56336702cf46fec24bc5", func := "bandplan/bandplanlaw07.BitsetDecodes", spec := "bitsetDecodes", inPlace := ["internal/bytealg.IndexByteString", "internal/bytealg.IndexString"], unfollowed := true, recurses := true, named := ["math/bits.deBruijn64tab", "internal/strconv.uint64pow10", "math/bits.deBruijn32tab", "internal/bytealg.MaxLen"], apart := false, laid := [("math/bits.deBruijn32tab", laid_math_bits_deBruijn32tab), ("math/bits.deBruijn64tab", laid_math_bits_deBruijn64tab), ("internal/strconv.uint64pow10", laid_internal_strconv_uint64pow10)] }
def BitsetDecodesSaid : Prop := bitsetDecodesRow.holds Tryd.pinned (OpenSpec.ofChange bitsetDecodesSpec)

/-- ITS FALSE NEIGHBOUR: 'it returns false'. Refute it at one input. -/
def bitsetDecodesWrong : ChangeSpec := { name := "bitsetDecodes", fn := fun _ => fun
  | [d] => { results := [.lit (.bool false)], args := [d] }
  | _ => none }
def BitsetDecodesWrongFalsely : Prop := bitsetDecodesRow.holds Tryd.pinned (OpenSpec.ofChange bitsetDecodesWrong)

/-- 'bandplanlaw07.BitsetMembers': WHATEVER THE INPUT: true; the input reads as it did. -/
def bitsetMembersSpec : ChangeSpec := { name := "bitsetMembers", fn := fun _ => fun
  | [d1, d2] => { results := [.lit (.bool true)], args := [d1, d2] }
  | _ => none }
def bitsetMembersRow : OpenClaim := { program := "ytencbmgjdiillaadoor", sum := "8aec3b6cff723e9223d8ab2dee2090621a109fe6ecec56336702cf46fec24bc5", func := "bandplan/bandplanlaw07.BitsetMembers", spec := "bitsetMembers", inPlace := ["internal/bytealg.IndexByteString", "internal/bytealg.IndexString"], unfollowed := true, recurses := true, named := ["math/bits.deBruijn64tab", "internal/strconv.uint64pow10", "math/bits.deBruijn32tab", "internal/bytealg.MaxLen"], apart := false, laid := [("math/bits.deBruijn32tab", laid_math_bits_deBruijn32tab), ("math/bits.deBruijn64tab", laid_math_bits_deBruijn64tab), ("internal/strconv.uint64pow10", laid_internal_strconv_uint64pow10)] }
def BitsetMembersSaid : Prop := bitsetMembersRow.holds Tryd.pinned (OpenSpec.ofChange bitsetMembersSpec)

/-- ITS FALSE NEIGHBOUR: 'it returns false'. Refute it at one input. -/
def bitsetMembersWrong : ChangeSpec := { name := "bitsetMembers", fn := fun _ => fun
  | [d1, d2] => { results := [.lit (.bool false)], args := [d1, d2] }
  | _ => none }
def BitsetMembersWrongFalsely : Prop := bitsetMembersRow.holds Tryd.pinned (OpenSpec.ofChange bitsetMembersWrong)

/-- 'bandplanlaw07.BitsetPairs': WHATEVER THE INPUT: true; the input reads as it did. -/
def bitsetPairsSpec : ChangeSpec := { name := "bitsetPairs", fn := fun _ => fun
  | [d1, d2] => { results := [.lit (.bool true)], args := [d1, d2] }
  | _ => none }
def bitsetPairsRow : OpenClaim := { program := "ytencbmgjdiillaadoor", sum := "8aec3b6cff723e9223d8ab2dee2090621a109fe6ecec56336702cf46fec24bc5", func := "bandplan/bandplanlaw07.BitsetPairs", spec := "bitsetPairs", inPlace := ["internal/bytealg.IndexByteString", "internal/bytealg.IndexString"], unfollowed := true, recurses := true, named := ["math/bits.deBruijn64tab", "internal/strconv.uint64pow10", "math/bits.deBruijn32tab", "internal/bytealg.MaxLen"], apart := false, laid := [("math/bits.deBruijn32tab", laid_math_bits_deBruijn32tab), ("math/bits.deBruijn64tab", laid_math_bits_deBruijn64tab), ("internal/strconv.uint64pow10", laid_internal_strconv_uint64pow10)] }
def BitsetPairsSaid : Prop := bitsetPairsRow.holds Tryd.pinned (OpenSpec.ofChange bitsetPairsSpec)

/-- ITS FALSE NEIGHBOUR: 'it returns false'. Refute it at one input. -/
def bitsetPairsWrong : ChangeSpec := { name := "bitsetPairs", fn := fun _ => fun
  | [d1, d2] => { results := [.lit (.bool false)], args := [d1, d2] }
  | _ => none }
def BitsetPairsWrongFalsely : Prop := bitsetPairsRow.holds Tryd.pinned (OpenSpec.ofChange bitsetPairsWrong)

/-- 'bandplanlaw07.BitsetAlgebra': WHATEVER THE INPUT: true; the input reads as it did. -/
def bitsetAlgebraSpec : ChangeSpec := { name := "bitsetAlgebra", fn := fun _ => fun
  | [d1, d2, d3] => { results := [.lit (.bool true)], args := [d1, d2, d3] }
  | _ => none }
def bitsetAlgebraRow : OpenClaim := { program := "ytencbmgjdiillaadoor", sum := "8aec3b6cff723e9223d8ab2dee2090621a109fe6ecec56336702cf46fec24bc5", func := "bandplan/bandplanlaw07.BitsetAlgebra", spec := "bitsetAlgebra", inPlace := ["internal/bytealg.IndexByteString", "internal/bytealg.IndexString"], unfollowed := true, recurses := true, named := ["math/bits.deBruijn64tab", "internal/strconv.uint64pow10", "math/bits.deBruijn32tab", "internal/bytealg.MaxLen"], apart := false, laid := [("math/bits.deBruijn32tab", laid_math_bits_deBruijn32tab), ("math/bits.deBruijn64tab", laid_math_bits_deBruijn64tab), ("internal/strconv.uint64pow10", laid_internal_strconv_uint64pow10)] }
def BitsetAlgebraSaid : Prop := bitsetAlgebraRow.holds Tryd.pinned (OpenSpec.ofChange bitsetAlgebraSpec)

/-- ITS FALSE NEIGHBOUR: 'it returns false'. Refute it at one input. -/
def bitsetAlgebraWrong : ChangeSpec := { name := "bitsetAlgebra", fn := fun _ => fun
  | [d1, d2, d3] => { results := [.lit (.bool false)], args := [d1, d2, d3] }
  | _ => none }
def BitsetAlgebraWrongFalsely : Prop := bitsetAlgebraRow.holds Tryd.pinned (OpenSpec.ofChange bitsetAlgebraWrong)

/- THE SECOND FORM. 'bulk': how many values and letters a reading holds, each counted each time it is reached (what is shared counts as often as it is met; a slice's spare places count too). A statement '..UptoSaid' is the law's where the arguments, and the package variables that the reading takes, are together of bulk at most 1048576: NARROWER than '..Said'. Prove '..Said' where nothing that the law and all that it calls make is longer than what came in: it says more and counts as full. Else prove '..UptoSaid'. A law counts once. -/
mutual
def uptoBulk {H : Type} : DataW H → Nat
  | .lit (.string bytes) => bytes.length + 1
  | .lit _ => 1
  | .nil => 1
  | .ptr d => uptoBulk d + 1
  | .slice elems spare => uptoBulkAll elems + uptoBulkAll spare + 1
  | .agg parts => uptoBulkAll parts + 1
  | .iface _ d => uptoBulk d + 1
  | .map entries => uptoBulkEntries entries + 1
  | .held _ => 1
def uptoBulkAll {H : Type} : List (DataW H) → Nat
  | [] => 0
  | d :: r => uptoBulk d + uptoBulkAll r
def uptoBulkEntries {H : Type} : List (Lit × DataW H) → Nat
  | [] => 0
  | x :: r => uptoBulkEntry x + uptoBulkEntries r
def uptoBulkEntry {H : Type} : Lit × DataW H → Nat
  | (.string bytes, d) => bytes.length + uptoBulk d + 1
  | (_, d) => uptoBulk d + 1
 end
def uptoSmall : (H : Type) → List (DataW H) → Bool := fun _ ds => decide (uptoBulkAll ds ≤ 1048576)
def OpenSpec.upto (s : _root_.Go.ChangeSpec) : _root_.Go.OpenSpec := { _root_.Go.OpenSpec.ofChange s with cond := some uptoSmall }

/-- 'bandplanlaw07.BitsetAll', WHERE WHAT IT READS IS OF BULK AT MOST 1048576: true; the input reads as it did. -/
def bitsetAllUptoRow : OpenClaim := { program := "ytencbmgjdiillaadoor", sum := "8aec3b6cff723e9223d8ab2dee2090621a109fe6ecec56336702cf46fec24bc5", func := "bandplan/bandplanlaw07.BitsetAll", spec := "bitsetAll", inPlace := ["internal/bytealg.IndexByteString", "internal/bytealg.IndexString"], unfollowed := true, recurses := true, named := ["math/bits.deBruijn64tab", "internal/strconv.uint64pow10", "math/bits.deBruijn32tab", "internal/bytealg.MaxLen"], apart := false, laid := [("math/bits.deBruijn32tab", laid_math_bits_deBruijn32tab), ("math/bits.deBruijn64tab", laid_math_bits_deBruijn64tab), ("internal/strconv.uint64pow10", laid_internal_strconv_uint64pow10)], narrowed := true }
def BitsetAllUptoSaid : Prop := bitsetAllUptoRow.holds Tryd.pinned (OpenSpec.upto bitsetAllSpec)

/-- 'bandplanlaw07.BitsetBelow', WHERE WHAT IT READS IS OF BULK AT MOST 1048576: true; the input reads as it did. -/
def bitsetBelowUptoRow : OpenClaim := { program := "ytencbmgjdiillaadoor", sum := "8aec3b6cff723e9223d8ab2dee2090621a109fe6ecec56336702cf46fec24bc5", func := "bandplan/bandplanlaw07.BitsetBelow", spec := "bitsetBelow", inPlace := ["internal/bytealg.IndexByteString", "internal/bytealg.IndexString"], unfollowed := true, recurses := true, named := ["math/bits.deBruijn64tab", "internal/strconv.uint64pow10", "math/bits.deBruijn32tab", "internal/bytealg.MaxLen"], apart := false, laid := [("math/bits.deBruijn32tab", laid_math_bits_deBruijn32tab), ("math/bits.deBruijn64tab", laid_math_bits_deBruijn64tab), ("internal/strconv.uint64pow10", laid_internal_strconv_uint64pow10)], narrowed := true }
def BitsetBelowUptoSaid : Prop := bitsetBelowUptoRow.holds Tryd.pinned (OpenSpec.upto bitsetBelowSpec)

/-- 'bandplanlaw07.BitsetReads', WHERE WHAT IT READS IS OF BULK AT MOST 1048576: true; the input reads as it did. -/
def bitsetReadsUptoRow : OpenClaim := { program := "ytencbmgjdiillaadoor", sum := "8aec3b6cff723e9223d8ab2dee2090621a109fe6ecec56336702cf46fec24bc5", func := "bandplan/bandplanlaw07.BitsetReads", spec := "bitsetReads", inPlace := ["internal/bytealg.IndexByteString", "internal/bytealg.IndexString"], unfollowed := true, recurses := true, named := ["math/bits.deBruijn64tab", "internal/strconv.uint64pow10", "math/bits.deBruijn32tab", "internal/bytealg.MaxLen"], apart := false, laid := [("math/bits.deBruijn32tab", laid_math_bits_deBruijn32tab), ("math/bits.deBruijn64tab", laid_math_bits_deBruijn64tab), ("internal/strconv.uint64pow10", laid_internal_strconv_uint64pow10)], narrowed := true }
def BitsetReadsUptoSaid : Prop := bitsetReadsUptoRow.holds Tryd.pinned (OpenSpec.upto bitsetReadsSpec)

/-- 'bandplanlaw07.BitsetOf', WHERE WHAT IT READS IS OF BULK AT MOST 1048576: true; the input reads as it did. -/
def bitsetOfUptoRow : OpenClaim := { program := "ytencbmgjdiillaadoor", sum := "8aec3b6cff723e9223d8ab2dee2090621a109fe6ecec56336702cf46fec24bc5", func := "bandplan/bandplanlaw07.BitsetOf", spec := "bitsetOf", inPlace := ["internal/bytealg.IndexByteString", "internal/bytealg.IndexString"], unfollowed := true, recurses := true, named := ["math/bits.deBruijn64tab", "internal/strconv.uint64pow10", "math/bits.deBruijn32tab", "internal/bytealg.MaxLen"], apart := false, laid := [("math/bits.deBruijn32tab", laid_math_bits_deBruijn32tab), ("math/bits.deBruijn64tab", laid_math_bits_deBruijn64tab), ("internal/strconv.uint64pow10", laid_internal_strconv_uint64pow10)], narrowed := true }
def BitsetOfUptoSaid : Prop := bitsetOfUptoRow.holds Tryd.pinned (OpenSpec.upto bitsetOfSpec)

/-- 'bandplanlaw07.BitsetDecodes', WHERE WHAT IT READS IS OF BULK AT MOST 1048576: true; the input reads as it did. -/
def bitsetDecodesUptoRow : OpenClaim := { program := "ytencbmgjdiillaadoor", sum := "8aec3b6cff723e9223d8ab2dee2090621a109fe6ecec56336702cf46fec24bc5", func := "bandplan/bandplanlaw07.BitsetDecodes", spec := "bitsetDecodes", inPlace := ["internal/bytealg.IndexByteString", "internal/bytealg.IndexString"], unfollowed := true, recurses := true, named := ["math/bits.deBruijn64tab", "internal/strconv.uint64pow10", "math/bits.deBruijn32tab", "internal/bytealg.MaxLen"], apart := false, laid := [("math/bits.deBruijn32tab", laid_math_bits_deBruijn32tab), ("math/bits.deBruijn64tab", laid_math_bits_deBruijn64tab), ("internal/strconv.uint64pow10", laid_internal_strconv_uint64pow10)], narrowed := true }
def BitsetDecodesUptoSaid : Prop := bitsetDecodesUptoRow.holds Tryd.pinned (OpenSpec.upto bitsetDecodesSpec)

/-- 'bandplanlaw07.BitsetMembers', WHERE WHAT IT READS IS OF BULK AT MOST 1048576: true; the input reads as it did. -/
def bitsetMembersUptoRow : OpenClaim := { program := "ytencbmgjdiillaadoor", sum := "8aec3b6cff723e9223d8ab2dee2090621a109fe6ecec56336702cf46fec24bc5", func := "bandplan/bandplanlaw07.BitsetMembers", spec := "bitsetMembers", inPlace := ["internal/bytealg.IndexByteString", "internal/bytealg.IndexString"], unfollowed := true, recurses := true, named := ["math/bits.deBruijn64tab", "internal/strconv.uint64pow10", "math/bits.deBruijn32tab", "internal/bytealg.MaxLen"], apart := false, laid := [("math/bits.deBruijn32tab", laid_math_bits_deBruijn32tab), ("math/bits.deBruijn64tab", laid_math_bits_deBruijn64tab), ("internal/strconv.uint64pow10", laid_internal_strconv_uint64pow10)], narrowed := true }
def BitsetMembersUptoSaid : Prop := bitsetMembersUptoRow.holds Tryd.pinned (OpenSpec.upto bitsetMembersSpec)

/-- 'bandplanlaw07.BitsetPairs', WHERE WHAT IT READS IS OF BULK AT MOST 1048576: true; the input reads as it did. -/
def bitsetPairsUptoRow : OpenClaim := { program := "ytencbmgjdiillaadoor", sum := "8aec3b6cff723e9223d8ab2dee2090621a109fe6ecec56336702cf46fec24bc5", func := "bandplan/bandplanlaw07.BitsetPairs", spec := "bitsetPairs", inPlace := ["internal/bytealg.IndexByteString", "internal/bytealg.IndexString"], unfollowed := true, recurses := true, named := ["math/bits.deBruijn64tab", "internal/strconv.uint64pow10", "math/bits.deBruijn32tab", "internal/bytealg.MaxLen"], apart := false, laid := [("math/bits.deBruijn32tab", laid_math_bits_deBruijn32tab), ("math/bits.deBruijn64tab", laid_math_bits_deBruijn64tab), ("internal/strconv.uint64pow10", laid_internal_strconv_uint64pow10)], narrowed := true }
def BitsetPairsUptoSaid : Prop := bitsetPairsUptoRow.holds Tryd.pinned (OpenSpec.upto bitsetPairsSpec)

/-- 'bandplanlaw07.BitsetAlgebra', WHERE WHAT IT READS IS OF BULK AT MOST 1048576: true; the input reads as it did. -/
def bitsetAlgebraUptoRow : OpenClaim := { program := "ytencbmgjdiillaadoor", sum := "8aec3b6cff723e9223d8ab2dee2090621a109fe6ecec56336702cf46fec24bc5", func := "bandplan/bandplanlaw07.BitsetAlgebra", spec := "bitsetAlgebra", inPlace := ["internal/bytealg.IndexByteString", "internal/bytealg.IndexString"], unfollowed := true, recurses := true, named := ["math/bits.deBruijn64tab", "internal/strconv.uint64pow10", "math/bits.deBruijn32tab", "internal/bytealg.MaxLen"], apart := false, laid := [("math/bits.deBruijn32tab", laid_math_bits_deBruijn32tab), ("math/bits.deBruijn64tab", laid_math_bits_deBruijn64tab), ("internal/strconv.uint64pow10", laid_internal_strconv_uint64pow10)], narrowed := true }
def BitsetAlgebraUptoSaid : Prop := bitsetAlgebraUptoRow.holds Tryd.pinned (OpenSpec.upto bitsetAlgebraSpec)

end Rows
end Go.Proofs.YtencbmgjdiillaaDoor
