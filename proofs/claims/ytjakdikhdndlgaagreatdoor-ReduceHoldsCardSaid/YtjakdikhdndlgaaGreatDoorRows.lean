/-
  NARROWER THAN 'FOR EVERY INPUT', by the rows' own cells (each row's printed sentence says how): ReduceShrinks: laid · ReduceApart: laid · ReduceBlocks: laid · ReducePeels: laid · ReduceExtends: laid · ReduceHolds: laid.
  DERIVED. THE GIVEN ROWS OF THIS SEAT. 6 by the template 'for every input the law returns true; each argument reads behind the call as it read before'; 0 by the template 'total and deterministic' (their statements: YtjakdikhdndlgaaGreatDoorTotals.lean).
  GIVEN WITH THE SEED: the statements are not yours to turn. If you find one false, say at which input.
  Laid BY PROGRAM, IN A SANDBOX (cutbox-rows.mjs): the forced cells as the released guide's own fill.sh prints them over the translation 996417dfa88c76b0… (all of the seat's roots in one cut). By AI agents, Wed Nov 11 2026. No macro, syntax, notation, axiom, sorry.
-/
import Derived.Test.YtjakdikhdndlgaaGreatDoorChecked
import GoSem.Claim
import GoSem.ClaimJoined
import GoSem.ClaimMapViews
import Derived.JoinedTies
import Derived.KernelRfl
namespace Go.Proofs.YtjakdikhdndlgaaGreatDoor
/- THE CELL 'sum', in the pinned program and in every row, IS THE sha256 OF THE DUMP (.gsa) THAT YtjakdikhdndlgaaGreatDoorProg.lean LOADS. Nothing in Lean hashes anything: it is a label: what it is worth is what the hold of that sum in a sandbox is worth. -/
noncomputable def Tryz.pinned : Pinned := { name := "ytjakdikhdndlgaagreatdoor", sum := "996417dfa88c76b0130504b0a712935ccabd0f7c194f18a9c5fd5f34d7039cac", checked := Tryz.checked }
namespace Rows
def none {H : Type} : Left H := { results := [], args := [] }

/- WHAT THE LISTED PACKAGE-LEVEL VARIABLES READ AS WHEN THE CALL BEGINS. Each datum BY PROGRAM (the guide's laid-datum.mjs) off the statement by which the dump's own 'gosem.cut.vars' lays the variable. In a bare row this is a premise. The card (YtjakdikhdndlgaaGreatDoorCards.lean) ties it to the program's text. -/
def laid_math_bits_deBruijn64tab {H : Type} : DataW H := .agg [.lit (.int .u8 0), .lit (.int .u8 1), .lit (.int .u8 56), .lit (.int .u8 2), .lit (.int .u8 57), .lit (.int .u8 49), .lit (.int .u8 28), .lit (.int .u8 3), .lit (.int .u8 61), .lit (.int .u8 58), .lit (.int .u8 42), .lit (.int .u8 50), .lit (.int .u8 38), .lit (.int .u8 29), .lit (.int .u8 17), .lit (.int .u8 4), .lit (.int .u8 62), .lit (.int .u8 47), .lit (.int .u8 59), .lit (.int .u8 36), .lit (.int .u8 45), .lit (.int .u8 43), .lit (.int .u8 51), .lit (.int .u8 22), .lit (.int .u8 53), .lit (.int .u8 39), .lit (.int .u8 33), .lit (.int .u8 30), .lit (.int .u8 24), .lit (.int .u8 18), .lit (.int .u8 12), .lit (.int .u8 5), .lit (.int .u8 63), .lit (.int .u8 55), .lit (.int .u8 48), .lit (.int .u8 27), .lit (.int .u8 60), .lit (.int .u8 41), .lit (.int .u8 37), .lit (.int .u8 16), .lit (.int .u8 46), .lit (.int .u8 35), .lit (.int .u8 44), .lit (.int .u8 21), .lit (.int .u8 52), .lit (.int .u8 32), .lit (.int .u8 23), .lit (.int .u8 11), .lit (.int .u8 54), .lit (.int .u8 26), .lit (.int .u8 40), .lit (.int .u8 15), .lit (.int .u8 34), .lit (.int .u8 20), .lit (.int .u8 31), .lit (.int .u8 10), .lit (.int .u8 25), .lit (.int .u8 14), .lit (.int .u8 19), .lit (.int .u8 9), .lit (.int .u8 13), .lit (.int .u8 8), .lit (.int .u8 7), .lit (.int .u8 6)]

/-- 'bandplanlaw19.ReduceShrinks': WHATEVER THE INPUT: true; the input reads as it did. -/
def reduceShrinksSpec : ChangeSpec := { name := "reduceShrinks", fn := fun _ => fun
  | [d1, d2] => { results := [.lit (.bool true)], args := [d1, d2] }
  | _ => none }
def reduceShrinksRow : OpenClaim := { program := "ytjakdikhdndlgaagreatdoor", sum := "996417dfa88c76b0130504b0a712935ccabd0f7c194f18a9c5fd5f34d7039cac", func := "bandplan/bandplanlaw19.ReduceShrinks", spec := "reduceShrinks", unfollowed := true, recurses := true, named := ["math/bits.deBruijn64tab"], plainKeys := false, apart := false, laid := [("math/bits.deBruijn64tab", laid_math_bits_deBruijn64tab)] }
def ReduceShrinksSaid : Prop := reduceShrinksRow.holds Tryz.pinned (OpenSpec.ofChange reduceShrinksSpec)

/-- ITS FALSE NEIGHBOUR: 'it returns false'. Refute it at one input. -/
def reduceShrinksWrong : ChangeSpec := { name := "reduceShrinks", fn := fun _ => fun
  | [d1, d2] => { results := [.lit (.bool false)], args := [d1, d2] }
  | _ => none }
def ReduceShrinksWrongFalsely : Prop := reduceShrinksRow.holds Tryz.pinned (OpenSpec.ofChange reduceShrinksWrong)

/-- 'bandplanlaw19.ReduceApart': WHATEVER THE INPUT: true; the input reads as it did. -/
def reduceApartSpec : ChangeSpec := { name := "reduceApart", fn := fun _ => fun
  | [d] => { results := [.lit (.bool true)], args := [d] }
  | _ => none }
def reduceApartRow : OpenClaim := { program := "ytjakdikhdndlgaagreatdoor", sum := "996417dfa88c76b0130504b0a712935ccabd0f7c194f18a9c5fd5f34d7039cac", func := "bandplan/bandplanlaw19.ReduceApart", spec := "reduceApart", unfollowed := true, recurses := true, named := ["math/bits.deBruijn64tab"], plainKeys := false, apart := false, laid := [("math/bits.deBruijn64tab", laid_math_bits_deBruijn64tab)] }
def ReduceApartSaid : Prop := reduceApartRow.holds Tryz.pinned (OpenSpec.ofChange reduceApartSpec)

/-- ITS FALSE NEIGHBOUR: 'it returns false'. Refute it at one input. -/
def reduceApartWrong : ChangeSpec := { name := "reduceApart", fn := fun _ => fun
  | [d] => { results := [.lit (.bool false)], args := [d] }
  | _ => none }
def ReduceApartWrongFalsely : Prop := reduceApartRow.holds Tryz.pinned (OpenSpec.ofChange reduceApartWrong)

/-- 'bandplanlaw19.ReduceBlocks': WHATEVER THE INPUT: true; the input reads as it did. -/
def reduceBlocksSpec : ChangeSpec := { name := "reduceBlocks", fn := fun _ => fun
  | [d1, d2, d3] => { results := [.lit (.bool true)], args := [d1, d2, d3] }
  | _ => none }
def reduceBlocksRow : OpenClaim := { program := "ytjakdikhdndlgaagreatdoor", sum := "996417dfa88c76b0130504b0a712935ccabd0f7c194f18a9c5fd5f34d7039cac", func := "bandplan/bandplanlaw19.ReduceBlocks", spec := "reduceBlocks", unfollowed := true, recurses := true, named := ["math/bits.deBruijn64tab"], plainKeys := false, apart := false, laid := [("math/bits.deBruijn64tab", laid_math_bits_deBruijn64tab)] }
def ReduceBlocksSaid : Prop := reduceBlocksRow.holds Tryz.pinned (OpenSpec.ofChange reduceBlocksSpec)

/-- ITS FALSE NEIGHBOUR: 'it returns false'. Refute it at one input. -/
def reduceBlocksWrong : ChangeSpec := { name := "reduceBlocks", fn := fun _ => fun
  | [d1, d2, d3] => { results := [.lit (.bool false)], args := [d1, d2, d3] }
  | _ => none }
def ReduceBlocksWrongFalsely : Prop := reduceBlocksRow.holds Tryz.pinned (OpenSpec.ofChange reduceBlocksWrong)

/-- 'bandplanlaw19.ReducePeels': WHATEVER THE INPUT: true; the input reads as it did. -/
def reducePeelsSpec : ChangeSpec := { name := "reducePeels", fn := fun _ => fun
  | [d] => { results := [.lit (.bool true)], args := [d] }
  | _ => none }
def reducePeelsRow : OpenClaim := { program := "ytjakdikhdndlgaagreatdoor", sum := "996417dfa88c76b0130504b0a712935ccabd0f7c194f18a9c5fd5f34d7039cac", func := "bandplan/bandplanlaw19.ReducePeels", spec := "reducePeels", unfollowed := true, recurses := true, named := ["math/bits.deBruijn64tab"], plainKeys := false, apart := false, laid := [("math/bits.deBruijn64tab", laid_math_bits_deBruijn64tab)] }
def ReducePeelsSaid : Prop := reducePeelsRow.holds Tryz.pinned (OpenSpec.ofChange reducePeelsSpec)

/-- ITS FALSE NEIGHBOUR: 'it returns false'. Refute it at one input. -/
def reducePeelsWrong : ChangeSpec := { name := "reducePeels", fn := fun _ => fun
  | [d] => { results := [.lit (.bool false)], args := [d] }
  | _ => none }
def ReducePeelsWrongFalsely : Prop := reducePeelsRow.holds Tryz.pinned (OpenSpec.ofChange reducePeelsWrong)

/-- 'bandplanlaw19.ReduceExtends': WHATEVER THE INPUT: true; the input reads as it did. -/
def reduceExtendsSpec : ChangeSpec := { name := "reduceExtends", fn := fun _ => fun
  | [d1, d2] => { results := [.lit (.bool true)], args := [d1, d2] }
  | _ => none }
def reduceExtendsRow : OpenClaim := { program := "ytjakdikhdndlgaagreatdoor", sum := "996417dfa88c76b0130504b0a712935ccabd0f7c194f18a9c5fd5f34d7039cac", func := "bandplan/bandplanlaw19.ReduceExtends", spec := "reduceExtends", unfollowed := true, recurses := true, named := ["math/bits.deBruijn64tab"], plainKeys := false, apart := false, laid := [("math/bits.deBruijn64tab", laid_math_bits_deBruijn64tab)] }
def ReduceExtendsSaid : Prop := reduceExtendsRow.holds Tryz.pinned (OpenSpec.ofChange reduceExtendsSpec)

/-- ITS FALSE NEIGHBOUR: 'it returns false'. Refute it at one input. -/
def reduceExtendsWrong : ChangeSpec := { name := "reduceExtends", fn := fun _ => fun
  | [d1, d2] => { results := [.lit (.bool false)], args := [d1, d2] }
  | _ => none }
def ReduceExtendsWrongFalsely : Prop := reduceExtendsRow.holds Tryz.pinned (OpenSpec.ofChange reduceExtendsWrong)

/-- 'bandplanlaw19.ReduceHolds': WHATEVER THE INPUT: true; the input reads as it did. -/
def reduceHoldsSpec : ChangeSpec := { name := "reduceHolds", fn := fun _ => fun
  | [d1, d2] => { results := [.lit (.bool true)], args := [d1, d2] }
  | _ => none }
def reduceHoldsRow : OpenClaim := { program := "ytjakdikhdndlgaagreatdoor", sum := "996417dfa88c76b0130504b0a712935ccabd0f7c194f18a9c5fd5f34d7039cac", func := "bandplan/bandplanlaw19.ReduceHolds", spec := "reduceHolds", unfollowed := true, recurses := true, named := ["math/bits.deBruijn64tab"], plainKeys := false, apart := false, laid := [("math/bits.deBruijn64tab", laid_math_bits_deBruijn64tab)] }
def ReduceHoldsSaid : Prop := reduceHoldsRow.holds Tryz.pinned (OpenSpec.ofChange reduceHoldsSpec)

/-- ITS FALSE NEIGHBOUR: 'it returns false'. Refute it at one input. -/
def reduceHoldsWrong : ChangeSpec := { name := "reduceHolds", fn := fun _ => fun
  | [d1, d2] => { results := [.lit (.bool false)], args := [d1, d2] }
  | _ => none }
def ReduceHoldsWrongFalsely : Prop := reduceHoldsRow.holds Tryz.pinned (OpenSpec.ofChange reduceHoldsWrong)

/- THE SECOND FORM. 'bulk': how many values and letters a reading holds, each counted each time it is reached (what is shared counts as often as it is met; a slice's spare places count too). A statement '..UptoSaid' is the law's where the arguments, and the package variables that the reading takes, are together of bulk at most 1048576: NARROWER than '..Said'. Prove '..Said' where nothing that the law and all that it calls make is longer than what came in: it says more and counts as full. Else prove '..UptoSaid'. A law counts once. -/
mutual
def uptoBulk {H : Type} : DataW H → Nat
  | .lit (.string bytes) => bytes.length + 1
  | .lit _ => 1
  | .nil => 1
  | .ptr d => uptoBulk d + 1
  | .slice elems spare => uptoBulkAll elems + uptoBulkAll spare + 1
  | .agg parts => uptoBulkAll parts + 1
  | .iface _ d => uptoBulk d + 1
  | .map entries => uptoBulkEntries entries + 1
  | .held _ => 1
def uptoBulkAll {H : Type} : List (DataW H) → Nat
  | [] => 0
  | d :: r => uptoBulk d + uptoBulkAll r
def uptoBulkEntries {H : Type} : List (Lit × DataW H) → Nat
  | [] => 0
  | x :: r => uptoBulkEntry x + uptoBulkEntries r
def uptoBulkEntry {H : Type} : Lit × DataW H → Nat
  | (.string bytes, d) => bytes.length + uptoBulk d + 1
  | (_, d) => uptoBulk d + 1
 end
def uptoSmall : (H : Type) → List (DataW H) → Bool := fun _ ds => decide (uptoBulkAll ds ≤ 1048576)
def OpenSpec.upto (s : _root_.Go.ChangeSpec) : _root_.Go.OpenSpec := { _root_.Go.OpenSpec.ofChange s with cond := some uptoSmall }

/-- 'bandplanlaw19.ReduceShrinks', WHERE WHAT IT READS IS OF BULK AT MOST 1048576: true; the input reads as it did. -/
def reduceShrinksUptoRow : OpenClaim := { program := "ytjakdikhdndlgaagreatdoor", sum := "996417dfa88c76b0130504b0a712935ccabd0f7c194f18a9c5fd5f34d7039cac", func := "bandplan/bandplanlaw19.ReduceShrinks", spec := "reduceShrinks", unfollowed := true, recurses := true, named := ["math/bits.deBruijn64tab"], plainKeys := false, apart := false, laid := [("math/bits.deBruijn64tab", laid_math_bits_deBruijn64tab)], narrowed := true }
def ReduceShrinksUptoSaid : Prop := reduceShrinksUptoRow.holds Tryz.pinned (OpenSpec.upto reduceShrinksSpec)

/-- 'bandplanlaw19.ReduceApart', WHERE WHAT IT READS IS OF BULK AT MOST 1048576: true; the input reads as it did. -/
def reduceApartUptoRow : OpenClaim := { program := "ytjakdikhdndlgaagreatdoor", sum := "996417dfa88c76b0130504b0a712935ccabd0f7c194f18a9c5fd5f34d7039cac", func := "bandplan/bandplanlaw19.ReduceApart", spec := "reduceApart", unfollowed := true, recurses := true, named := ["math/bits.deBruijn64tab"], plainKeys := false, apart := false, laid := [("math/bits.deBruijn64tab", laid_math_bits_deBruijn64tab)], narrowed := true }
def ReduceApartUptoSaid : Prop := reduceApartUptoRow.holds Tryz.pinned (OpenSpec.upto reduceApartSpec)

/-- 'bandplanlaw19.ReduceBlocks', WHERE WHAT IT READS IS OF BULK AT MOST 1048576: true; the input reads as it did. -/
def reduceBlocksUptoRow : OpenClaim := { program := "ytjakdikhdndlgaagreatdoor", sum := "996417dfa88c76b0130504b0a712935ccabd0f7c194f18a9c5fd5f34d7039cac", func := "bandplan/bandplanlaw19.ReduceBlocks", spec := "reduceBlocks", unfollowed := true, recurses := true, named := ["math/bits.deBruijn64tab"], plainKeys := false, apart := false, laid := [("math/bits.deBruijn64tab", laid_math_bits_deBruijn64tab)], narrowed := true }
def ReduceBlocksUptoSaid : Prop := reduceBlocksUptoRow.holds Tryz.pinned (OpenSpec.upto reduceBlocksSpec)

/-- 'bandplanlaw19.ReducePeels', WHERE WHAT IT READS IS OF BULK AT MOST 1048576: true; the input reads as it did. -/
def reducePeelsUptoRow : OpenClaim := { program := "ytjakdikhdndlgaagreatdoor", sum := "996417dfa88c76b0130504b0a712935ccabd0f7c194f18a9c5fd5f34d7039cac", func := "bandplan/bandplanlaw19.ReducePeels", spec := "reducePeels", unfollowed := true, recurses := true, named := ["math/bits.deBruijn64tab"], plainKeys := false, apart := false, laid := [("math/bits.deBruijn64tab", laid_math_bits_deBruijn64tab)], narrowed := true }
def ReducePeelsUptoSaid : Prop := reducePeelsUptoRow.holds Tryz.pinned (OpenSpec.upto reducePeelsSpec)

/-- 'bandplanlaw19.ReduceExtends', WHERE WHAT IT READS IS OF BULK AT MOST 1048576: true; the input reads as it did. -/
def reduceExtendsUptoRow : OpenClaim := { program := "ytjakdikhdndlgaagreatdoor", sum := "996417dfa88c76b0130504b0a712935ccabd0f7c194f18a9c5fd5f34d7039cac", func := "bandplan/bandplanlaw19.ReduceExtends", spec := "reduceExtends", unfollowed := true, recurses := true, named := ["math/bits.deBruijn64tab"], plainKeys := false, apart := false, laid := [("math/bits.deBruijn64tab", laid_math_bits_deBruijn64tab)], narrowed := true }
def ReduceExtendsUptoSaid : Prop := reduceExtendsUptoRow.holds Tryz.pinned (OpenSpec.upto reduceExtendsSpec)

/-- 'bandplanlaw19.ReduceHolds', WHERE WHAT IT READS IS OF BULK AT MOST 1048576: true; the input reads as it did. -/
def reduceHoldsUptoRow : OpenClaim := { program := "ytjakdikhdndlgaagreatdoor", sum := "996417dfa88c76b0130504b0a712935ccabd0f7c194f18a9c5fd5f34d7039cac", func := "bandplan/bandplanlaw19.ReduceHolds", spec := "reduceHolds", unfollowed := true, recurses := true, named := ["math/bits.deBruijn64tab"], plainKeys := false, apart := false, laid := [("math/bits.deBruijn64tab", laid_math_bits_deBruijn64tab)], narrowed := true }
def ReduceHoldsUptoSaid : Prop := reduceHoldsUptoRow.holds Tryz.pinned (OpenSpec.upto reduceHoldsSpec)

end Rows
end Go.Proofs.YtjakdikhdndlgaaGreatDoor
