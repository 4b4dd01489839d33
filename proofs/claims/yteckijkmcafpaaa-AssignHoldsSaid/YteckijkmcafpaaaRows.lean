/-
  No cell of these rows narrows 'for every input' (looked for: loops, veiled, ifaces, maps, wideKeys, modest, calm, conditions, laid).
  DERIVED. THE GIVEN ROWS OF THIS SEAT. 8 by the template 'for every input the law returns true; each argument reads behind the call as it read before'; 0 by the template 'total and deterministic' (their statements: YteckijkmcafpaaaTotals.lean).
  GIVEN WITH THE SEED: the statements are not yours to turn. If you find one false, say at which input.
  Laid BY PROGRAM, IN A SANDBOX (cutbox-rows.mjs): the forced cells as the released guide's own fill.sh prints them over the translation c3708374626375cc… (all of the seat's roots in one cut). By AI agents, Wed Nov 11 2026. No macro, syntax, notation, axiom, sorry.
-/
import Derived.Test.YteckijkmcafpaaaChecked
import GoSem.Claim
import GoSem.ClaimJoined
import GoSem.ClaimMapViews
import Derived.JoinedTies
import Derived.KernelRfl
namespace Go.Proofs.Yteckijkmcafpaaa
/- THE CELL 'sum', in the pinned program and in every row, IS THE sha256 OF THE DUMP (.gsa) THAT YteckijkmcafpaaaProg.lean LOADS. Nothing in Lean hashes anything: it is a label: what it is worth is what the hold of that sum in a sandbox is worth. -/
noncomputable def Try.pinned : Pinned := { name := "yteckijkmcafpaaa", sum := "c3708374626375cc90bc6e8e108951eb653716feb56b9ebfdd62e2b1bf59d682", checked := Try.checked }
namespace Rows
def none {H : Type} : Left H := { results := [], args := [] }

/-- 'bandplanlaw39.AssignValid': WHATEVER THE INPUT: true; the input reads as it did. -/
def assignValidSpec : ChangeSpec := { name := "assignValid", fn := fun _ => fun
  | [d1, d2, d3] => { results := [.lit (.bool true)], args := [d1, d2, d3] }
  | _ => none }
def assignValidRow : OpenClaim := { program := "yteckijkmcafpaaa", sum := "c3708374626375cc90bc6e8e108951eb653716feb56b9ebfdd62e2b1bf59d682", func := "bandplan/bandplanlaw39.AssignValid", spec := "assignValid", unfollowed := true, recurses := true, apart := false }
def AssignValidSaid : Prop := assignValidRow.holds Try.pinned (OpenSpec.ofChange assignValidSpec)

/-- ITS FALSE NEIGHBOUR: 'it returns false'. Refute it at one input. -/
def assignValidWrong : ChangeSpec := { name := "assignValid", fn := fun _ => fun
  | [d1, d2, d3] => { results := [.lit (.bool false)], args := [d1, d2, d3] }
  | _ => none }
def AssignValidWrongFalsely : Prop := assignValidRow.holds Try.pinned (OpenSpec.ofChange assignValidWrong)

/-- 'bandplanlaw39.AssignStarts': WHATEVER THE INPUT: true; the input reads as it did. -/
def assignStartsSpec : ChangeSpec := { name := "assignStarts", fn := fun _ => fun
  | [d1, d2, d3] => { results := [.lit (.bool true)], args := [d1, d2, d3] }
  | _ => none }
def assignStartsRow : OpenClaim := { program := "yteckijkmcafpaaa", sum := "c3708374626375cc90bc6e8e108951eb653716feb56b9ebfdd62e2b1bf59d682", func := "bandplan/bandplanlaw39.AssignStarts", spec := "assignStarts", unfollowed := true, recurses := true, apart := false }
def AssignStartsSaid : Prop := assignStartsRow.holds Try.pinned (OpenSpec.ofChange assignStartsSpec)

/-- ITS FALSE NEIGHBOUR: 'it returns false'. Refute it at one input. -/
def assignStartsWrong : ChangeSpec := { name := "assignStarts", fn := fun _ => fun
  | [d1, d2, d3] => { results := [.lit (.bool false)], args := [d1, d2, d3] }
  | _ => none }
def AssignStartsWrongFalsely : Prop := assignStartsRow.holds Try.pinned (OpenSpec.ofChange assignStartsWrong)

/-- 'bandplanlaw39.AssignSolve': WHATEVER THE INPUT: true; the input reads as it did. -/
def assignSolveSpec : ChangeSpec := { name := "assignSolve", fn := fun _ => fun
  | [d1, d2, d3] => { results := [.lit (.bool true)], args := [d1, d2, d3] }
  | _ => none }
def assignSolveRow : OpenClaim := { program := "yteckijkmcafpaaa", sum := "c3708374626375cc90bc6e8e108951eb653716feb56b9ebfdd62e2b1bf59d682", func := "bandplan/bandplanlaw39.AssignSolve", spec := "assignSolve", unfollowed := true, recurses := true, apart := false }
def AssignSolveSaid : Prop := assignSolveRow.holds Try.pinned (OpenSpec.ofChange assignSolveSpec)

/-- ITS FALSE NEIGHBOUR: 'it returns false'. Refute it at one input. -/
def assignSolveWrong : ChangeSpec := { name := "assignSolve", fn := fun _ => fun
  | [d1, d2, d3] => { results := [.lit (.bool false)], args := [d1, d2, d3] }
  | _ => none }
def AssignSolveWrongFalsely : Prop := assignSolveRow.holds Try.pinned (OpenSpec.ofChange assignSolveWrong)

/-- 'bandplanlaw39.AssignBest': WHATEVER THE INPUT: true; the input reads as it did. -/
def assignBestSpec : ChangeSpec := { name := "assignBest", fn := fun _ => fun
  | [d1, d2, d3, d4] => { results := [.lit (.bool true)], args := [d1, d2, d3, d4] }
  | _ => none }
def assignBestRow : OpenClaim := { program := "yteckijkmcafpaaa", sum := "c3708374626375cc90bc6e8e108951eb653716feb56b9ebfdd62e2b1bf59d682", func := "bandplan/bandplanlaw39.AssignBest", spec := "assignBest", unfollowed := true, recurses := true, apart := false }
def AssignBestSaid : Prop := assignBestRow.holds Try.pinned (OpenSpec.ofChange assignBestSpec)

/-- ITS FALSE NEIGHBOUR: 'it returns false'. Refute it at one input. -/
def assignBestWrong : ChangeSpec := { name := "assignBest", fn := fun _ => fun
  | [d1, d2, d3, d4] => { results := [.lit (.bool false)], args := [d1, d2, d3, d4] }
  | _ => none }
def AssignBestWrongFalsely : Prop := assignBestRow.holds Try.pinned (OpenSpec.ofChange assignBestWrong)

/-- 'bandplanlaw39.AssignCount': WHATEVER THE INPUT: true; the input reads as it did. -/
def assignCountSpec : ChangeSpec := { name := "assignCount", fn := fun _ => fun
  | [d1, d2] => { results := [.lit (.bool true)], args := [d1, d2] }
  | _ => none }
def assignCountRow : OpenClaim := { program := "yteckijkmcafpaaa", sum := "c3708374626375cc90bc6e8e108951eb653716feb56b9ebfdd62e2b1bf59d682", func := "bandplan/bandplanlaw39.AssignCount", spec := "assignCount", unfollowed := true, recurses := true, apart := false }
def AssignCountSaid : Prop := assignCountRow.holds Try.pinned (OpenSpec.ofChange assignCountSpec)

/-- ITS FALSE NEIGHBOUR: 'it returns false'. Refute it at one input. -/
def assignCountWrong : ChangeSpec := { name := "assignCount", fn := fun _ => fun
  | [d1, d2] => { results := [.lit (.bool false)], args := [d1, d2] }
  | _ => none }
def AssignCountWrongFalsely : Prop := assignCountRow.holds Try.pinned (OpenSpec.ofChange assignCountWrong)

/-- 'bandplanlaw39.AssignCheck': WHATEVER THE INPUT: true; the input reads as it did. -/
def assignCheckSpec : ChangeSpec := { name := "assignCheck", fn := fun _ => fun
  | [d1, d2, d3] => { results := [.lit (.bool true)], args := [d1, d2, d3] }
  | _ => none }
def assignCheckRow : OpenClaim := { program := "yteckijkmcafpaaa", sum := "c3708374626375cc90bc6e8e108951eb653716feb56b9ebfdd62e2b1bf59d682", func := "bandplan/bandplanlaw39.AssignCheck", spec := "assignCheck", unfollowed := true, recurses := true, apart := false }
def AssignCheckSaid : Prop := assignCheckRow.holds Try.pinned (OpenSpec.ofChange assignCheckSpec)

/-- ITS FALSE NEIGHBOUR: 'it returns false'. Refute it at one input. -/
def assignCheckWrong : ChangeSpec := { name := "assignCheck", fn := fun _ => fun
  | [d1, d2, d3] => { results := [.lit (.bool false)], args := [d1, d2, d3] }
  | _ => none }
def AssignCheckWrongFalsely : Prop := assignCheckRow.holds Try.pinned (OpenSpec.ofChange assignCheckWrong)

/-- 'bandplanlaw39.AssignValue': WHATEVER THE INPUT: true; the input reads as it did. -/
def assignValueSpec : ChangeSpec := { name := "assignValue", fn := fun _ => fun
  | [d1, d2, d3, d4, d5] => { results := [.lit (.bool true)], args := [d1, d2, d3, d4, d5] }
  | _ => none }
def assignValueRow : OpenClaim := { program := "yteckijkmcafpaaa", sum := "c3708374626375cc90bc6e8e108951eb653716feb56b9ebfdd62e2b1bf59d682", func := "bandplan/bandplanlaw39.AssignValue", spec := "assignValue", unfollowed := true, recurses := true, apart := false }
def AssignValueSaid : Prop := assignValueRow.holds Try.pinned (OpenSpec.ofChange assignValueSpec)

/-- ITS FALSE NEIGHBOUR: 'it returns false'. Refute it at one input. -/
def assignValueWrong : ChangeSpec := { name := "assignValue", fn := fun _ => fun
  | [d1, d2, d3, d4, d5] => { results := [.lit (.bool false)], args := [d1, d2, d3, d4, d5] }
  | _ => none }
def AssignValueWrongFalsely : Prop := assignValueRow.holds Try.pinned (OpenSpec.ofChange assignValueWrong)

/-- 'bandplanlaw39.AssignHolds': WHATEVER THE INPUT: true; the input reads as it did. -/
def assignHoldsSpec : ChangeSpec := { name := "assignHolds", fn := fun _ => fun
  | [d1, d2, d3, d4, d5] => { results := [.lit (.bool true)], args := [d1, d2, d3, d4, d5] }
  | _ => none }
def assignHoldsRow : OpenClaim := { program := "yteckijkmcafpaaa", sum := "c3708374626375cc90bc6e8e108951eb653716feb56b9ebfdd62e2b1bf59d682", func := "bandplan/bandplanlaw39.AssignHolds", spec := "assignHolds", unfollowed := true, recurses := true, apart := false }
def AssignHoldsSaid : Prop := assignHoldsRow.holds Try.pinned (OpenSpec.ofChange assignHoldsSpec)

/-- ITS FALSE NEIGHBOUR: 'it returns false'. Refute it at one input. -/
def assignHoldsWrong : ChangeSpec := { name := "assignHolds", fn := fun _ => fun
  | [d1, d2, d3, d4, d5] => { results := [.lit (.bool false)], args := [d1, d2, d3, d4, d5] }
  | _ => none }
def AssignHoldsWrongFalsely : Prop := assignHoldsRow.holds Try.pinned (OpenSpec.ofChange assignHoldsWrong)

/- THE SECOND FORM. 'bulk': how many values and letters a reading holds, each counted each time it is reached (what is shared counts as often as it is met; a slice's spare places count too). A statement '..UptoSaid' is the law's where the arguments, and the package variables that the reading takes, are together of bulk at most 1048576: NARROWER than '..Said'. Prove '..Said' where nothing that the law and all that it calls make is longer than what came in: it says more and counts as full. Else prove '..UptoSaid'. A law counts once. -/
mutual
def uptoBulk {H : Type} : DataW H → Nat
  | .lit (.string bytes) => bytes.length + 1
  | .lit _ => 1
  | .nil => 1
  | .ptr d => uptoBulk d + 1
  | .slice elems spare => uptoBulkAll elems + uptoBulkAll spare + 1
  | .agg parts => uptoBulkAll parts + 1
  | .iface _ d => uptoBulk d + 1
  | .map entries => uptoBulkEntries entries + 1
  | .held _ => 1
def uptoBulkAll {H : Type} : List (DataW H) → Nat
  | [] => 0
  | d :: r => uptoBulk d + uptoBulkAll r
def uptoBulkEntries {H : Type} : List (Lit × DataW H) → Nat
  | [] => 0
  | x :: r => uptoBulkEntry x + uptoBulkEntries r
def uptoBulkEntry {H : Type} : Lit × DataW H → Nat
  | (.string bytes, d) => bytes.length + uptoBulk d + 1
  | (_, d) => uptoBulk d + 1
 end
def uptoSmall : (H : Type) → List (DataW H) → Bool := fun _ ds => decide (uptoBulkAll ds ≤ 1048576)
def OpenSpec.upto (s : _root_.Go.ChangeSpec) : _root_.Go.OpenSpec := { _root_.Go.OpenSpec.ofChange s with cond := some uptoSmall }

/-- 'bandplanlaw39.AssignValid', WHERE WHAT IT READS IS OF BULK AT MOST 1048576: true; the input reads as it did. -/
def assignValidUptoRow : OpenClaim := { program := "yteckijkmcafpaaa", sum := "c3708374626375cc90bc6e8e108951eb653716feb56b9ebfdd62e2b1bf59d682", func := "bandplan/bandplanlaw39.AssignValid", spec := "assignValid", unfollowed := true, recurses := true, apart := false, narrowed := true }
def AssignValidUptoSaid : Prop := assignValidUptoRow.holds Try.pinned (OpenSpec.upto assignValidSpec)

/-- 'bandplanlaw39.AssignStarts', WHERE WHAT IT READS IS OF BULK AT MOST 1048576: true; the input reads as it did. -/
def assignStartsUptoRow : OpenClaim := { program := "yteckijkmcafpaaa", sum := "c3708374626375cc90bc6e8e108951eb653716feb56b9ebfdd62e2b1bf59d682", func := "bandplan/bandplanlaw39.AssignStarts", spec := "assignStarts", unfollowed := true, recurses := true, apart := false, narrowed := true }
def AssignStartsUptoSaid : Prop := assignStartsUptoRow.holds Try.pinned (OpenSpec.upto assignStartsSpec)

/-- 'bandplanlaw39.AssignSolve', WHERE WHAT IT READS IS OF BULK AT MOST 1048576: true; the input reads as it did. -/
def assignSolveUptoRow : OpenClaim := { program := "yteckijkmcafpaaa", sum := "c3708374626375cc90bc6e8e108951eb653716feb56b9ebfdd62e2b1bf59d682", func := "bandplan/bandplanlaw39.AssignSolve", spec := "assignSolve", unfollowed := true, recurses := true, apart := false, narrowed := true }
def AssignSolveUptoSaid : Prop := assignSolveUptoRow.holds Try.pinned (OpenSpec.upto assignSolveSpec)

/-- 'bandplanlaw39.AssignBest', WHERE WHAT IT READS IS OF BULK AT MOST 1048576: true; the input reads as it did. -/
def assignBestUptoRow : OpenClaim := { program := "yteckijkmcafpaaa", sum := "c3708374626375cc90bc6e8e108951eb653716feb56b9ebfdd62e2b1bf59d682", func := "bandplan/bandplanlaw39.AssignBest", spec := "assignBest", unfollowed := true, recurses := true, apart := false, narrowed := true }
def AssignBestUptoSaid : Prop := assignBestUptoRow.holds Try.pinned (OpenSpec.upto assignBestSpec)

/-- 'bandplanlaw39.AssignCount', WHERE WHAT IT READS IS OF BULK AT MOST 1048576: true; the input reads as it did. -/
def assignCountUptoRow : OpenClaim := { program := "yteckijkmcafpaaa", sum := "c3708374626375cc90bc6e8e108951eb653716feb56b9ebfdd62e2b1bf59d682", func := "bandplan/bandplanlaw39.AssignCount", spec := "assignCount", unfollowed := true, recurses := true, apart := false, narrowed := true }
def AssignCountUptoSaid : Prop := assignCountUptoRow.holds Try.pinned (OpenSpec.upto assignCountSpec)

/-- 'bandplanlaw39.AssignCheck', WHERE WHAT IT READS IS OF BULK AT MOST 1048576: true; the input reads as it did. -/
def assignCheckUptoRow : OpenClaim := { program := "yteckijkmcafpaaa", sum := "c3708374626375cc90bc6e8e108951eb653716feb56b9ebfdd62e2b1bf59d682", func := "bandplan/bandplanlaw39.AssignCheck", spec := "assignCheck", unfollowed := true, recurses := true, apart := false, narrowed := true }
def AssignCheckUptoSaid : Prop := assignCheckUptoRow.holds Try.pinned (OpenSpec.upto assignCheckSpec)

/-- 'bandplanlaw39.AssignValue', WHERE WHAT IT READS IS OF BULK AT MOST 1048576: true; the input reads as it did. -/
def assignValueUptoRow : OpenClaim := { program := "yteckijkmcafpaaa", sum := "c3708374626375cc90bc6e8e108951eb653716feb56b9ebfdd62e2b1bf59d682", func := "bandplan/bandplanlaw39.AssignValue", spec := "assignValue", unfollowed := true, recurses := true, apart := false, narrowed := true }
def AssignValueUptoSaid : Prop := assignValueUptoRow.holds Try.pinned (OpenSpec.upto assignValueSpec)

/-- 'bandplanlaw39.AssignHolds', WHERE WHAT IT READS IS OF BULK AT MOST 1048576: true; the input reads as it did. -/
def assignHoldsUptoRow : OpenClaim := { program := "yteckijkmcafpaaa", sum := "c3708374626375cc90bc6e8e108951eb653716feb56b9ebfdd62e2b1bf59d682", func := "bandplan/bandplanlaw39.AssignHolds", spec := "assignHolds", unfollowed := true, recurses := true, apart := false, narrowed := true }
def AssignHoldsUptoSaid : Prop := assignHoldsUptoRow.holds Try.pinned (OpenSpec.upto assignHoldsSpec)

end Rows
end Go.Proofs.Yteckijkmcafpaaa
