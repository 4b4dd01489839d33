/-
  No cell of these rows narrows 'for every input' (looked for: loops, veiled, ifaces, maps, wideKeys, modest, calm, conditions, laid).
  DERIVED. THE GIVEN ROWS OF THIS SEAT. 8 by the template 'for every input the law returns true; each argument reads behind the call as it read before'; 0 by the template 'total and deterministic' (their statements: YtoafkphcfhbnmaaTotals.lean).
  GIVEN WITH THE SEED: the statements are not yours to turn. If you find one false, say at which input.
  Laid BY PROGRAM, IN A SANDBOX (cutbox-rows.mjs): the forced cells as the released guide's own fill.sh prints them over the translation 49b3e12aae5e6615… (all of the seat's roots in one cut). By AI agents, Wed Nov 11 2026. No macro, syntax, notation, axiom, sorry.
-/
import Derived.Test.YtoafkphcfhbnmaaChecked
import GoSem.Claim
import GoSem.ClaimJoined
import GoSem.ClaimMapViews
import Derived.JoinedTies
import Derived.KernelRfl
namespace Go.Proofs.Ytoafkphcfhbnmaa
/- THE CELL 'sum', in the pinned program and in every row, IS THE sha256 OF THE DUMP (.gsa) THAT YtoafkphcfhbnmaaProg.lean LOADS. Nothing in Lean hashes anything: it is a label: what it is worth is what the hold of that sum in a sandbox is worth. -/
noncomputable def Try.pinned : Pinned := { name := "ytoafkphcfhbnmaa", sum := "49b3e12aae5e66152677b43fe3c733803c621e43e576aab89b870950a1b22e72", checked := Try.checked }
namespace Rows
def none {H : Type} : Left H := { results := [], args := [] }

/-- 'bandplanlaw34.DemandValid': WHATEVER THE INPUT: true; the input reads as it did. -/
def demandValidSpec : ChangeSpec := { name := "demandValid", fn := fun _ => fun
  | [d1, d2] => { results := [.lit (.bool true)], args := [d1, d2] }
  | _ => none }
def demandValidRow : OpenClaim := { program := "ytoafkphcfhbnmaa", sum := "49b3e12aae5e66152677b43fe3c733803c621e43e576aab89b870950a1b22e72", func := "bandplan/bandplanlaw34.DemandValid", spec := "demandValid", unfollowed := true, recurses := true, plainKeys := false, apart := false }
def DemandValidSaid : Prop := demandValidRow.holds Try.pinned (OpenSpec.ofChange demandValidSpec)

/-- ITS FALSE NEIGHBOUR: 'it returns false'. Refute it at one input. -/
def demandValidWrong : ChangeSpec := { name := "demandValid", fn := fun _ => fun
  | [d1, d2] => { results := [.lit (.bool false)], args := [d1, d2] }
  | _ => none }
def DemandValidWrongFalsely : Prop := demandValidRow.holds Try.pinned (OpenSpec.ofChange demandValidWrong)

/-- 'bandplanlaw34.DemandUnits': WHATEVER THE INPUT: true; the input reads as it did. -/
def demandUnitsSpec : ChangeSpec := { name := "demandUnits", fn := fun _ => fun
  | [d1, d2, d3] => { results := [.lit (.bool true)], args := [d1, d2, d3] }
  | _ => none }
def demandUnitsRow : OpenClaim := { program := "ytoafkphcfhbnmaa", sum := "49b3e12aae5e66152677b43fe3c733803c621e43e576aab89b870950a1b22e72", func := "bandplan/bandplanlaw34.DemandUnits", spec := "demandUnits", unfollowed := true, recurses := true, plainKeys := false, apart := false }
def DemandUnitsSaid : Prop := demandUnitsRow.holds Try.pinned (OpenSpec.ofChange demandUnitsSpec)

/-- ITS FALSE NEIGHBOUR: 'it returns false'. Refute it at one input. -/
def demandUnitsWrong : ChangeSpec := { name := "demandUnits", fn := fun _ => fun
  | [d1, d2, d3] => { results := [.lit (.bool false)], args := [d1, d2, d3] }
  | _ => none }
def DemandUnitsWrongFalsely : Prop := demandUnitsRow.holds Try.pinned (OpenSpec.ofChange demandUnitsWrong)

/-- 'bandplanlaw34.DemandBidders': WHATEVER THE INPUT: true; the input reads as it did. -/
def demandBiddersSpec : ChangeSpec := { name := "demandBidders", fn := fun _ => fun
  | [d1, d2] => { results := [.lit (.bool true)], args := [d1, d2] }
  | _ => none }
def demandBiddersRow : OpenClaim := { program := "ytoafkphcfhbnmaa", sum := "49b3e12aae5e66152677b43fe3c733803c621e43e576aab89b870950a1b22e72", func := "bandplan/bandplanlaw34.DemandBidders", spec := "demandBidders", unfollowed := true, recurses := true, plainKeys := false, apart := false }
def DemandBiddersSaid : Prop := demandBiddersRow.holds Try.pinned (OpenSpec.ofChange demandBiddersSpec)

/-- ITS FALSE NEIGHBOUR: 'it returns false'. Refute it at one input. -/
def demandBiddersWrong : ChangeSpec := { name := "demandBidders", fn := fun _ => fun
  | [d1, d2] => { results := [.lit (.bool false)], args := [d1, d2] }
  | _ => none }
def DemandBiddersWrongFalsely : Prop := demandBiddersRow.holds Try.pinned (OpenSpec.ofChange demandBiddersWrong)

/-- 'bandplanlaw34.DemandExcess': WHATEVER THE INPUT: true; the input reads as it did. -/
def demandExcessSpec : ChangeSpec := { name := "demandExcess", fn := fun _ => fun
  | [d1, d2] => { results := [.lit (.bool true)], args := [d1, d2] }
  | _ => none }
def demandExcessRow : OpenClaim := { program := "ytoafkphcfhbnmaa", sum := "49b3e12aae5e66152677b43fe3c733803c621e43e576aab89b870950a1b22e72", func := "bandplan/bandplanlaw34.DemandExcess", spec := "demandExcess", unfollowed := true, recurses := true, plainKeys := false, apart := false }
def DemandExcessSaid : Prop := demandExcessRow.holds Try.pinned (OpenSpec.ofChange demandExcessSpec)

/-- ITS FALSE NEIGHBOUR: 'it returns false'. Refute it at one input. -/
def demandExcessWrong : ChangeSpec := { name := "demandExcess", fn := fun _ => fun
  | [d1, d2] => { results := [.lit (.bool false)], args := [d1, d2] }
  | _ => none }
def DemandExcessWrongFalsely : Prop := demandExcessRow.holds Try.pinned (OpenSpec.ofChange demandExcessWrong)

/-- 'bandplanlaw34.DemandChange': WHATEVER THE INPUT: true; the input reads as it did. -/
def demandChangeSpec : ChangeSpec := { name := "demandChange", fn := fun _ => fun
  | [d1, d2, d3, d4] => { results := [.lit (.bool true)], args := [d1, d2, d3, d4] }
  | _ => none }
def demandChangeRow : OpenClaim := { program := "ytoafkphcfhbnmaa", sum := "49b3e12aae5e66152677b43fe3c733803c621e43e576aab89b870950a1b22e72", func := "bandplan/bandplanlaw34.DemandChange", spec := "demandChange", unfollowed := true, recurses := true, plainKeys := false, apart := false }
def DemandChangeSaid : Prop := demandChangeRow.holds Try.pinned (OpenSpec.ofChange demandChangeSpec)

/-- ITS FALSE NEIGHBOUR: 'it returns false'. Refute it at one input. -/
def demandChangeWrong : ChangeSpec := { name := "demandChange", fn := fun _ => fun
  | [d1, d2, d3, d4] => { results := [.lit (.bool false)], args := [d1, d2, d3, d4] }
  | _ => none }
def DemandChangeWrongFalsely : Prop := demandChangeRow.holds Try.pinned (OpenSpec.ofChange demandChangeWrong)

/-- 'bandplanlaw34.DemandCarry': WHATEVER THE INPUT: true; the input reads as it did. -/
def demandCarrySpec : ChangeSpec := { name := "demandCarry", fn := fun _ => fun
  | [d1, d2, d3] => { results := [.lit (.bool true)], args := [d1, d2, d3] }
  | _ => none }
def demandCarryRow : OpenClaim := { program := "ytoafkphcfhbnmaa", sum := "49b3e12aae5e66152677b43fe3c733803c621e43e576aab89b870950a1b22e72", func := "bandplan/bandplanlaw34.DemandCarry", spec := "demandCarry", unfollowed := true, recurses := true, plainKeys := false, apart := false }
def DemandCarrySaid : Prop := demandCarryRow.holds Try.pinned (OpenSpec.ofChange demandCarrySpec)

/-- ITS FALSE NEIGHBOUR: 'it returns false'. Refute it at one input. -/
def demandCarryWrong : ChangeSpec := { name := "demandCarry", fn := fun _ => fun
  | [d1, d2, d3] => { results := [.lit (.bool false)], args := [d1, d2, d3] }
  | _ => none }
def DemandCarryWrongFalsely : Prop := demandCarryRow.holds Try.pinned (OpenSpec.ofChange demandCarryWrong)

/-- 'bandplanlaw34.DemandHolds': WHATEVER THE INPUT: true; the input reads as it did. -/
def demandHoldsSpec : ChangeSpec := { name := "demandHolds", fn := fun _ => fun
  | [d1, d2, d3, d4, d5] => { results := [.lit (.bool true)], args := [d1, d2, d3, d4, d5] }
  | _ => none }
def demandHoldsRow : OpenClaim := { program := "ytoafkphcfhbnmaa", sum := "49b3e12aae5e66152677b43fe3c733803c621e43e576aab89b870950a1b22e72", func := "bandplan/bandplanlaw34.DemandHolds", spec := "demandHolds", unfollowed := true, recurses := true, plainKeys := false, apart := false }
def DemandHoldsSaid : Prop := demandHoldsRow.holds Try.pinned (OpenSpec.ofChange demandHoldsSpec)

/-- ITS FALSE NEIGHBOUR: 'it returns false'. Refute it at one input. -/
def demandHoldsWrong : ChangeSpec := { name := "demandHolds", fn := fun _ => fun
  | [d1, d2, d3, d4, d5] => { results := [.lit (.bool false)], args := [d1, d2, d3, d4, d5] }
  | _ => none }
def DemandHoldsWrongFalsely : Prop := demandHoldsRow.holds Try.pinned (OpenSpec.ofChange demandHoldsWrong)

/-- 'bandplanlaw34.DemandBids': WHATEVER THE INPUT: true; the input reads as it did. -/
def demandBidsSpec : ChangeSpec := { name := "demandBids", fn := fun _ => fun
  | [d1, d2, d3] => { results := [.lit (.bool true)], args := [d1, d2, d3] }
  | _ => none }
def demandBidsRow : OpenClaim := { program := "ytoafkphcfhbnmaa", sum := "49b3e12aae5e66152677b43fe3c733803c621e43e576aab89b870950a1b22e72", func := "bandplan/bandplanlaw34.DemandBids", spec := "demandBids", unfollowed := true, recurses := true, plainKeys := false, apart := false }
def DemandBidsSaid : Prop := demandBidsRow.holds Try.pinned (OpenSpec.ofChange demandBidsSpec)

/-- ITS FALSE NEIGHBOUR: 'it returns false'. Refute it at one input. -/
def demandBidsWrong : ChangeSpec := { name := "demandBids", fn := fun _ => fun
  | [d1, d2, d3] => { results := [.lit (.bool false)], args := [d1, d2, d3] }
  | _ => none }
def DemandBidsWrongFalsely : Prop := demandBidsRow.holds Try.pinned (OpenSpec.ofChange demandBidsWrong)

/- THE SECOND FORM. 'bulk': how many values and letters a reading holds, each counted each time it is reached (what is shared counts as often as it is met; a slice's spare places count too). A statement '..UptoSaid' is the law's where the arguments, and the package variables that the reading takes, are together of bulk at most 1048576: NARROWER than '..Said'. Prove '..Said' where nothing that the law and all that it calls make is longer than what came in: it says more and counts as full. Else prove '..UptoSaid'. A law counts once. -/
mutual
def uptoBulk {H : Type} : DataW H → Nat
  | .lit (.string bytes) => bytes.length + 1
  | .lit _ => 1
  | .nil => 1
  | .ptr d => uptoBulk d + 1
  | .slice elems spare => uptoBulkAll elems + uptoBulkAll spare + 1
  | .agg parts => uptoBulkAll parts + 1
  | .iface _ d => uptoBulk d + 1
  | .map entries => uptoBulkEntries entries + 1
  | .held _ => 1
def uptoBulkAll {H : Type} : List (DataW H) → Nat
  | [] => 0
  | d :: r => uptoBulk d + uptoBulkAll r
def uptoBulkEntries {H : Type} : List (Lit × DataW H) → Nat
  | [] => 0
  | x :: r => uptoBulkEntry x + uptoBulkEntries r
def uptoBulkEntry {H : Type} : Lit × DataW H → Nat
  | (.string bytes, d) => bytes.length + uptoBulk d + 1
  | (_, d) => uptoBulk d + 1
 end
def uptoSmall : (H : Type) → List (DataW H) → Bool := fun _ ds => decide (uptoBulkAll ds ≤ 1048576)
def OpenSpec.upto (s : _root_.Go.ChangeSpec) : _root_.Go.OpenSpec := { _root_.Go.OpenSpec.ofChange s with cond := some uptoSmall }

/-- 'bandplanlaw34.DemandValid', WHERE WHAT IT READS IS OF BULK AT MOST 1048576: true; the input reads as it did. -/
def demandValidUptoRow : OpenClaim := { program := "ytoafkphcfhbnmaa", sum := "49b3e12aae5e66152677b43fe3c733803c621e43e576aab89b870950a1b22e72", func := "bandplan/bandplanlaw34.DemandValid", spec := "demandValid", unfollowed := true, recurses := true, plainKeys := false, apart := false, narrowed := true }
def DemandValidUptoSaid : Prop := demandValidUptoRow.holds Try.pinned (OpenSpec.upto demandValidSpec)

/-- 'bandplanlaw34.DemandUnits', WHERE WHAT IT READS IS OF BULK AT MOST 1048576: true; the input reads as it did. -/
def demandUnitsUptoRow : OpenClaim := { program := "ytoafkphcfhbnmaa", sum := "49b3e12aae5e66152677b43fe3c733803c621e43e576aab89b870950a1b22e72", func := "bandplan/bandplanlaw34.DemandUnits", spec := "demandUnits", unfollowed := true, recurses := true, plainKeys := false, apart := false, narrowed := true }
def DemandUnitsUptoSaid : Prop := demandUnitsUptoRow.holds Try.pinned (OpenSpec.upto demandUnitsSpec)

/-- 'bandplanlaw34.DemandBidders', WHERE WHAT IT READS IS OF BULK AT MOST 1048576: true; the input reads as it did. -/
def demandBiddersUptoRow : OpenClaim := { program := "ytoafkphcfhbnmaa", sum := "49b3e12aae5e66152677b43fe3c733803c621e43e576aab89b870950a1b22e72", func := "bandplan/bandplanlaw34.DemandBidders", spec := "demandBidders", unfollowed := true, recurses := true, plainKeys := false, apart := false, narrowed := true }
def DemandBiddersUptoSaid : Prop := demandBiddersUptoRow.holds Try.pinned (OpenSpec.upto demandBiddersSpec)

/-- 'bandplanlaw34.DemandExcess', WHERE WHAT IT READS IS OF BULK AT MOST 1048576: true; the input reads as it did. -/
def demandExcessUptoRow : OpenClaim := { program := "ytoafkphcfhbnmaa", sum := "49b3e12aae5e66152677b43fe3c733803c621e43e576aab89b870950a1b22e72", func := "bandplan/bandplanlaw34.DemandExcess", spec := "demandExcess", unfollowed := true, recurses := true, plainKeys := false, apart := false, narrowed := true }
def DemandExcessUptoSaid : Prop := demandExcessUptoRow.holds Try.pinned (OpenSpec.upto demandExcessSpec)

/-- 'bandplanlaw34.DemandChange', WHERE WHAT IT READS IS OF BULK AT MOST 1048576: true; the input reads as it did. -/
def demandChangeUptoRow : OpenClaim := { program := "ytoafkphcfhbnmaa", sum := "49b3e12aae5e66152677b43fe3c733803c621e43e576aab89b870950a1b22e72", func := "bandplan/bandplanlaw34.DemandChange", spec := "demandChange", unfollowed := true, recurses := true, plainKeys := false, apart := false, narrowed := true }
def DemandChangeUptoSaid : Prop := demandChangeUptoRow.holds Try.pinned (OpenSpec.upto demandChangeSpec)

/-- 'bandplanlaw34.DemandCarry', WHERE WHAT IT READS IS OF BULK AT MOST 1048576: true; the input reads as it did. -/
def demandCarryUptoRow : OpenClaim := { program := "ytoafkphcfhbnmaa", sum := "49b3e12aae5e66152677b43fe3c733803c621e43e576aab89b870950a1b22e72", func := "bandplan/bandplanlaw34.DemandCarry", spec := "demandCarry", unfollowed := true, recurses := true, plainKeys := false, apart := false, narrowed := true }
def DemandCarryUptoSaid : Prop := demandCarryUptoRow.holds Try.pinned (OpenSpec.upto demandCarrySpec)

/-- 'bandplanlaw34.DemandHolds', WHERE WHAT IT READS IS OF BULK AT MOST 1048576: true; the input reads as it did. -/
def demandHoldsUptoRow : OpenClaim := { program := "ytoafkphcfhbnmaa", sum := "49b3e12aae5e66152677b43fe3c733803c621e43e576aab89b870950a1b22e72", func := "bandplan/bandplanlaw34.DemandHolds", spec := "demandHolds", unfollowed := true, recurses := true, plainKeys := false, apart := false, narrowed := true }
def DemandHoldsUptoSaid : Prop := demandHoldsUptoRow.holds Try.pinned (OpenSpec.upto demandHoldsSpec)

/-- 'bandplanlaw34.DemandBids', WHERE WHAT IT READS IS OF BULK AT MOST 1048576: true; the input reads as it did. -/
def demandBidsUptoRow : OpenClaim := { program := "ytoafkphcfhbnmaa", sum := "49b3e12aae5e66152677b43fe3c733803c621e43e576aab89b870950a1b22e72", func := "bandplan/bandplanlaw34.DemandBids", spec := "demandBids", unfollowed := true, recurses := true, plainKeys := false, apart := false, narrowed := true }
def DemandBidsUptoSaid : Prop := demandBidsUptoRow.holds Try.pinned (OpenSpec.upto demandBidsSpec)

end Rows
end Go.Proofs.Ytoafkphcfhbnmaa
