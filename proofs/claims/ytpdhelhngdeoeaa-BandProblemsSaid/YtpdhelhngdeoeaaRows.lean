/-
  No cell of these rows narrows 'for every input' (looked for: loops, veiled, ifaces, maps, wideKeys, modest, calm, conditions, laid).
  DERIVED. THE GIVEN ROWS OF THIS SEAT. 4 by the template 'for every input the law returns true; each argument reads behind the call as it read before'; 0 by the template 'total and deterministic' (their statements: YtpdhelhngdeoeaaTotals.lean).
  GIVEN WITH THE SEED: the statements are not yours to turn. If you find one false, say at which input.
  Laid BY PROGRAM, IN A SANDBOX (cutbox-rows.mjs): the forced cells as the released guide's own fill.sh prints them over the translation 3fde344a91056b25… (all of the seat's roots in one cut). By AI agents, Wed Nov 11 2026. No macro, syntax, notation, axiom, sorry.
-/
import Derived.Test.YtpdhelhngdeoeaaChecked
import GoSem.Claim
import GoSem.ClaimJoined
import GoSem.ClaimMapViews
import Derived.JoinedTies
import Derived.KernelRfl
namespace Go.Proofs.Ytpdhelhngdeoeaa
/- THE CELL 'sum', in the pinned program and in every row, IS THE sha256 OF THE DUMP (.gsa) THAT YtpdhelhngdeoeaaProg.lean LOADS. Nothing in Lean hashes anything: it is a label: what it is worth is what the hold of that sum in a sandbox is worth. -/
noncomputable def Try.pinned : Pinned := { name := "ytpdhelhngdeoeaa", sum := "3fde344a91056b258920ae6a586a69c21afc4f97fd349a20732d161d7c27191f", checked := Try.checked }
namespace Rows
def none {H : Type} : Left H := { results := [], args := [] }

/-- 'bandplanlaw26.BandRanges': WHATEVER THE INPUT: true; the input reads as it did. -/
def bandRangesSpec : ChangeSpec := { name := "bandRanges", fn := fun _ => fun
  | [d1, d2] => { results := [.lit (.bool true)], args := [d1, d2] }
  | _ => none }
def bandRangesRow : OpenClaim := { program := "ytpdhelhngdeoeaa", sum := "3fde344a91056b258920ae6a586a69c21afc4f97fd349a20732d161d7c27191f", func := "bandplan/bandplanlaw26.BandRanges", spec := "bandRanges", unfollowed := true, recurses := true, plainKeys := false, apart := false }
def BandRangesSaid : Prop := bandRangesRow.holds Try.pinned (OpenSpec.ofChange bandRangesSpec)

/-- ITS FALSE NEIGHBOUR: 'it returns false'. Refute it at one input. -/
def bandRangesWrong : ChangeSpec := { name := "bandRanges", fn := fun _ => fun
  | [d1, d2] => { results := [.lit (.bool false)], args := [d1, d2] }
  | _ => none }
def BandRangesWrongFalsely : Prop := bandRangesRow.holds Try.pinned (OpenSpec.ofChange bandRangesWrong)

/-- 'bandplanlaw26.BandTargets': WHATEVER THE INPUT: true; the input reads as it did. -/
def bandTargetsSpec : ChangeSpec := { name := "bandTargets", fn := fun _ => fun
  | [d1, d2] => { results := [.lit (.bool true)], args := [d1, d2] }
  | _ => none }
def bandTargetsRow : OpenClaim := { program := "ytpdhelhngdeoeaa", sum := "3fde344a91056b258920ae6a586a69c21afc4f97fd349a20732d161d7c27191f", func := "bandplan/bandplanlaw26.BandTargets", spec := "bandTargets", unfollowed := true, recurses := true, plainKeys := false, apart := false }
def BandTargetsSaid : Prop := bandTargetsRow.holds Try.pinned (OpenSpec.ofChange bandTargetsSpec)

/-- ITS FALSE NEIGHBOUR: 'it returns false'. Refute it at one input. -/
def bandTargetsWrong : ChangeSpec := { name := "bandTargets", fn := fun _ => fun
  | [d1, d2] => { results := [.lit (.bool false)], args := [d1, d2] }
  | _ => none }
def BandTargetsWrongFalsely : Prop := bandTargetsRow.holds Try.pinned (OpenSpec.ofChange bandTargetsWrong)

/-- 'bandplanlaw26.BandChannels': WHATEVER THE INPUT: true; the input reads as it did. -/
def bandChannelsSpec : ChangeSpec := { name := "bandChannels", fn := fun _ => fun
  | [d1, d2] => { results := [.lit (.bool true)], args := [d1, d2] }
  | _ => none }
def bandChannelsRow : OpenClaim := { program := "ytpdhelhngdeoeaa", sum := "3fde344a91056b258920ae6a586a69c21afc4f97fd349a20732d161d7c27191f", func := "bandplan/bandplanlaw26.BandChannels", spec := "bandChannels", unfollowed := true, recurses := true, plainKeys := false, apart := false }
def BandChannelsSaid : Prop := bandChannelsRow.holds Try.pinned (OpenSpec.ofChange bandChannelsSpec)

/-- ITS FALSE NEIGHBOUR: 'it returns false'. Refute it at one input. -/
def bandChannelsWrong : ChangeSpec := { name := "bandChannels", fn := fun _ => fun
  | [d1, d2] => { results := [.lit (.bool false)], args := [d1, d2] }
  | _ => none }
def BandChannelsWrongFalsely : Prop := bandChannelsRow.holds Try.pinned (OpenSpec.ofChange bandChannelsWrong)

/-- 'bandplanlaw26.BandProblems': WHATEVER THE INPUT: true; the input reads as it did. -/
def bandProblemsSpec : ChangeSpec := { name := "bandProblems", fn := fun _ => fun
  | [d1, d2, d3] => { results := [.lit (.bool true)], args := [d1, d2, d3] }
  | _ => none }
def bandProblemsRow : OpenClaim := { program := "ytpdhelhngdeoeaa", sum := "3fde344a91056b258920ae6a586a69c21afc4f97fd349a20732d161d7c27191f", func := "bandplan/bandplanlaw26.BandProblems", spec := "bandProblems", unfollowed := true, recurses := true, plainKeys := false, apart := false }
def BandProblemsSaid : Prop := bandProblemsRow.holds Try.pinned (OpenSpec.ofChange bandProblemsSpec)

/-- ITS FALSE NEIGHBOUR: 'it returns false'. Refute it at one input. -/
def bandProblemsWrong : ChangeSpec := { name := "bandProblems", fn := fun _ => fun
  | [d1, d2, d3] => { results := [.lit (.bool false)], args := [d1, d2, d3] }
  | _ => none }
def BandProblemsWrongFalsely : Prop := bandProblemsRow.holds Try.pinned (OpenSpec.ofChange bandProblemsWrong)

/- THE SECOND FORM. 'bulk': how many values and letters a reading holds, each counted each time it is reached (what is shared counts as often as it is met; a slice's spare places count too). A statement '..UptoSaid' is the law's where the arguments, and the package variables that the reading takes, are together of bulk at most 1048576: NARROWER than '..Said'. Prove '..Said' where nothing that the law and all that it calls make is longer than what came in: it says more and counts as full. Else prove '..UptoSaid'. A law counts once. -/
mutual
def uptoBulk {H : Type} : DataW H → Nat
  | .lit (.string bytes) => bytes.length + 1
  | .lit _ => 1
  | .nil => 1
  | .ptr d => uptoBulk d + 1
  | .slice elems spare => uptoBulkAll elems + uptoBulkAll spare + 1
  | .agg parts => uptoBulkAll parts + 1
  | .iface _ d => uptoBulk d + 1
  | .map entries => uptoBulkEntries entries + 1
  | .held _ => 1
def uptoBulkAll {H : Type} : List (DataW H) → Nat
  | [] => 0
  | d :: r => uptoBulk d + uptoBulkAll r
def uptoBulkEntries {H : Type} : List (Lit × DataW H) → Nat
  | [] => 0
  | x :: r => uptoBulkEntry x + uptoBulkEntries r
def uptoBulkEntry {H : Type} : Lit × DataW H → Nat
  | (.string bytes, d) => bytes.length + uptoBulk d + 1
  | (_, d) => uptoBulk d + 1
 end
def uptoSmall : (H : Type) → List (DataW H) → Bool := fun _ ds => decide (uptoBulkAll ds ≤ 1048576)
def OpenSpec.upto (s : _root_.Go.ChangeSpec) : _root_.Go.OpenSpec := { _root_.Go.OpenSpec.ofChange s with cond := some uptoSmall }

/-- 'bandplanlaw26.BandRanges', WHERE WHAT IT READS IS OF BULK AT MOST 1048576: true; the input reads as it did. -/
def bandRangesUptoRow : OpenClaim := { program := "ytpdhelhngdeoeaa", sum := "3fde344a91056b258920ae6a586a69c21afc4f97fd349a20732d161d7c27191f", func := "bandplan/bandplanlaw26.BandRanges", spec := "bandRanges", unfollowed := true, recurses := true, plainKeys := false, apart := false, narrowed := true }
def BandRangesUptoSaid : Prop := bandRangesUptoRow.holds Try.pinned (OpenSpec.upto bandRangesSpec)

/-- 'bandplanlaw26.BandTargets', WHERE WHAT IT READS IS OF BULK AT MOST 1048576: true; the input reads as it did. -/
def bandTargetsUptoRow : OpenClaim := { program := "ytpdhelhngdeoeaa", sum := "3fde344a91056b258920ae6a586a69c21afc4f97fd349a20732d161d7c27191f", func := "bandplan/bandplanlaw26.BandTargets", spec := "bandTargets", unfollowed := true, recurses := true, plainKeys := false, apart := false, narrowed := true }
def BandTargetsUptoSaid : Prop := bandTargetsUptoRow.holds Try.pinned (OpenSpec.upto bandTargetsSpec)

/-- 'bandplanlaw26.BandChannels', WHERE WHAT IT READS IS OF BULK AT MOST 1048576: true; the input reads as it did. -/
def bandChannelsUptoRow : OpenClaim := { program := "ytpdhelhngdeoeaa", sum := "3fde344a91056b258920ae6a586a69c21afc4f97fd349a20732d161d7c27191f", func := "bandplan/bandplanlaw26.BandChannels", spec := "bandChannels", unfollowed := true, recurses := true, plainKeys := false, apart := false, narrowed := true }
def BandChannelsUptoSaid : Prop := bandChannelsUptoRow.holds Try.pinned (OpenSpec.upto bandChannelsSpec)

/-- 'bandplanlaw26.BandProblems', WHERE WHAT IT READS IS OF BULK AT MOST 1048576: true; the input reads as it did. -/
def bandProblemsUptoRow : OpenClaim := { program := "ytpdhelhngdeoeaa", sum := "3fde344a91056b258920ae6a586a69c21afc4f97fd349a20732d161d7c27191f", func := "bandplan/bandplanlaw26.BandProblems", spec := "bandProblems", unfollowed := true, recurses := true, plainKeys := false, apart := false, narrowed := true }
def BandProblemsUptoSaid : Prop := bandProblemsUptoRow.holds Try.pinned (OpenSpec.upto bandProblemsSpec)

end Rows
end Go.Proofs.Ytpdhelhngdeoeaa
