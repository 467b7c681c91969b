/-
  No cell of these rows narrows 'for every input' (looked for: loops, veiled, ifaces, maps, wideKeys, modest, calm, conditions, laid).
  DERIVED. THE GIVEN ROWS OF THIS SEAT. 8 by the template 'for every input the law returns true; each argument reads behind the call as it read before'; 0 by the template 'total and deterministic' (their statements: YtojfpobgncapjaaTotals.lean).
  GIVEN WITH THE SEED: the statements are not yours to turn. If you find one false, say at which input.
  Laid BY PROGRAM, IN A SANDBOX (cutbox-rows.mjs): the forced cells as the released guide's own fill.sh prints them over the translation 8fdae215c4c7825c… (all of the seat's roots in one cut). By AI agents, Wed Nov 11 2026. No macro, syntax, notation, axiom, sorry.
-/
import Derived.Test.YtojfpobgncapjaaChecked
import GoSem.Claim
import GoSem.ClaimJoined
import GoSem.ClaimMapViews
import Derived.JoinedTies
import Derived.KernelRfl
namespace Go.Proofs.Ytojfpobgncapjaa
/- THE CELL 'sum', in the pinned program and in every row, IS THE sha256 OF THE DUMP (.gsa) THAT YtojfpobgncapjaaProg.lean LOADS. Nothing in Lean hashes anything: it is a label: what it is worth is what the hold of that sum in a sandbox is worth. -/
noncomputable def Try.pinned : Pinned := { name := "ytojfpobgncapjaa", sum := "8fdae215c4c7825c201420f82cfc6905c286d0bba401c295728d8d967c52d2cf", checked := Try.checked }
namespace Rows
def none {H : Type} : Left H := { results := [], args := [] }

/-- 'palmettelaw03.PartitionFind': WHATEVER THE INPUT: true; the input reads as it did. -/
def partitionFindSpec : ChangeSpec := { name := "partitionFind", fn := fun _ => fun
  | [d1, d2, d3, d4] => { results := [.lit (.bool true)], args := [d1, d2, d3, d4] }
  | _ => none }
def partitionFindRow : OpenClaim := { program := "ytojfpobgncapjaa", sum := "8fdae215c4c7825c201420f82cfc6905c286d0bba401c295728d8d967c52d2cf", func := "palmette/palmettelaw03.PartitionFind", spec := "partitionFind", unfollowed := true, recurses := true, plainKeys := false, apart := false }
def PartitionFindSaid : Prop := partitionFindRow.holds Try.pinned (OpenSpec.ofChange partitionFindSpec)

/-- ITS FALSE NEIGHBOUR: 'it returns false'. Refute it at one input. -/
def partitionFindWrong : ChangeSpec := { name := "partitionFind", fn := fun _ => fun
  | [d1, d2, d3, d4] => { results := [.lit (.bool false)], args := [d1, d2, d3, d4] }
  | _ => none }
def PartitionFindWrongFalsely : Prop := partitionFindRow.holds Try.pinned (OpenSpec.ofChange partitionFindWrong)

/-- 'palmettelaw03.PartitionUnion': WHATEVER THE INPUT: true; the input reads as it did. -/
def partitionUnionSpec : ChangeSpec := { name := "partitionUnion", fn := fun _ => fun
  | [d1, d2] => { results := [.lit (.bool true)], args := [d1, d2] }
  | _ => none }
def partitionUnionRow : OpenClaim := { program := "ytojfpobgncapjaa", sum := "8fdae215c4c7825c201420f82cfc6905c286d0bba401c295728d8d967c52d2cf", func := "palmette/palmettelaw03.PartitionUnion", spec := "partitionUnion", unfollowed := true, recurses := true, plainKeys := false, apart := false }
def PartitionUnionSaid : Prop := partitionUnionRow.holds Try.pinned (OpenSpec.ofChange partitionUnionSpec)

/-- ITS FALSE NEIGHBOUR: 'it returns false'. Refute it at one input. -/
def partitionUnionWrong : ChangeSpec := { name := "partitionUnion", fn := fun _ => fun
  | [d1, d2] => { results := [.lit (.bool false)], args := [d1, d2] }
  | _ => none }
def PartitionUnionWrongFalsely : Prop := partitionUnionRow.holds Try.pinned (OpenSpec.ofChange partitionUnionWrong)

/-- 'palmettelaw03.PartitionOrder': WHATEVER THE INPUT: true; the input reads as it did. -/
def partitionOrderSpec : ChangeSpec := { name := "partitionOrder", fn := fun _ => fun
  | [d1, d2, d3] => { results := [.lit (.bool true)], args := [d1, d2, d3] }
  | _ => none }
def partitionOrderRow : OpenClaim := { program := "ytojfpobgncapjaa", sum := "8fdae215c4c7825c201420f82cfc6905c286d0bba401c295728d8d967c52d2cf", func := "palmette/palmettelaw03.PartitionOrder", spec := "partitionOrder", unfollowed := true, recurses := true, plainKeys := false, apart := false }
def PartitionOrderSaid : Prop := partitionOrderRow.holds Try.pinned (OpenSpec.ofChange partitionOrderSpec)

/-- ITS FALSE NEIGHBOUR: 'it returns false'. Refute it at one input. -/
def partitionOrderWrong : ChangeSpec := { name := "partitionOrder", fn := fun _ => fun
  | [d1, d2, d3] => { results := [.lit (.bool false)], args := [d1, d2, d3] }
  | _ => none }
def PartitionOrderWrongFalsely : Prop := partitionOrderRow.holds Try.pinned (OpenSpec.ofChange partitionOrderWrong)

/-- 'palmettelaw03.PartitionLattice': WHATEVER THE INPUT: true; the input reads as it did. -/
def partitionLatticeSpec : ChangeSpec := { name := "partitionLattice", fn := fun _ => fun
  | [d1, d2] => { results := [.lit (.bool true)], args := [d1, d2] }
  | _ => none }
def partitionLatticeRow : OpenClaim := { program := "ytojfpobgncapjaa", sum := "8fdae215c4c7825c201420f82cfc6905c286d0bba401c295728d8d967c52d2cf", func := "palmette/palmettelaw03.PartitionLattice", spec := "partitionLattice", unfollowed := true, recurses := true, plainKeys := false, apart := false }
def PartitionLatticeSaid : Prop := partitionLatticeRow.holds Try.pinned (OpenSpec.ofChange partitionLatticeSpec)

/-- ITS FALSE NEIGHBOUR: 'it returns false'. Refute it at one input. -/
def partitionLatticeWrong : ChangeSpec := { name := "partitionLattice", fn := fun _ => fun
  | [d1, d2] => { results := [.lit (.bool false)], args := [d1, d2] }
  | _ => none }
def PartitionLatticeWrongFalsely : Prop := partitionLatticeRow.holds Try.pinned (OpenSpec.ofChange partitionLatticeWrong)

/-- 'palmettelaw03.PartitionSplit': WHATEVER THE INPUT: true; the input reads as it did. -/
def partitionSplitSpec : ChangeSpec := { name := "partitionSplit", fn := fun _ => fun
  | [d1, d2, d3] => { results := [.lit (.bool true)], args := [d1, d2, d3] }
  | _ => none }
def partitionSplitRow : OpenClaim := { program := "ytojfpobgncapjaa", sum := "8fdae215c4c7825c201420f82cfc6905c286d0bba401c295728d8d967c52d2cf", func := "palmette/palmettelaw03.PartitionSplit", spec := "partitionSplit", unfollowed := true, recurses := true, plainKeys := false, apart := false }
def PartitionSplitSaid : Prop := partitionSplitRow.holds Try.pinned (OpenSpec.ofChange partitionSplitSpec)

/-- ITS FALSE NEIGHBOUR: 'it returns false'. Refute it at one input. -/
def partitionSplitWrong : ChangeSpec := { name := "partitionSplit", fn := fun _ => fun
  | [d1, d2, d3] => { results := [.lit (.bool false)], args := [d1, d2, d3] }
  | _ => none }
def PartitionSplitWrongFalsely : Prop := partitionSplitRow.holds Try.pinned (OpenSpec.ofChange partitionSplitWrong)

/-- 'palmettelaw03.PartitionFromBlocks': WHATEVER THE INPUT: true; the input reads as it did. -/
def partitionFromBlocksSpec : ChangeSpec := { name := "partitionFromBlocks", fn := fun _ => fun
  | [d1, d2] => { results := [.lit (.bool true)], args := [d1, d2] }
  | _ => none }
def partitionFromBlocksRow : OpenClaim := { program := "ytojfpobgncapjaa", sum := "8fdae215c4c7825c201420f82cfc6905c286d0bba401c295728d8d967c52d2cf", func := "palmette/palmettelaw03.PartitionFromBlocks", spec := "partitionFromBlocks", unfollowed := true, recurses := true, plainKeys := false, apart := false }
def PartitionFromBlocksSaid : Prop := partitionFromBlocksRow.holds Try.pinned (OpenSpec.ofChange partitionFromBlocksSpec)

/-- ITS FALSE NEIGHBOUR: 'it returns false'. Refute it at one input. -/
def partitionFromBlocksWrong : ChangeSpec := { name := "partitionFromBlocks", fn := fun _ => fun
  | [d1, d2] => { results := [.lit (.bool false)], args := [d1, d2] }
  | _ => none }
def PartitionFromBlocksWrongFalsely : Prop := partitionFromBlocksRow.holds Try.pinned (OpenSpec.ofChange partitionFromBlocksWrong)

/-- 'palmettelaw03.PartitionMeetJoin': WHATEVER THE INPUT: true; the input reads as it did. -/
def partitionMeetJoinSpec : ChangeSpec := { name := "partitionMeetJoin", fn := fun _ => fun
  | [d1, d2, d3] => { results := [.lit (.bool true)], args := [d1, d2, d3] }
  | _ => none }
def partitionMeetJoinRow : OpenClaim := { program := "ytojfpobgncapjaa", sum := "8fdae215c4c7825c201420f82cfc6905c286d0bba401c295728d8d967c52d2cf", func := "palmette/palmettelaw03.PartitionMeetJoin", spec := "partitionMeetJoin", unfollowed := true, recurses := true, plainKeys := false, apart := false }
def PartitionMeetJoinSaid : Prop := partitionMeetJoinRow.holds Try.pinned (OpenSpec.ofChange partitionMeetJoinSpec)

/-- ITS FALSE NEIGHBOUR: 'it returns false'. Refute it at one input. -/
def partitionMeetJoinWrong : ChangeSpec := { name := "partitionMeetJoin", fn := fun _ => fun
  | [d1, d2, d3] => { results := [.lit (.bool false)], args := [d1, d2, d3] }
  | _ => none }
def PartitionMeetJoinWrongFalsely : Prop := partitionMeetJoinRow.holds Try.pinned (OpenSpec.ofChange partitionMeetJoinWrong)

/-- 'palmettelaw03.PartitionNil': WHATEVER THE INPUT: true; the input reads as it did. -/
def partitionNilSpec : ChangeSpec := { name := "partitionNil", fn := fun _ => fun
  | [d1, d2, d3, d4] => { results := [.lit (.bool true)], args := [d1, d2, d3, d4] }
  | _ => none }
def partitionNilRow : OpenClaim := { program := "ytojfpobgncapjaa", sum := "8fdae215c4c7825c201420f82cfc6905c286d0bba401c295728d8d967c52d2cf", func := "palmette/palmettelaw03.PartitionNil", spec := "partitionNil", unfollowed := true, recurses := true, plainKeys := false, apart := false }
def PartitionNilSaid : Prop := partitionNilRow.holds Try.pinned (OpenSpec.ofChange partitionNilSpec)

/-- ITS FALSE NEIGHBOUR: 'it returns false'. Refute it at one input. -/
def partitionNilWrong : ChangeSpec := { name := "partitionNil", fn := fun _ => fun
  | [d1, d2, d3, d4] => { results := [.lit (.bool false)], args := [d1, d2, d3, d4] }
  | _ => none }
def PartitionNilWrongFalsely : Prop := partitionNilRow.holds Try.pinned (OpenSpec.ofChange partitionNilWrong)

/- THE SECOND FORM. 'bulk': how many values and letters a reading holds, each counted each time it is reached (what is shared counts as often as it is met; a slice's spare places count too). A statement '..UptoSaid' is the law's where the arguments, and the package variables that the reading takes, are together of bulk at most 1048576: NARROWER than '..Said'. Prove '..Said' where nothing that the law and all that it calls make is longer than what came in: it says more and counts as full. Else prove '..UptoSaid'. A law counts once. -/
mutual
def uptoBulk {H : Type} : DataW H → Nat
  | .lit (.string bytes) => bytes.length + 1
  | .lit _ => 1
  | .nil => 1
  | .ptr d => uptoBulk d + 1
  | .slice elems spare => uptoBulkAll elems + uptoBulkAll spare + 1
  | .agg parts => uptoBulkAll parts + 1
  | .iface _ d => uptoBulk d + 1
  | .map entries => uptoBulkEntries entries + 1
  | .held _ => 1
def uptoBulkAll {H : Type} : List (DataW H) → Nat
  | [] => 0
  | d :: r => uptoBulk d + uptoBulkAll r
def uptoBulkEntries {H : Type} : List (Lit × DataW H) → Nat
  | [] => 0
  | x :: r => uptoBulkEntry x + uptoBulkEntries r
def uptoBulkEntry {H : Type} : Lit × DataW H → Nat
  | (.string bytes, d) => bytes.length + uptoBulk d + 1
  | (_, d) => uptoBulk d + 1
 end
def uptoSmall : (H : Type) → List (DataW H) → Bool := fun _ ds => decide (uptoBulkAll ds ≤ 1048576)
def OpenSpec.upto (s : _root_.Go.ChangeSpec) : _root_.Go.OpenSpec := { _root_.Go.OpenSpec.ofChange s with cond := some uptoSmall }

/-- 'palmettelaw03.PartitionFind', WHERE WHAT IT READS IS OF BULK AT MOST 1048576: true; the input reads as it did. -/
def partitionFindUptoRow : OpenClaim := { program := "ytojfpobgncapjaa", sum := "8fdae215c4c7825c201420f82cfc6905c286d0bba401c295728d8d967c52d2cf", func := "palmette/palmettelaw03.PartitionFind", spec := "partitionFind", unfollowed := true, recurses := true, plainKeys := false, apart := false, narrowed := true }
def PartitionFindUptoSaid : Prop := partitionFindUptoRow.holds Try.pinned (OpenSpec.upto partitionFindSpec)

/-- 'palmettelaw03.PartitionUnion', WHERE WHAT IT READS IS OF BULK AT MOST 1048576: true; the input reads as it did. -/
def partitionUnionUptoRow : OpenClaim := { program := "ytojfpobgncapjaa", sum := "8fdae215c4c7825c201420f82cfc6905c286d0bba401c295728d8d967c52d2cf", func := "palmette/palmettelaw03.PartitionUnion", spec := "partitionUnion", unfollowed := true, recurses := true, plainKeys := false, apart := false, narrowed := true }
def PartitionUnionUptoSaid : Prop := partitionUnionUptoRow.holds Try.pinned (OpenSpec.upto partitionUnionSpec)

/-- 'palmettelaw03.PartitionOrder', WHERE WHAT IT READS IS OF BULK AT MOST 1048576: true; the input reads as it did. -/
def partitionOrderUptoRow : OpenClaim := { program := "ytojfpobgncapjaa", sum := "8fdae215c4c7825c201420f82cfc6905c286d0bba401c295728d8d967c52d2cf", func := "palmette/palmettelaw03.PartitionOrder", spec := "partitionOrder", unfollowed := true, recurses := true, plainKeys := false, apart := false, narrowed := true }
def PartitionOrderUptoSaid : Prop := partitionOrderUptoRow.holds Try.pinned (OpenSpec.upto partitionOrderSpec)

/-- 'palmettelaw03.PartitionLattice', WHERE WHAT IT READS IS OF BULK AT MOST 1048576: true; the input reads as it did. -/
def partitionLatticeUptoRow : OpenClaim := { program := "ytojfpobgncapjaa", sum := "8fdae215c4c7825c201420f82cfc6905c286d0bba401c295728d8d967c52d2cf", func := "palmette/palmettelaw03.PartitionLattice", spec := "partitionLattice", unfollowed := true, recurses := true, plainKeys := false, apart := false, narrowed := true }
def PartitionLatticeUptoSaid : Prop := partitionLatticeUptoRow.holds Try.pinned (OpenSpec.upto partitionLatticeSpec)

/-- 'palmettelaw03.PartitionSplit', WHERE WHAT IT READS IS OF BULK AT MOST 1048576: true; the input reads as it did. -/
def partitionSplitUptoRow : OpenClaim := { program := "ytojfpobgncapjaa", sum := "8fdae215c4c7825c201420f82cfc6905c286d0bba401c295728d8d967c52d2cf", func := "palmette/palmettelaw03.PartitionSplit", spec := "partitionSplit", unfollowed := true, recurses := true, plainKeys := false, apart := false, narrowed := true }
def PartitionSplitUptoSaid : Prop := partitionSplitUptoRow.holds Try.pinned (OpenSpec.upto partitionSplitSpec)

/-- 'palmettelaw03.PartitionFromBlocks', WHERE WHAT IT READS IS OF BULK AT MOST 1048576: true; the input reads as it did. -/
def partitionFromBlocksUptoRow : OpenClaim := { program := "ytojfpobgncapjaa", sum := "8fdae215c4c7825c201420f82cfc6905c286d0bba401c295728d8d967c52d2cf", func := "palmette/palmettelaw03.PartitionFromBlocks", spec := "partitionFromBlocks", unfollowed := true, recurses := true, plainKeys := false, apart := false, narrowed := true }
def PartitionFromBlocksUptoSaid : Prop := partitionFromBlocksUptoRow.holds Try.pinned (OpenSpec.upto partitionFromBlocksSpec)

/-- 'palmettelaw03.PartitionMeetJoin', WHERE WHAT IT READS IS OF BULK AT MOST 1048576: true; the input reads as it did. -/
def partitionMeetJoinUptoRow : OpenClaim := { program := "ytojfpobgncapjaa", sum := "8fdae215c4c7825c201420f82cfc6905c286d0bba401c295728d8d967c52d2cf", func := "palmette/palmettelaw03.PartitionMeetJoin", spec := "partitionMeetJoin", unfollowed := true, recurses := true, plainKeys := false, apart := false, narrowed := true }
def PartitionMeetJoinUptoSaid : Prop := partitionMeetJoinUptoRow.holds Try.pinned (OpenSpec.upto partitionMeetJoinSpec)

/-- 'palmettelaw03.PartitionNil', WHERE WHAT IT READS IS OF BULK AT MOST 1048576: true; the input reads as it did. -/
def partitionNilUptoRow : OpenClaim := { program := "ytojfpobgncapjaa", sum := "8fdae215c4c7825c201420f82cfc6905c286d0bba401c295728d8d967c52d2cf", func := "palmette/palmettelaw03.PartitionNil", spec := "partitionNil", unfollowed := true, recurses := true, plainKeys := false, apart := false, narrowed := true }
def PartitionNilUptoSaid : Prop := partitionNilUptoRow.holds Try.pinned (OpenSpec.upto partitionNilSpec)

end Rows
end Go.Proofs.Ytojfpobgncapjaa
