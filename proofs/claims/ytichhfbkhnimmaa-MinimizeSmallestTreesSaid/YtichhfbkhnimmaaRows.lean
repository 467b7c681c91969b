/-
  NARROWER THAN 'FOR EVERY INPUT', by the rows' own cells (each row's printed sentence says how): MinimizeLanguage: loops.
  DERIVED. THE GIVEN ROWS OF THIS SEAT. 8 by the template 'for every input the law returns true; each argument reads behind the call as it read before'; 0 by the template 'total and deterministic' (their statements: YtichhfbkhnimmaaTotals.lean).
  GIVEN WITH THE SEED: the statements are not yours to turn. If you find one false, say at which input.
  Laid BY PROGRAM, IN A SANDBOX (cutbox-rows.mjs): the forced cells as the released guide's own fill.sh prints them over the translation d66afed7670293e4… (all of the seat's roots in one cut). By AI agents, Wed Nov 11 2026. No macro, syntax, notation, axiom, sorry.
-/
import Derived.Test.YtichhfbkhnimmaaChecked
import GoSem.Claim
import GoSem.ClaimJoined
import GoSem.ClaimMapViews
import Derived.JoinedTies
import Derived.KernelRfl
namespace Go.Proofs.Ytichhfbkhnimmaa
/- THE CELL 'sum', in the pinned program and in every row, IS THE sha256 OF THE DUMP (.gsa) THAT YtichhfbkhnimmaaProg.lean LOADS. Nothing in Lean hashes anything: it is a label: what it is worth is what the hold of that sum in a sandbox is worth. -/
noncomputable def Try.pinned : Pinned := { name := "ytichhfbkhnimmaa", sum := "d66afed7670293e4775d3b8f6f8a4b4d6f01eba90a8035ae7f54c194005c8b95", checked := Try.checked }
namespace Rows
def none {H : Type} : Left H := { results := [], args := [] }

/-- 'palmettelaw35.MinimizeClasses': WHATEVER THE INPUT: true; the input reads as it did. -/
def minimizeClassesSpec : ChangeSpec := { name := "minimizeClasses", fn := fun _ => fun
  | [d] => { results := [.lit (.bool true)], args := [d] }
  | _ => none }
def minimizeClassesRow : OpenClaim := { program := "ytichhfbkhnimmaa", sum := "d66afed7670293e4775d3b8f6f8a4b4d6f01eba90a8035ae7f54c194005c8b95", func := "palmette/palmettelaw35.MinimizeClasses", spec := "minimizeClasses", unfollowed := true, recurses := true, plainKeys := false, apart := false }
def MinimizeClassesSaid : Prop := minimizeClassesRow.holds Try.pinned (OpenSpec.ofChange minimizeClassesSpec)

/-- ITS FALSE NEIGHBOUR: 'it returns false'. Refute it at one input. -/
def minimizeClassesWrong : ChangeSpec := { name := "minimizeClasses", fn := fun _ => fun
  | [d] => { results := [.lit (.bool false)], args := [d] }
  | _ => none }
def MinimizeClassesWrongFalsely : Prop := minimizeClassesRow.holds Try.pinned (OpenSpec.ofChange minimizeClassesWrong)

/-- 'palmettelaw35.MinimizeDistinguish': WHATEVER THE INPUT: true; the input reads as it did. -/
def minimizeDistinguishSpec : ChangeSpec := { name := "minimizeDistinguish", fn := fun _ => fun
  | [d1, d2, d3] => { results := [.lit (.bool true)], args := [d1, d2, d3] }
  | _ => none }
def minimizeDistinguishRow : OpenClaim := { program := "ytichhfbkhnimmaa", sum := "d66afed7670293e4775d3b8f6f8a4b4d6f01eba90a8035ae7f54c194005c8b95", func := "palmette/palmettelaw35.MinimizeDistinguish", spec := "minimizeDistinguish", unfollowed := true, recurses := true, plainKeys := false, apart := false }
def MinimizeDistinguishSaid : Prop := minimizeDistinguishRow.holds Try.pinned (OpenSpec.ofChange minimizeDistinguishSpec)

/-- ITS FALSE NEIGHBOUR: 'it returns false'. Refute it at one input. -/
def minimizeDistinguishWrong : ChangeSpec := { name := "minimizeDistinguish", fn := fun _ => fun
  | [d1, d2, d3] => { results := [.lit (.bool false)], args := [d1, d2, d3] }
  | _ => none }
def MinimizeDistinguishWrongFalsely : Prop := minimizeDistinguishRow.holds Try.pinned (OpenSpec.ofChange minimizeDistinguishWrong)

/-- 'palmettelaw35.MinimizeResult': WHATEVER THE INPUT: true; the input reads as it did. -/
def minimizeResultSpec : ChangeSpec := { name := "minimizeResult", fn := fun _ => fun
  | [d] => { results := [.lit (.bool true)], args := [d] }
  | _ => none }
def minimizeResultRow : OpenClaim := { program := "ytichhfbkhnimmaa", sum := "d66afed7670293e4775d3b8f6f8a4b4d6f01eba90a8035ae7f54c194005c8b95", func := "palmette/palmettelaw35.MinimizeResult", spec := "minimizeResult", unfollowed := true, recurses := true, plainKeys := false, apart := false }
def MinimizeResultSaid : Prop := minimizeResultRow.holds Try.pinned (OpenSpec.ofChange minimizeResultSpec)

/-- ITS FALSE NEIGHBOUR: 'it returns false'. Refute it at one input. -/
def minimizeResultWrong : ChangeSpec := { name := "minimizeResult", fn := fun _ => fun
  | [d] => { results := [.lit (.bool false)], args := [d] }
  | _ => none }
def MinimizeResultWrongFalsely : Prop := minimizeResultRow.holds Try.pinned (OpenSpec.ofChange minimizeResultWrong)

/-- 'palmettelaw35.MinimizeFewest': WHATEVER THE INPUT: true; the input reads as it did. -/
def minimizeFewestSpec : ChangeSpec := { name := "minimizeFewest", fn := fun _ => fun
  | [d1, d2] => { results := [.lit (.bool true)], args := [d1, d2] }
  | _ => none }
def minimizeFewestRow : OpenClaim := { program := "ytichhfbkhnimmaa", sum := "d66afed7670293e4775d3b8f6f8a4b4d6f01eba90a8035ae7f54c194005c8b95", func := "palmette/palmettelaw35.MinimizeFewest", spec := "minimizeFewest", unfollowed := true, recurses := true, plainKeys := false, apart := false }
def MinimizeFewestSaid : Prop := minimizeFewestRow.holds Try.pinned (OpenSpec.ofChange minimizeFewestSpec)

/-- ITS FALSE NEIGHBOUR: 'it returns false'. Refute it at one input. -/
def minimizeFewestWrong : ChangeSpec := { name := "minimizeFewest", fn := fun _ => fun
  | [d1, d2] => { results := [.lit (.bool false)], args := [d1, d2] }
  | _ => none }
def MinimizeFewestWrongFalsely : Prop := minimizeFewestRow.holds Try.pinned (OpenSpec.ofChange minimizeFewestWrong)

/-- 'palmettelaw35.MinimizeInvariant': WHATEVER THE INPUT: true; the input reads as it did. -/
def minimizeInvariantSpec : ChangeSpec := { name := "minimizeInvariant", fn := fun _ => fun
  | [d1, d2] => { results := [.lit (.bool true)], args := [d1, d2] }
  | _ => none }
def minimizeInvariantRow : OpenClaim := { program := "ytichhfbkhnimmaa", sum := "d66afed7670293e4775d3b8f6f8a4b4d6f01eba90a8035ae7f54c194005c8b95", func := "palmette/palmettelaw35.MinimizeInvariant", spec := "minimizeInvariant", unfollowed := true, recurses := true, plainKeys := false, apart := false }
def MinimizeInvariantSaid : Prop := minimizeInvariantRow.holds Try.pinned (OpenSpec.ofChange minimizeInvariantSpec)

/-- ITS FALSE NEIGHBOUR: 'it returns false'. Refute it at one input. -/
def minimizeInvariantWrong : ChangeSpec := { name := "minimizeInvariant", fn := fun _ => fun
  | [d1, d2] => { results := [.lit (.bool false)], args := [d1, d2] }
  | _ => none }
def MinimizeInvariantWrongFalsely : Prop := minimizeInvariantRow.holds Try.pinned (OpenSpec.ofChange minimizeInvariantWrong)

/-- 'palmettelaw35.MinimizeLanguage': WHATEVER THE INPUT: true; the input reads as it did. -/
def minimizeLanguageSpec : ChangeSpec := { name := "minimizeLanguage", fn := fun _ => fun
  | [d1, d2] => { results := [.lit (.bool true)], args := [d1, d2] }
  | _ => none }
def minimizeLanguageRow : OpenClaim := { program := "ytichhfbkhnimmaa", sum := "d66afed7670293e4775d3b8f6f8a4b4d6f01eba90a8035ae7f54c194005c8b95", func := "palmette/palmettelaw35.MinimizeLanguage", spec := "minimizeLanguage", unfollowed := true, recurses := true, loops := true, plainKeys := false, apart := false }
def MinimizeLanguageSaid : Prop := minimizeLanguageRow.holds Try.pinned (OpenSpec.ofChange minimizeLanguageSpec)

/-- ITS FALSE NEIGHBOUR: 'it returns false'. Refute it at one input. -/
def minimizeLanguageWrong : ChangeSpec := { name := "minimizeLanguage", fn := fun _ => fun
  | [d1, d2] => { results := [.lit (.bool false)], args := [d1, d2] }
  | _ => none }
def MinimizeLanguageWrongFalsely : Prop := minimizeLanguageRow.holds Try.pinned (OpenSpec.ofChange minimizeLanguageWrong)

/-- 'palmettelaw35.MinimizeIndependent': WHATEVER THE INPUT: true; the input reads as it did. -/
def minimizeIndependentSpec : ChangeSpec := { name := "minimizeIndependent", fn := fun _ => fun
  | [d1, d2, d3] => { results := [.lit (.bool true)], args := [d1, d2, d3] }
  | _ => none }
def minimizeIndependentRow : OpenClaim := { program := "ytichhfbkhnimmaa", sum := "d66afed7670293e4775d3b8f6f8a4b4d6f01eba90a8035ae7f54c194005c8b95", func := "palmette/palmettelaw35.MinimizeIndependent", spec := "minimizeIndependent", unfollowed := true, recurses := true, plainKeys := false, apart := false }
def MinimizeIndependentSaid : Prop := minimizeIndependentRow.holds Try.pinned (OpenSpec.ofChange minimizeIndependentSpec)

/-- ITS FALSE NEIGHBOUR: 'it returns false'. Refute it at one input. -/
def minimizeIndependentWrong : ChangeSpec := { name := "minimizeIndependent", fn := fun _ => fun
  | [d1, d2, d3] => { results := [.lit (.bool false)], args := [d1, d2, d3] }
  | _ => none }
def MinimizeIndependentWrongFalsely : Prop := minimizeIndependentRow.holds Try.pinned (OpenSpec.ofChange minimizeIndependentWrong)

/-- 'palmettelaw35.MinimizeSmallestTrees': WHATEVER THE INPUT: true; the input reads as it did. -/
def minimizeSmallestTreesSpec : ChangeSpec := { name := "minimizeSmallestTrees", fn := fun _ => fun
  | [d] => { results := [.lit (.bool true)], args := [d] }
  | _ => none }
def minimizeSmallestTreesRow : OpenClaim := { program := "ytichhfbkhnimmaa", sum := "d66afed7670293e4775d3b8f6f8a4b4d6f01eba90a8035ae7f54c194005c8b95", func := "palmette/palmettelaw35.MinimizeSmallestTrees", spec := "minimizeSmallestTrees", unfollowed := true, recurses := true, plainKeys := false, apart := false }
def MinimizeSmallestTreesSaid : Prop := minimizeSmallestTreesRow.holds Try.pinned (OpenSpec.ofChange minimizeSmallestTreesSpec)

/-- ITS FALSE NEIGHBOUR: 'it returns false'. Refute it at one input. -/
def minimizeSmallestTreesWrong : ChangeSpec := { name := "minimizeSmallestTrees", fn := fun _ => fun
  | [d] => { results := [.lit (.bool false)], args := [d] }
  | _ => none }
def MinimizeSmallestTreesWrongFalsely : Prop := minimizeSmallestTreesRow.holds Try.pinned (OpenSpec.ofChange minimizeSmallestTreesWrong)

/- THE SECOND FORM. 'bulk': how many values and letters a reading holds, each counted each time it is reached (what is shared counts as often as it is met; a slice's spare places count too). A statement '..UptoSaid' is the law's where the arguments, and the package variables that the reading takes, are together of bulk at most 1048576: NARROWER than '..Said'. Prove '..Said' where nothing that the law and all that it calls make is longer than what came in: it says more and counts as full. Else prove '..UptoSaid'. A law counts once. -/
mutual
def uptoBulk {H : Type} : DataW H → Nat
  | .lit (.string bytes) => bytes.length + 1
  | .lit _ => 1
  | .nil => 1
  | .ptr d => uptoBulk d + 1
  | .slice elems spare => uptoBulkAll elems + uptoBulkAll spare + 1
  | .agg parts => uptoBulkAll parts + 1
  | .iface _ d => uptoBulk d + 1
  | .map entries => uptoBulkEntries entries + 1
  | .held _ => 1
def uptoBulkAll {H : Type} : List (DataW H) → Nat
  | [] => 0
  | d :: r => uptoBulk d + uptoBulkAll r
def uptoBulkEntries {H : Type} : List (Lit × DataW H) → Nat
  | [] => 0
  | x :: r => uptoBulkEntry x + uptoBulkEntries r
def uptoBulkEntry {H : Type} : Lit × DataW H → Nat
  | (.string bytes, d) => bytes.length + uptoBulk d + 1
  | (_, d) => uptoBulk d + 1
 end
def uptoSmall : (H : Type) → List (DataW H) → Bool := fun _ ds => decide (uptoBulkAll ds ≤ 1048576)
def OpenSpec.upto (s : _root_.Go.ChangeSpec) : _root_.Go.OpenSpec := { _root_.Go.OpenSpec.ofChange s with cond := some uptoSmall }

/-- 'palmettelaw35.MinimizeClasses', WHERE WHAT IT READS IS OF BULK AT MOST 1048576: true; the input reads as it did. -/
def minimizeClassesUptoRow : OpenClaim := { program := "ytichhfbkhnimmaa", sum := "d66afed7670293e4775d3b8f6f8a4b4d6f01eba90a8035ae7f54c194005c8b95", func := "palmette/palmettelaw35.MinimizeClasses", spec := "minimizeClasses", unfollowed := true, recurses := true, plainKeys := false, apart := false, narrowed := true }
def MinimizeClassesUptoSaid : Prop := minimizeClassesUptoRow.holds Try.pinned (OpenSpec.upto minimizeClassesSpec)

/-- 'palmettelaw35.MinimizeDistinguish', WHERE WHAT IT READS IS OF BULK AT MOST 1048576: true; the input reads as it did. -/
def minimizeDistinguishUptoRow : OpenClaim := { program := "ytichhfbkhnimmaa", sum := "d66afed7670293e4775d3b8f6f8a4b4d6f01eba90a8035ae7f54c194005c8b95", func := "palmette/palmettelaw35.MinimizeDistinguish", spec := "minimizeDistinguish", unfollowed := true, recurses := true, plainKeys := false, apart := false, narrowed := true }
def MinimizeDistinguishUptoSaid : Prop := minimizeDistinguishUptoRow.holds Try.pinned (OpenSpec.upto minimizeDistinguishSpec)

/-- 'palmettelaw35.MinimizeResult', WHERE WHAT IT READS IS OF BULK AT MOST 1048576: true; the input reads as it did. -/
def minimizeResultUptoRow : OpenClaim := { program := "ytichhfbkhnimmaa", sum := "d66afed7670293e4775d3b8f6f8a4b4d6f01eba90a8035ae7f54c194005c8b95", func := "palmette/palmettelaw35.MinimizeResult", spec := "minimizeResult", unfollowed := true, recurses := true, plainKeys := false, apart := false, narrowed := true }
def MinimizeResultUptoSaid : Prop := minimizeResultUptoRow.holds Try.pinned (OpenSpec.upto minimizeResultSpec)

/-- 'palmettelaw35.MinimizeFewest', WHERE WHAT IT READS IS OF BULK AT MOST 1048576: true; the input reads as it did. -/
def minimizeFewestUptoRow : OpenClaim := { program := "ytichhfbkhnimmaa", sum := "d66afed7670293e4775d3b8f6f8a4b4d6f01eba90a8035ae7f54c194005c8b95", func := "palmette/palmettelaw35.MinimizeFewest", spec := "minimizeFewest", unfollowed := true, recurses := true, plainKeys := false, apart := false, narrowed := true }
def MinimizeFewestUptoSaid : Prop := minimizeFewestUptoRow.holds Try.pinned (OpenSpec.upto minimizeFewestSpec)

/-- 'palmettelaw35.MinimizeInvariant', WHERE WHAT IT READS IS OF BULK AT MOST 1048576: true; the input reads as it did. -/
def minimizeInvariantUptoRow : OpenClaim := { program := "ytichhfbkhnimmaa", sum := "d66afed7670293e4775d3b8f6f8a4b4d6f01eba90a8035ae7f54c194005c8b95", func := "palmette/palmettelaw35.MinimizeInvariant", spec := "minimizeInvariant", unfollowed := true, recurses := true, plainKeys := false, apart := false, narrowed := true }
def MinimizeInvariantUptoSaid : Prop := minimizeInvariantUptoRow.holds Try.pinned (OpenSpec.upto minimizeInvariantSpec)

/-- 'palmettelaw35.MinimizeLanguage', WHERE WHAT IT READS IS OF BULK AT MOST 1048576: true; the input reads as it did. -/
def minimizeLanguageUptoRow : OpenClaim := { program := "ytichhfbkhnimmaa", sum := "d66afed7670293e4775d3b8f6f8a4b4d6f01eba90a8035ae7f54c194005c8b95", func := "palmette/palmettelaw35.MinimizeLanguage", spec := "minimizeLanguage", unfollowed := true, recurses := true, loops := true, plainKeys := false, apart := false, narrowed := true }
def MinimizeLanguageUptoSaid : Prop := minimizeLanguageUptoRow.holds Try.pinned (OpenSpec.upto minimizeLanguageSpec)

/-- 'palmettelaw35.MinimizeIndependent', WHERE WHAT IT READS IS OF BULK AT MOST 1048576: true; the input reads as it did. -/
def minimizeIndependentUptoRow : OpenClaim := { program := "ytichhfbkhnimmaa", sum := "d66afed7670293e4775d3b8f6f8a4b4d6f01eba90a8035ae7f54c194005c8b95", func := "palmette/palmettelaw35.MinimizeIndependent", spec := "minimizeIndependent", unfollowed := true, recurses := true, plainKeys := false, apart := false, narrowed := true }
def MinimizeIndependentUptoSaid : Prop := minimizeIndependentUptoRow.holds Try.pinned (OpenSpec.upto minimizeIndependentSpec)

/-- 'palmettelaw35.MinimizeSmallestTrees', WHERE WHAT IT READS IS OF BULK AT MOST 1048576: true; the input reads as it did. -/
def minimizeSmallestTreesUptoRow : OpenClaim := { program := "ytichhfbkhnimmaa", sum := "d66afed7670293e4775d3b8f6f8a4b4d6f01eba90a8035ae7f54c194005c8b95", func := "palmette/palmettelaw35.MinimizeSmallestTrees", spec := "minimizeSmallestTrees", unfollowed := true, recurses := true, plainKeys := false, apart := false, narrowed := true }
def MinimizeSmallestTreesUptoSaid : Prop := minimizeSmallestTreesUptoRow.holds Try.pinned (OpenSpec.upto minimizeSmallestTreesSpec)

end Rows
end Go.Proofs.Ytichhfbkhnimmaa
