/-
  NARROWER THAN 'FOR EVERY INPUT', by the rows' own cells (each row's printed sentence says how): DTARun: loops · DTABooleanOperations: loops · DTADeMorgan: loops · DTATrimPreservesLanguage: loops · DTAPermutePreservesLanguage: loops.
  DERIVED. THE GIVEN ROWS OF THIS SEAT. 10 by the template 'for every input the law returns true; each argument reads behind the call as it read before'; 0 by the template 'total and deterministic' (their statements: YtdakoccbmeojhaaTotals.lean).
  GIVEN WITH THE SEED: the statements are not yours to turn. If you find one false, say at which input.
  Laid BY PROGRAM, IN A SANDBOX (cutbox-rows.mjs): the forced cells as the released guide's own fill.sh prints them over the translation 6ce46b0620d8d565… (all of the seat's roots in one cut). By AI agents, Wed Nov 11 2026. No macro, syntax, notation, axiom, sorry.
-/
import Derived.Test.YtdakoccbmeojhaaChecked
import GoSem.Claim
import GoSem.ClaimJoined
import GoSem.ClaimMapViews
import Derived.JoinedTies
import Derived.KernelRfl
namespace Go.Proofs.Ytdakoccbmeojhaa
/- THE CELL 'sum', in the pinned program and in every row, IS THE sha256 OF THE DUMP (.gsa) THAT YtdakoccbmeojhaaProg.lean LOADS. Nothing in Lean hashes anything: it is a label: what it is worth is what the hold of that sum in a sandbox is worth. -/
noncomputable def Try.pinned : Pinned := { name := "ytdakoccbmeojhaa", sum := "6ce46b0620d8d56570e9fffbb5c09b7497e39e7fe0e897a773a09cdafb40d546", checked := Try.checked }
namespace Rows
def none {H : Type} : Left H := { results := [], args := [] }

/-- 'palmettelaw33.DTARun': WHATEVER THE INPUT: true; the input reads as it did. -/
def dTARunSpec : ChangeSpec := { name := "dTARun", fn := fun _ => fun
  | [d1, d2] => { results := [.lit (.bool true)], args := [d1, d2] }
  | _ => none }
def dTARunRow : OpenClaim := { program := "ytdakoccbmeojhaa", sum := "6ce46b0620d8d56570e9fffbb5c09b7497e39e7fe0e897a773a09cdafb40d546", func := "palmette/palmettelaw33.DTARun", spec := "dTARun", unfollowed := true, recurses := true, loops := true, apart := false }
def DTARunSaid : Prop := dTARunRow.holds Try.pinned (OpenSpec.ofChange dTARunSpec)

/-- ITS FALSE NEIGHBOUR: 'it returns false'. Refute it at one input. -/
def dTARunWrong : ChangeSpec := { name := "dTARun", fn := fun _ => fun
  | [d1, d2] => { results := [.lit (.bool false)], args := [d1, d2] }
  | _ => none }
def DTARunWrongFalsely : Prop := dTARunRow.holds Try.pinned (OpenSpec.ofChange dTARunWrong)

/-- 'palmettelaw33.DTAStep': WHATEVER THE INPUT: true; the input reads as it did. -/
def dTAStepSpec : ChangeSpec := { name := "dTAStep", fn := fun _ => fun
  | [d1, d2, d3] => { results := [.lit (.bool true)], args := [d1, d2, d3] }
  | _ => none }
def dTAStepRow : OpenClaim := { program := "ytdakoccbmeojhaa", sum := "6ce46b0620d8d56570e9fffbb5c09b7497e39e7fe0e897a773a09cdafb40d546", func := "palmette/palmettelaw33.DTAStep", spec := "dTAStep", unfollowed := true, recurses := true, apart := false }
def DTAStepSaid : Prop := dTAStepRow.holds Try.pinned (OpenSpec.ofChange dTAStepSpec)

/-- ITS FALSE NEIGHBOUR: 'it returns false'. Refute it at one input. -/
def dTAStepWrong : ChangeSpec := { name := "dTAStep", fn := fun _ => fun
  | [d1, d2, d3] => { results := [.lit (.bool false)], args := [d1, d2, d3] }
  | _ => none }
def DTAStepWrongFalsely : Prop := dTAStepRow.holds Try.pinned (OpenSpec.ofChange dTAStepWrong)

/-- 'palmettelaw33.DTAEqualClone': WHATEVER THE INPUT: true; the input reads as it did. -/
def dTAEqualCloneSpec : ChangeSpec := { name := "dTAEqualClone", fn := fun _ => fun
  | [d1, d2] => { results := [.lit (.bool true)], args := [d1, d2] }
  | _ => none }
def dTAEqualCloneRow : OpenClaim := { program := "ytdakoccbmeojhaa", sum := "6ce46b0620d8d56570e9fffbb5c09b7497e39e7fe0e897a773a09cdafb40d546", func := "palmette/palmettelaw33.DTAEqualClone", spec := "dTAEqualClone", unfollowed := true, recurses := true, apart := false }
def DTAEqualCloneSaid : Prop := dTAEqualCloneRow.holds Try.pinned (OpenSpec.ofChange dTAEqualCloneSpec)

/-- ITS FALSE NEIGHBOUR: 'it returns false'. Refute it at one input. -/
def dTAEqualCloneWrong : ChangeSpec := { name := "dTAEqualClone", fn := fun _ => fun
  | [d1, d2] => { results := [.lit (.bool false)], args := [d1, d2] }
  | _ => none }
def DTAEqualCloneWrongFalsely : Prop := dTAEqualCloneRow.holds Try.pinned (OpenSpec.ofChange dTAEqualCloneWrong)

/-- 'palmettelaw33.DTAPermute': WHATEVER THE INPUT: true; the input reads as it did. -/
def dTAPermuteSpec : ChangeSpec := { name := "dTAPermute", fn := fun _ => fun
  | [d1, d2] => { results := [.lit (.bool true)], args := [d1, d2] }
  | _ => none }
def dTAPermuteRow : OpenClaim := { program := "ytdakoccbmeojhaa", sum := "6ce46b0620d8d56570e9fffbb5c09b7497e39e7fe0e897a773a09cdafb40d546", func := "palmette/palmettelaw33.DTAPermute", spec := "dTAPermute", unfollowed := true, recurses := true, apart := false }
def DTAPermuteSaid : Prop := dTAPermuteRow.holds Try.pinned (OpenSpec.ofChange dTAPermuteSpec)

/-- ITS FALSE NEIGHBOUR: 'it returns false'. Refute it at one input. -/
def dTAPermuteWrong : ChangeSpec := { name := "dTAPermute", fn := fun _ => fun
  | [d1, d2] => { results := [.lit (.bool false)], args := [d1, d2] }
  | _ => none }
def DTAPermuteWrongFalsely : Prop := dTAPermuteRow.holds Try.pinned (OpenSpec.ofChange dTAPermuteWrong)

/-- 'palmettelaw33.DTAProductComplement': WHATEVER THE INPUT: true; the input reads as it did. -/
def dTAProductComplementSpec : ChangeSpec := { name := "dTAProductComplement", fn := fun _ => fun
  | [d1, d2, d3] => { results := [.lit (.bool true)], args := [d1, d2, d3] }
  | _ => none }
def dTAProductComplementRow : OpenClaim := { program := "ytdakoccbmeojhaa", sum := "6ce46b0620d8d56570e9fffbb5c09b7497e39e7fe0e897a773a09cdafb40d546", func := "palmette/palmettelaw33.DTAProductComplement", spec := "dTAProductComplement", unfollowed := true, recurses := true, apart := false }
def DTAProductComplementSaid : Prop := dTAProductComplementRow.holds Try.pinned (OpenSpec.ofChange dTAProductComplementSpec)

/-- ITS FALSE NEIGHBOUR: 'it returns false'. Refute it at one input. -/
def dTAProductComplementWrong : ChangeSpec := { name := "dTAProductComplement", fn := fun _ => fun
  | [d1, d2, d3] => { results := [.lit (.bool false)], args := [d1, d2, d3] }
  | _ => none }
def DTAProductComplementWrongFalsely : Prop := dTAProductComplementRow.holds Try.pinned (OpenSpec.ofChange dTAProductComplementWrong)

/-- 'palmettelaw33.DTABooleanOperations': WHATEVER THE INPUT: true; the input reads as it did. -/
def dTABooleanOperationsSpec : ChangeSpec := { name := "dTABooleanOperations", fn := fun _ => fun
  | [d1, d2, d3, d4] => { results := [.lit (.bool true)], args := [d1, d2, d3, d4] }
  | _ => none }
def dTABooleanOperationsRow : OpenClaim := { program := "ytdakoccbmeojhaa", sum := "6ce46b0620d8d56570e9fffbb5c09b7497e39e7fe0e897a773a09cdafb40d546", func := "palmette/palmettelaw33.DTABooleanOperations", spec := "dTABooleanOperations", unfollowed := true, recurses := true, loops := true, apart := false }
def DTABooleanOperationsSaid : Prop := dTABooleanOperationsRow.holds Try.pinned (OpenSpec.ofChange dTABooleanOperationsSpec)

/-- ITS FALSE NEIGHBOUR: 'it returns false'. Refute it at one input. -/
def dTABooleanOperationsWrong : ChangeSpec := { name := "dTABooleanOperations", fn := fun _ => fun
  | [d1, d2, d3, d4] => { results := [.lit (.bool false)], args := [d1, d2, d3, d4] }
  | _ => none }
def DTABooleanOperationsWrongFalsely : Prop := dTABooleanOperationsRow.holds Try.pinned (OpenSpec.ofChange dTABooleanOperationsWrong)

/-- 'palmettelaw33.DTATrim': WHATEVER THE INPUT: true; the input reads as it did. -/
def dTATrimSpec : ChangeSpec := { name := "dTATrim", fn := fun _ => fun
  | [d] => { results := [.lit (.bool true)], args := [d] }
  | _ => none }
def dTATrimRow : OpenClaim := { program := "ytdakoccbmeojhaa", sum := "6ce46b0620d8d56570e9fffbb5c09b7497e39e7fe0e897a773a09cdafb40d546", func := "palmette/palmettelaw33.DTATrim", spec := "dTATrim", unfollowed := true, recurses := true, apart := false }
def DTATrimSaid : Prop := dTATrimRow.holds Try.pinned (OpenSpec.ofChange dTATrimSpec)

/-- ITS FALSE NEIGHBOUR: 'it returns false'. Refute it at one input. -/
def dTATrimWrong : ChangeSpec := { name := "dTATrim", fn := fun _ => fun
  | [d] => { results := [.lit (.bool false)], args := [d] }
  | _ => none }
def DTATrimWrongFalsely : Prop := dTATrimRow.holds Try.pinned (OpenSpec.ofChange dTATrimWrong)

/-- 'palmettelaw33.DTADeMorgan': WHATEVER THE INPUT: true; the input reads as it did. -/
def dTADeMorganSpec : ChangeSpec := { name := "dTADeMorgan", fn := fun _ => fun
  | [d1, d2, d3] => { results := [.lit (.bool true)], args := [d1, d2, d3] }
  | _ => none }
def dTADeMorganRow : OpenClaim := { program := "ytdakoccbmeojhaa", sum := "6ce46b0620d8d56570e9fffbb5c09b7497e39e7fe0e897a773a09cdafb40d546", func := "palmette/palmettelaw33.DTADeMorgan", spec := "dTADeMorgan", unfollowed := true, recurses := true, loops := true, apart := false }
def DTADeMorganSaid : Prop := dTADeMorganRow.holds Try.pinned (OpenSpec.ofChange dTADeMorganSpec)

/-- ITS FALSE NEIGHBOUR: 'it returns false'. Refute it at one input. -/
def dTADeMorganWrong : ChangeSpec := { name := "dTADeMorgan", fn := fun _ => fun
  | [d1, d2, d3] => { results := [.lit (.bool false)], args := [d1, d2, d3] }
  | _ => none }
def DTADeMorganWrongFalsely : Prop := dTADeMorganRow.holds Try.pinned (OpenSpec.ofChange dTADeMorganWrong)

/-- 'palmettelaw33.DTATrimPreservesLanguage': WHATEVER THE INPUT: true; the input reads as it did. -/
def dTATrimPreservesLanguageSpec : ChangeSpec := { name := "dTATrimPreservesLanguage", fn := fun _ => fun
  | [d1, d2] => { results := [.lit (.bool true)], args := [d1, d2] }
  | _ => none }
def dTATrimPreservesLanguageRow : OpenClaim := { program := "ytdakoccbmeojhaa", sum := "6ce46b0620d8d56570e9fffbb5c09b7497e39e7fe0e897a773a09cdafb40d546", func := "palmette/palmettelaw33.DTATrimPreservesLanguage", spec := "dTATrimPreservesLanguage", unfollowed := true, recurses := true, loops := true, apart := false }
def DTATrimPreservesLanguageSaid : Prop := dTATrimPreservesLanguageRow.holds Try.pinned (OpenSpec.ofChange dTATrimPreservesLanguageSpec)

/-- ITS FALSE NEIGHBOUR: 'it returns false'. Refute it at one input. -/
def dTATrimPreservesLanguageWrong : ChangeSpec := { name := "dTATrimPreservesLanguage", fn := fun _ => fun
  | [d1, d2] => { results := [.lit (.bool false)], args := [d1, d2] }
  | _ => none }
def DTATrimPreservesLanguageWrongFalsely : Prop := dTATrimPreservesLanguageRow.holds Try.pinned (OpenSpec.ofChange dTATrimPreservesLanguageWrong)

/-- 'palmettelaw33.DTAPermutePreservesLanguage': WHATEVER THE INPUT: true; the input reads as it did. -/
def dTAPermutePreservesLanguageSpec : ChangeSpec := { name := "dTAPermutePreservesLanguage", fn := fun _ => fun
  | [d1, d2, d3] => { results := [.lit (.bool true)], args := [d1, d2, d3] }
  | _ => none }
def dTAPermutePreservesLanguageRow : OpenClaim := { program := "ytdakoccbmeojhaa", sum := "6ce46b0620d8d56570e9fffbb5c09b7497e39e7fe0e897a773a09cdafb40d546", func := "palmette/palmettelaw33.DTAPermutePreservesLanguage", spec := "dTAPermutePreservesLanguage", unfollowed := true, recurses := true, loops := true, apart := false }
def DTAPermutePreservesLanguageSaid : Prop := dTAPermutePreservesLanguageRow.holds Try.pinned (OpenSpec.ofChange dTAPermutePreservesLanguageSpec)

/-- ITS FALSE NEIGHBOUR: 'it returns false'. Refute it at one input. -/
def dTAPermutePreservesLanguageWrong : ChangeSpec := { name := "dTAPermutePreservesLanguage", fn := fun _ => fun
  | [d1, d2, d3] => { results := [.lit (.bool false)], args := [d1, d2, d3] }
  | _ => none }
def DTAPermutePreservesLanguageWrongFalsely : Prop := dTAPermutePreservesLanguageRow.holds Try.pinned (OpenSpec.ofChange dTAPermutePreservesLanguageWrong)

/- THE SECOND FORM. 'bulk': how many values and letters a reading holds, each counted each time it is reached (what is shared counts as often as it is met; a slice's spare places count too). A statement '..UptoSaid' is the law's where the arguments, and the package variables that the reading takes, are together of bulk at most 1048576: NARROWER than '..Said'. Prove '..Said' where nothing that the law and all that it calls make is longer than what came in: it says more and counts as full. Else prove '..UptoSaid'. A law counts once. -/
mutual
def uptoBulk {H : Type} : DataW H → Nat
  | .lit (.string bytes) => bytes.length + 1
  | .lit _ => 1
  | .nil => 1
  | .ptr d => uptoBulk d + 1
  | .slice elems spare => uptoBulkAll elems + uptoBulkAll spare + 1
  | .agg parts => uptoBulkAll parts + 1
  | .iface _ d => uptoBulk d + 1
  | .map entries => uptoBulkEntries entries + 1
  | .held _ => 1
def uptoBulkAll {H : Type} : List (DataW H) → Nat
  | [] => 0
  | d :: r => uptoBulk d + uptoBulkAll r
def uptoBulkEntries {H : Type} : List (Lit × DataW H) → Nat
  | [] => 0
  | x :: r => uptoBulkEntry x + uptoBulkEntries r
def uptoBulkEntry {H : Type} : Lit × DataW H → Nat
  | (.string bytes, d) => bytes.length + uptoBulk d + 1
  | (_, d) => uptoBulk d + 1
 end
def uptoSmall : (H : Type) → List (DataW H) → Bool := fun _ ds => decide (uptoBulkAll ds ≤ 1048576)
def OpenSpec.upto (s : _root_.Go.ChangeSpec) : _root_.Go.OpenSpec := { _root_.Go.OpenSpec.ofChange s with cond := some uptoSmall }

/-- 'palmettelaw33.DTARun', WHERE WHAT IT READS IS OF BULK AT MOST 1048576: true; the input reads as it did. -/
def dTARunUptoRow : OpenClaim := { program := "ytdakoccbmeojhaa", sum := "6ce46b0620d8d56570e9fffbb5c09b7497e39e7fe0e897a773a09cdafb40d546", func := "palmette/palmettelaw33.DTARun", spec := "dTARun", unfollowed := true, recurses := true, loops := true, apart := false, narrowed := true }
def DTARunUptoSaid : Prop := dTARunUptoRow.holds Try.pinned (OpenSpec.upto dTARunSpec)

/-- 'palmettelaw33.DTAStep', WHERE WHAT IT READS IS OF BULK AT MOST 1048576: true; the input reads as it did. -/
def dTAStepUptoRow : OpenClaim := { program := "ytdakoccbmeojhaa", sum := "6ce46b0620d8d56570e9fffbb5c09b7497e39e7fe0e897a773a09cdafb40d546", func := "palmette/palmettelaw33.DTAStep", spec := "dTAStep", unfollowed := true, recurses := true, apart := false, narrowed := true }
def DTAStepUptoSaid : Prop := dTAStepUptoRow.holds Try.pinned (OpenSpec.upto dTAStepSpec)

/-- 'palmettelaw33.DTAEqualClone', WHERE WHAT IT READS IS OF BULK AT MOST 1048576: true; the input reads as it did. -/
def dTAEqualCloneUptoRow : OpenClaim := { program := "ytdakoccbmeojhaa", sum := "6ce46b0620d8d56570e9fffbb5c09b7497e39e7fe0e897a773a09cdafb40d546", func := "palmette/palmettelaw33.DTAEqualClone", spec := "dTAEqualClone", unfollowed := true, recurses := true, apart := false, narrowed := true }
def DTAEqualCloneUptoSaid : Prop := dTAEqualCloneUptoRow.holds Try.pinned (OpenSpec.upto dTAEqualCloneSpec)

/-- 'palmettelaw33.DTAPermute', WHERE WHAT IT READS IS OF BULK AT MOST 1048576: true; the input reads as it did. -/
def dTAPermuteUptoRow : OpenClaim := { program := "ytdakoccbmeojhaa", sum := "6ce46b0620d8d56570e9fffbb5c09b7497e39e7fe0e897a773a09cdafb40d546", func := "palmette/palmettelaw33.DTAPermute", spec := "dTAPermute", unfollowed := true, recurses := true, apart := false, narrowed := true }
def DTAPermuteUptoSaid : Prop := dTAPermuteUptoRow.holds Try.pinned (OpenSpec.upto dTAPermuteSpec)

/-- 'palmettelaw33.DTAProductComplement', WHERE WHAT IT READS IS OF BULK AT MOST 1048576: true; the input reads as it did. -/
def dTAProductComplementUptoRow : OpenClaim := { program := "ytdakoccbmeojhaa", sum := "6ce46b0620d8d56570e9fffbb5c09b7497e39e7fe0e897a773a09cdafb40d546", func := "palmette/palmettelaw33.DTAProductComplement", spec := "dTAProductComplement", unfollowed := true, recurses := true, apart := false, narrowed := true }
def DTAProductComplementUptoSaid : Prop := dTAProductComplementUptoRow.holds Try.pinned (OpenSpec.upto dTAProductComplementSpec)

/-- 'palmettelaw33.DTABooleanOperations', WHERE WHAT IT READS IS OF BULK AT MOST 1048576: true; the input reads as it did. -/
def dTABooleanOperationsUptoRow : OpenClaim := { program := "ytdakoccbmeojhaa", sum := "6ce46b0620d8d56570e9fffbb5c09b7497e39e7fe0e897a773a09cdafb40d546", func := "palmette/palmettelaw33.DTABooleanOperations", spec := "dTABooleanOperations", unfollowed := true, recurses := true, loops := true, apart := false, narrowed := true }
def DTABooleanOperationsUptoSaid : Prop := dTABooleanOperationsUptoRow.holds Try.pinned (OpenSpec.upto dTABooleanOperationsSpec)

/-- 'palmettelaw33.DTATrim', WHERE WHAT IT READS IS OF BULK AT MOST 1048576: true; the input reads as it did. -/
def dTATrimUptoRow : OpenClaim := { program := "ytdakoccbmeojhaa", sum := "6ce46b0620d8d56570e9fffbb5c09b7497e39e7fe0e897a773a09cdafb40d546", func := "palmette/palmettelaw33.DTATrim", spec := "dTATrim", unfollowed := true, recurses := true, apart := false, narrowed := true }
def DTATrimUptoSaid : Prop := dTATrimUptoRow.holds Try.pinned (OpenSpec.upto dTATrimSpec)

/-- 'palmettelaw33.DTADeMorgan', WHERE WHAT IT READS IS OF BULK AT MOST 1048576: true; the input reads as it did. -/
def dTADeMorganUptoRow : OpenClaim := { program := "ytdakoccbmeojhaa", sum := "6ce46b0620d8d56570e9fffbb5c09b7497e39e7fe0e897a773a09cdafb40d546", func := "palmette/palmettelaw33.DTADeMorgan", spec := "dTADeMorgan", unfollowed := true, recurses := true, loops := true, apart := false, narrowed := true }
def DTADeMorganUptoSaid : Prop := dTADeMorganUptoRow.holds Try.pinned (OpenSpec.upto dTADeMorganSpec)

/-- 'palmettelaw33.DTATrimPreservesLanguage', WHERE WHAT IT READS IS OF BULK AT MOST 1048576: true; the input reads as it did. -/
def dTATrimPreservesLanguageUptoRow : OpenClaim := { program := "ytdakoccbmeojhaa", sum := "6ce46b0620d8d56570e9fffbb5c09b7497e39e7fe0e897a773a09cdafb40d546", func := "palmette/palmettelaw33.DTATrimPreservesLanguage", spec := "dTATrimPreservesLanguage", unfollowed := true, recurses := true, loops := true, apart := false, narrowed := true }
def DTATrimPreservesLanguageUptoSaid : Prop := dTATrimPreservesLanguageUptoRow.holds Try.pinned (OpenSpec.upto dTATrimPreservesLanguageSpec)

/-- 'palmettelaw33.DTAPermutePreservesLanguage', WHERE WHAT IT READS IS OF BULK AT MOST 1048576: true; the input reads as it did. -/
def dTAPermutePreservesLanguageUptoRow : OpenClaim := { program := "ytdakoccbmeojhaa", sum := "6ce46b0620d8d56570e9fffbb5c09b7497e39e7fe0e897a773a09cdafb40d546", func := "palmette/palmettelaw33.DTAPermutePreservesLanguage", spec := "dTAPermutePreservesLanguage", unfollowed := true, recurses := true, loops := true, apart := false, narrowed := true }
def DTAPermutePreservesLanguageUptoSaid : Prop := dTAPermutePreservesLanguageUptoRow.holds Try.pinned (OpenSpec.upto dTAPermutePreservesLanguageSpec)

end Rows
end Go.Proofs.Ytdakoccbmeojhaa
