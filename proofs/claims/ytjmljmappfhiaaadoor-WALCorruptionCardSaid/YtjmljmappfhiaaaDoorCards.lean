/-
  DERIVED. GIVEN WITH THE SEED: THE CARDS: each row of YtjmljmappfhiaaaDoorRows.lean that lists a variable, with what it lists TIED to the program's text (the seventh form; the later family's looks); each row that meets fmt, with fmt's text TOLD by the authors' own Lean function (tested against real Go, not proved from fmt's source: count such statements apart). THE CARD IS WHAT COUNTS. Prove the row's statement (the work); the ties are given (YtjmljmappfhiaaaDoorTie.lean); close each card by the builder's one call (the guide's Derived/Test/ToyasCard.lean, 'card_holds'). Laid BY PROGRAM, IN A SANDBOX (cutbox-door.mjs). By AI agents, Wed Nov 11 2026. No macro, syntax, notation, axiom, sorry.
-/
import Derived.Test.YtjmljmappfhiaaaDoorRows
import GoSem.ClaimSeven
namespace Go.Proofs.YtjmljmappfhiaaaDoor
namespace Rows

/-- THE TIED CARD OF 'palmettelaw53.WALAppend'. -/
def wALAppendCard : Claim7 := { stood := { row := wALAppendRow, standIns := [], harness := (true, "b5fd64da749542cc5d0b3021fc84d85d378744364be09604910f80afa9edda49"), looks := true }, kinds := [], alts := [], laidByText := true, laidKinds := [.data, .data, .data], laidTests := true, laidLooks := .later }
def WALAppendCardSaid : Prop := Claim7.holds Tryd.pinned (.plain (OpenSpec.ofChange wALAppendSpec)) wALAppendCard

/-- THE TIED CARD OF 'palmettelaw53.WALNames'. -/
def wALNamesCard : Claim7 := { stood := { row := wALNamesRow, standIns := [], harness := (true, "b5fd64da749542cc5d0b3021fc84d85d378744364be09604910f80afa9edda49"), looks := true }, kinds := [], alts := [], laidByText := true, laidKinds := [.data, .data, .data], laidTests := true, laidLooks := .later }
def WALNamesCardSaid : Prop := Claim7.holds Tryd.pinned (.plain (OpenSpec.ofChange wALNamesSpec)) wALNamesCard

/-- THE TIED CARD OF 'palmettelaw53.WALEqualClone'. -/
def wALEqualCloneCard : Claim7 := { stood := { row := wALEqualCloneRow, standIns := [], harness := (true, "b5fd64da749542cc5d0b3021fc84d85d378744364be09604910f80afa9edda49"), looks := true }, kinds := [], alts := [], laidByText := true, laidKinds := [.data, .data, .data], laidTests := true, laidLooks := .later }
def WALEqualCloneCardSaid : Prop := Claim7.holds Tryd.pinned (.plain (OpenSpec.ofChange wALEqualCloneSpec)) wALEqualCloneCard

/-- THE TIED CARD OF 'palmettelaw53.WALNil'. -/
def wALNilCard : Claim7 := { stood := { row := wALNilRow, standIns := [], harness := (true, "b5fd64da749542cc5d0b3021fc84d85d378744364be09604910f80afa9edda49"), looks := true }, kinds := [], alts := [], laidByText := true, laidKinds := [.data, .data, .data], laidTests := true, laidLooks := .later }
def WALNilCardSaid : Prop := Claim7.holds Tryd.pinned (.plain (OpenSpec.ofChange wALNilSpec)) wALNilCard

/-- THE TIED CARD OF 'palmettelaw53.WALRecover'. -/
def wALRecoverCard : Claim7 := { stood := { row := wALRecoverRow, standIns := [], harness := (true, "b5fd64da749542cc5d0b3021fc84d85d378744364be09604910f80afa9edda49"), looks := true }, kinds := [], alts := [], laidByText := true, laidKinds := [.data, .data, .data, .sentinel, .sentinel], laidTests := true, laidLooks := .later }
def WALRecoverCardSaid : Prop := Claim7.holds Tryd.pinned (.plain (OpenSpec.ofChange wALRecoverSpec)) wALRecoverCard

/-- THE TIED CARD OF 'palmettelaw53.WALTruncation'. -/
def wALTruncationCard : Claim7 := { stood := { row := wALTruncationRow, standIns := [], harness := (true, "b5fd64da749542cc5d0b3021fc84d85d378744364be09604910f80afa9edda49"), looks := true }, kinds := [], alts := [], laidByText := true, laidKinds := [.data, .data, .data, .sentinel, .sentinel], laidTests := true, laidLooks := .later }
def WALTruncationCardSaid : Prop := Claim7.holds Tryd.pinned (.plain (OpenSpec.ofChange wALTruncationSpec)) wALTruncationCard

/-- THE TIED CARD OF 'palmettelaw53.WALCorruption'. -/
def wALCorruptionCard : Claim7 := { stood := { row := wALCorruptionRow, standIns := [], harness := (true, "b5fd64da749542cc5d0b3021fc84d85d378744364be09604910f80afa9edda49"), looks := true }, kinds := [], alts := [], laidByText := true, laidKinds := [.data, .data, .data, .sentinel, .sentinel], laidTests := true, laidLooks := .later }
def WALCorruptionCardSaid : Prop := Claim7.holds Tryd.pinned (.plain (OpenSpec.ofChange wALCorruptionSpec)) wALCorruptionCard

/-- THE TIED CARD OF 'palmettelaw53.WALConcatenation'. -/
def wALConcatenationCard : Claim7 := { stood := { row := wALConcatenationRow, standIns := [], harness := (true, "b5fd64da749542cc5d0b3021fc84d85d378744364be09604910f80afa9edda49"), looks := true }, kinds := [], alts := [], laidByText := true, laidKinds := [.data, .data, .data, .sentinel, .sentinel], laidTests := true, laidLooks := .later }
def WALConcatenationCardSaid : Prop := Claim7.holds Tryd.pinned (.plain (OpenSpec.ofChange wALConcatenationSpec)) wALConcatenationCard

/-- THE SECOND FORM's CARD OF 'palmettelaw53.WALAppend'. -/
def wALAppendUptoCard : Claim7 := { stood := { row := wALAppendUptoRow, standIns := [], harness := (true, "b5fd64da749542cc5d0b3021fc84d85d378744364be09604910f80afa9edda49"), looks := true }, kinds := [], alts := [], laidByText := true, laidKinds := [.data, .data, .data], laidTests := true, laidLooks := .later }
def WALAppendUptoCardSaid : Prop := Claim7.holds Tryd.pinned (.plain (OpenSpec.upto wALAppendSpec)) wALAppendUptoCard

/-- THE SECOND FORM's CARD OF 'palmettelaw53.WALNames'. -/
def wALNamesUptoCard : Claim7 := { stood := { row := wALNamesUptoRow, standIns := [], harness := (true, "b5fd64da749542cc5d0b3021fc84d85d378744364be09604910f80afa9edda49"), looks := true }, kinds := [], alts := [], laidByText := true, laidKinds := [.data, .data, .data], laidTests := true, laidLooks := .later }
def WALNamesUptoCardSaid : Prop := Claim7.holds Tryd.pinned (.plain (OpenSpec.upto wALNamesSpec)) wALNamesUptoCard

/-- THE SECOND FORM's CARD OF 'palmettelaw53.WALEqualClone'. -/
def wALEqualCloneUptoCard : Claim7 := { stood := { row := wALEqualCloneUptoRow, standIns := [], harness := (true, "b5fd64da749542cc5d0b3021fc84d85d378744364be09604910f80afa9edda49"), looks := true }, kinds := [], alts := [], laidByText := true, laidKinds := [.data, .data, .data], laidTests := true, laidLooks := .later }
def WALEqualCloneUptoCardSaid : Prop := Claim7.holds Tryd.pinned (.plain (OpenSpec.upto wALEqualCloneSpec)) wALEqualCloneUptoCard

/-- THE SECOND FORM's CARD OF 'palmettelaw53.WALNil'. -/
def wALNilUptoCard : Claim7 := { stood := { row := wALNilUptoRow, standIns := [], harness := (true, "b5fd64da749542cc5d0b3021fc84d85d378744364be09604910f80afa9edda49"), looks := true }, kinds := [], alts := [], laidByText := true, laidKinds := [.data, .data, .data], laidTests := true, laidLooks := .later }
def WALNilUptoCardSaid : Prop := Claim7.holds Tryd.pinned (.plain (OpenSpec.upto wALNilSpec)) wALNilUptoCard

/-- THE SECOND FORM's CARD OF 'palmettelaw53.WALRecover'. -/
def wALRecoverUptoCard : Claim7 := { stood := { row := wALRecoverUptoRow, standIns := [], harness := (true, "b5fd64da749542cc5d0b3021fc84d85d378744364be09604910f80afa9edda49"), looks := true }, kinds := [], alts := [], laidByText := true, laidKinds := [.data, .data, .data, .sentinel, .sentinel], laidTests := true, laidLooks := .later }
def WALRecoverUptoCardSaid : Prop := Claim7.holds Tryd.pinned (.plain (OpenSpec.upto wALRecoverSpec)) wALRecoverUptoCard

/-- THE SECOND FORM's CARD OF 'palmettelaw53.WALTruncation'. -/
def wALTruncationUptoCard : Claim7 := { stood := { row := wALTruncationUptoRow, standIns := [], harness := (true, "b5fd64da749542cc5d0b3021fc84d85d378744364be09604910f80afa9edda49"), looks := true }, kinds := [], alts := [], laidByText := true, laidKinds := [.data, .data, .data, .sentinel, .sentinel], laidTests := true, laidLooks := .later }
def WALTruncationUptoCardSaid : Prop := Claim7.holds Tryd.pinned (.plain (OpenSpec.upto wALTruncationSpec)) wALTruncationUptoCard

/-- THE SECOND FORM's CARD OF 'palmettelaw53.WALCorruption'. -/
def wALCorruptionUptoCard : Claim7 := { stood := { row := wALCorruptionUptoRow, standIns := [], harness := (true, "b5fd64da749542cc5d0b3021fc84d85d378744364be09604910f80afa9edda49"), looks := true }, kinds := [], alts := [], laidByText := true, laidKinds := [.data, .data, .data, .sentinel, .sentinel], laidTests := true, laidLooks := .later }
def WALCorruptionUptoCardSaid : Prop := Claim7.holds Tryd.pinned (.plain (OpenSpec.upto wALCorruptionSpec)) wALCorruptionUptoCard

/-- THE SECOND FORM's CARD OF 'palmettelaw53.WALConcatenation'. -/
def wALConcatenationUptoCard : Claim7 := { stood := { row := wALConcatenationUptoRow, standIns := [], harness := (true, "b5fd64da749542cc5d0b3021fc84d85d378744364be09604910f80afa9edda49"), looks := true }, kinds := [], alts := [], laidByText := true, laidKinds := [.data, .data, .data, .sentinel, .sentinel], laidTests := true, laidLooks := .later }
def WALConcatenationUptoCardSaid : Prop := Claim7.holds Tryd.pinned (.plain (OpenSpec.upto wALConcatenationSpec)) wALConcatenationUptoCard
end Rows
end Go.Proofs.YtjmljmappfhiaaaDoor
