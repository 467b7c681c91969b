/-
  DERIVED. GIVEN WITH THE SEED: THE CARDS: each row of YtgcmajgkcahbnaaDoorRows.lean that lists a variable, with what it lists TIED to the program's text (the seventh form; the later family's looks); each row that meets fmt, with fmt's text TOLD by the authors' own Lean function (tested against real Go, not proved from fmt's source: count such statements apart). THE CARD IS WHAT COUNTS. Prove the row's statement (the work); the ties are given (YtgcmajgkcahbnaaDoorTie.lean); close each card by the builder's one call (the guide's Derived/Test/ToyasCard.lean, 'card_holds'). Laid BY PROGRAM, IN A SANDBOX (cutbox-door.mjs). By AI agents, Wed Nov 11 2026. No macro, syntax, notation, axiom, sorry.
-/
import Derived.Test.YtgcmajgkcahbnaaDoorRows
import GoSem.ClaimSeven
namespace Go.Proofs.YtgcmajgkcahbnaaDoor
namespace Rows

/-- THE TIED CARD OF 'palmettelaw01.BitsetNextSubset'. -/
def bitsetNextSubsetCard : Claim7 := { stood := { row := bitsetNextSubsetRow, standIns := [], harness := (true, "26ede5c78668589af30ce86e539f9ca894ff05c0241459e3cc2179d0b3a004e6"), looks := true }, kinds := [], alts := [], laidByText := true, laidKinds := [.data, .data, .data], laidTests := true, laidLooks := .later }
def BitsetNextSubsetCardSaid : Prop := Claim7.holds Tryd.pinned (.plain (OpenSpec.ofChange bitsetNextSubsetSpec)) bitsetNextSubsetCard

/-- THE TIED CARD OF 'palmettelaw01.BitsetElements'. -/
def bitsetElementsCard : Claim7 := { stood := { row := bitsetElementsRow, standIns := [], harness := (true, "26ede5c78668589af30ce86e539f9ca894ff05c0241459e3cc2179d0b3a004e6"), looks := true }, kinds := [], alts := [], laidByText := true, laidKinds := [.data, .data, .data], laidTests := true, laidLooks := .later }
def BitsetElementsCardSaid : Prop := Claim7.holds Tryd.pinned (.plain (OpenSpec.ofChange bitsetElementsSpec)) bitsetElementsCard

/-- THE TIED CARD OF 'palmettelaw01.BitsetSubsets'. -/
def bitsetSubsetsCard : Claim7 := { stood := { row := bitsetSubsetsRow, standIns := [], harness := (true, "26ede5c78668589af30ce86e539f9ca894ff05c0241459e3cc2179d0b3a004e6"), looks := true }, kinds := [], alts := [], laidByText := true, laidKinds := [.data, .data, .data], laidTests := true, laidLooks := .later }
def BitsetSubsetsCardSaid : Prop := Claim7.holds Tryd.pinned (.plain (OpenSpec.ofChange bitsetSubsetsSpec)) bitsetSubsetsCard

/-- THE TIED CARD OF 'palmettelaw01.BitsetOperations'. -/
def bitsetOperationsCard : Claim7 := { stood := { row := bitsetOperationsRow, standIns := [], harness := (true, "26ede5c78668589af30ce86e539f9ca894ff05c0241459e3cc2179d0b3a004e6"), looks := true }, kinds := [], alts := [], laidByText := true, laidKinds := [.data, .data, .data], laidTests := true, laidLooks := .later }
def BitsetOperationsCardSaid : Prop := Claim7.holds Tryd.pinned (.plain (OpenSpec.ofChange bitsetOperationsSpec)) bitsetOperationsCard

/-- THE TIED CARD OF 'palmettelaw01.BitsetTotalOrder'. -/
def bitsetTotalOrderCard : Claim7 := { stood := { row := bitsetTotalOrderRow, standIns := [], harness := (true, "26ede5c78668589af30ce86e539f9ca894ff05c0241459e3cc2179d0b3a004e6"), looks := true }, kinds := [], alts := [], laidByText := true, laidKinds := [.data, .data, .data], laidTests := true, laidLooks := .later }
def BitsetTotalOrderCardSaid : Prop := Claim7.holds Tryd.pinned (.plain (OpenSpec.ofChange bitsetTotalOrderSpec)) bitsetTotalOrderCard

/-- THE TIED CARD OF 'palmettelaw01.BitsetCompare'. -/
def bitsetCompareCard : Claim7 := { stood := { row := bitsetCompareRow, standIns := [], harness := (true, "26ede5c78668589af30ce86e539f9ca894ff05c0241459e3cc2179d0b3a004e6"), looks := true }, kinds := [], alts := [], laidByText := true, laidKinds := [.data, .data, .data], laidTests := true, laidLooks := .later }
def BitsetCompareCardSaid : Prop := Claim7.holds Tryd.pinned (.plain (OpenSpec.ofChange bitsetCompareSpec)) bitsetCompareCard

/-- THE TIED CARD OF 'palmettelaw01.BitsetAlgebra'. -/
def bitsetAlgebraCard : Claim7 := { stood := { row := bitsetAlgebraRow, standIns := [], harness := (true, "26ede5c78668589af30ce86e539f9ca894ff05c0241459e3cc2179d0b3a004e6"), looks := true }, kinds := [], alts := [], laidByText := true, laidKinds := [.data, .data, .data], laidTests := true, laidLooks := .later }
def BitsetAlgebraCardSaid : Prop := Claim7.holds Tryd.pinned (.plain (OpenSpec.ofChange bitsetAlgebraSpec)) bitsetAlgebraCard

/-- THE TIED CARD OF 'palmettelaw01.BitsetConstructors'. -/
def bitsetConstructorsCard : Claim7 := { stood := { row := bitsetConstructorsRow, standIns := [], harness := (true, "26ede5c78668589af30ce86e539f9ca894ff05c0241459e3cc2179d0b3a004e6"), looks := true }, kinds := [], alts := [], laidByText := true, laidKinds := [.data, .data, .data], laidTests := true, laidLooks := .later }
def BitsetConstructorsCardSaid : Prop := Claim7.holds Tryd.pinned (.plain (OpenSpec.ofChange bitsetConstructorsSpec)) bitsetConstructorsCard

/-- THE TIED CARD OF 'palmettelaw01.BitsetFormatParse'. -/
def bitsetFormatParseCard : Claim7 := { stood := { row := bitsetFormatParseRow, standIns := [], harness := (true, "26ede5c78668589af30ce86e539f9ca894ff05c0241459e3cc2179d0b3a004e6"), looks := true }, kinds := [], alts := [], laidByText := true, laidKinds := [.data, .data, .data, .data, .sentinel, .sentinel, .pinned], laidTests := true, laidLooks := .later }
def BitsetFormatParseCardSaid : Prop := Claim7.holds Tryd.pinned (.plain (OpenSpec.ofChange bitsetFormatParseSpec)) bitsetFormatParseCard

/-- THE TIED CARD OF 'palmettelaw01.BitsetParse'. -/
def bitsetParseCard : Claim7 := { stood := { row := bitsetParseRow, standIns := [], harness := (true, "26ede5c78668589af30ce86e539f9ca894ff05c0241459e3cc2179d0b3a004e6"), looks := true }, kinds := [], alts := [], laidByText := true, laidKinds := [.data, .data, .data, .data, .sentinel, .sentinel, .pinned], laidTests := true, laidLooks := .later }
def BitsetParseCardSaid : Prop := Claim7.holds Tryd.pinned (.plain (OpenSpec.ofChange bitsetParseSpec)) bitsetParseCard

/-- THE SECOND FORM's CARD OF 'palmettelaw01.BitsetNextSubset'. -/
def bitsetNextSubsetUptoCard : Claim7 := { stood := { row := bitsetNextSubsetUptoRow, standIns := [], harness := (true, "26ede5c78668589af30ce86e539f9ca894ff05c0241459e3cc2179d0b3a004e6"), looks := true }, kinds := [], alts := [], laidByText := true, laidKinds := [.data, .data, .data], laidTests := true, laidLooks := .later }
def BitsetNextSubsetUptoCardSaid : Prop := Claim7.holds Tryd.pinned (.plain (OpenSpec.upto bitsetNextSubsetSpec)) bitsetNextSubsetUptoCard

/-- THE SECOND FORM's CARD OF 'palmettelaw01.BitsetElements'. -/
def bitsetElementsUptoCard : Claim7 := { stood := { row := bitsetElementsUptoRow, standIns := [], harness := (true, "26ede5c78668589af30ce86e539f9ca894ff05c0241459e3cc2179d0b3a004e6"), looks := true }, kinds := [], alts := [], laidByText := true, laidKinds := [.data, .data, .data], laidTests := true, laidLooks := .later }
def BitsetElementsUptoCardSaid : Prop := Claim7.holds Tryd.pinned (.plain (OpenSpec.upto bitsetElementsSpec)) bitsetElementsUptoCard

/-- THE SECOND FORM's CARD OF 'palmettelaw01.BitsetSubsets'. -/
def bitsetSubsetsUptoCard : Claim7 := { stood := { row := bitsetSubsetsUptoRow, standIns := [], harness := (true, "26ede5c78668589af30ce86e539f9ca894ff05c0241459e3cc2179d0b3a004e6"), looks := true }, kinds := [], alts := [], laidByText := true, laidKinds := [.data, .data, .data], laidTests := true, laidLooks := .later }
def BitsetSubsetsUptoCardSaid : Prop := Claim7.holds Tryd.pinned (.plain (OpenSpec.upto bitsetSubsetsSpec)) bitsetSubsetsUptoCard

/-- THE SECOND FORM's CARD OF 'palmettelaw01.BitsetOperations'. -/
def bitsetOperationsUptoCard : Claim7 := { stood := { row := bitsetOperationsUptoRow, standIns := [], harness := (true, "26ede5c78668589af30ce86e539f9ca894ff05c0241459e3cc2179d0b3a004e6"), looks := true }, kinds := [], alts := [], laidByText := true, laidKinds := [.data, .data, .data], laidTests := true, laidLooks := .later }
def BitsetOperationsUptoCardSaid : Prop := Claim7.holds Tryd.pinned (.plain (OpenSpec.upto bitsetOperationsSpec)) bitsetOperationsUptoCard

/-- THE SECOND FORM's CARD OF 'palmettelaw01.BitsetTotalOrder'. -/
def bitsetTotalOrderUptoCard : Claim7 := { stood := { row := bitsetTotalOrderUptoRow, standIns := [], harness := (true, "26ede5c78668589af30ce86e539f9ca894ff05c0241459e3cc2179d0b3a004e6"), looks := true }, kinds := [], alts := [], laidByText := true, laidKinds := [.data, .data, .data], laidTests := true, laidLooks := .later }
def BitsetTotalOrderUptoCardSaid : Prop := Claim7.holds Tryd.pinned (.plain (OpenSpec.upto bitsetTotalOrderSpec)) bitsetTotalOrderUptoCard

/-- THE SECOND FORM's CARD OF 'palmettelaw01.BitsetCompare'. -/
def bitsetCompareUptoCard : Claim7 := { stood := { row := bitsetCompareUptoRow, standIns := [], harness := (true, "26ede5c78668589af30ce86e539f9ca894ff05c0241459e3cc2179d0b3a004e6"), looks := true }, kinds := [], alts := [], laidByText := true, laidKinds := [.data, .data, .data], laidTests := true, laidLooks := .later }
def BitsetCompareUptoCardSaid : Prop := Claim7.holds Tryd.pinned (.plain (OpenSpec.upto bitsetCompareSpec)) bitsetCompareUptoCard

/-- THE SECOND FORM's CARD OF 'palmettelaw01.BitsetAlgebra'. -/
def bitsetAlgebraUptoCard : Claim7 := { stood := { row := bitsetAlgebraUptoRow, standIns := [], harness := (true, "26ede5c78668589af30ce86e539f9ca894ff05c0241459e3cc2179d0b3a004e6"), looks := true }, kinds := [], alts := [], laidByText := true, laidKinds := [.data, .data, .data], laidTests := true, laidLooks := .later }
def BitsetAlgebraUptoCardSaid : Prop := Claim7.holds Tryd.pinned (.plain (OpenSpec.upto bitsetAlgebraSpec)) bitsetAlgebraUptoCard

/-- THE SECOND FORM's CARD OF 'palmettelaw01.BitsetConstructors'. -/
def bitsetConstructorsUptoCard : Claim7 := { stood := { row := bitsetConstructorsUptoRow, standIns := [], harness := (true, "26ede5c78668589af30ce86e539f9ca894ff05c0241459e3cc2179d0b3a004e6"), looks := true }, kinds := [], alts := [], laidByText := true, laidKinds := [.data, .data, .data], laidTests := true, laidLooks := .later }
def BitsetConstructorsUptoCardSaid : Prop := Claim7.holds Tryd.pinned (.plain (OpenSpec.upto bitsetConstructorsSpec)) bitsetConstructorsUptoCard

/-- THE SECOND FORM's CARD OF 'palmettelaw01.BitsetFormatParse'. -/
def bitsetFormatParseUptoCard : Claim7 := { stood := { row := bitsetFormatParseUptoRow, standIns := [], harness := (true, "26ede5c78668589af30ce86e539f9ca894ff05c0241459e3cc2179d0b3a004e6"), looks := true }, kinds := [], alts := [], laidByText := true, laidKinds := [.data, .data, .data, .data, .sentinel, .sentinel, .pinned], laidTests := true, laidLooks := .later }
def BitsetFormatParseUptoCardSaid : Prop := Claim7.holds Tryd.pinned (.plain (OpenSpec.upto bitsetFormatParseSpec)) bitsetFormatParseUptoCard

/-- THE SECOND FORM's CARD OF 'palmettelaw01.BitsetParse'. -/
def bitsetParseUptoCard : Claim7 := { stood := { row := bitsetParseUptoRow, standIns := [], harness := (true, "26ede5c78668589af30ce86e539f9ca894ff05c0241459e3cc2179d0b3a004e6"), looks := true }, kinds := [], alts := [], laidByText := true, laidKinds := [.data, .data, .data, .data, .sentinel, .sentinel, .pinned], laidTests := true, laidLooks := .later }
def BitsetParseUptoCardSaid : Prop := Claim7.holds Tryd.pinned (.plain (OpenSpec.upto bitsetParseSpec)) bitsetParseUptoCard
end Rows
end Go.Proofs.YtgcmajgkcahbnaaDoor
