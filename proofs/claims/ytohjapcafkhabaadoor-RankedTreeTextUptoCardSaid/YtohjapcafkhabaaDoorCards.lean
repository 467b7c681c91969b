/-
  DERIVED. GIVEN WITH THE SEED: THE CARDS: each row of YtohjapcafkhabaaDoorRows.lean that lists a variable, with what it lists TIED to the program's text (the seventh form; the later family's looks); each row that meets fmt, with fmt's text TOLD by the authors' own Lean function (tested against real Go, not proved from fmt's source: count such statements apart). THE CARD IS WHAT COUNTS. Prove the row's statement (the work); the ties are given (YtohjapcafkhabaaDoorTie.lean); close each card by the builder's one call (the guide's Derived/Test/ToyasCard.lean, 'card_holds'). Laid BY PROGRAM, IN A SANDBOX (cutbox-door.mjs). By AI agents, Wed Nov 11 2026. No macro, syntax, notation, axiom, sorry.
-/
import Derived.Test.YtohjapcafkhabaaDoorRows
import GoSem.ClaimSeven
namespace Go.Proofs.YtohjapcafkhabaaDoor
namespace Rows

/-- THE TIED CARD OF 'palmettelaw31.RankedTreeText'. -/
def rankedTreeTextCard : Claim7 := { stood := { row := rankedTreeTextRow, standIns := [], harness := (true, "42abf0d78d2298ac666c4ca9adf629001d831f608eb35ebefe242a0cd36f5b98"), looks := true }, kinds := [], alts := [], laidByText := true, laidKinds := [.data, .data, .data, .data, .sentinel, .sentinel, .pinned], laidTests := true, laidLooks := .later }
def RankedTreeTextCardSaid : Prop := Claim7.holds Tryd.pinned (.plain (OpenSpec.ofChange rankedTreeTextSpec)) rankedTreeTextCard

/-- THE TIED CARD OF 'palmettelaw31.RankedTreeRoundTrip'. -/
def rankedTreeRoundTripCard : Claim7 := { stood := { row := rankedTreeRoundTripRow, standIns := [], harness := (true, "42abf0d78d2298ac666c4ca9adf629001d831f608eb35ebefe242a0cd36f5b98"), looks := true }, kinds := [], alts := [], laidByText := true, laidKinds := [.data, .data, .data, .data, .sentinel, .sentinel, .pinned], laidTests := true, laidLooks := .later }
def RankedTreeRoundTripCardSaid : Prop := Claim7.holds Tryd.pinned (.plain (OpenSpec.ofChange rankedTreeRoundTripSpec)) rankedTreeRoundTripCard

/-- THE TIED CARD OF 'palmettelaw31.RankedTreeIndependent'. -/
def rankedTreeIndependentCard : Claim7 := { stood := { row := rankedTreeIndependentRow, standIns := [], harness := (true, "42abf0d78d2298ac666c4ca9adf629001d831f608eb35ebefe242a0cd36f5b98"), looks := true }, kinds := [], alts := [], laidByText := true, laidKinds := [.data, .data, .data, .data, .sentinel, .sentinel, .pinned], laidTests := true, laidLooks := .later }
def RankedTreeIndependentCardSaid : Prop := Claim7.holds Tryd.pinned (.plain (OpenSpec.ofChange rankedTreeIndependentSpec)) rankedTreeIndependentCard

/-- THE TIED CARD OF 'palmettelaw31.RankedTreeValid'. -/
def rankedTreeValidCard : Claim7 := { stood := { row := rankedTreeValidRow, standIns := [], harness := (true, "42abf0d78d2298ac666c4ca9adf629001d831f608eb35ebefe242a0cd36f5b98"), looks := true }, kinds := [], alts := [], laidByText := true, laidKinds := [.data, .data, .data, .data, .sentinel, .sentinel, .pinned], laidTests := true, laidLooks := .later }
def RankedTreeValidCardSaid : Prop := Claim7.holds Tryd.pinned (.plain (OpenSpec.ofChange rankedTreeValidSpec)) rankedTreeValidCard

/-- THE TIED CARD OF 'palmettelaw31.RankedTreeReplace'. -/
def rankedTreeReplaceCard : Claim7 := { stood := { row := rankedTreeReplaceRow, standIns := [], harness := (true, "42abf0d78d2298ac666c4ca9adf629001d831f608eb35ebefe242a0cd36f5b98"), looks := true }, kinds := [], alts := [], laidByText := true, laidKinds := [.data, .data, .data, .data, .sentinel, .sentinel, .pinned], laidTests := true, laidLooks := .later }
def RankedTreeReplaceCardSaid : Prop := Claim7.holds Tryd.pinned (.plain (OpenSpec.ofChange rankedTreeReplaceSpec)) rankedTreeReplaceCard

/-- THE TIED CARD OF 'palmettelaw31.RankedTreeTotalOrder'. -/
def rankedTreeTotalOrderCard : Claim7 := { stood := { row := rankedTreeTotalOrderRow, standIns := [], harness := (true, "42abf0d78d2298ac666c4ca9adf629001d831f608eb35ebefe242a0cd36f5b98"), looks := true }, kinds := [], alts := [], laidByText := true, laidKinds := [.data, .data, .data, .data, .sentinel, .sentinel, .pinned], laidTests := true, laidLooks := .later }
def RankedTreeTotalOrderCardSaid : Prop := Claim7.holds Tryd.pinned (.plain (OpenSpec.ofChange rankedTreeTotalOrderSpec)) rankedTreeTotalOrderCard

/-- THE TIED CARD OF 'palmettelaw31.RankedTreeAll'. -/
def rankedTreeAllCard : Claim7 := { stood := { row := rankedTreeAllRow, standIns := [], harness := (true, "42abf0d78d2298ac666c4ca9adf629001d831f608eb35ebefe242a0cd36f5b98"), looks := true }, kinds := [], alts := [], laidByText := true, laidKinds := [.data, .data, .data, .data, .sentinel, .sentinel, .pinned], laidTests := true, laidLooks := .later }
def RankedTreeAllCardSaid : Prop := Claim7.holds Tryd.pinned (.plain (OpenSpec.ofChange rankedTreeAllSpec)) rankedTreeAllCard

/-- THE TIED CARD OF 'palmettelaw31.RankedTreeCompare'. -/
def rankedTreeCompareCard : Claim7 := { stood := { row := rankedTreeCompareRow, standIns := [], harness := (true, "42abf0d78d2298ac666c4ca9adf629001d831f608eb35ebefe242a0cd36f5b98"), looks := true }, kinds := [], alts := [], laidByText := true, laidKinds := [.data, .data, .data, .data, .sentinel, .sentinel, .pinned], laidTests := true, laidLooks := .later }
def RankedTreeCompareCardSaid : Prop := Claim7.holds Tryd.pinned (.plain (OpenSpec.ofChange rankedTreeCompareSpec)) rankedTreeCompareCard

/-- THE SECOND FORM's CARD OF 'palmettelaw31.RankedTreeText'. -/
def rankedTreeTextUptoCard : Claim7 := { stood := { row := rankedTreeTextUptoRow, standIns := [], harness := (true, "42abf0d78d2298ac666c4ca9adf629001d831f608eb35ebefe242a0cd36f5b98"), looks := true }, kinds := [], alts := [], laidByText := true, laidKinds := [.data, .data, .data, .data, .sentinel, .sentinel, .pinned], laidTests := true, laidLooks := .later }
def RankedTreeTextUptoCardSaid : Prop := Claim7.holds Tryd.pinned (.plain (OpenSpec.upto rankedTreeTextSpec)) rankedTreeTextUptoCard

/-- THE SECOND FORM's CARD OF 'palmettelaw31.RankedTreeRoundTrip'. -/
def rankedTreeRoundTripUptoCard : Claim7 := { stood := { row := rankedTreeRoundTripUptoRow, standIns := [], harness := (true, "42abf0d78d2298ac666c4ca9adf629001d831f608eb35ebefe242a0cd36f5b98"), looks := true }, kinds := [], alts := [], laidByText := true, laidKinds := [.data, .data, .data, .data, .sentinel, .sentinel, .pinned], laidTests := true, laidLooks := .later }
def RankedTreeRoundTripUptoCardSaid : Prop := Claim7.holds Tryd.pinned (.plain (OpenSpec.upto rankedTreeRoundTripSpec)) rankedTreeRoundTripUptoCard

/-- THE SECOND FORM's CARD OF 'palmettelaw31.RankedTreeIndependent'. -/
def rankedTreeIndependentUptoCard : Claim7 := { stood := { row := rankedTreeIndependentUptoRow, standIns := [], harness := (true, "42abf0d78d2298ac666c4ca9adf629001d831f608eb35ebefe242a0cd36f5b98"), looks := true }, kinds := [], alts := [], laidByText := true, laidKinds := [.data, .data, .data, .data, .sentinel, .sentinel, .pinned], laidTests := true, laidLooks := .later }
def RankedTreeIndependentUptoCardSaid : Prop := Claim7.holds Tryd.pinned (.plain (OpenSpec.upto rankedTreeIndependentSpec)) rankedTreeIndependentUptoCard

/-- THE SECOND FORM's CARD OF 'palmettelaw31.RankedTreeValid'. -/
def rankedTreeValidUptoCard : Claim7 := { stood := { row := rankedTreeValidUptoRow, standIns := [], harness := (true, "42abf0d78d2298ac666c4ca9adf629001d831f608eb35ebefe242a0cd36f5b98"), looks := true }, kinds := [], alts := [], laidByText := true, laidKinds := [.data, .data, .data, .data, .sentinel, .sentinel, .pinned], laidTests := true, laidLooks := .later }
def RankedTreeValidUptoCardSaid : Prop := Claim7.holds Tryd.pinned (.plain (OpenSpec.upto rankedTreeValidSpec)) rankedTreeValidUptoCard

/-- THE SECOND FORM's CARD OF 'palmettelaw31.RankedTreeReplace'. -/
def rankedTreeReplaceUptoCard : Claim7 := { stood := { row := rankedTreeReplaceUptoRow, standIns := [], harness := (true, "42abf0d78d2298ac666c4ca9adf629001d831f608eb35ebefe242a0cd36f5b98"), looks := true }, kinds := [], alts := [], laidByText := true, laidKinds := [.data, .data, .data, .data, .sentinel, .sentinel, .pinned], laidTests := true, laidLooks := .later }
def RankedTreeReplaceUptoCardSaid : Prop := Claim7.holds Tryd.pinned (.plain (OpenSpec.upto rankedTreeReplaceSpec)) rankedTreeReplaceUptoCard

/-- THE SECOND FORM's CARD OF 'palmettelaw31.RankedTreeTotalOrder'. -/
def rankedTreeTotalOrderUptoCard : Claim7 := { stood := { row := rankedTreeTotalOrderUptoRow, standIns := [], harness := (true, "42abf0d78d2298ac666c4ca9adf629001d831f608eb35ebefe242a0cd36f5b98"), looks := true }, kinds := [], alts := [], laidByText := true, laidKinds := [.data, .data, .data, .data, .sentinel, .sentinel, .pinned], laidTests := true, laidLooks := .later }
def RankedTreeTotalOrderUptoCardSaid : Prop := Claim7.holds Tryd.pinned (.plain (OpenSpec.upto rankedTreeTotalOrderSpec)) rankedTreeTotalOrderUptoCard

/-- THE SECOND FORM's CARD OF 'palmettelaw31.RankedTreeAll'. -/
def rankedTreeAllUptoCard : Claim7 := { stood := { row := rankedTreeAllUptoRow, standIns := [], harness := (true, "42abf0d78d2298ac666c4ca9adf629001d831f608eb35ebefe242a0cd36f5b98"), looks := true }, kinds := [], alts := [], laidByText := true, laidKinds := [.data, .data, .data, .data, .sentinel, .sentinel, .pinned], laidTests := true, laidLooks := .later }
def RankedTreeAllUptoCardSaid : Prop := Claim7.holds Tryd.pinned (.plain (OpenSpec.upto rankedTreeAllSpec)) rankedTreeAllUptoCard

/-- THE SECOND FORM's CARD OF 'palmettelaw31.RankedTreeCompare'. -/
def rankedTreeCompareUptoCard : Claim7 := { stood := { row := rankedTreeCompareUptoRow, standIns := [], harness := (true, "42abf0d78d2298ac666c4ca9adf629001d831f608eb35ebefe242a0cd36f5b98"), looks := true }, kinds := [], alts := [], laidByText := true, laidKinds := [.data, .data, .data, .data, .sentinel, .sentinel, .pinned], laidTests := true, laidLooks := .later }
def RankedTreeCompareUptoCardSaid : Prop := Claim7.holds Tryd.pinned (.plain (OpenSpec.upto rankedTreeCompareSpec)) rankedTreeCompareUptoCard
end Rows
end Go.Proofs.YtohjapcafkhabaaDoor
