/-
  DERIVED. GIVEN WITH THE SEED: THE CARDS: each row of YtebbekdebanabaaDoorRows.lean that lists a variable, with what it lists TIED to the program's text (the seventh form; the later family's looks); each row that meets fmt, with fmt's text TOLD by the authors' own Lean function (tested against real Go, not proved from fmt's source: count such statements apart). THE CARD IS WHAT COUNTS. Prove the row's statement (the work); the ties are given (YtebbekdebanabaaDoorTie.lean); close each card by the builder's one call (the guide's Derived/Test/ToyasCard.lean, 'card_holds'). Laid BY PROGRAM, IN A SANDBOX (cutbox-door.mjs). By AI agents, Wed Nov 11 2026. No macro, syntax, notation, axiom, sorry.
-/
import Derived.Test.YtebbekdebanabaaDoorRows
import GoSem.ClaimSeven
namespace Go.Proofs.YtebbekdebanabaaDoor
namespace Rows

/-- THE TIED CARD OF 'palmettelaw02.BignatUint64Arithmetic'. -/
def bignatUint64ArithmeticCard : Claim7 := { stood := { row := bignatUint64ArithmeticRow, standIns := [], harness := (true, "0715a891fa6983b7bca98b8db048e12d5a0c5bfe8dc4ca6ec568c71bd183fa40"), looks := false }, kinds := [], alts := [], laidByText := true, laidKinds := [.data, .data, .data], laidTests := true, laidLooks := .later }
def BignatUint64ArithmeticCardSaid : Prop := Claim7.holds Tryd.pinned (.plain (OpenSpec.ofChange bignatUint64ArithmeticSpec)) bignatUint64ArithmeticCard

/-- THE TIED CARD OF 'palmettelaw02.BignatDivModGCD'. -/
def bignatDivModGCDCard : Claim7 := { stood := { row := bignatDivModGCDRow, standIns := [], harness := (true, "0715a891fa6983b7bca98b8db048e12d5a0c5bfe8dc4ca6ec568c71bd183fa40"), looks := false }, kinds := [], alts := [], laidByText := true, laidKinds := [.data, .data, .data, .data, .pinned], laidTests := true, laidLooks := .later }
def BignatDivModGCDCardSaid : Prop := Claim7.holds Tryd.pinned (.plain (OpenSpec.ofChange bignatDivModGCDSpec)) bignatDivModGCDCard

/-- THE TIED CARD OF 'palmettelaw02.BignatCompare'. -/
def bignatCompareCard : Claim7 := { stood := { row := bignatCompareRow, standIns := [], harness := (true, "0715a891fa6983b7bca98b8db048e12d5a0c5bfe8dc4ca6ec568c71bd183fa40"), looks := false }, kinds := [], alts := [], laidByText := true, laidKinds := [.data, .data, .data, .data, .pinned], laidTests := true, laidLooks := .later }
def BignatCompareCardSaid : Prop := Claim7.holds Tryd.pinned (.plain (OpenSpec.ofChange bignatCompareSpec)) bignatCompareCard

/-- THE TIED CARD OF 'palmettelaw02.BignatParseString'. -/
def bignatParseStringCard : Claim7 := { stood := { row := bignatParseStringRow, standIns := [], harness := (true, "0715a891fa6983b7bca98b8db048e12d5a0c5bfe8dc4ca6ec568c71bd183fa40"), looks := false }, kinds := [], alts := [], laidByText := true, laidKinds := [.data, .data, .data, .data, .pinned], laidTests := true, laidLooks := .later }
def BignatParseStringCardSaid : Prop := Claim7.holds Tryd.pinned (.plain (OpenSpec.ofChange bignatParseStringSpec)) bignatParseStringCard

/-- THE TIED CARD OF 'palmettelaw02.BignatDivisionIdentity'. -/
def bignatDivisionIdentityCard : Claim7 := { stood := { row := bignatDivisionIdentityRow, standIns := [], harness := (true, "0715a891fa6983b7bca98b8db048e12d5a0c5bfe8dc4ca6ec568c71bd183fa40"), looks := false }, kinds := [], alts := [], laidByText := true, laidKinds := [.data, .data, .data, .data, .pinned], laidTests := true, laidLooks := .later }
def BignatDivisionIdentityCardSaid : Prop := Claim7.holds Tryd.pinned (.plain (OpenSpec.ofChange bignatDivisionIdentitySpec)) bignatDivisionIdentityCard

/-- THE TIED CARD OF 'palmettelaw02.BignatAddSubMul'. -/
def bignatAddSubMulCard : Claim7 := { stood := { row := bignatAddSubMulRow, standIns := [], harness := (true, "0715a891fa6983b7bca98b8db048e12d5a0c5bfe8dc4ca6ec568c71bd183fa40"), looks := false }, kinds := [], alts := [], laidByText := true, laidKinds := [.data, .data, .data, .data, .pinned], laidTests := true, laidLooks := .later }
def BignatAddSubMulCardSaid : Prop := Claim7.holds Tryd.pinned (.plain (OpenSpec.ofChange bignatAddSubMulSpec)) bignatAddSubMulCard

/-- THE TIED CARD OF 'palmettelaw02.BignatSemiringLaws'. -/
def bignatSemiringLawsCard : Claim7 := { stood := { row := bignatSemiringLawsRow, standIns := [], harness := (true, "0715a891fa6983b7bca98b8db048e12d5a0c5bfe8dc4ca6ec568c71bd183fa40"), looks := false }, kinds := [], alts := [], laidByText := true, laidKinds := [.data, .data, .data, .data, .pinned], laidTests := true, laidLooks := .later }
def BignatSemiringLawsCardSaid : Prop := Claim7.holds Tryd.pinned (.plain (OpenSpec.ofChange bignatSemiringLawsSpec)) bignatSemiringLawsCard

/-- THE TIED CARD OF 'palmettelaw02.BignatPowers'. -/
def bignatPowersCard : Claim7 := { stood := { row := bignatPowersRow, standIns := [], harness := (true, "0715a891fa6983b7bca98b8db048e12d5a0c5bfe8dc4ca6ec568c71bd183fa40"), looks := false }, kinds := [], alts := [], laidByText := true, laidKinds := [.data, .data, .data, .data, .pinned], laidTests := true, laidLooks := .later }
def BignatPowersCardSaid : Prop := Claim7.holds Tryd.pinned (.plain (OpenSpec.ofChange bignatPowersSpec)) bignatPowersCard

/-- THE TIED CARD OF 'palmettelaw02.BignatPowerLaws'. -/
def bignatPowerLawsCard : Claim7 := { stood := { row := bignatPowerLawsRow, standIns := [], harness := (true, "0715a891fa6983b7bca98b8db048e12d5a0c5bfe8dc4ca6ec568c71bd183fa40"), looks := false }, kinds := [], alts := [], laidByText := true, laidKinds := [.data, .data, .data, .data, .pinned], laidTests := true, laidLooks := .later }
def BignatPowerLawsCardSaid : Prop := Claim7.holds Tryd.pinned (.plain (OpenSpec.ofChange bignatPowerLawsSpec)) bignatPowerLawsCard

/-- THE SECOND FORM's CARD OF 'palmettelaw02.BignatUint64Arithmetic'. -/
def bignatUint64ArithmeticUptoCard : Claim7 := { stood := { row := bignatUint64ArithmeticUptoRow, standIns := [], harness := (true, "0715a891fa6983b7bca98b8db048e12d5a0c5bfe8dc4ca6ec568c71bd183fa40"), looks := false }, kinds := [], alts := [], laidByText := true, laidKinds := [.data, .data, .data], laidTests := true, laidLooks := .later }
def BignatUint64ArithmeticUptoCardSaid : Prop := Claim7.holds Tryd.pinned (.plain (OpenSpec.upto bignatUint64ArithmeticSpec)) bignatUint64ArithmeticUptoCard

/-- THE SECOND FORM's CARD OF 'palmettelaw02.BignatDivModGCD'. -/
def bignatDivModGCDUptoCard : Claim7 := { stood := { row := bignatDivModGCDUptoRow, standIns := [], harness := (true, "0715a891fa6983b7bca98b8db048e12d5a0c5bfe8dc4ca6ec568c71bd183fa40"), looks := false }, kinds := [], alts := [], laidByText := true, laidKinds := [.data, .data, .data, .data, .pinned], laidTests := true, laidLooks := .later }
def BignatDivModGCDUptoCardSaid : Prop := Claim7.holds Tryd.pinned (.plain (OpenSpec.upto bignatDivModGCDSpec)) bignatDivModGCDUptoCard

/-- THE SECOND FORM's CARD OF 'palmettelaw02.BignatCompare'. -/
def bignatCompareUptoCard : Claim7 := { stood := { row := bignatCompareUptoRow, standIns := [], harness := (true, "0715a891fa6983b7bca98b8db048e12d5a0c5bfe8dc4ca6ec568c71bd183fa40"), looks := false }, kinds := [], alts := [], laidByText := true, laidKinds := [.data, .data, .data, .data, .pinned], laidTests := true, laidLooks := .later }
def BignatCompareUptoCardSaid : Prop := Claim7.holds Tryd.pinned (.plain (OpenSpec.upto bignatCompareSpec)) bignatCompareUptoCard

/-- THE SECOND FORM's CARD OF 'palmettelaw02.BignatParseString'. -/
def bignatParseStringUptoCard : Claim7 := { stood := { row := bignatParseStringUptoRow, standIns := [], harness := (true, "0715a891fa6983b7bca98b8db048e12d5a0c5bfe8dc4ca6ec568c71bd183fa40"), looks := false }, kinds := [], alts := [], laidByText := true, laidKinds := [.data, .data, .data, .data, .pinned], laidTests := true, laidLooks := .later }
def BignatParseStringUptoCardSaid : Prop := Claim7.holds Tryd.pinned (.plain (OpenSpec.upto bignatParseStringSpec)) bignatParseStringUptoCard

/-- THE SECOND FORM's CARD OF 'palmettelaw02.BignatDivisionIdentity'. -/
def bignatDivisionIdentityUptoCard : Claim7 := { stood := { row := bignatDivisionIdentityUptoRow, standIns := [], harness := (true, "0715a891fa6983b7bca98b8db048e12d5a0c5bfe8dc4ca6ec568c71bd183fa40"), looks := false }, kinds := [], alts := [], laidByText := true, laidKinds := [.data, .data, .data, .data, .pinned], laidTests := true, laidLooks := .later }
def BignatDivisionIdentityUptoCardSaid : Prop := Claim7.holds Tryd.pinned (.plain (OpenSpec.upto bignatDivisionIdentitySpec)) bignatDivisionIdentityUptoCard

/-- THE SECOND FORM's CARD OF 'palmettelaw02.BignatAddSubMul'. -/
def bignatAddSubMulUptoCard : Claim7 := { stood := { row := bignatAddSubMulUptoRow, standIns := [], harness := (true, "0715a891fa6983b7bca98b8db048e12d5a0c5bfe8dc4ca6ec568c71bd183fa40"), looks := false }, kinds := [], alts := [], laidByText := true, laidKinds := [.data, .data, .data, .data, .pinned], laidTests := true, laidLooks := .later }
def BignatAddSubMulUptoCardSaid : Prop := Claim7.holds Tryd.pinned (.plain (OpenSpec.upto bignatAddSubMulSpec)) bignatAddSubMulUptoCard

/-- THE SECOND FORM's CARD OF 'palmettelaw02.BignatSemiringLaws'. -/
def bignatSemiringLawsUptoCard : Claim7 := { stood := { row := bignatSemiringLawsUptoRow, standIns := [], harness := (true, "0715a891fa6983b7bca98b8db048e12d5a0c5bfe8dc4ca6ec568c71bd183fa40"), looks := false }, kinds := [], alts := [], laidByText := true, laidKinds := [.data, .data, .data, .data, .pinned], laidTests := true, laidLooks := .later }
def BignatSemiringLawsUptoCardSaid : Prop := Claim7.holds Tryd.pinned (.plain (OpenSpec.upto bignatSemiringLawsSpec)) bignatSemiringLawsUptoCard

/-- THE SECOND FORM's CARD OF 'palmettelaw02.BignatPowers'. -/
def bignatPowersUptoCard : Claim7 := { stood := { row := bignatPowersUptoRow, standIns := [], harness := (true, "0715a891fa6983b7bca98b8db048e12d5a0c5bfe8dc4ca6ec568c71bd183fa40"), looks := false }, kinds := [], alts := [], laidByText := true, laidKinds := [.data, .data, .data, .data, .pinned], laidTests := true, laidLooks := .later }
def BignatPowersUptoCardSaid : Prop := Claim7.holds Tryd.pinned (.plain (OpenSpec.upto bignatPowersSpec)) bignatPowersUptoCard

/-- THE SECOND FORM's CARD OF 'palmettelaw02.BignatPowerLaws'. -/
def bignatPowerLawsUptoCard : Claim7 := { stood := { row := bignatPowerLawsUptoRow, standIns := [], harness := (true, "0715a891fa6983b7bca98b8db048e12d5a0c5bfe8dc4ca6ec568c71bd183fa40"), looks := false }, kinds := [], alts := [], laidByText := true, laidKinds := [.data, .data, .data, .data, .pinned], laidTests := true, laidLooks := .later }
def BignatPowerLawsUptoCardSaid : Prop := Claim7.holds Tryd.pinned (.plain (OpenSpec.upto bignatPowerLawsSpec)) bignatPowerLawsUptoCard
end Rows
end Go.Proofs.YtebbekdebanabaaDoor
