/-
  NARROWER THAN 'FOR EVERY INPUT', by the rows' own cells (each row's printed sentence says how): BignatUint64Arithmetic: laid · BignatDivModGCD: laid · BignatCompare: laid · BignatParseString: laid · BignatDivisionIdentity: laid · BignatAddSubMul: laid · BignatSemiringLaws: laid · BignatPowers: laid · BignatPowerLaws: laid.
  DERIVED. THE GIVEN ROWS OF THIS SEAT. 9 by the template 'for every input the law returns true; each argument reads behind the call as it read before'; 0 by the template 'total and deterministic' (their statements: YtebbekdebanabaaDoorTotals.lean).
  GIVEN WITH THE SEED: the statements are not yours to turn. If you find one false, say at which input.
  Laid BY PROGRAM, IN A SANDBOX (cutbox-rows.mjs): the forced cells as the released guide's own fill.sh prints them over the translation 461842a6330d5aaf… (all of the seat's roots in one cut). By AI agents, Wed Nov 11 2026. No macro, syntax, notation, axiom, sorry.
-/
import Derived.Test.YtebbekdebanabaaDoorChecked
import GoSem.PinnedTables
import GoSem.Claim
import GoSem.ClaimJoined
import GoSem.ClaimMapViews
import Derived.JoinedTies
import Derived.KernelRfl
namespace Go.Proofs.YtebbekdebanabaaDoor
/- THE CELL 'sum', in the pinned program and in every row, IS THE sha256 OF THE DUMP (.gsa) THAT YtebbekdebanabaaDoorProg.lean LOADS. Nothing in Lean hashes anything: it is a label: what it is worth is what the hold of that sum in a sandbox is worth. -/
noncomputable def Tryd.pinned : Pinned := { name := "ytebbekdebanabaadoor", sum := "461842a6330d5aaf6d9a5f861cf7a5734b5c5e316070732ad5735e084a24f921", checked := Tryd.checked }
namespace Rows
def none {H : Type} : Left H := { results := [], args := [] }

/- WHAT THE LISTED PACKAGE-LEVEL VARIABLES READ AS WHEN THE CALL BEGINS. Each datum BY PROGRAM (the guide's laid-datum.mjs) off the statement by which the dump's own 'gosem.cut.vars' lays the variable. In a bare row this is a premise. The card (YtebbekdebanabaaDoorCards.lean) ties it to the program's text. -/
def laid_math_bits_deBruijn32tab {H : Type} : DataW H := .agg [.lit (.int .u8 0), .lit (.int .u8 1), .lit (.int .u8 28), .lit (.int .u8 2), .lit (.int .u8 29), .lit (.int .u8 14), .lit (.int .u8 24), .lit (.int .u8 3), .lit (.int .u8 30), .lit (.int .u8 22), .lit (.int .u8 20), .lit (.int .u8 15), .lit (.int .u8 25), .lit (.int .u8 17), .lit (.int .u8 4), .lit (.int .u8 8), .lit (.int .u8 31), .lit (.int .u8 27), .lit (.int .u8 13), .lit (.int .u8 23), .lit (.int .u8 21), .lit (.int .u8 19), .lit (.int .u8 16), .lit (.int .u8 7), .lit (.int .u8 26), .lit (.int .u8 12), .lit (.int .u8 18), .lit (.int .u8 6), .lit (.int .u8 11), .lit (.int .u8 5), .lit (.int .u8 10), .lit (.int .u8 9)]
def laid_math_bits_deBruijn64tab {H : Type} : DataW H := .agg [.lit (.int .u8 0), .lit (.int .u8 1), .lit (.int .u8 56), .lit (.int .u8 2), .lit (.int .u8 57), .lit (.int .u8 49), .lit (.int .u8 28), .lit (.int .u8 3), .lit (.int .u8 61), .lit (.int .u8 58), .lit (.int .u8 42), .lit (.int .u8 50), .lit (.int .u8 38), .lit (.int .u8 29), .lit (.int .u8 17), .lit (.int .u8 4), .lit (.int .u8 62), .lit (.int .u8 47), .lit (.int .u8 59), .lit (.int .u8 36), .lit (.int .u8 45), .lit (.int .u8 43), .lit (.int .u8 51), .lit (.int .u8 22), .lit (.int .u8 53), .lit (.int .u8 39), .lit (.int .u8 33), .lit (.int .u8 30), .lit (.int .u8 24), .lit (.int .u8 18), .lit (.int .u8 12), .lit (.int .u8 5), .lit (.int .u8 63), .lit (.int .u8 55), .lit (.int .u8 48), .lit (.int .u8 27), .lit (.int .u8 60), .lit (.int .u8 41), .lit (.int .u8 37), .lit (.int .u8 16), .lit (.int .u8 46), .lit (.int .u8 35), .lit (.int .u8 44), .lit (.int .u8 21), .lit (.int .u8 52), .lit (.int .u8 32), .lit (.int .u8 23), .lit (.int .u8 11), .lit (.int .u8 54), .lit (.int .u8 26), .lit (.int .u8 40), .lit (.int .u8 15), .lit (.int .u8 34), .lit (.int .u8 20), .lit (.int .u8 31), .lit (.int .u8 10), .lit (.int .u8 25), .lit (.int .u8 14), .lit (.int .u8 19), .lit (.int .u8 9), .lit (.int .u8 13), .lit (.int .u8 8), .lit (.int .u8 7), .lit (.int .u8 6)]
def laid_internal_strconv_uint64pow10 {H : Type} : DataW H := .agg [.lit (.int .u64 1), .lit (.int .u64 10), .lit (.int .u64 100), .lit (.int .u64 1000), .lit (.int .u64 10000), .lit (.int .u64 100000), .lit (.int .u64 1000000), .lit (.int .u64 10000000), .lit (.int .u64 100000000), .lit (.int .u64 1000000000), .lit (.int .u64 10000000000), .lit (.int .u64 100000000000), .lit (.int .u64 1000000000000), .lit (.int .u64 10000000000000), .lit (.int .u64 100000000000000), .lit (.int .u64 1000000000000000), .lit (.int .u64 10000000000000000), .lit (.int .u64 100000000000000000), .lit (.int .u64 1000000000000000000), .lit (.int .u64 10000000000000000000)]
def laid_unicode_utf8_acceptRanges {H : Type} : DataW H := .agg [.agg [.lit (.int .u8 128), .lit (.int .u8 191)], .agg [.lit (.int .u8 160), .lit (.int .u8 191)], .agg [.lit (.int .u8 128), .lit (.int .u8 159)], .agg [.lit (.int .u8 144), .lit (.int .u8 191)], .agg [.lit (.int .u8 128), .lit (.int .u8 143)], .agg [.lit (.int .u8 0), .lit (.int .u8 0)], .agg [.lit (.int .u8 0), .lit (.int .u8 0)], .agg [.lit (.int .u8 0), .lit (.int .u8 0)], .agg [.lit (.int .u8 0), .lit (.int .u8 0)], .agg [.lit (.int .u8 0), .lit (.int .u8 0)], .agg [.lit (.int .u8 0), .lit (.int .u8 0)], .agg [.lit (.int .u8 0), .lit (.int .u8 0)], .agg [.lit (.int .u8 0), .lit (.int .u8 0)], .agg [.lit (.int .u8 0), .lit (.int .u8 0)], .agg [.lit (.int .u8 0), .lit (.int .u8 0)], .agg [.lit (.int .u8 0), .lit (.int .u8 0)]]
/-- One of Go's own tables, pinned by name: the form's constant. -/
def laid_unicode_utf8_first : DataW Unit := Go.Pinned.utf8First

/-- 'palmettelaw02.BignatUint64Arithmetic': WHATEVER THE INPUT: true; the input reads as it did. -/
def bignatUint64ArithmeticSpec : ChangeSpec := { name := "bignatUint64Arithmetic", fn := fun _ => fun
  | [d1, d2] => { results := [.lit (.bool true)], args := [d1, d2] }
  | _ => none }
def bignatUint64ArithmeticRow : OpenClaim := { program := "ytebbekdebanabaadoor", sum := "461842a6330d5aaf6d9a5f861cf7a5734b5c5e316070732ad5735e084a24f921", func := "palmette/palmettelaw02.BignatUint64Arithmetic", spec := "bignatUint64Arithmetic", inPlace := ["internal/abi.NoEscape", "internal/bytealg.MakeNoZero"], unfollowed := true, recurses := true, named := ["internal/strconv.uint64pow10", "math/bits.deBruijn32tab", "math/bits.deBruijn64tab"], apart := false, laid := [("math/bits.deBruijn32tab", laid_math_bits_deBruijn32tab), ("math/bits.deBruijn64tab", laid_math_bits_deBruijn64tab), ("internal/strconv.uint64pow10", laid_internal_strconv_uint64pow10)] }
def BignatUint64ArithmeticSaid : Prop := bignatUint64ArithmeticRow.holds Tryd.pinned (OpenSpec.ofChange bignatUint64ArithmeticSpec)

/-- ITS FALSE NEIGHBOUR: 'it returns false'. Refute it at one input. -/
def bignatUint64ArithmeticWrong : ChangeSpec := { name := "bignatUint64Arithmetic", fn := fun _ => fun
  | [d1, d2] => { results := [.lit (.bool false)], args := [d1, d2] }
  | _ => none }
def BignatUint64ArithmeticWrongFalsely : Prop := bignatUint64ArithmeticRow.holds Tryd.pinned (OpenSpec.ofChange bignatUint64ArithmeticWrong)

/-- 'palmettelaw02.BignatDivModGCD': WHATEVER THE INPUT: true; the input reads as it did. -/
def bignatDivModGCDSpec : ChangeSpec := { name := "bignatDivModGCD", fn := fun _ => fun
  | [d1, d2] => { results := [.lit (.bool true)], args := [d1, d2] }
  | _ => none }
def bignatDivModGCDRow : OpenClaim := { program := "ytebbekdebanabaadoor", sum := "461842a6330d5aaf6d9a5f861cf7a5734b5c5e316070732ad5735e084a24f921", func := "palmette/palmettelaw02.BignatDivModGCD", spec := "bignatDivModGCD", inPlace := ["internal/abi.NoEscape", "internal/bytealg.MakeNoZero", "internal/bytealg.IndexByteString", "internal/bytealg.IndexString"], unfollowed := true, recurses := true, named := ["internal/strconv.uint64pow10", "math/bits.deBruijn32tab", "math/bits.deBruijn64tab", "unicode/utf8.first", "unicode/utf8.acceptRanges", "internal/bytealg.MaxLen"], apart := false, laid := [("math/bits.deBruijn32tab", laid_math_bits_deBruijn32tab), ("math/bits.deBruijn64tab", laid_math_bits_deBruijn64tab), ("internal/strconv.uint64pow10", laid_internal_strconv_uint64pow10), ("unicode/utf8.acceptRanges", laid_unicode_utf8_acceptRanges), ("unicode/utf8.first", laid_unicode_utf8_first)] }
def BignatDivModGCDSaid : Prop := bignatDivModGCDRow.holds Tryd.pinned (OpenSpec.ofChange bignatDivModGCDSpec)

/-- ITS FALSE NEIGHBOUR: 'it returns false'. Refute it at one input. -/
def bignatDivModGCDWrong : ChangeSpec := { name := "bignatDivModGCD", fn := fun _ => fun
  | [d1, d2] => { results := [.lit (.bool false)], args := [d1, d2] }
  | _ => none }
def BignatDivModGCDWrongFalsely : Prop := bignatDivModGCDRow.holds Tryd.pinned (OpenSpec.ofChange bignatDivModGCDWrong)

/-- 'palmettelaw02.BignatCompare': WHATEVER THE INPUT: true; the input reads as it did. -/
def bignatCompareSpec : ChangeSpec := { name := "bignatCompare", fn := fun _ => fun
  | [d1, d2, d3] => { results := [.lit (.bool true)], args := [d1, d2, d3] }
  | _ => none }
def bignatCompareRow : OpenClaim := { program := "ytebbekdebanabaadoor", sum := "461842a6330d5aaf6d9a5f861cf7a5734b5c5e316070732ad5735e084a24f921", func := "palmette/palmettelaw02.BignatCompare", spec := "bignatCompare", inPlace := ["internal/abi.NoEscape", "internal/bytealg.MakeNoZero", "internal/bytealg.IndexByteString", "internal/bytealg.IndexString"], unfollowed := true, recurses := true, named := ["internal/strconv.uint64pow10", "math/bits.deBruijn32tab", "math/bits.deBruijn64tab", "unicode/utf8.first", "unicode/utf8.acceptRanges", "internal/bytealg.MaxLen"], apart := false, laid := [("math/bits.deBruijn32tab", laid_math_bits_deBruijn32tab), ("math/bits.deBruijn64tab", laid_math_bits_deBruijn64tab), ("internal/strconv.uint64pow10", laid_internal_strconv_uint64pow10), ("unicode/utf8.acceptRanges", laid_unicode_utf8_acceptRanges), ("unicode/utf8.first", laid_unicode_utf8_first)] }
def BignatCompareSaid : Prop := bignatCompareRow.holds Tryd.pinned (OpenSpec.ofChange bignatCompareSpec)

/-- ITS FALSE NEIGHBOUR: 'it returns false'. Refute it at one input. -/
def bignatCompareWrong : ChangeSpec := { name := "bignatCompare", fn := fun _ => fun
  | [d1, d2, d3] => { results := [.lit (.bool false)], args := [d1, d2, d3] }
  | _ => none }
def BignatCompareWrongFalsely : Prop := bignatCompareRow.holds Tryd.pinned (OpenSpec.ofChange bignatCompareWrong)

/-- 'palmettelaw02.BignatParseString': WHATEVER THE INPUT: true; the input reads as it did. -/
def bignatParseStringSpec : ChangeSpec := { name := "bignatParseString", fn := fun _ => fun
  | [d1, d2, d3] => { results := [.lit (.bool true)], args := [d1, d2, d3] }
  | _ => none }
def bignatParseStringRow : OpenClaim := { program := "ytebbekdebanabaadoor", sum := "461842a6330d5aaf6d9a5f861cf7a5734b5c5e316070732ad5735e084a24f921", func := "palmette/palmettelaw02.BignatParseString", spec := "bignatParseString", inPlace := ["internal/abi.NoEscape", "internal/bytealg.MakeNoZero", "internal/bytealg.IndexByteString", "internal/bytealg.IndexString"], unfollowed := true, recurses := true, named := ["internal/strconv.uint64pow10", "math/bits.deBruijn32tab", "math/bits.deBruijn64tab", "unicode/utf8.first", "unicode/utf8.acceptRanges", "internal/bytealg.MaxLen"], apart := false, laid := [("math/bits.deBruijn32tab", laid_math_bits_deBruijn32tab), ("math/bits.deBruijn64tab", laid_math_bits_deBruijn64tab), ("internal/strconv.uint64pow10", laid_internal_strconv_uint64pow10), ("unicode/utf8.acceptRanges", laid_unicode_utf8_acceptRanges), ("unicode/utf8.first", laid_unicode_utf8_first)] }
def BignatParseStringSaid : Prop := bignatParseStringRow.holds Tryd.pinned (OpenSpec.ofChange bignatParseStringSpec)

/-- ITS FALSE NEIGHBOUR: 'it returns false'. Refute it at one input. -/
def bignatParseStringWrong : ChangeSpec := { name := "bignatParseString", fn := fun _ => fun
  | [d1, d2, d3] => { results := [.lit (.bool false)], args := [d1, d2, d3] }
  | _ => none }
def BignatParseStringWrongFalsely : Prop := bignatParseStringRow.holds Tryd.pinned (OpenSpec.ofChange bignatParseStringWrong)

/-- 'palmettelaw02.BignatDivisionIdentity': WHATEVER THE INPUT: true; the input reads as it did. -/
def bignatDivisionIdentitySpec : ChangeSpec := { name := "bignatDivisionIdentity", fn := fun _ => fun
  | [d1, d2] => { results := [.lit (.bool true)], args := [d1, d2] }
  | _ => none }
def bignatDivisionIdentityRow : OpenClaim := { program := "ytebbekdebanabaadoor", sum := "461842a6330d5aaf6d9a5f861cf7a5734b5c5e316070732ad5735e084a24f921", func := "palmette/palmettelaw02.BignatDivisionIdentity", spec := "bignatDivisionIdentity", inPlace := ["internal/abi.NoEscape", "internal/bytealg.MakeNoZero", "internal/bytealg.IndexByteString", "internal/bytealg.IndexString"], unfollowed := true, recurses := true, named := ["internal/strconv.uint64pow10", "math/bits.deBruijn32tab", "math/bits.deBruijn64tab", "unicode/utf8.first", "unicode/utf8.acceptRanges", "internal/bytealg.MaxLen"], apart := false, laid := [("math/bits.deBruijn32tab", laid_math_bits_deBruijn32tab), ("math/bits.deBruijn64tab", laid_math_bits_deBruijn64tab), ("internal/strconv.uint64pow10", laid_internal_strconv_uint64pow10), ("unicode/utf8.acceptRanges", laid_unicode_utf8_acceptRanges), ("unicode/utf8.first", laid_unicode_utf8_first)] }
def BignatDivisionIdentitySaid : Prop := bignatDivisionIdentityRow.holds Tryd.pinned (OpenSpec.ofChange bignatDivisionIdentitySpec)

/-- ITS FALSE NEIGHBOUR: 'it returns false'. Refute it at one input. -/
def bignatDivisionIdentityWrong : ChangeSpec := { name := "bignatDivisionIdentity", fn := fun _ => fun
  | [d1, d2] => { results := [.lit (.bool false)], args := [d1, d2] }
  | _ => none }
def BignatDivisionIdentityWrongFalsely : Prop := bignatDivisionIdentityRow.holds Tryd.pinned (OpenSpec.ofChange bignatDivisionIdentityWrong)

/-- 'palmettelaw02.BignatAddSubMul': WHATEVER THE INPUT: true; the input reads as it did. -/
def bignatAddSubMulSpec : ChangeSpec := { name := "bignatAddSubMul", fn := fun _ => fun
  | [d1, d2] => { results := [.lit (.bool true)], args := [d1, d2] }
  | _ => none }
def bignatAddSubMulRow : OpenClaim := { program := "ytebbekdebanabaadoor", sum := "461842a6330d5aaf6d9a5f861cf7a5734b5c5e316070732ad5735e084a24f921", func := "palmette/palmettelaw02.BignatAddSubMul", spec := "bignatAddSubMul", inPlace := ["internal/abi.NoEscape", "internal/bytealg.MakeNoZero", "internal/bytealg.IndexByteString", "internal/bytealg.IndexString"], unfollowed := true, recurses := true, named := ["internal/strconv.uint64pow10", "math/bits.deBruijn32tab", "math/bits.deBruijn64tab", "unicode/utf8.first", "unicode/utf8.acceptRanges", "internal/bytealg.MaxLen"], apart := false, laid := [("math/bits.deBruijn32tab", laid_math_bits_deBruijn32tab), ("math/bits.deBruijn64tab", laid_math_bits_deBruijn64tab), ("internal/strconv.uint64pow10", laid_internal_strconv_uint64pow10), ("unicode/utf8.acceptRanges", laid_unicode_utf8_acceptRanges), ("unicode/utf8.first", laid_unicode_utf8_first)] }
def BignatAddSubMulSaid : Prop := bignatAddSubMulRow.holds Tryd.pinned (OpenSpec.ofChange bignatAddSubMulSpec)

/-- ITS FALSE NEIGHBOUR: 'it returns false'. Refute it at one input. -/
def bignatAddSubMulWrong : ChangeSpec := { name := "bignatAddSubMul", fn := fun _ => fun
  | [d1, d2] => { results := [.lit (.bool false)], args := [d1, d2] }
  | _ => none }
def BignatAddSubMulWrongFalsely : Prop := bignatAddSubMulRow.holds Tryd.pinned (OpenSpec.ofChange bignatAddSubMulWrong)

/-- 'palmettelaw02.BignatSemiringLaws': WHATEVER THE INPUT: true; the input reads as it did. -/
def bignatSemiringLawsSpec : ChangeSpec := { name := "bignatSemiringLaws", fn := fun _ => fun
  | [d1, d2, d3] => { results := [.lit (.bool true)], args := [d1, d2, d3] }
  | _ => none }
def bignatSemiringLawsRow : OpenClaim := { program := "ytebbekdebanabaadoor", sum := "461842a6330d5aaf6d9a5f861cf7a5734b5c5e316070732ad5735e084a24f921", func := "palmette/palmettelaw02.BignatSemiringLaws", spec := "bignatSemiringLaws", inPlace := ["internal/abi.NoEscape", "internal/bytealg.MakeNoZero", "internal/bytealg.IndexByteString", "internal/bytealg.IndexString"], unfollowed := true, recurses := true, named := ["internal/strconv.uint64pow10", "math/bits.deBruijn32tab", "math/bits.deBruijn64tab", "unicode/utf8.first", "unicode/utf8.acceptRanges", "internal/bytealg.MaxLen"], apart := false, laid := [("math/bits.deBruijn32tab", laid_math_bits_deBruijn32tab), ("math/bits.deBruijn64tab", laid_math_bits_deBruijn64tab), ("internal/strconv.uint64pow10", laid_internal_strconv_uint64pow10), ("unicode/utf8.acceptRanges", laid_unicode_utf8_acceptRanges), ("unicode/utf8.first", laid_unicode_utf8_first)] }
def BignatSemiringLawsSaid : Prop := bignatSemiringLawsRow.holds Tryd.pinned (OpenSpec.ofChange bignatSemiringLawsSpec)

/-- ITS FALSE NEIGHBOUR: 'it returns false'. Refute it at one input. -/
def bignatSemiringLawsWrong : ChangeSpec := { name := "bignatSemiringLaws", fn := fun _ => fun
  | [d1, d2, d3] => { results := [.lit (.bool false)], args := [d1, d2, d3] }
  | _ => none }
def BignatSemiringLawsWrongFalsely : Prop := bignatSemiringLawsRow.holds Tryd.pinned (OpenSpec.ofChange bignatSemiringLawsWrong)

/-- 'palmettelaw02.BignatPowers': WHATEVER THE INPUT: true; the input reads as it did. -/
def bignatPowersSpec : ChangeSpec := { name := "bignatPowers", fn := fun _ => fun
  | [d1, d2] => { results := [.lit (.bool true)], args := [d1, d2] }
  | _ => none }
def bignatPowersRow : OpenClaim := { program := "ytebbekdebanabaadoor", sum := "461842a6330d5aaf6d9a5f861cf7a5734b5c5e316070732ad5735e084a24f921", func := "palmette/palmettelaw02.BignatPowers", spec := "bignatPowers", inPlace := ["internal/abi.NoEscape", "internal/bytealg.MakeNoZero", "internal/bytealg.IndexByteString", "internal/bytealg.IndexString"], unfollowed := true, recurses := true, named := ["internal/strconv.uint64pow10", "math/bits.deBruijn32tab", "math/bits.deBruijn64tab", "unicode/utf8.first", "unicode/utf8.acceptRanges", "internal/bytealg.MaxLen"], apart := false, laid := [("math/bits.deBruijn32tab", laid_math_bits_deBruijn32tab), ("math/bits.deBruijn64tab", laid_math_bits_deBruijn64tab), ("internal/strconv.uint64pow10", laid_internal_strconv_uint64pow10), ("unicode/utf8.acceptRanges", laid_unicode_utf8_acceptRanges), ("unicode/utf8.first", laid_unicode_utf8_first)] }
def BignatPowersSaid : Prop := bignatPowersRow.holds Tryd.pinned (OpenSpec.ofChange bignatPowersSpec)

/-- ITS FALSE NEIGHBOUR: 'it returns false'. Refute it at one input. -/
def bignatPowersWrong : ChangeSpec := { name := "bignatPowers", fn := fun _ => fun
  | [d1, d2] => { results := [.lit (.bool false)], args := [d1, d2] }
  | _ => none }
def BignatPowersWrongFalsely : Prop := bignatPowersRow.holds Tryd.pinned (OpenSpec.ofChange bignatPowersWrong)

/-- 'palmettelaw02.BignatPowerLaws': WHATEVER THE INPUT: true; the input reads as it did. -/
def bignatPowerLawsSpec : ChangeSpec := { name := "bignatPowerLaws", fn := fun _ => fun
  | [d1, d2, d3] => { results := [.lit (.bool true)], args := [d1, d2, d3] }
  | _ => none }
def bignatPowerLawsRow : OpenClaim := { program := "ytebbekdebanabaadoor", sum := "461842a6330d5aaf6d9a5f861cf7a5734b5c5e316070732ad5735e084a24f921", func := "palmette/palmettelaw02.BignatPowerLaws", spec := "bignatPowerLaws", inPlace := ["internal/abi.NoEscape", "internal/bytealg.MakeNoZero", "internal/bytealg.IndexByteString", "internal/bytealg.IndexString"], unfollowed := true, recurses := true, named := ["internal/strconv.uint64pow10", "math/bits.deBruijn32tab", "math/bits.deBruijn64tab", "unicode/utf8.first", "unicode/utf8.acceptRanges", "internal/bytealg.MaxLen"], apart := false, laid := [("math/bits.deBruijn32tab", laid_math_bits_deBruijn32tab), ("math/bits.deBruijn64tab", laid_math_bits_deBruijn64tab), ("internal/strconv.uint64pow10", laid_internal_strconv_uint64pow10), ("unicode/utf8.acceptRanges", laid_unicode_utf8_acceptRanges), ("unicode/utf8.first", laid_unicode_utf8_first)] }
def BignatPowerLawsSaid : Prop := bignatPowerLawsRow.holds Tryd.pinned (OpenSpec.ofChange bignatPowerLawsSpec)

/-- ITS FALSE NEIGHBOUR: 'it returns false'. Refute it at one input. -/
def bignatPowerLawsWrong : ChangeSpec := { name := "bignatPowerLaws", fn := fun _ => fun
  | [d1, d2, d3] => { results := [.lit (.bool false)], args := [d1, d2, d3] }
  | _ => none }
def BignatPowerLawsWrongFalsely : Prop := bignatPowerLawsRow.holds Tryd.pinned (OpenSpec.ofChange bignatPowerLawsWrong)

/- THE SECOND FORM. 'bulk': how many values and letters a reading holds, each counted each time it is reached (what is shared counts as often as it is met; a slice's spare places count too). A statement '..UptoSaid' is the law's where the arguments, and the package variables that the reading takes, are together of bulk at most 1048576: NARROWER than '..Said'. Prove '..Said' where nothing that the law and all that it calls make is longer than what came in: it says more and counts as full. Else prove '..UptoSaid'. A law counts once. -/
mutual
def uptoBulk {H : Type} : DataW H → Nat
  | .lit (.string bytes) => bytes.length + 1
  | .lit _ => 1
  | .nil => 1
  | .ptr d => uptoBulk d + 1
  | .slice elems spare => uptoBulkAll elems + uptoBulkAll spare + 1
  | .agg parts => uptoBulkAll parts + 1
  | .iface _ d => uptoBulk d + 1
  | .map entries => uptoBulkEntries entries + 1
  | .held _ => 1
def uptoBulkAll {H : Type} : List (DataW H) → Nat
  | [] => 0
  | d :: r => uptoBulk d + uptoBulkAll r
def uptoBulkEntries {H : Type} : List (Lit × DataW H) → Nat
  | [] => 0
  | x :: r => uptoBulkEntry x + uptoBulkEntries r
def uptoBulkEntry {H : Type} : Lit × DataW H → Nat
  | (.string bytes, d) => bytes.length + uptoBulk d + 1
  | (_, d) => uptoBulk d + 1
 end
def uptoSmall : (H : Type) → List (DataW H) → Bool := fun _ ds => decide (uptoBulkAll ds ≤ 1048576)
def OpenSpec.upto (s : _root_.Go.ChangeSpec) : _root_.Go.OpenSpec := { _root_.Go.OpenSpec.ofChange s with cond := some uptoSmall }

/-- 'palmettelaw02.BignatUint64Arithmetic', WHERE WHAT IT READS IS OF BULK AT MOST 1048576: true; the input reads as it did. -/
def bignatUint64ArithmeticUptoRow : OpenClaim := { program := "ytebbekdebanabaadoor", sum := "461842a6330d5aaf6d9a5f861cf7a5734b5c5e316070732ad5735e084a24f921", func := "palmette/palmettelaw02.BignatUint64Arithmetic", spec := "bignatUint64Arithmetic", inPlace := ["internal/abi.NoEscape", "internal/bytealg.MakeNoZero"], unfollowed := true, recurses := true, named := ["internal/strconv.uint64pow10", "math/bits.deBruijn32tab", "math/bits.deBruijn64tab"], apart := false, laid := [("math/bits.deBruijn32tab", laid_math_bits_deBruijn32tab), ("math/bits.deBruijn64tab", laid_math_bits_deBruijn64tab), ("internal/strconv.uint64pow10", laid_internal_strconv_uint64pow10)], narrowed := true }
def BignatUint64ArithmeticUptoSaid : Prop := bignatUint64ArithmeticUptoRow.holds Tryd.pinned (OpenSpec.upto bignatUint64ArithmeticSpec)

/-- 'palmettelaw02.BignatDivModGCD', WHERE WHAT IT READS IS OF BULK AT MOST 1048576: true; the input reads as it did. -/
def bignatDivModGCDUptoRow : OpenClaim := { program := "ytebbekdebanabaadoor", sum := "461842a6330d5aaf6d9a5f861cf7a5734b5c5e316070732ad5735e084a24f921", func := "palmette/palmettelaw02.BignatDivModGCD", spec := "bignatDivModGCD", inPlace := ["internal/abi.NoEscape", "internal/bytealg.MakeNoZero", "internal/bytealg.IndexByteString", "internal/bytealg.IndexString"], unfollowed := true, recurses := true, named := ["internal/strconv.uint64pow10", "math/bits.deBruijn32tab", "math/bits.deBruijn64tab", "unicode/utf8.first", "unicode/utf8.acceptRanges", "internal/bytealg.MaxLen"], apart := false, laid := [("math/bits.deBruijn32tab", laid_math_bits_deBruijn32tab), ("math/bits.deBruijn64tab", laid_math_bits_deBruijn64tab), ("internal/strconv.uint64pow10", laid_internal_strconv_uint64pow10), ("unicode/utf8.acceptRanges", laid_unicode_utf8_acceptRanges), ("unicode/utf8.first", laid_unicode_utf8_first)], narrowed := true }
def BignatDivModGCDUptoSaid : Prop := bignatDivModGCDUptoRow.holds Tryd.pinned (OpenSpec.upto bignatDivModGCDSpec)

/-- 'palmettelaw02.BignatCompare', WHERE WHAT IT READS IS OF BULK AT MOST 1048576: true; the input reads as it did. -/
def bignatCompareUptoRow : OpenClaim := { program := "ytebbekdebanabaadoor", sum := "461842a6330d5aaf6d9a5f861cf7a5734b5c5e316070732ad5735e084a24f921", func := "palmette/palmettelaw02.BignatCompare", spec := "bignatCompare", inPlace := ["internal/abi.NoEscape", "internal/bytealg.MakeNoZero", "internal/bytealg.IndexByteString", "internal/bytealg.IndexString"], unfollowed := true, recurses := true, named := ["internal/strconv.uint64pow10", "math/bits.deBruijn32tab", "math/bits.deBruijn64tab", "unicode/utf8.first", "unicode/utf8.acceptRanges", "internal/bytealg.MaxLen"], apart := false, laid := [("math/bits.deBruijn32tab", laid_math_bits_deBruijn32tab), ("math/bits.deBruijn64tab", laid_math_bits_deBruijn64tab), ("internal/strconv.uint64pow10", laid_internal_strconv_uint64pow10), ("unicode/utf8.acceptRanges", laid_unicode_utf8_acceptRanges), ("unicode/utf8.first", laid_unicode_utf8_first)], narrowed := true }
def BignatCompareUptoSaid : Prop := bignatCompareUptoRow.holds Tryd.pinned (OpenSpec.upto bignatCompareSpec)

/-- 'palmettelaw02.BignatParseString', WHERE WHAT IT READS IS OF BULK AT MOST 1048576: true; the input reads as it did. -/
def bignatParseStringUptoRow : OpenClaim := { program := "ytebbekdebanabaadoor", sum := "461842a6330d5aaf6d9a5f861cf7a5734b5c5e316070732ad5735e084a24f921", func := "palmette/palmettelaw02.BignatParseString", spec := "bignatParseString", inPlace := ["internal/abi.NoEscape", "internal/bytealg.MakeNoZero", "internal/bytealg.IndexByteString", "internal/bytealg.IndexString"], unfollowed := true, recurses := true, named := ["internal/strconv.uint64pow10", "math/bits.deBruijn32tab", "math/bits.deBruijn64tab", "unicode/utf8.first", "unicode/utf8.acceptRanges", "internal/bytealg.MaxLen"], apart := false, laid := [("math/bits.deBruijn32tab", laid_math_bits_deBruijn32tab), ("math/bits.deBruijn64tab", laid_math_bits_deBruijn64tab), ("internal/strconv.uint64pow10", laid_internal_strconv_uint64pow10), ("unicode/utf8.acceptRanges", laid_unicode_utf8_acceptRanges), ("unicode/utf8.first", laid_unicode_utf8_first)], narrowed := true }
def BignatParseStringUptoSaid : Prop := bignatParseStringUptoRow.holds Tryd.pinned (OpenSpec.upto bignatParseStringSpec)

/-- 'palmettelaw02.BignatDivisionIdentity', WHERE WHAT IT READS IS OF BULK AT MOST 1048576: true; the input reads as it did. -/
def bignatDivisionIdentityUptoRow : OpenClaim := { program := "ytebbekdebanabaadoor", sum := "461842a6330d5aaf6d9a5f861cf7a5734b5c5e316070732ad5735e084a24f921", func := "palmette/palmettelaw02.BignatDivisionIdentity", spec := "bignatDivisionIdentity", inPlace := ["internal/abi.NoEscape", "internal/bytealg.MakeNoZero", "internal/bytealg.IndexByteString", "internal/bytealg.IndexString"], unfollowed := true, recurses := true, named := ["internal/strconv.uint64pow10", "math/bits.deBruijn32tab", "math/bits.deBruijn64tab", "unicode/utf8.first", "unicode/utf8.acceptRanges", "internal/bytealg.MaxLen"], apart := false, laid := [("math/bits.deBruijn32tab", laid_math_bits_deBruijn32tab), ("math/bits.deBruijn64tab", laid_math_bits_deBruijn64tab), ("internal/strconv.uint64pow10", laid_internal_strconv_uint64pow10), ("unicode/utf8.acceptRanges", laid_unicode_utf8_acceptRanges), ("unicode/utf8.first", laid_unicode_utf8_first)], narrowed := true }
def BignatDivisionIdentityUptoSaid : Prop := bignatDivisionIdentityUptoRow.holds Tryd.pinned (OpenSpec.upto bignatDivisionIdentitySpec)

/-- 'palmettelaw02.BignatAddSubMul', WHERE WHAT IT READS IS OF BULK AT MOST 1048576: true; the input reads as it did. -/
def bignatAddSubMulUptoRow : OpenClaim := { program := "ytebbekdebanabaadoor", sum := "461842a6330d5aaf6d9a5f861cf7a5734b5c5e316070732ad5735e084a24f921", func := "palmette/palmettelaw02.BignatAddSubMul", spec := "bignatAddSubMul", inPlace := ["internal/abi.NoEscape", "internal/bytealg.MakeNoZero", "internal/bytealg.IndexByteString", "internal/bytealg.IndexString"], unfollowed := true, recurses := true, named := ["internal/strconv.uint64pow10", "math/bits.deBruijn32tab", "math/bits.deBruijn64tab", "unicode/utf8.first", "unicode/utf8.acceptRanges", "internal/bytealg.MaxLen"], apart := false, laid := [("math/bits.deBruijn32tab", laid_math_bits_deBruijn32tab), ("math/bits.deBruijn64tab", laid_math_bits_deBruijn64tab), ("internal/strconv.uint64pow10", laid_internal_strconv_uint64pow10), ("unicode/utf8.acceptRanges", laid_unicode_utf8_acceptRanges), ("unicode/utf8.first", laid_unicode_utf8_first)], narrowed := true }
def BignatAddSubMulUptoSaid : Prop := bignatAddSubMulUptoRow.holds Tryd.pinned (OpenSpec.upto bignatAddSubMulSpec)

/-- 'palmettelaw02.BignatSemiringLaws', WHERE WHAT IT READS IS OF BULK AT MOST 1048576: true; the input reads as it did. -/
def bignatSemiringLawsUptoRow : OpenClaim := { program := "ytebbekdebanabaadoor", sum := "461842a6330d5aaf6d9a5f861cf7a5734b5c5e316070732ad5735e084a24f921", func := "palmette/palmettelaw02.BignatSemiringLaws", spec := "bignatSemiringLaws", inPlace := ["internal/abi.NoEscape", "internal/bytealg.MakeNoZero", "internal/bytealg.IndexByteString", "internal/bytealg.IndexString"], unfollowed := true, recurses := true, named := ["internal/strconv.uint64pow10", "math/bits.deBruijn32tab", "math/bits.deBruijn64tab", "unicode/utf8.first", "unicode/utf8.acceptRanges", "internal/bytealg.MaxLen"], apart := false, laid := [("math/bits.deBruijn32tab", laid_math_bits_deBruijn32tab), ("math/bits.deBruijn64tab", laid_math_bits_deBruijn64tab), ("internal/strconv.uint64pow10", laid_internal_strconv_uint64pow10), ("unicode/utf8.acceptRanges", laid_unicode_utf8_acceptRanges), ("unicode/utf8.first", laid_unicode_utf8_first)], narrowed := true }
def BignatSemiringLawsUptoSaid : Prop := bignatSemiringLawsUptoRow.holds Tryd.pinned (OpenSpec.upto bignatSemiringLawsSpec)

/-- 'palmettelaw02.BignatPowers', WHERE WHAT IT READS IS OF BULK AT MOST 1048576: true; the input reads as it did. -/
def bignatPowersUptoRow : OpenClaim := { program := "ytebbekdebanabaadoor", sum := "461842a6330d5aaf6d9a5f861cf7a5734b5c5e316070732ad5735e084a24f921", func := "palmette/palmettelaw02.BignatPowers", spec := "bignatPowers", inPlace := ["internal/abi.NoEscape", "internal/bytealg.MakeNoZero", "internal/bytealg.IndexByteString", "internal/bytealg.IndexString"], unfollowed := true, recurses := true, named := ["internal/strconv.uint64pow10", "math/bits.deBruijn32tab", "math/bits.deBruijn64tab", "unicode/utf8.first", "unicode/utf8.acceptRanges", "internal/bytealg.MaxLen"], apart := false, laid := [("math/bits.deBruijn32tab", laid_math_bits_deBruijn32tab), ("math/bits.deBruijn64tab", laid_math_bits_deBruijn64tab), ("internal/strconv.uint64pow10", laid_internal_strconv_uint64pow10), ("unicode/utf8.acceptRanges", laid_unicode_utf8_acceptRanges), ("unicode/utf8.first", laid_unicode_utf8_first)], narrowed := true }
def BignatPowersUptoSaid : Prop := bignatPowersUptoRow.holds Tryd.pinned (OpenSpec.upto bignatPowersSpec)

/-- 'palmettelaw02.BignatPowerLaws', WHERE WHAT IT READS IS OF BULK AT MOST 1048576: true; the input reads as it did. -/
def bignatPowerLawsUptoRow : OpenClaim := { program := "ytebbekdebanabaadoor", sum := "461842a6330d5aaf6d9a5f861cf7a5734b5c5e316070732ad5735e084a24f921", func := "palmette/palmettelaw02.BignatPowerLaws", spec := "bignatPowerLaws", inPlace := ["internal/abi.NoEscape", "internal/bytealg.MakeNoZero", "internal/bytealg.IndexByteString", "internal/bytealg.IndexString"], unfollowed := true, recurses := true, named := ["internal/strconv.uint64pow10", "math/bits.deBruijn32tab", "math/bits.deBruijn64tab", "unicode/utf8.first", "unicode/utf8.acceptRanges", "internal/bytealg.MaxLen"], apart := false, laid := [("math/bits.deBruijn32tab", laid_math_bits_deBruijn32tab), ("math/bits.deBruijn64tab", laid_math_bits_deBruijn64tab), ("internal/strconv.uint64pow10", laid_internal_strconv_uint64pow10), ("unicode/utf8.acceptRanges", laid_unicode_utf8_acceptRanges), ("unicode/utf8.first", laid_unicode_utf8_first)], narrowed := true }
def BignatPowerLawsUptoSaid : Prop := bignatPowerLawsUptoRow.holds Tryd.pinned (OpenSpec.upto bignatPowerLawsSpec)

end Rows
end Go.Proofs.YtebbekdebanabaaDoor
