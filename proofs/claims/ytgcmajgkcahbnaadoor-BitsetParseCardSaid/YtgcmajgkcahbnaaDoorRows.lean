/-
  NARROWER THAN 'FOR EVERY INPUT', by the rows' own cells (each row's printed sentence says how): BitsetNextSubset: laid · BitsetElements: laid · BitsetSubsets: laid · BitsetOperations: laid · BitsetTotalOrder: laid · BitsetCompare: laid · BitsetAlgebra: laid · BitsetConstructors: laid · BitsetFormatParse: laid · BitsetParse: laid.
  DERIVED. THE GIVEN ROWS OF THIS SEAT. 10 by the template 'for every input the law returns true; each argument reads behind the call as it read before'; 0 by the template 'total and deterministic' (their statements: YtgcmajgkcahbnaaDoorTotals.lean).
  GIVEN WITH THE SEED: the statements are not yours to turn. If you find one false, say at which input.
  Laid BY PROGRAM, IN A SANDBOX (cutbox-rows.mjs): the forced cells as the released guide's own fill.sh prints them over the translation 0756028771fbb537… (all of the seat's roots in one cut). By AI agents, Wed Nov 11 2026. No macro, syntax, notation, axiom, sorry.
-/
import Derived.Test.YtgcmajgkcahbnaaDoorChecked
import GoSem.PinnedTables
import GoSem.Claim
import GoSem.ClaimJoined
import GoSem.ClaimMapViews
import Derived.JoinedTies
import Derived.KernelRfl
namespace Go.Proofs.YtgcmajgkcahbnaaDoor
/- THE CELL 'sum', in the pinned program and in every row, IS THE sha256 OF THE DUMP (.gsa) THAT YtgcmajgkcahbnaaDoorProg.lean LOADS. Nothing in Lean hashes anything: it is a label: what it is worth is what the hold of that sum in a sandbox is worth. -/
noncomputable def Tryd.pinned : Pinned := { name := "ytgcmajgkcahbnaadoor", sum := "0756028771fbb537b63daa4b378b8241874d6efa3cc13f64aa5f90b92df38d2a", checked := Tryd.checked }
namespace Rows
def none {H : Type} : Left H := { results := [], args := [] }

/- WHAT THE LISTED PACKAGE-LEVEL VARIABLES READ AS WHEN THE CALL BEGINS. Each datum BY PROGRAM (the guide's laid-datum.mjs) off the statement by which the dump's own 'gosem.cut.vars' lays the variable. In a bare row this is a premise. The card (YtgcmajgkcahbnaaDoorCards.lean) ties it to the program's text. -/
def laid_math_bits_deBruijn32tab {H : Type} : DataW H := .agg [.lit (.int .u8 0), .lit (.int .u8 1), .lit (.int .u8 28), .lit (.int .u8 2), .lit (.int .u8 29), .lit (.int .u8 14), .lit (.int .u8 24), .lit (.int .u8 3), .lit (.int .u8 30), .lit (.int .u8 22), .lit (.int .u8 20), .lit (.int .u8 15), .lit (.int .u8 25), .lit (.int .u8 17), .lit (.int .u8 4), .lit (.int .u8 8), .lit (.int .u8 31), .lit (.int .u8 27), .lit (.int .u8 13), .lit (.int .u8 23), .lit (.int .u8 21), .lit (.int .u8 19), .lit (.int .u8 16), .lit (.int .u8 7), .lit (.int .u8 26), .lit (.int .u8 12), .lit (.int .u8 18), .lit (.int .u8 6), .lit (.int .u8 11), .lit (.int .u8 5), .lit (.int .u8 10), .lit (.int .u8 9)]
def laid_math_bits_deBruijn64tab {H : Type} : DataW H := .agg [.lit (.int .u8 0), .lit (.int .u8 1), .lit (.int .u8 56), .lit (.int .u8 2), .lit (.int .u8 57), .lit (.int .u8 49), .lit (.int .u8 28), .lit (.int .u8 3), .lit (.int .u8 61), .lit (.int .u8 58), .lit (.int .u8 42), .lit (.int .u8 50), .lit (.int .u8 38), .lit (.int .u8 29), .lit (.int .u8 17), .lit (.int .u8 4), .lit (.int .u8 62), .lit (.int .u8 47), .lit (.int .u8 59), .lit (.int .u8 36), .lit (.int .u8 45), .lit (.int .u8 43), .lit (.int .u8 51), .lit (.int .u8 22), .lit (.int .u8 53), .lit (.int .u8 39), .lit (.int .u8 33), .lit (.int .u8 30), .lit (.int .u8 24), .lit (.int .u8 18), .lit (.int .u8 12), .lit (.int .u8 5), .lit (.int .u8 63), .lit (.int .u8 55), .lit (.int .u8 48), .lit (.int .u8 27), .lit (.int .u8 60), .lit (.int .u8 41), .lit (.int .u8 37), .lit (.int .u8 16), .lit (.int .u8 46), .lit (.int .u8 35), .lit (.int .u8 44), .lit (.int .u8 21), .lit (.int .u8 52), .lit (.int .u8 32), .lit (.int .u8 23), .lit (.int .u8 11), .lit (.int .u8 54), .lit (.int .u8 26), .lit (.int .u8 40), .lit (.int .u8 15), .lit (.int .u8 34), .lit (.int .u8 20), .lit (.int .u8 31), .lit (.int .u8 10), .lit (.int .u8 25), .lit (.int .u8 14), .lit (.int .u8 19), .lit (.int .u8 9), .lit (.int .u8 13), .lit (.int .u8 8), .lit (.int .u8 7), .lit (.int .u8 6)]
def laid_internal_strconv_uint64pow10 {H : Type} : DataW H := .agg [.lit (.int .u64 1), .lit (.int .u64 10), .lit (.int .u64 100), .lit (.int .u64 1000), .lit (.int .u64 10000), .lit (.int .u64 100000), .lit (.int .u64 1000000), .lit (.int .u64 10000000), .lit (.int .u64 100000000), .lit (.int .u64 1000000000), .lit (.int .u64 10000000000), .lit (.int .u64 100000000000), .lit (.int .u64 1000000000000), .lit (.int .u64 10000000000000), .lit (.int .u64 100000000000000), .lit (.int .u64 1000000000000000), .lit (.int .u64 10000000000000000), .lit (.int .u64 100000000000000000), .lit (.int .u64 1000000000000000000), .lit (.int .u64 10000000000000000000)]
def laid_unicode_utf8_acceptRanges {H : Type} : DataW H := .agg [.agg [.lit (.int .u8 128), .lit (.int .u8 191)], .agg [.lit (.int .u8 160), .lit (.int .u8 191)], .agg [.lit (.int .u8 128), .lit (.int .u8 159)], .agg [.lit (.int .u8 144), .lit (.int .u8 191)], .agg [.lit (.int .u8 128), .lit (.int .u8 143)], .agg [.lit (.int .u8 0), .lit (.int .u8 0)], .agg [.lit (.int .u8 0), .lit (.int .u8 0)], .agg [.lit (.int .u8 0), .lit (.int .u8 0)], .agg [.lit (.int .u8 0), .lit (.int .u8 0)], .agg [.lit (.int .u8 0), .lit (.int .u8 0)], .agg [.lit (.int .u8 0), .lit (.int .u8 0)], .agg [.lit (.int .u8 0), .lit (.int .u8 0)], .agg [.lit (.int .u8 0), .lit (.int .u8 0)], .agg [.lit (.int .u8 0), .lit (.int .u8 0)], .agg [.lit (.int .u8 0), .lit (.int .u8 0)], .agg [.lit (.int .u8 0), .lit (.int .u8 0)]]
def laid_strconv_ErrRange {H : Type} : DataW H := .iface "*errors.errorString" (.ptr (.agg [.lit (.string [118, 97, 108, 117, 101, 32, 111, 117, 116, 32, 111, 102, 32, 114, 97, 110, 103, 101])]))
def laid_strconv_ErrSyntax {H : Type} : DataW H := .iface "*errors.errorString" (.ptr (.agg [.lit (.string [105, 110, 118, 97, 108, 105, 100, 32, 115, 121, 110, 116, 97, 120])]))
/-- One of Go's own tables, pinned by name: the form's constant. -/
def laid_unicode_utf8_first : DataW Unit := Go.Pinned.utf8First

/-- 'palmettelaw01.BitsetNextSubset': WHATEVER THE INPUT: true; the input reads as it did. -/
def bitsetNextSubsetSpec : ChangeSpec := { name := "bitsetNextSubset", fn := fun _ => fun
  | [d1, d2] => { results := [.lit (.bool true)], args := [d1, d2] }
  | _ => none }
def bitsetNextSubsetRow : OpenClaim := { program := "ytgcmajgkcahbnaadoor", sum := "0756028771fbb537b63daa4b378b8241874d6efa3cc13f64aa5f90b92df38d2a", func := "palmette/palmettelaw01.BitsetNextSubset", spec := "bitsetNextSubset", inPlace := ["internal/abi.NoEscape", "internal/bytealg.MakeNoZero"], unfollowed := true, recurses := true, named := ["math/bits.deBruijn64tab", "internal/strconv.uint64pow10", "math/bits.deBruijn32tab"], plainKeys := false, apart := false, laid := [("math/bits.deBruijn32tab", laid_math_bits_deBruijn32tab), ("math/bits.deBruijn64tab", laid_math_bits_deBruijn64tab), ("internal/strconv.uint64pow10", laid_internal_strconv_uint64pow10)] }
def BitsetNextSubsetSaid : Prop := bitsetNextSubsetRow.holds Tryd.pinned (OpenSpec.ofChange bitsetNextSubsetSpec)

/-- ITS FALSE NEIGHBOUR: 'it returns false'. Refute it at one input. -/
def bitsetNextSubsetWrong : ChangeSpec := { name := "bitsetNextSubset", fn := fun _ => fun
  | [d1, d2] => { results := [.lit (.bool false)], args := [d1, d2] }
  | _ => none }
def BitsetNextSubsetWrongFalsely : Prop := bitsetNextSubsetRow.holds Tryd.pinned (OpenSpec.ofChange bitsetNextSubsetWrong)

/-- 'palmettelaw01.BitsetElements': WHATEVER THE INPUT: true; the input reads as it did. -/
def bitsetElementsSpec : ChangeSpec := { name := "bitsetElements", fn := fun _ => fun
  | [d1, d2] => { results := [.lit (.bool true)], args := [d1, d2] }
  | _ => none }
def bitsetElementsRow : OpenClaim := { program := "ytgcmajgkcahbnaadoor", sum := "0756028771fbb537b63daa4b378b8241874d6efa3cc13f64aa5f90b92df38d2a", func := "palmette/palmettelaw01.BitsetElements", spec := "bitsetElements", inPlace := ["internal/abi.NoEscape", "internal/bytealg.MakeNoZero"], unfollowed := true, recurses := true, named := ["math/bits.deBruijn64tab", "internal/strconv.uint64pow10", "math/bits.deBruijn32tab"], plainKeys := false, apart := false, laid := [("math/bits.deBruijn32tab", laid_math_bits_deBruijn32tab), ("math/bits.deBruijn64tab", laid_math_bits_deBruijn64tab), ("internal/strconv.uint64pow10", laid_internal_strconv_uint64pow10)] }
def BitsetElementsSaid : Prop := bitsetElementsRow.holds Tryd.pinned (OpenSpec.ofChange bitsetElementsSpec)

/-- ITS FALSE NEIGHBOUR: 'it returns false'. Refute it at one input. -/
def bitsetElementsWrong : ChangeSpec := { name := "bitsetElements", fn := fun _ => fun
  | [d1, d2] => { results := [.lit (.bool false)], args := [d1, d2] }
  | _ => none }
def BitsetElementsWrongFalsely : Prop := bitsetElementsRow.holds Tryd.pinned (OpenSpec.ofChange bitsetElementsWrong)

/-- 'palmettelaw01.BitsetSubsets': WHATEVER THE INPUT: true; the input reads as it did. -/
def bitsetSubsetsSpec : ChangeSpec := { name := "bitsetSubsets", fn := fun _ => fun
  | [d1, d2] => { results := [.lit (.bool true)], args := [d1, d2] }
  | _ => none }
def bitsetSubsetsRow : OpenClaim := { program := "ytgcmajgkcahbnaadoor", sum := "0756028771fbb537b63daa4b378b8241874d6efa3cc13f64aa5f90b92df38d2a", func := "palmette/palmettelaw01.BitsetSubsets", spec := "bitsetSubsets", inPlace := ["internal/abi.NoEscape", "internal/bytealg.MakeNoZero"], unfollowed := true, recurses := true, named := ["math/bits.deBruijn64tab", "internal/strconv.uint64pow10", "math/bits.deBruijn32tab"], plainKeys := false, apart := false, laid := [("math/bits.deBruijn32tab", laid_math_bits_deBruijn32tab), ("math/bits.deBruijn64tab", laid_math_bits_deBruijn64tab), ("internal/strconv.uint64pow10", laid_internal_strconv_uint64pow10)] }
def BitsetSubsetsSaid : Prop := bitsetSubsetsRow.holds Tryd.pinned (OpenSpec.ofChange bitsetSubsetsSpec)

/-- ITS FALSE NEIGHBOUR: 'it returns false'. Refute it at one input. -/
def bitsetSubsetsWrong : ChangeSpec := { name := "bitsetSubsets", fn := fun _ => fun
  | [d1, d2] => { results := [.lit (.bool false)], args := [d1, d2] }
  | _ => none }
def BitsetSubsetsWrongFalsely : Prop := bitsetSubsetsRow.holds Tryd.pinned (OpenSpec.ofChange bitsetSubsetsWrong)

/-- 'palmettelaw01.BitsetOperations': WHATEVER THE INPUT: true; the input reads as it did. -/
def bitsetOperationsSpec : ChangeSpec := { name := "bitsetOperations", fn := fun _ => fun
  | [d1, d2, d3] => { results := [.lit (.bool true)], args := [d1, d2, d3] }
  | _ => none }
def bitsetOperationsRow : OpenClaim := { program := "ytgcmajgkcahbnaadoor", sum := "0756028771fbb537b63daa4b378b8241874d6efa3cc13f64aa5f90b92df38d2a", func := "palmette/palmettelaw01.BitsetOperations", spec := "bitsetOperations", inPlace := ["internal/abi.NoEscape", "internal/bytealg.MakeNoZero"], unfollowed := true, recurses := true, named := ["math/bits.deBruijn64tab", "internal/strconv.uint64pow10", "math/bits.deBruijn32tab"], plainKeys := false, apart := false, laid := [("math/bits.deBruijn32tab", laid_math_bits_deBruijn32tab), ("math/bits.deBruijn64tab", laid_math_bits_deBruijn64tab), ("internal/strconv.uint64pow10", laid_internal_strconv_uint64pow10)] }
def BitsetOperationsSaid : Prop := bitsetOperationsRow.holds Tryd.pinned (OpenSpec.ofChange bitsetOperationsSpec)

/-- ITS FALSE NEIGHBOUR: 'it returns false'. Refute it at one input. -/
def bitsetOperationsWrong : ChangeSpec := { name := "bitsetOperations", fn := fun _ => fun
  | [d1, d2, d3] => { results := [.lit (.bool false)], args := [d1, d2, d3] }
  | _ => none }
def BitsetOperationsWrongFalsely : Prop := bitsetOperationsRow.holds Tryd.pinned (OpenSpec.ofChange bitsetOperationsWrong)

/-- 'palmettelaw01.BitsetTotalOrder': WHATEVER THE INPUT: true; the input reads as it did. -/
def bitsetTotalOrderSpec : ChangeSpec := { name := "bitsetTotalOrder", fn := fun _ => fun
  | [d1, d2, d3] => { results := [.lit (.bool true)], args := [d1, d2, d3] }
  | _ => none }
def bitsetTotalOrderRow : OpenClaim := { program := "ytgcmajgkcahbnaadoor", sum := "0756028771fbb537b63daa4b378b8241874d6efa3cc13f64aa5f90b92df38d2a", func := "palmette/palmettelaw01.BitsetTotalOrder", spec := "bitsetTotalOrder", inPlace := ["internal/abi.NoEscape", "internal/bytealg.MakeNoZero"], unfollowed := true, recurses := true, named := ["math/bits.deBruijn64tab", "internal/strconv.uint64pow10", "math/bits.deBruijn32tab"], plainKeys := false, apart := false, laid := [("math/bits.deBruijn32tab", laid_math_bits_deBruijn32tab), ("math/bits.deBruijn64tab", laid_math_bits_deBruijn64tab), ("internal/strconv.uint64pow10", laid_internal_strconv_uint64pow10)] }
def BitsetTotalOrderSaid : Prop := bitsetTotalOrderRow.holds Tryd.pinned (OpenSpec.ofChange bitsetTotalOrderSpec)

/-- ITS FALSE NEIGHBOUR: 'it returns false'. Refute it at one input. -/
def bitsetTotalOrderWrong : ChangeSpec := { name := "bitsetTotalOrder", fn := fun _ => fun
  | [d1, d2, d3] => { results := [.lit (.bool false)], args := [d1, d2, d3] }
  | _ => none }
def BitsetTotalOrderWrongFalsely : Prop := bitsetTotalOrderRow.holds Tryd.pinned (OpenSpec.ofChange bitsetTotalOrderWrong)

/-- 'palmettelaw01.BitsetCompare': WHATEVER THE INPUT: true; the input reads as it did. -/
def bitsetCompareSpec : ChangeSpec := { name := "bitsetCompare", fn := fun _ => fun
  | [d1, d2, d3, d4] => { results := [.lit (.bool true)], args := [d1, d2, d3, d4] }
  | _ => none }
def bitsetCompareRow : OpenClaim := { program := "ytgcmajgkcahbnaadoor", sum := "0756028771fbb537b63daa4b378b8241874d6efa3cc13f64aa5f90b92df38d2a", func := "palmette/palmettelaw01.BitsetCompare", spec := "bitsetCompare", inPlace := ["internal/abi.NoEscape", "internal/bytealg.MakeNoZero"], unfollowed := true, recurses := true, named := ["math/bits.deBruijn64tab", "internal/strconv.uint64pow10", "math/bits.deBruijn32tab"], plainKeys := false, apart := false, laid := [("math/bits.deBruijn32tab", laid_math_bits_deBruijn32tab), ("math/bits.deBruijn64tab", laid_math_bits_deBruijn64tab), ("internal/strconv.uint64pow10", laid_internal_strconv_uint64pow10)] }
def BitsetCompareSaid : Prop := bitsetCompareRow.holds Tryd.pinned (OpenSpec.ofChange bitsetCompareSpec)

/-- ITS FALSE NEIGHBOUR: 'it returns false'. Refute it at one input. -/
def bitsetCompareWrong : ChangeSpec := { name := "bitsetCompare", fn := fun _ => fun
  | [d1, d2, d3, d4] => { results := [.lit (.bool false)], args := [d1, d2, d3, d4] }
  | _ => none }
def BitsetCompareWrongFalsely : Prop := bitsetCompareRow.holds Tryd.pinned (OpenSpec.ofChange bitsetCompareWrong)

/-- 'palmettelaw01.BitsetAlgebra': WHATEVER THE INPUT: true; the input reads as it did. -/
def bitsetAlgebraSpec : ChangeSpec := { name := "bitsetAlgebra", fn := fun _ => fun
  | [d1, d2, d3] => { results := [.lit (.bool true)], args := [d1, d2, d3] }
  | _ => none }
def bitsetAlgebraRow : OpenClaim := { program := "ytgcmajgkcahbnaadoor", sum := "0756028771fbb537b63daa4b378b8241874d6efa3cc13f64aa5f90b92df38d2a", func := "palmette/palmettelaw01.BitsetAlgebra", spec := "bitsetAlgebra", inPlace := ["internal/abi.NoEscape", "internal/bytealg.MakeNoZero"], unfollowed := true, recurses := true, named := ["math/bits.deBruijn64tab", "internal/strconv.uint64pow10", "math/bits.deBruijn32tab"], plainKeys := false, apart := false, laid := [("math/bits.deBruijn32tab", laid_math_bits_deBruijn32tab), ("math/bits.deBruijn64tab", laid_math_bits_deBruijn64tab), ("internal/strconv.uint64pow10", laid_internal_strconv_uint64pow10)] }
def BitsetAlgebraSaid : Prop := bitsetAlgebraRow.holds Tryd.pinned (OpenSpec.ofChange bitsetAlgebraSpec)

/-- ITS FALSE NEIGHBOUR: 'it returns false'. Refute it at one input. -/
def bitsetAlgebraWrong : ChangeSpec := { name := "bitsetAlgebra", fn := fun _ => fun
  | [d1, d2, d3] => { results := [.lit (.bool false)], args := [d1, d2, d3] }
  | _ => none }
def BitsetAlgebraWrongFalsely : Prop := bitsetAlgebraRow.holds Tryd.pinned (OpenSpec.ofChange bitsetAlgebraWrong)

/-- 'palmettelaw01.BitsetConstructors': WHATEVER THE INPUT: true; the input reads as it did. -/
def bitsetConstructorsSpec : ChangeSpec := { name := "bitsetConstructors", fn := fun _ => fun
  | [d1, d2] => { results := [.lit (.bool true)], args := [d1, d2] }
  | _ => none }
def bitsetConstructorsRow : OpenClaim := { program := "ytgcmajgkcahbnaadoor", sum := "0756028771fbb537b63daa4b378b8241874d6efa3cc13f64aa5f90b92df38d2a", func := "palmette/palmettelaw01.BitsetConstructors", spec := "bitsetConstructors", inPlace := ["internal/abi.NoEscape", "internal/bytealg.MakeNoZero"], unfollowed := true, recurses := true, named := ["math/bits.deBruijn64tab", "internal/strconv.uint64pow10", "math/bits.deBruijn32tab"], plainKeys := false, apart := false, laid := [("math/bits.deBruijn32tab", laid_math_bits_deBruijn32tab), ("math/bits.deBruijn64tab", laid_math_bits_deBruijn64tab), ("internal/strconv.uint64pow10", laid_internal_strconv_uint64pow10)] }
def BitsetConstructorsSaid : Prop := bitsetConstructorsRow.holds Tryd.pinned (OpenSpec.ofChange bitsetConstructorsSpec)

/-- ITS FALSE NEIGHBOUR: 'it returns false'. Refute it at one input. -/
def bitsetConstructorsWrong : ChangeSpec := { name := "bitsetConstructors", fn := fun _ => fun
  | [d1, d2] => { results := [.lit (.bool false)], args := [d1, d2] }
  | _ => none }
def BitsetConstructorsWrongFalsely : Prop := bitsetConstructorsRow.holds Tryd.pinned (OpenSpec.ofChange bitsetConstructorsWrong)

/-- 'palmettelaw01.BitsetFormatParse': WHATEVER THE INPUT: true; the input reads as it did. -/
def bitsetFormatParseSpec : ChangeSpec := { name := "bitsetFormatParse", fn := fun _ => fun
  | [d] => { results := [.lit (.bool true)], args := [d] }
  | _ => none }
def bitsetFormatParseRow : OpenClaim := { program := "ytgcmajgkcahbnaadoor", sum := "0756028771fbb537b63daa4b378b8241874d6efa3cc13f64aa5f90b92df38d2a", func := "palmette/palmettelaw01.BitsetFormatParse", spec := "bitsetFormatParse", inPlace := ["internal/abi.NoEscape", "internal/bytealg.MakeNoZero", "internal/bytealg.IndexByteString", "internal/bytealg.IndexString"], unfollowed := true, recurses := true, named := ["math/bits.deBruijn64tab", "internal/strconv.uint64pow10", "math/bits.deBruijn32tab", "unicode/utf8.first", "unicode/utf8.acceptRanges", "strconv.ErrSyntax", "strconv.ErrRange", "internal/bytealg.MaxLen"], plainKeys := false, apart := false, laid := [("math/bits.deBruijn32tab", laid_math_bits_deBruijn32tab), ("math/bits.deBruijn64tab", laid_math_bits_deBruijn64tab), ("internal/strconv.uint64pow10", laid_internal_strconv_uint64pow10), ("unicode/utf8.acceptRanges", laid_unicode_utf8_acceptRanges), ("strconv.ErrRange", laid_strconv_ErrRange), ("strconv.ErrSyntax", laid_strconv_ErrSyntax), ("unicode/utf8.first", laid_unicode_utf8_first)] }
def BitsetFormatParseSaid : Prop := bitsetFormatParseRow.holds Tryd.pinned (OpenSpec.ofChange bitsetFormatParseSpec)

/-- ITS FALSE NEIGHBOUR: 'it returns false'. Refute it at one input. -/
def bitsetFormatParseWrong : ChangeSpec := { name := "bitsetFormatParse", fn := fun _ => fun
  | [d] => { results := [.lit (.bool false)], args := [d] }
  | _ => none }
def BitsetFormatParseWrongFalsely : Prop := bitsetFormatParseRow.holds Tryd.pinned (OpenSpec.ofChange bitsetFormatParseWrong)

/-- 'palmettelaw01.BitsetParse': WHATEVER THE INPUT: true; the input reads as it did. -/
def bitsetParseSpec : ChangeSpec := { name := "bitsetParse", fn := fun _ => fun
  | [d] => { results := [.lit (.bool true)], args := [d] }
  | _ => none }
def bitsetParseRow : OpenClaim := { program := "ytgcmajgkcahbnaadoor", sum := "0756028771fbb537b63daa4b378b8241874d6efa3cc13f64aa5f90b92df38d2a", func := "palmette/palmettelaw01.BitsetParse", spec := "bitsetParse", inPlace := ["internal/bytealg.IndexByteString", "internal/bytealg.IndexString", "internal/abi.NoEscape", "internal/bytealg.MakeNoZero"], unfollowed := true, recurses := true, named := ["unicode/utf8.first", "unicode/utf8.acceptRanges", "strconv.ErrSyntax", "strconv.ErrRange", "internal/strconv.uint64pow10", "math/bits.deBruijn32tab", "math/bits.deBruijn64tab", "internal/bytealg.MaxLen"], plainKeys := false, apart := false, laid := [("math/bits.deBruijn32tab", laid_math_bits_deBruijn32tab), ("math/bits.deBruijn64tab", laid_math_bits_deBruijn64tab), ("internal/strconv.uint64pow10", laid_internal_strconv_uint64pow10), ("unicode/utf8.acceptRanges", laid_unicode_utf8_acceptRanges), ("strconv.ErrRange", laid_strconv_ErrRange), ("strconv.ErrSyntax", laid_strconv_ErrSyntax), ("unicode/utf8.first", laid_unicode_utf8_first)] }
def BitsetParseSaid : Prop := bitsetParseRow.holds Tryd.pinned (OpenSpec.ofChange bitsetParseSpec)

/-- ITS FALSE NEIGHBOUR: 'it returns false'. Refute it at one input. -/
def bitsetParseWrong : ChangeSpec := { name := "bitsetParse", fn := fun _ => fun
  | [d] => { results := [.lit (.bool false)], args := [d] }
  | _ => none }
def BitsetParseWrongFalsely : Prop := bitsetParseRow.holds Tryd.pinned (OpenSpec.ofChange bitsetParseWrong)

/- THE SECOND FORM. 'bulk': how many values and letters a reading holds, each counted each time it is reached (what is shared counts as often as it is met; a slice's spare places count too). A statement '..UptoSaid' is the law's where the arguments, and the package variables that the reading takes, are together of bulk at most 1048576: NARROWER than '..Said'. Prove '..Said' where nothing that the law and all that it calls make is longer than what came in: it says more and counts as full. Else prove '..UptoSaid'. A law counts once. -/
mutual
def uptoBulk {H : Type} : DataW H → Nat
  | .lit (.string bytes) => bytes.length + 1
  | .lit _ => 1
  | .nil => 1
  | .ptr d => uptoBulk d + 1
  | .slice elems spare => uptoBulkAll elems + uptoBulkAll spare + 1
  | .agg parts => uptoBulkAll parts + 1
  | .iface _ d => uptoBulk d + 1
  | .map entries => uptoBulkEntries entries + 1
  | .held _ => 1
def uptoBulkAll {H : Type} : List (DataW H) → Nat
  | [] => 0
  | d :: r => uptoBulk d + uptoBulkAll r
def uptoBulkEntries {H : Type} : List (Lit × DataW H) → Nat
  | [] => 0
  | x :: r => uptoBulkEntry x + uptoBulkEntries r
def uptoBulkEntry {H : Type} : Lit × DataW H → Nat
  | (.string bytes, d) => bytes.length + uptoBulk d + 1
  | (_, d) => uptoBulk d + 1
 end
def uptoSmall : (H : Type) → List (DataW H) → Bool := fun _ ds => decide (uptoBulkAll ds ≤ 1048576)
def OpenSpec.upto (s : _root_.Go.ChangeSpec) : _root_.Go.OpenSpec := { _root_.Go.OpenSpec.ofChange s with cond := some uptoSmall }

/-- 'palmettelaw01.BitsetNextSubset', WHERE WHAT IT READS IS OF BULK AT MOST 1048576: true; the input reads as it did. -/
def bitsetNextSubsetUptoRow : OpenClaim := { program := "ytgcmajgkcahbnaadoor", sum := "0756028771fbb537b63daa4b378b8241874d6efa3cc13f64aa5f90b92df38d2a", func := "palmette/palmettelaw01.BitsetNextSubset", spec := "bitsetNextSubset", inPlace := ["internal/abi.NoEscape", "internal/bytealg.MakeNoZero"], unfollowed := true, recurses := true, named := ["math/bits.deBruijn64tab", "internal/strconv.uint64pow10", "math/bits.deBruijn32tab"], plainKeys := false, apart := false, laid := [("math/bits.deBruijn32tab", laid_math_bits_deBruijn32tab), ("math/bits.deBruijn64tab", laid_math_bits_deBruijn64tab), ("internal/strconv.uint64pow10", laid_internal_strconv_uint64pow10)], narrowed := true }
def BitsetNextSubsetUptoSaid : Prop := bitsetNextSubsetUptoRow.holds Tryd.pinned (OpenSpec.upto bitsetNextSubsetSpec)

/-- 'palmettelaw01.BitsetElements', WHERE WHAT IT READS IS OF BULK AT MOST 1048576: true; the input reads as it did. -/
def bitsetElementsUptoRow : OpenClaim := { program := "ytgcmajgkcahbnaadoor", sum := "0756028771fbb537b63daa4b378b8241874d6efa3cc13f64aa5f90b92df38d2a", func := "palmette/palmettelaw01.BitsetElements", spec := "bitsetElements", inPlace := ["internal/abi.NoEscape", "internal/bytealg.MakeNoZero"], unfollowed := true, recurses := true, named := ["math/bits.deBruijn64tab", "internal/strconv.uint64pow10", "math/bits.deBruijn32tab"], plainKeys := false, apart := false, laid := [("math/bits.deBruijn32tab", laid_math_bits_deBruijn32tab), ("math/bits.deBruijn64tab", laid_math_bits_deBruijn64tab), ("internal/strconv.uint64pow10", laid_internal_strconv_uint64pow10)], narrowed := true }
def BitsetElementsUptoSaid : Prop := bitsetElementsUptoRow.holds Tryd.pinned (OpenSpec.upto bitsetElementsSpec)

/-- 'palmettelaw01.BitsetSubsets', WHERE WHAT IT READS IS OF BULK AT MOST 1048576: true; the input reads as it did. -/
def bitsetSubsetsUptoRow : OpenClaim := { program := "ytgcmajgkcahbnaadoor", sum := "0756028771fbb537b63daa4b378b8241874d6efa3cc13f64aa5f90b92df38d2a", func := "palmette/palmettelaw01.BitsetSubsets", spec := "bitsetSubsets", inPlace := ["internal/abi.NoEscape", "internal/bytealg.MakeNoZero"], unfollowed := true, recurses := true, named := ["math/bits.deBruijn64tab", "internal/strconv.uint64pow10", "math/bits.deBruijn32tab"], plainKeys := false, apart := false, laid := [("math/bits.deBruijn32tab", laid_math_bits_deBruijn32tab), ("math/bits.deBruijn64tab", laid_math_bits_deBruijn64tab), ("internal/strconv.uint64pow10", laid_internal_strconv_uint64pow10)], narrowed := true }
def BitsetSubsetsUptoSaid : Prop := bitsetSubsetsUptoRow.holds Tryd.pinned (OpenSpec.upto bitsetSubsetsSpec)

/-- 'palmettelaw01.BitsetOperations', WHERE WHAT IT READS IS OF BULK AT MOST 1048576: true; the input reads as it did. -/
def bitsetOperationsUptoRow : OpenClaim := { program := "ytgcmajgkcahbnaadoor", sum := "0756028771fbb537b63daa4b378b8241874d6efa3cc13f64aa5f90b92df38d2a", func := "palmette/palmettelaw01.BitsetOperations", spec := "bitsetOperations", inPlace := ["internal/abi.NoEscape", "internal/bytealg.MakeNoZero"], unfollowed := true, recurses := true, named := ["math/bits.deBruijn64tab", "internal/strconv.uint64pow10", "math/bits.deBruijn32tab"], plainKeys := false, apart := false, laid := [("math/bits.deBruijn32tab", laid_math_bits_deBruijn32tab), ("math/bits.deBruijn64tab", laid_math_bits_deBruijn64tab), ("internal/strconv.uint64pow10", laid_internal_strconv_uint64pow10)], narrowed := true }
def BitsetOperationsUptoSaid : Prop := bitsetOperationsUptoRow.holds Tryd.pinned (OpenSpec.upto bitsetOperationsSpec)

/-- 'palmettelaw01.BitsetTotalOrder', WHERE WHAT IT READS IS OF BULK AT MOST 1048576: true; the input reads as it did. -/
def bitsetTotalOrderUptoRow : OpenClaim := { program := "ytgcmajgkcahbnaadoor", sum := "0756028771fbb537b63daa4b378b8241874d6efa3cc13f64aa5f90b92df38d2a", func := "palmette/palmettelaw01.BitsetTotalOrder", spec := "bitsetTotalOrder", inPlace := ["internal/abi.NoEscape", "internal/bytealg.MakeNoZero"], unfollowed := true, recurses := true, named := ["math/bits.deBruijn64tab", "internal/strconv.uint64pow10", "math/bits.deBruijn32tab"], plainKeys := false, apart := false, laid := [("math/bits.deBruijn32tab", laid_math_bits_deBruijn32tab), ("math/bits.deBruijn64tab", laid_math_bits_deBruijn64tab), ("internal/strconv.uint64pow10", laid_internal_strconv_uint64pow10)], narrowed := true }
def BitsetTotalOrderUptoSaid : Prop := bitsetTotalOrderUptoRow.holds Tryd.pinned (OpenSpec.upto bitsetTotalOrderSpec)

/-- 'palmettelaw01.BitsetCompare', WHERE WHAT IT READS IS OF BULK AT MOST 1048576: true; the input reads as it did. -/
def bitsetCompareUptoRow : OpenClaim := { program := "ytgcmajgkcahbnaadoor", sum := "0756028771fbb537b63daa4b378b8241874d6efa3cc13f64aa5f90b92df38d2a", func := "palmette/palmettelaw01.BitsetCompare", spec := "bitsetCompare", inPlace := ["internal/abi.NoEscape", "internal/bytealg.MakeNoZero"], unfollowed := true, recurses := true, named := ["math/bits.deBruijn64tab", "internal/strconv.uint64pow10", "math/bits.deBruijn32tab"], plainKeys := false, apart := false, laid := [("math/bits.deBruijn32tab", laid_math_bits_deBruijn32tab), ("math/bits.deBruijn64tab", laid_math_bits_deBruijn64tab), ("internal/strconv.uint64pow10", laid_internal_strconv_uint64pow10)], narrowed := true }
def BitsetCompareUptoSaid : Prop := bitsetCompareUptoRow.holds Tryd.pinned (OpenSpec.upto bitsetCompareSpec)

/-- 'palmettelaw01.BitsetAlgebra', WHERE WHAT IT READS IS OF BULK AT MOST 1048576: true; the input reads as it did. -/
def bitsetAlgebraUptoRow : OpenClaim := { program := "ytgcmajgkcahbnaadoor", sum := "0756028771fbb537b63daa4b378b8241874d6efa3cc13f64aa5f90b92df38d2a", func := "palmette/palmettelaw01.BitsetAlgebra", spec := "bitsetAlgebra", inPlace := ["internal/abi.NoEscape", "internal/bytealg.MakeNoZero"], unfollowed := true, recurses := true, named := ["math/bits.deBruijn64tab", "internal/strconv.uint64pow10", "math/bits.deBruijn32tab"], plainKeys := false, apart := false, laid := [("math/bits.deBruijn32tab", laid_math_bits_deBruijn32tab), ("math/bits.deBruijn64tab", laid_math_bits_deBruijn64tab), ("internal/strconv.uint64pow10", laid_internal_strconv_uint64pow10)], narrowed := true }
def BitsetAlgebraUptoSaid : Prop := bitsetAlgebraUptoRow.holds Tryd.pinned (OpenSpec.upto bitsetAlgebraSpec)

/-- 'palmettelaw01.BitsetConstructors', WHERE WHAT IT READS IS OF BULK AT MOST 1048576: true; the input reads as it did. -/
def bitsetConstructorsUptoRow : OpenClaim := { program := "ytgcmajgkcahbnaadoor", sum := "0756028771fbb537b63daa4b378b8241874d6efa3cc13f64aa5f90b92df38d2a", func := "palmette/palmettelaw01.BitsetConstructors", spec := "bitsetConstructors", inPlace := ["internal/abi.NoEscape", "internal/bytealg.MakeNoZero"], unfollowed := true, recurses := true, named := ["math/bits.deBruijn64tab", "internal/strconv.uint64pow10", "math/bits.deBruijn32tab"], plainKeys := false, apart := false, laid := [("math/bits.deBruijn32tab", laid_math_bits_deBruijn32tab), ("math/bits.deBruijn64tab", laid_math_bits_deBruijn64tab), ("internal/strconv.uint64pow10", laid_internal_strconv_uint64pow10)], narrowed := true }
def BitsetConstructorsUptoSaid : Prop := bitsetConstructorsUptoRow.holds Tryd.pinned (OpenSpec.upto bitsetConstructorsSpec)

/-- 'palmettelaw01.BitsetFormatParse', WHERE WHAT IT READS IS OF BULK AT MOST 1048576: true; the input reads as it did. -/
def bitsetFormatParseUptoRow : OpenClaim := { program := "ytgcmajgkcahbnaadoor", sum := "0756028771fbb537b63daa4b378b8241874d6efa3cc13f64aa5f90b92df38d2a", func := "palmette/palmettelaw01.BitsetFormatParse", spec := "bitsetFormatParse", inPlace := ["internal/abi.NoEscape", "internal/bytealg.MakeNoZero", "internal/bytealg.IndexByteString", "internal/bytealg.IndexString"], unfollowed := true, recurses := true, named := ["math/bits.deBruijn64tab", "internal/strconv.uint64pow10", "math/bits.deBruijn32tab", "unicode/utf8.first", "unicode/utf8.acceptRanges", "strconv.ErrSyntax", "strconv.ErrRange", "internal/bytealg.MaxLen"], plainKeys := false, apart := false, laid := [("math/bits.deBruijn32tab", laid_math_bits_deBruijn32tab), ("math/bits.deBruijn64tab", laid_math_bits_deBruijn64tab), ("internal/strconv.uint64pow10", laid_internal_strconv_uint64pow10), ("unicode/utf8.acceptRanges", laid_unicode_utf8_acceptRanges), ("strconv.ErrRange", laid_strconv_ErrRange), ("strconv.ErrSyntax", laid_strconv_ErrSyntax), ("unicode/utf8.first", laid_unicode_utf8_first)], narrowed := true }
def BitsetFormatParseUptoSaid : Prop := bitsetFormatParseUptoRow.holds Tryd.pinned (OpenSpec.upto bitsetFormatParseSpec)

/-- 'palmettelaw01.BitsetParse', WHERE WHAT IT READS IS OF BULK AT MOST 1048576: true; the input reads as it did. -/
def bitsetParseUptoRow : OpenClaim := { program := "ytgcmajgkcahbnaadoor", sum := "0756028771fbb537b63daa4b378b8241874d6efa3cc13f64aa5f90b92df38d2a", func := "palmette/palmettelaw01.BitsetParse", spec := "bitsetParse", inPlace := ["internal/bytealg.IndexByteString", "internal/bytealg.IndexString", "internal/abi.NoEscape", "internal/bytealg.MakeNoZero"], unfollowed := true, recurses := true, named := ["unicode/utf8.first", "unicode/utf8.acceptRanges", "strconv.ErrSyntax", "strconv.ErrRange", "internal/strconv.uint64pow10", "math/bits.deBruijn32tab", "math/bits.deBruijn64tab", "internal/bytealg.MaxLen"], plainKeys := false, apart := false, laid := [("math/bits.deBruijn32tab", laid_math_bits_deBruijn32tab), ("math/bits.deBruijn64tab", laid_math_bits_deBruijn64tab), ("internal/strconv.uint64pow10", laid_internal_strconv_uint64pow10), ("unicode/utf8.acceptRanges", laid_unicode_utf8_acceptRanges), ("strconv.ErrRange", laid_strconv_ErrRange), ("strconv.ErrSyntax", laid_strconv_ErrSyntax), ("unicode/utf8.first", laid_unicode_utf8_first)], narrowed := true }
def BitsetParseUptoSaid : Prop := bitsetParseUptoRow.holds Tryd.pinned (OpenSpec.upto bitsetParseSpec)

end Rows
end Go.Proofs.YtgcmajgkcahbnaaDoor
