/-
  NARROWER THAN 'FOR EVERY INPUT', by the rows' own cells (each row's printed sentence says how): AddressEscapes: laid · AddressParses: laid · AddressReads: laid · AddressAgain: laid · AddressPlain: laid · AddressHosts: laid · AddressPrints: laid · AddressRound: laid · AddressEquals: laid · AddressKnown: laid · AddressWrites: laid · AddressBack: laid · AddressLists: laid.
  DERIVED. THE GIVEN ROWS OF THIS SEAT. 13 by the template 'for every input the law returns true; each argument reads behind the call as it read before'; 0 by the template 'total and deterministic' (their statements: YthfonniieaiocaaGreatDoorTotals.lean).
  GIVEN WITH THE SEED: the statements are not yours to turn. If you find one false, say at which input.
  Laid BY PROGRAM, IN A SANDBOX (cutbox-rows.mjs): the forced cells as the released guide's own fill.sh prints them over the translation 14e6b22745182d51… (all of the seat's roots in one cut). By AI agents, Wed Nov 11 2026. No macro, syntax, notation, axiom, sorry.
-/
import Derived.Test.YthfonniieaiocaaGreatDoorChecked
import GoSem.PinnedTables
import GoSem.Claim
import GoSem.ClaimJoined
import GoSem.ClaimMapViews
import Derived.JoinedTies
import Derived.KernelRfl
namespace Go.Proofs.YthfonniieaiocaaGreatDoor
/- THE CELL 'sum', in the pinned program and in every row, IS THE sha256 OF THE DUMP (.gsa) THAT YthfonniieaiocaaGreatDoorProg.lean LOADS. Nothing in Lean hashes anything: it is a label: what it is worth is what the hold of that sum in a sandbox is worth. -/
noncomputable def Tryz.pinned : Pinned := { name := "ythfonniieaiocaagreatdoor", sum := "14e6b22745182d5181f73bdfc9fbe171bcedad8c7feb2d0929892bda6d76d550", checked := Tryz.checked }
namespace Rows
def none {H : Type} : Left H := { results := [], args := [] }

/- WHAT THE LISTED PACKAGE-LEVEL VARIABLES READ AS WHEN THE CALL BEGINS. Each datum BY PROGRAM (the guide's laid-datum.mjs) off the statement by which the dump's own 'gosem.cut.vars' lays the variable. In a bare row this is a premise. The card (YthfonniieaiocaaGreatDoorCards.lean) ties it to the program's text. -/
def laid_math_bits_deBruijn32tab {H : Type} : DataW H := .agg [.lit (.int .u8 0), .lit (.int .u8 1), .lit (.int .u8 28), .lit (.int .u8 2), .lit (.int .u8 29), .lit (.int .u8 14), .lit (.int .u8 24), .lit (.int .u8 3), .lit (.int .u8 30), .lit (.int .u8 22), .lit (.int .u8 20), .lit (.int .u8 15), .lit (.int .u8 25), .lit (.int .u8 17), .lit (.int .u8 4), .lit (.int .u8 8), .lit (.int .u8 31), .lit (.int .u8 27), .lit (.int .u8 13), .lit (.int .u8 23), .lit (.int .u8 21), .lit (.int .u8 19), .lit (.int .u8 16), .lit (.int .u8 7), .lit (.int .u8 26), .lit (.int .u8 12), .lit (.int .u8 18), .lit (.int .u8 6), .lit (.int .u8 11), .lit (.int .u8 5), .lit (.int .u8 10), .lit (.int .u8 9)]
def laid_math_bits_deBruijn64tab {H : Type} : DataW H := .agg [.lit (.int .u8 0), .lit (.int .u8 1), .lit (.int .u8 56), .lit (.int .u8 2), .lit (.int .u8 57), .lit (.int .u8 49), .lit (.int .u8 28), .lit (.int .u8 3), .lit (.int .u8 61), .lit (.int .u8 58), .lit (.int .u8 42), .lit (.int .u8 50), .lit (.int .u8 38), .lit (.int .u8 29), .lit (.int .u8 17), .lit (.int .u8 4), .lit (.int .u8 62), .lit (.int .u8 47), .lit (.int .u8 59), .lit (.int .u8 36), .lit (.int .u8 45), .lit (.int .u8 43), .lit (.int .u8 51), .lit (.int .u8 22), .lit (.int .u8 53), .lit (.int .u8 39), .lit (.int .u8 33), .lit (.int .u8 30), .lit (.int .u8 24), .lit (.int .u8 18), .lit (.int .u8 12), .lit (.int .u8 5), .lit (.int .u8 63), .lit (.int .u8 55), .lit (.int .u8 48), .lit (.int .u8 27), .lit (.int .u8 60), .lit (.int .u8 41), .lit (.int .u8 37), .lit (.int .u8 16), .lit (.int .u8 46), .lit (.int .u8 35), .lit (.int .u8 44), .lit (.int .u8 21), .lit (.int .u8 52), .lit (.int .u8 32), .lit (.int .u8 23), .lit (.int .u8 11), .lit (.int .u8 54), .lit (.int .u8 26), .lit (.int .u8 40), .lit (.int .u8 15), .lit (.int .u8 34), .lit (.int .u8 20), .lit (.int .u8 31), .lit (.int .u8 10), .lit (.int .u8 25), .lit (.int .u8 14), .lit (.int .u8 19), .lit (.int .u8 9), .lit (.int .u8 13), .lit (.int .u8 8), .lit (.int .u8 7), .lit (.int .u8 6)]
def laid_internal_strconv_uint64pow10 {H : Type} : DataW H := .agg [.lit (.int .u64 1), .lit (.int .u64 10), .lit (.int .u64 100), .lit (.int .u64 1000), .lit (.int .u64 10000), .lit (.int .u64 100000), .lit (.int .u64 1000000), .lit (.int .u64 10000000), .lit (.int .u64 100000000), .lit (.int .u64 1000000000), .lit (.int .u64 10000000000), .lit (.int .u64 100000000000), .lit (.int .u64 1000000000000), .lit (.int .u64 10000000000000), .lit (.int .u64 100000000000000), .lit (.int .u64 1000000000000000), .lit (.int .u64 10000000000000000), .lit (.int .u64 100000000000000000), .lit (.int .u64 1000000000000000000), .lit (.int .u64 10000000000000000000)]
def laid_unicode_utf8_acceptRanges {H : Type} : DataW H := .agg [.agg [.lit (.int .u8 128), .lit (.int .u8 191)], .agg [.lit (.int .u8 160), .lit (.int .u8 191)], .agg [.lit (.int .u8 128), .lit (.int .u8 159)], .agg [.lit (.int .u8 144), .lit (.int .u8 191)], .agg [.lit (.int .u8 128), .lit (.int .u8 143)], .agg [.lit (.int .u8 0), .lit (.int .u8 0)], .agg [.lit (.int .u8 0), .lit (.int .u8 0)], .agg [.lit (.int .u8 0), .lit (.int .u8 0)], .agg [.lit (.int .u8 0), .lit (.int .u8 0)], .agg [.lit (.int .u8 0), .lit (.int .u8 0)], .agg [.lit (.int .u8 0), .lit (.int .u8 0)], .agg [.lit (.int .u8 0), .lit (.int .u8 0)], .agg [.lit (.int .u8 0), .lit (.int .u8 0)], .agg [.lit (.int .u8 0), .lit (.int .u8 0)], .agg [.lit (.int .u8 0), .lit (.int .u8 0)], .agg [.lit (.int .u8 0), .lit (.int .u8 0)]]
def laid_dialtone_address_classes {H : Type} : DataW H := .agg [.lit (.string [38, 61, 43, 36, 44, 59, 63, 47]), .lit (.string [91, 93, 47, 58, 38, 43, 36]), .lit (.string [91, 93, 47, 63, 58, 43, 36])]
/-- One of Go's own tables, pinned by name: the form's constant. -/
def laid_unicode_utf8_first : DataW Unit := Go.Pinned.utf8First

/-- 'dialtonelaw02.AddressEscapes': WHATEVER THE INPUT: true; the input reads as it did. -/
def addressEscapesSpec : ChangeSpec := { name := "addressEscapes", fn := fun _ => fun
  | [d1, d2] => { results := [.lit (.bool true)], args := [d1, d2] }
  | _ => none }
def addressEscapesRow : OpenClaim := { program := "ythfonniieaiocaagreatdoor", sum := "14e6b22745182d5181f73bdfc9fbe171bcedad8c7feb2d0929892bda6d76d550", func := "dialtone/dialtonelaw02.AddressEscapes", spec := "addressEscapes", inPlace := ["internal/bytealg.IndexByteString", "internal/bytealg.IndexString", "internal/bytealg.CountString", "internal/abi.NoEscape", "internal/bytealg.MakeNoZero"], unfollowed := true, recurses := true, named := ["dialtone/address.classes", "internal/bytealg.MaxLen", "unicode/utf8.first", "unicode/utf8.acceptRanges", "internal/strconv.uint64pow10", "math/bits.deBruijn32tab", "math/bits.deBruijn64tab"], apart := false, laid := [("math/bits.deBruijn32tab", laid_math_bits_deBruijn32tab), ("math/bits.deBruijn64tab", laid_math_bits_deBruijn64tab), ("internal/strconv.uint64pow10", laid_internal_strconv_uint64pow10), ("unicode/utf8.acceptRanges", laid_unicode_utf8_acceptRanges), ("dialtone/address.classes", laid_dialtone_address_classes), ("unicode/utf8.first", laid_unicode_utf8_first)] }
def AddressEscapesSaid : Prop := addressEscapesRow.holds Tryz.pinned (OpenSpec.ofChange addressEscapesSpec)

/-- ITS FALSE NEIGHBOUR: 'it returns false'. Refute it at one input. -/
def addressEscapesWrong : ChangeSpec := { name := "addressEscapes", fn := fun _ => fun
  | [d1, d2] => { results := [.lit (.bool false)], args := [d1, d2] }
  | _ => none }
def AddressEscapesWrongFalsely : Prop := addressEscapesRow.holds Tryz.pinned (OpenSpec.ofChange addressEscapesWrong)

/-- 'dialtonelaw02.AddressParses': WHATEVER THE INPUT: true; the input reads as it did. -/
def addressParsesSpec : ChangeSpec := { name := "addressParses", fn := fun _ => fun
  | [d] => { results := [.lit (.bool true)], args := [d] }
  | _ => none }
def addressParsesRow : OpenClaim := { program := "ythfonniieaiocaagreatdoor", sum := "14e6b22745182d5181f73bdfc9fbe171bcedad8c7feb2d0929892bda6d76d550", func := "dialtone/dialtonelaw02.AddressParses", spec := "addressParses", inPlace := ["internal/bytealg.IndexByteString", "internal/bytealg.IndexString", "internal/bytealg.CountString", "internal/abi.NoEscape", "internal/bytealg.MakeNoZero"], unfollowed := true, recurses := true, named := ["dialtone/address.classes", "internal/bytealg.MaxLen", "unicode/utf8.first", "unicode/utf8.acceptRanges", "internal/strconv.uint64pow10", "math/bits.deBruijn32tab", "math/bits.deBruijn64tab"], apart := false, laid := [("math/bits.deBruijn32tab", laid_math_bits_deBruijn32tab), ("math/bits.deBruijn64tab", laid_math_bits_deBruijn64tab), ("internal/strconv.uint64pow10", laid_internal_strconv_uint64pow10), ("unicode/utf8.acceptRanges", laid_unicode_utf8_acceptRanges), ("dialtone/address.classes", laid_dialtone_address_classes), ("unicode/utf8.first", laid_unicode_utf8_first)] }
def AddressParsesSaid : Prop := addressParsesRow.holds Tryz.pinned (OpenSpec.ofChange addressParsesSpec)

/-- ITS FALSE NEIGHBOUR: 'it returns false'. Refute it at one input. -/
def addressParsesWrong : ChangeSpec := { name := "addressParses", fn := fun _ => fun
  | [d] => { results := [.lit (.bool false)], args := [d] }
  | _ => none }
def AddressParsesWrongFalsely : Prop := addressParsesRow.holds Tryz.pinned (OpenSpec.ofChange addressParsesWrong)

/-- 'dialtonelaw02.AddressReads': WHATEVER THE INPUT: true; the input reads as it did. -/
def addressReadsSpec : ChangeSpec := { name := "addressReads", fn := fun _ => fun
  | [d] => { results := [.lit (.bool true)], args := [d] }
  | _ => none }
def addressReadsRow : OpenClaim := { program := "ythfonniieaiocaagreatdoor", sum := "14e6b22745182d5181f73bdfc9fbe171bcedad8c7feb2d0929892bda6d76d550", func := "dialtone/dialtonelaw02.AddressReads", spec := "addressReads", inPlace := ["internal/bytealg.IndexByteString", "internal/bytealg.IndexString", "internal/abi.NoEscape", "internal/bytealg.MakeNoZero", "internal/bytealg.CountString"], unfollowed := true, recurses := true, named := ["internal/bytealg.MaxLen", "dialtone/address.classes", "unicode/utf8.first", "unicode/utf8.acceptRanges", "internal/strconv.uint64pow10", "math/bits.deBruijn32tab", "math/bits.deBruijn64tab"], apart := false, laid := [("math/bits.deBruijn32tab", laid_math_bits_deBruijn32tab), ("math/bits.deBruijn64tab", laid_math_bits_deBruijn64tab), ("internal/strconv.uint64pow10", laid_internal_strconv_uint64pow10), ("unicode/utf8.acceptRanges", laid_unicode_utf8_acceptRanges), ("dialtone/address.classes", laid_dialtone_address_classes), ("unicode/utf8.first", laid_unicode_utf8_first)] }
def AddressReadsSaid : Prop := addressReadsRow.holds Tryz.pinned (OpenSpec.ofChange addressReadsSpec)

/-- ITS FALSE NEIGHBOUR: 'it returns false'. Refute it at one input. -/
def addressReadsWrong : ChangeSpec := { name := "addressReads", fn := fun _ => fun
  | [d] => { results := [.lit (.bool false)], args := [d] }
  | _ => none }
def AddressReadsWrongFalsely : Prop := addressReadsRow.holds Tryz.pinned (OpenSpec.ofChange addressReadsWrong)

/-- 'dialtonelaw02.AddressAgain': WHATEVER THE INPUT: true; the input reads as it did. -/
def addressAgainSpec : ChangeSpec := { name := "addressAgain", fn := fun _ => fun
  | [d] => { results := [.lit (.bool true)], args := [d] }
  | _ => none }
def addressAgainRow : OpenClaim := { program := "ythfonniieaiocaagreatdoor", sum := "14e6b22745182d5181f73bdfc9fbe171bcedad8c7feb2d0929892bda6d76d550", func := "dialtone/dialtonelaw02.AddressAgain", spec := "addressAgain", inPlace := ["internal/bytealg.IndexByteString", "internal/bytealg.IndexString", "internal/bytealg.CountString", "internal/abi.NoEscape", "internal/bytealg.MakeNoZero"], unfollowed := true, recurses := true, named := ["dialtone/address.classes", "internal/bytealg.MaxLen", "unicode/utf8.first", "unicode/utf8.acceptRanges", "internal/strconv.uint64pow10", "math/bits.deBruijn32tab", "math/bits.deBruijn64tab"], apart := false, laid := [("math/bits.deBruijn32tab", laid_math_bits_deBruijn32tab), ("math/bits.deBruijn64tab", laid_math_bits_deBruijn64tab), ("internal/strconv.uint64pow10", laid_internal_strconv_uint64pow10), ("unicode/utf8.acceptRanges", laid_unicode_utf8_acceptRanges), ("dialtone/address.classes", laid_dialtone_address_classes), ("unicode/utf8.first", laid_unicode_utf8_first)] }
def AddressAgainSaid : Prop := addressAgainRow.holds Tryz.pinned (OpenSpec.ofChange addressAgainSpec)

/-- ITS FALSE NEIGHBOUR: 'it returns false'. Refute it at one input. -/
def addressAgainWrong : ChangeSpec := { name := "addressAgain", fn := fun _ => fun
  | [d] => { results := [.lit (.bool false)], args := [d] }
  | _ => none }
def AddressAgainWrongFalsely : Prop := addressAgainRow.holds Tryz.pinned (OpenSpec.ofChange addressAgainWrong)

/-- 'dialtonelaw02.AddressPlain': WHATEVER THE INPUT: true; the input reads as it did. -/
def addressPlainSpec : ChangeSpec := { name := "addressPlain", fn := fun _ => fun
  | [d1, d2] => { results := [.lit (.bool true)], args := [d1, d2] }
  | _ => none }
def addressPlainRow : OpenClaim := { program := "ythfonniieaiocaagreatdoor", sum := "14e6b22745182d5181f73bdfc9fbe171bcedad8c7feb2d0929892bda6d76d550", func := "dialtone/dialtonelaw02.AddressPlain", spec := "addressPlain", inPlace := ["internal/bytealg.IndexByteString", "internal/bytealg.IndexString", "internal/bytealg.CountString", "internal/abi.NoEscape", "internal/bytealg.MakeNoZero"], unfollowed := true, recurses := true, named := ["dialtone/address.classes", "internal/bytealg.MaxLen", "unicode/utf8.first", "unicode/utf8.acceptRanges", "internal/strconv.uint64pow10", "math/bits.deBruijn32tab", "math/bits.deBruijn64tab"], apart := false, laid := [("math/bits.deBruijn32tab", laid_math_bits_deBruijn32tab), ("math/bits.deBruijn64tab", laid_math_bits_deBruijn64tab), ("internal/strconv.uint64pow10", laid_internal_strconv_uint64pow10), ("unicode/utf8.acceptRanges", laid_unicode_utf8_acceptRanges), ("dialtone/address.classes", laid_dialtone_address_classes), ("unicode/utf8.first", laid_unicode_utf8_first)] }
def AddressPlainSaid : Prop := addressPlainRow.holds Tryz.pinned (OpenSpec.ofChange addressPlainSpec)

/-- ITS FALSE NEIGHBOUR: 'it returns false'. Refute it at one input. -/
def addressPlainWrong : ChangeSpec := { name := "addressPlain", fn := fun _ => fun
  | [d1, d2] => { results := [.lit (.bool false)], args := [d1, d2] }
  | _ => none }
def AddressPlainWrongFalsely : Prop := addressPlainRow.holds Tryz.pinned (OpenSpec.ofChange addressPlainWrong)

/-- 'dialtonelaw02.AddressHosts': WHATEVER THE INPUT: true; the input reads as it did. -/
def addressHostsSpec : ChangeSpec := { name := "addressHosts", fn := fun _ => fun
  | [d1, d2, d3, d4] => { results := [.lit (.bool true)], args := [d1, d2, d3, d4] }
  | _ => none }
def addressHostsRow : OpenClaim := { program := "ythfonniieaiocaagreatdoor", sum := "14e6b22745182d5181f73bdfc9fbe171bcedad8c7feb2d0929892bda6d76d550", func := "dialtone/dialtonelaw02.AddressHosts", spec := "addressHosts", inPlace := ["internal/bytealg.IndexByteString", "internal/bytealg.IndexString", "internal/bytealg.CountString", "internal/abi.NoEscape", "internal/bytealg.MakeNoZero"], unfollowed := true, recurses := true, named := ["internal/bytealg.MaxLen", "unicode/utf8.first", "unicode/utf8.acceptRanges", "internal/strconv.uint64pow10", "math/bits.deBruijn32tab", "math/bits.deBruijn64tab", "dialtone/address.classes"], apart := false, laid := [("math/bits.deBruijn32tab", laid_math_bits_deBruijn32tab), ("math/bits.deBruijn64tab", laid_math_bits_deBruijn64tab), ("internal/strconv.uint64pow10", laid_internal_strconv_uint64pow10), ("unicode/utf8.acceptRanges", laid_unicode_utf8_acceptRanges), ("dialtone/address.classes", laid_dialtone_address_classes), ("unicode/utf8.first", laid_unicode_utf8_first)] }
def AddressHostsSaid : Prop := addressHostsRow.holds Tryz.pinned (OpenSpec.ofChange addressHostsSpec)

/-- ITS FALSE NEIGHBOUR: 'it returns false'. Refute it at one input. -/
def addressHostsWrong : ChangeSpec := { name := "addressHosts", fn := fun _ => fun
  | [d1, d2, d3, d4] => { results := [.lit (.bool false)], args := [d1, d2, d3, d4] }
  | _ => none }
def AddressHostsWrongFalsely : Prop := addressHostsRow.holds Tryz.pinned (OpenSpec.ofChange addressHostsWrong)

/-- 'dialtonelaw02.AddressPrints': WHATEVER THE INPUT: true; the input reads as it did. -/
def addressPrintsSpec : ChangeSpec := { name := "addressPrints", fn := fun _ => fun
  | [d1, d2] => { results := [.lit (.bool true)], args := [d1, d2] }
  | _ => none }
def addressPrintsRow : OpenClaim := { program := "ythfonniieaiocaagreatdoor", sum := "14e6b22745182d5181f73bdfc9fbe171bcedad8c7feb2d0929892bda6d76d550", func := "dialtone/dialtonelaw02.AddressPrints", spec := "addressPrints", inPlace := ["internal/bytealg.IndexByteString", "internal/bytealg.IndexString", "internal/bytealg.CountString", "internal/abi.NoEscape", "internal/bytealg.MakeNoZero"], unfollowed := true, recurses := true, named := ["dialtone/address.classes", "internal/bytealg.MaxLen", "unicode/utf8.first", "unicode/utf8.acceptRanges", "internal/strconv.uint64pow10", "math/bits.deBruijn32tab", "math/bits.deBruijn64tab"], apart := false, laid := [("math/bits.deBruijn32tab", laid_math_bits_deBruijn32tab), ("math/bits.deBruijn64tab", laid_math_bits_deBruijn64tab), ("internal/strconv.uint64pow10", laid_internal_strconv_uint64pow10), ("unicode/utf8.acceptRanges", laid_unicode_utf8_acceptRanges), ("dialtone/address.classes", laid_dialtone_address_classes), ("unicode/utf8.first", laid_unicode_utf8_first)] }
def AddressPrintsSaid : Prop := addressPrintsRow.holds Tryz.pinned (OpenSpec.ofChange addressPrintsSpec)

/-- ITS FALSE NEIGHBOUR: 'it returns false'. Refute it at one input. -/
def addressPrintsWrong : ChangeSpec := { name := "addressPrints", fn := fun _ => fun
  | [d1, d2] => { results := [.lit (.bool false)], args := [d1, d2] }
  | _ => none }
def AddressPrintsWrongFalsely : Prop := addressPrintsRow.holds Tryz.pinned (OpenSpec.ofChange addressPrintsWrong)

/-- 'dialtonelaw02.AddressRound': WHATEVER THE INPUT: true; the input reads as it did. -/
def addressRoundSpec : ChangeSpec := { name := "addressRound", fn := fun _ => fun
  | [d] => { results := [.lit (.bool true)], args := [d] }
  | _ => none }
def addressRoundRow : OpenClaim := { program := "ythfonniieaiocaagreatdoor", sum := "14e6b22745182d5181f73bdfc9fbe171bcedad8c7feb2d0929892bda6d76d550", func := "dialtone/dialtonelaw02.AddressRound", spec := "addressRound", inPlace := ["internal/bytealg.IndexByteString", "internal/bytealg.IndexString", "internal/bytealg.CountString", "internal/abi.NoEscape", "internal/bytealg.MakeNoZero"], unfollowed := true, recurses := true, named := ["dialtone/address.classes", "internal/bytealg.MaxLen", "unicode/utf8.first", "unicode/utf8.acceptRanges", "internal/strconv.uint64pow10", "math/bits.deBruijn32tab", "math/bits.deBruijn64tab"], apart := false, laid := [("math/bits.deBruijn32tab", laid_math_bits_deBruijn32tab), ("math/bits.deBruijn64tab", laid_math_bits_deBruijn64tab), ("internal/strconv.uint64pow10", laid_internal_strconv_uint64pow10), ("unicode/utf8.acceptRanges", laid_unicode_utf8_acceptRanges), ("dialtone/address.classes", laid_dialtone_address_classes), ("unicode/utf8.first", laid_unicode_utf8_first)] }
def AddressRoundSaid : Prop := addressRoundRow.holds Tryz.pinned (OpenSpec.ofChange addressRoundSpec)

/-- ITS FALSE NEIGHBOUR: 'it returns false'. Refute it at one input. -/
def addressRoundWrong : ChangeSpec := { name := "addressRound", fn := fun _ => fun
  | [d] => { results := [.lit (.bool false)], args := [d] }
  | _ => none }
def AddressRoundWrongFalsely : Prop := addressRoundRow.holds Tryz.pinned (OpenSpec.ofChange addressRoundWrong)

/-- 'dialtonelaw02.AddressEquals': WHATEVER THE INPUT: true; the input reads as it did. -/
def addressEqualsSpec : ChangeSpec := { name := "addressEquals", fn := fun _ => fun
  | [d1, d2, d3] => { results := [.lit (.bool true)], args := [d1, d2, d3] }
  | _ => none }
def addressEqualsRow : OpenClaim := { program := "ythfonniieaiocaagreatdoor", sum := "14e6b22745182d5181f73bdfc9fbe171bcedad8c7feb2d0929892bda6d76d550", func := "dialtone/dialtonelaw02.AddressEquals", spec := "addressEquals", inPlace := ["internal/bytealg.IndexByteString", "internal/bytealg.IndexString", "internal/bytealg.CountString", "internal/abi.NoEscape", "internal/bytealg.MakeNoZero"], unfollowed := true, recurses := true, named := ["dialtone/address.classes", "internal/bytealg.MaxLen", "unicode/utf8.first", "unicode/utf8.acceptRanges", "internal/strconv.uint64pow10", "math/bits.deBruijn32tab", "math/bits.deBruijn64tab"], apart := false, laid := [("math/bits.deBruijn32tab", laid_math_bits_deBruijn32tab), ("math/bits.deBruijn64tab", laid_math_bits_deBruijn64tab), ("internal/strconv.uint64pow10", laid_internal_strconv_uint64pow10), ("unicode/utf8.acceptRanges", laid_unicode_utf8_acceptRanges), ("dialtone/address.classes", laid_dialtone_address_classes), ("unicode/utf8.first", laid_unicode_utf8_first)] }
def AddressEqualsSaid : Prop := addressEqualsRow.holds Tryz.pinned (OpenSpec.ofChange addressEqualsSpec)

/-- ITS FALSE NEIGHBOUR: 'it returns false'. Refute it at one input. -/
def addressEqualsWrong : ChangeSpec := { name := "addressEquals", fn := fun _ => fun
  | [d1, d2, d3] => { results := [.lit (.bool false)], args := [d1, d2, d3] }
  | _ => none }
def AddressEqualsWrongFalsely : Prop := addressEqualsRow.holds Tryz.pinned (OpenSpec.ofChange addressEqualsWrong)

/-- 'dialtonelaw02.AddressKnown': WHATEVER THE INPUT: true; the input reads as it did. -/
def addressKnownSpec : ChangeSpec := { name := "addressKnown", fn := fun _ => fun
  | [] => { results := [.lit (.bool true)], args := [] }
  | _ => none }
def addressKnownRow : OpenClaim := { program := "ythfonniieaiocaagreatdoor", sum := "14e6b22745182d5181f73bdfc9fbe171bcedad8c7feb2d0929892bda6d76d550", func := "dialtone/dialtonelaw02.AddressKnown", spec := "addressKnown", inPlace := ["internal/bytealg.IndexByteString", "internal/bytealg.IndexString", "internal/bytealg.CountString", "internal/abi.NoEscape", "internal/bytealg.MakeNoZero"], unfollowed := true, recurses := true, named := ["internal/bytealg.MaxLen", "unicode/utf8.first", "unicode/utf8.acceptRanges", "internal/strconv.uint64pow10", "math/bits.deBruijn32tab", "math/bits.deBruijn64tab", "dialtone/address.classes"], apart := false, laid := [("math/bits.deBruijn32tab", laid_math_bits_deBruijn32tab), ("math/bits.deBruijn64tab", laid_math_bits_deBruijn64tab), ("internal/strconv.uint64pow10", laid_internal_strconv_uint64pow10), ("unicode/utf8.acceptRanges", laid_unicode_utf8_acceptRanges), ("dialtone/address.classes", laid_dialtone_address_classes), ("unicode/utf8.first", laid_unicode_utf8_first)] }
def AddressKnownSaid : Prop := addressKnownRow.holds Tryz.pinned (OpenSpec.ofChange addressKnownSpec)

/-- ITS FALSE NEIGHBOUR: 'it returns false'. Refute it at one input. -/
def addressKnownWrong : ChangeSpec := { name := "addressKnown", fn := fun _ => fun
  | [] => { results := [.lit (.bool false)], args := [] }
  | _ => none }
def AddressKnownWrongFalsely : Prop := addressKnownRow.holds Tryz.pinned (OpenSpec.ofChange addressKnownWrong)

/-- 'dialtonelaw02.AddressWrites': WHATEVER THE INPUT: true; the input reads as it did. -/
def addressWritesSpec : ChangeSpec := { name := "addressWrites", fn := fun _ => fun
  | [d] => { results := [.lit (.bool true)], args := [d] }
  | _ => none }
def addressWritesRow : OpenClaim := { program := "ythfonniieaiocaagreatdoor", sum := "14e6b22745182d5181f73bdfc9fbe171bcedad8c7feb2d0929892bda6d76d550", func := "dialtone/dialtonelaw02.AddressWrites", spec := "addressWrites", inPlace := ["internal/bytealg.IndexByteString", "internal/bytealg.IndexString", "internal/bytealg.CountString", "internal/abi.NoEscape", "internal/bytealg.MakeNoZero"], unfollowed := true, recurses := true, named := ["dialtone/address.classes", "internal/bytealg.MaxLen", "unicode/utf8.first", "unicode/utf8.acceptRanges", "internal/strconv.uint64pow10", "math/bits.deBruijn32tab", "math/bits.deBruijn64tab"], apart := false, laid := [("math/bits.deBruijn32tab", laid_math_bits_deBruijn32tab), ("math/bits.deBruijn64tab", laid_math_bits_deBruijn64tab), ("internal/strconv.uint64pow10", laid_internal_strconv_uint64pow10), ("unicode/utf8.acceptRanges", laid_unicode_utf8_acceptRanges), ("dialtone/address.classes", laid_dialtone_address_classes), ("unicode/utf8.first", laid_unicode_utf8_first)] }
def AddressWritesSaid : Prop := addressWritesRow.holds Tryz.pinned (OpenSpec.ofChange addressWritesSpec)

/-- ITS FALSE NEIGHBOUR: 'it returns false'. Refute it at one input. -/
def addressWritesWrong : ChangeSpec := { name := "addressWrites", fn := fun _ => fun
  | [d] => { results := [.lit (.bool false)], args := [d] }
  | _ => none }
def AddressWritesWrongFalsely : Prop := addressWritesRow.holds Tryz.pinned (OpenSpec.ofChange addressWritesWrong)

/-- 'dialtonelaw02.AddressBack': WHATEVER THE INPUT: true; the input reads as it did. -/
def addressBackSpec : ChangeSpec := { name := "addressBack", fn := fun _ => fun
  | [d] => { results := [.lit (.bool true)], args := [d] }
  | _ => none }
def addressBackRow : OpenClaim := { program := "ythfonniieaiocaagreatdoor", sum := "14e6b22745182d5181f73bdfc9fbe171bcedad8c7feb2d0929892bda6d76d550", func := "dialtone/dialtonelaw02.AddressBack", spec := "addressBack", inPlace := ["internal/bytealg.IndexByteString", "internal/bytealg.IndexString", "internal/bytealg.CountString", "internal/abi.NoEscape", "internal/bytealg.MakeNoZero"], unfollowed := true, recurses := true, named := ["dialtone/address.classes", "internal/bytealg.MaxLen", "unicode/utf8.first", "unicode/utf8.acceptRanges", "internal/strconv.uint64pow10", "math/bits.deBruijn32tab", "math/bits.deBruijn64tab"], apart := false, laid := [("math/bits.deBruijn32tab", laid_math_bits_deBruijn32tab), ("math/bits.deBruijn64tab", laid_math_bits_deBruijn64tab), ("internal/strconv.uint64pow10", laid_internal_strconv_uint64pow10), ("unicode/utf8.acceptRanges", laid_unicode_utf8_acceptRanges), ("dialtone/address.classes", laid_dialtone_address_classes), ("unicode/utf8.first", laid_unicode_utf8_first)] }
def AddressBackSaid : Prop := addressBackRow.holds Tryz.pinned (OpenSpec.ofChange addressBackSpec)

/-- ITS FALSE NEIGHBOUR: 'it returns false'. Refute it at one input. -/
def addressBackWrong : ChangeSpec := { name := "addressBack", fn := fun _ => fun
  | [d] => { results := [.lit (.bool false)], args := [d] }
  | _ => none }
def AddressBackWrongFalsely : Prop := addressBackRow.holds Tryz.pinned (OpenSpec.ofChange addressBackWrong)

/-- 'dialtonelaw02.AddressLists': WHATEVER THE INPUT: true; the input reads as it did. -/
def addressListsSpec : ChangeSpec := { name := "addressLists", fn := fun _ => fun
  | [d1, d2, d3] => { results := [.lit (.bool true)], args := [d1, d2, d3] }
  | _ => none }
def addressListsRow : OpenClaim := { program := "ythfonniieaiocaagreatdoor", sum := "14e6b22745182d5181f73bdfc9fbe171bcedad8c7feb2d0929892bda6d76d550", func := "dialtone/dialtonelaw02.AddressLists", spec := "addressLists", inPlace := ["internal/bytealg.IndexByteString", "internal/bytealg.IndexString", "internal/bytealg.CountString", "internal/abi.NoEscape", "internal/bytealg.MakeNoZero"], unfollowed := true, recurses := true, named := ["dialtone/address.classes", "internal/bytealg.MaxLen", "unicode/utf8.first", "unicode/utf8.acceptRanges", "internal/strconv.uint64pow10", "math/bits.deBruijn32tab", "math/bits.deBruijn64tab"], apart := false, laid := [("math/bits.deBruijn32tab", laid_math_bits_deBruijn32tab), ("math/bits.deBruijn64tab", laid_math_bits_deBruijn64tab), ("internal/strconv.uint64pow10", laid_internal_strconv_uint64pow10), ("unicode/utf8.acceptRanges", laid_unicode_utf8_acceptRanges), ("dialtone/address.classes", laid_dialtone_address_classes), ("unicode/utf8.first", laid_unicode_utf8_first)] }
def AddressListsSaid : Prop := addressListsRow.holds Tryz.pinned (OpenSpec.ofChange addressListsSpec)

/-- ITS FALSE NEIGHBOUR: 'it returns false'. Refute it at one input. -/
def addressListsWrong : ChangeSpec := { name := "addressLists", fn := fun _ => fun
  | [d1, d2, d3] => { results := [.lit (.bool false)], args := [d1, d2, d3] }
  | _ => none }
def AddressListsWrongFalsely : Prop := addressListsRow.holds Tryz.pinned (OpenSpec.ofChange addressListsWrong)

/- THE SECOND FORM. 'bulk': how many values and letters a reading holds, each counted each time it is reached (what is shared counts as often as it is met; a slice's spare places count too). A statement '..UptoSaid' is the law's where the arguments, and the package variables that the reading takes, are together of bulk at most 1048576: NARROWER than '..Said'. Prove '..Said' where nothing that the law and all that it calls make is longer than what came in: it says more and counts as full. Else prove '..UptoSaid'. A law counts once. -/
mutual
def uptoBulk {H : Type} : DataW H → Nat
  | .lit (.string bytes) => bytes.length + 1
  | .lit _ => 1
  | .nil => 1
  | .ptr d => uptoBulk d + 1
  | .slice elems spare => uptoBulkAll elems + uptoBulkAll spare + 1
  | .agg parts => uptoBulkAll parts + 1
  | .iface _ d => uptoBulk d + 1
  | .map entries => uptoBulkEntries entries + 1
  | .held _ => 1
def uptoBulkAll {H : Type} : List (DataW H) → Nat
  | [] => 0
  | d :: r => uptoBulk d + uptoBulkAll r
def uptoBulkEntries {H : Type} : List (Lit × DataW H) → Nat
  | [] => 0
  | x :: r => uptoBulkEntry x + uptoBulkEntries r
def uptoBulkEntry {H : Type} : Lit × DataW H → Nat
  | (.string bytes, d) => bytes.length + uptoBulk d + 1
  | (_, d) => uptoBulk d + 1
 end
def uptoSmall : (H : Type) → List (DataW H) → Bool := fun _ ds => decide (uptoBulkAll ds ≤ 1048576)
def OpenSpec.upto (s : _root_.Go.ChangeSpec) : _root_.Go.OpenSpec := { _root_.Go.OpenSpec.ofChange s with cond := some uptoSmall }

/-- 'dialtonelaw02.AddressEscapes', WHERE WHAT IT READS IS OF BULK AT MOST 1048576: true; the input reads as it did. -/
def addressEscapesUptoRow : OpenClaim := { program := "ythfonniieaiocaagreatdoor", sum := "14e6b22745182d5181f73bdfc9fbe171bcedad8c7feb2d0929892bda6d76d550", func := "dialtone/dialtonelaw02.AddressEscapes", spec := "addressEscapes", inPlace := ["internal/bytealg.IndexByteString", "internal/bytealg.IndexString", "internal/bytealg.CountString", "internal/abi.NoEscape", "internal/bytealg.MakeNoZero"], unfollowed := true, recurses := true, named := ["dialtone/address.classes", "internal/bytealg.MaxLen", "unicode/utf8.first", "unicode/utf8.acceptRanges", "internal/strconv.uint64pow10", "math/bits.deBruijn32tab", "math/bits.deBruijn64tab"], apart := false, laid := [("math/bits.deBruijn32tab", laid_math_bits_deBruijn32tab), ("math/bits.deBruijn64tab", laid_math_bits_deBruijn64tab), ("internal/strconv.uint64pow10", laid_internal_strconv_uint64pow10), ("unicode/utf8.acceptRanges", laid_unicode_utf8_acceptRanges), ("dialtone/address.classes", laid_dialtone_address_classes), ("unicode/utf8.first", laid_unicode_utf8_first)], narrowed := true }
def AddressEscapesUptoSaid : Prop := addressEscapesUptoRow.holds Tryz.pinned (OpenSpec.upto addressEscapesSpec)

/-- 'dialtonelaw02.AddressParses', WHERE WHAT IT READS IS OF BULK AT MOST 1048576: true; the input reads as it did. -/
def addressParsesUptoRow : OpenClaim := { program := "ythfonniieaiocaagreatdoor", sum := "14e6b22745182d5181f73bdfc9fbe171bcedad8c7feb2d0929892bda6d76d550", func := "dialtone/dialtonelaw02.AddressParses", spec := "addressParses", inPlace := ["internal/bytealg.IndexByteString", "internal/bytealg.IndexString", "internal/bytealg.CountString", "internal/abi.NoEscape", "internal/bytealg.MakeNoZero"], unfollowed := true, recurses := true, named := ["dialtone/address.classes", "internal/bytealg.MaxLen", "unicode/utf8.first", "unicode/utf8.acceptRanges", "internal/strconv.uint64pow10", "math/bits.deBruijn32tab", "math/bits.deBruijn64tab"], apart := false, laid := [("math/bits.deBruijn32tab", laid_math_bits_deBruijn32tab), ("math/bits.deBruijn64tab", laid_math_bits_deBruijn64tab), ("internal/strconv.uint64pow10", laid_internal_strconv_uint64pow10), ("unicode/utf8.acceptRanges", laid_unicode_utf8_acceptRanges), ("dialtone/address.classes", laid_dialtone_address_classes), ("unicode/utf8.first", laid_unicode_utf8_first)], narrowed := true }
def AddressParsesUptoSaid : Prop := addressParsesUptoRow.holds Tryz.pinned (OpenSpec.upto addressParsesSpec)

/-- 'dialtonelaw02.AddressReads', WHERE WHAT IT READS IS OF BULK AT MOST 1048576: true; the input reads as it did. -/
def addressReadsUptoRow : OpenClaim := { program := "ythfonniieaiocaagreatdoor", sum := "14e6b22745182d5181f73bdfc9fbe171bcedad8c7feb2d0929892bda6d76d550", func := "dialtone/dialtonelaw02.AddressReads", spec := "addressReads", inPlace := ["internal/bytealg.IndexByteString", "internal/bytealg.IndexString", "internal/abi.NoEscape", "internal/bytealg.MakeNoZero", "internal/bytealg.CountString"], unfollowed := true, recurses := true, named := ["internal/bytealg.MaxLen", "dialtone/address.classes", "unicode/utf8.first", "unicode/utf8.acceptRanges", "internal/strconv.uint64pow10", "math/bits.deBruijn32tab", "math/bits.deBruijn64tab"], apart := false, laid := [("math/bits.deBruijn32tab", laid_math_bits_deBruijn32tab), ("math/bits.deBruijn64tab", laid_math_bits_deBruijn64tab), ("internal/strconv.uint64pow10", laid_internal_strconv_uint64pow10), ("unicode/utf8.acceptRanges", laid_unicode_utf8_acceptRanges), ("dialtone/address.classes", laid_dialtone_address_classes), ("unicode/utf8.first", laid_unicode_utf8_first)], narrowed := true }
def AddressReadsUptoSaid : Prop := addressReadsUptoRow.holds Tryz.pinned (OpenSpec.upto addressReadsSpec)

/-- 'dialtonelaw02.AddressAgain', WHERE WHAT IT READS IS OF BULK AT MOST 1048576: true; the input reads as it did. -/
def addressAgainUptoRow : OpenClaim := { program := "ythfonniieaiocaagreatdoor", sum := "14e6b22745182d5181f73bdfc9fbe171bcedad8c7feb2d0929892bda6d76d550", func := "dialtone/dialtonelaw02.AddressAgain", spec := "addressAgain", inPlace := ["internal/bytealg.IndexByteString", "internal/bytealg.IndexString", "internal/bytealg.CountString", "internal/abi.NoEscape", "internal/bytealg.MakeNoZero"], unfollowed := true, recurses := true, named := ["dialtone/address.classes", "internal/bytealg.MaxLen", "unicode/utf8.first", "unicode/utf8.acceptRanges", "internal/strconv.uint64pow10", "math/bits.deBruijn32tab", "math/bits.deBruijn64tab"], apart := false, laid := [("math/bits.deBruijn32tab", laid_math_bits_deBruijn32tab), ("math/bits.deBruijn64tab", laid_math_bits_deBruijn64tab), ("internal/strconv.uint64pow10", laid_internal_strconv_uint64pow10), ("unicode/utf8.acceptRanges", laid_unicode_utf8_acceptRanges), ("dialtone/address.classes", laid_dialtone_address_classes), ("unicode/utf8.first", laid_unicode_utf8_first)], narrowed := true }
def AddressAgainUptoSaid : Prop := addressAgainUptoRow.holds Tryz.pinned (OpenSpec.upto addressAgainSpec)

/-- 'dialtonelaw02.AddressPlain', WHERE WHAT IT READS IS OF BULK AT MOST 1048576: true; the input reads as it did. -/
def addressPlainUptoRow : OpenClaim := { program := "ythfonniieaiocaagreatdoor", sum := "14e6b22745182d5181f73bdfc9fbe171bcedad8c7feb2d0929892bda6d76d550", func := "dialtone/dialtonelaw02.AddressPlain", spec := "addressPlain", inPlace := ["internal/bytealg.IndexByteString", "internal/bytealg.IndexString", "internal/bytealg.CountString", "internal/abi.NoEscape", "internal/bytealg.MakeNoZero"], unfollowed := true, recurses := true, named := ["dialtone/address.classes", "internal/bytealg.MaxLen", "unicode/utf8.first", "unicode/utf8.acceptRanges", "internal/strconv.uint64pow10", "math/bits.deBruijn32tab", "math/bits.deBruijn64tab"], apart := false, laid := [("math/bits.deBruijn32tab", laid_math_bits_deBruijn32tab), ("math/bits.deBruijn64tab", laid_math_bits_deBruijn64tab), ("internal/strconv.uint64pow10", laid_internal_strconv_uint64pow10), ("unicode/utf8.acceptRanges", laid_unicode_utf8_acceptRanges), ("dialtone/address.classes", laid_dialtone_address_classes), ("unicode/utf8.first", laid_unicode_utf8_first)], narrowed := true }
def AddressPlainUptoSaid : Prop := addressPlainUptoRow.holds Tryz.pinned (OpenSpec.upto addressPlainSpec)

/-- 'dialtonelaw02.AddressHosts', WHERE WHAT IT READS IS OF BULK AT MOST 1048576: true; the input reads as it did. -/
def addressHostsUptoRow : OpenClaim := { program := "ythfonniieaiocaagreatdoor", sum := "14e6b22745182d5181f73bdfc9fbe171bcedad8c7feb2d0929892bda6d76d550", func := "dialtone/dialtonelaw02.AddressHosts", spec := "addressHosts", inPlace := ["internal/bytealg.IndexByteString", "internal/bytealg.IndexString", "internal/bytealg.CountString", "internal/abi.NoEscape", "internal/bytealg.MakeNoZero"], unfollowed := true, recurses := true, named := ["internal/bytealg.MaxLen", "unicode/utf8.first", "unicode/utf8.acceptRanges", "internal/strconv.uint64pow10", "math/bits.deBruijn32tab", "math/bits.deBruijn64tab", "dialtone/address.classes"], apart := false, laid := [("math/bits.deBruijn32tab", laid_math_bits_deBruijn32tab), ("math/bits.deBruijn64tab", laid_math_bits_deBruijn64tab), ("internal/strconv.uint64pow10", laid_internal_strconv_uint64pow10), ("unicode/utf8.acceptRanges", laid_unicode_utf8_acceptRanges), ("dialtone/address.classes", laid_dialtone_address_classes), ("unicode/utf8.first", laid_unicode_utf8_first)], narrowed := true }
def AddressHostsUptoSaid : Prop := addressHostsUptoRow.holds Tryz.pinned (OpenSpec.upto addressHostsSpec)

/-- 'dialtonelaw02.AddressPrints', WHERE WHAT IT READS IS OF BULK AT MOST 1048576: true; the input reads as it did. -/
def addressPrintsUptoRow : OpenClaim := { program := "ythfonniieaiocaagreatdoor", sum := "14e6b22745182d5181f73bdfc9fbe171bcedad8c7feb2d0929892bda6d76d550", func := "dialtone/dialtonelaw02.AddressPrints", spec := "addressPrints", inPlace := ["internal/bytealg.IndexByteString", "internal/bytealg.IndexString", "internal/bytealg.CountString", "internal/abi.NoEscape", "internal/bytealg.MakeNoZero"], unfollowed := true, recurses := true, named := ["dialtone/address.classes", "internal/bytealg.MaxLen", "unicode/utf8.first", "unicode/utf8.acceptRanges", "internal/strconv.uint64pow10", "math/bits.deBruijn32tab", "math/bits.deBruijn64tab"], apart := false, laid := [("math/bits.deBruijn32tab", laid_math_bits_deBruijn32tab), ("math/bits.deBruijn64tab", laid_math_bits_deBruijn64tab), ("internal/strconv.uint64pow10", laid_internal_strconv_uint64pow10), ("unicode/utf8.acceptRanges", laid_unicode_utf8_acceptRanges), ("dialtone/address.classes", laid_dialtone_address_classes), ("unicode/utf8.first", laid_unicode_utf8_first)], narrowed := true }
def AddressPrintsUptoSaid : Prop := addressPrintsUptoRow.holds Tryz.pinned (OpenSpec.upto addressPrintsSpec)

/-- 'dialtonelaw02.AddressRound', WHERE WHAT IT READS IS OF BULK AT MOST 1048576: true; the input reads as it did. -/
def addressRoundUptoRow : OpenClaim := { program := "ythfonniieaiocaagreatdoor", sum := "14e6b22745182d5181f73bdfc9fbe171bcedad8c7feb2d0929892bda6d76d550", func := "dialtone/dialtonelaw02.AddressRound", spec := "addressRound", inPlace := ["internal/bytealg.IndexByteString", "internal/bytealg.IndexString", "internal/bytealg.CountString", "internal/abi.NoEscape", "internal/bytealg.MakeNoZero"], unfollowed := true, recurses := true, named := ["dialtone/address.classes", "internal/bytealg.MaxLen", "unicode/utf8.first", "unicode/utf8.acceptRanges", "internal/strconv.uint64pow10", "math/bits.deBruijn32tab", "math/bits.deBruijn64tab"], apart := false, laid := [("math/bits.deBruijn32tab", laid_math_bits_deBruijn32tab), ("math/bits.deBruijn64tab", laid_math_bits_deBruijn64tab), ("internal/strconv.uint64pow10", laid_internal_strconv_uint64pow10), ("unicode/utf8.acceptRanges", laid_unicode_utf8_acceptRanges), ("dialtone/address.classes", laid_dialtone_address_classes), ("unicode/utf8.first", laid_unicode_utf8_first)], narrowed := true }
def AddressRoundUptoSaid : Prop := addressRoundUptoRow.holds Tryz.pinned (OpenSpec.upto addressRoundSpec)

/-- 'dialtonelaw02.AddressEquals', WHERE WHAT IT READS IS OF BULK AT MOST 1048576: true; the input reads as it did. -/
def addressEqualsUptoRow : OpenClaim := { program := "ythfonniieaiocaagreatdoor", sum := "14e6b22745182d5181f73bdfc9fbe171bcedad8c7feb2d0929892bda6d76d550", func := "dialtone/dialtonelaw02.AddressEquals", spec := "addressEquals", inPlace := ["internal/bytealg.IndexByteString", "internal/bytealg.IndexString", "internal/bytealg.CountString", "internal/abi.NoEscape", "internal/bytealg.MakeNoZero"], unfollowed := true, recurses := true, named := ["dialtone/address.classes", "internal/bytealg.MaxLen", "unicode/utf8.first", "unicode/utf8.acceptRanges", "internal/strconv.uint64pow10", "math/bits.deBruijn32tab", "math/bits.deBruijn64tab"], apart := false, laid := [("math/bits.deBruijn32tab", laid_math_bits_deBruijn32tab), ("math/bits.deBruijn64tab", laid_math_bits_deBruijn64tab), ("internal/strconv.uint64pow10", laid_internal_strconv_uint64pow10), ("unicode/utf8.acceptRanges", laid_unicode_utf8_acceptRanges), ("dialtone/address.classes", laid_dialtone_address_classes), ("unicode/utf8.first", laid_unicode_utf8_first)], narrowed := true }
def AddressEqualsUptoSaid : Prop := addressEqualsUptoRow.holds Tryz.pinned (OpenSpec.upto addressEqualsSpec)

/-- 'dialtonelaw02.AddressKnown', WHERE WHAT IT READS IS OF BULK AT MOST 1048576: true; the input reads as it did. -/
def addressKnownUptoRow : OpenClaim := { program := "ythfonniieaiocaagreatdoor", sum := "14e6b22745182d5181f73bdfc9fbe171bcedad8c7feb2d0929892bda6d76d550", func := "dialtone/dialtonelaw02.AddressKnown", spec := "addressKnown", inPlace := ["internal/bytealg.IndexByteString", "internal/bytealg.IndexString", "internal/bytealg.CountString", "internal/abi.NoEscape", "internal/bytealg.MakeNoZero"], unfollowed := true, recurses := true, named := ["internal/bytealg.MaxLen", "unicode/utf8.first", "unicode/utf8.acceptRanges", "internal/strconv.uint64pow10", "math/bits.deBruijn32tab", "math/bits.deBruijn64tab", "dialtone/address.classes"], apart := false, laid := [("math/bits.deBruijn32tab", laid_math_bits_deBruijn32tab), ("math/bits.deBruijn64tab", laid_math_bits_deBruijn64tab), ("internal/strconv.uint64pow10", laid_internal_strconv_uint64pow10), ("unicode/utf8.acceptRanges", laid_unicode_utf8_acceptRanges), ("dialtone/address.classes", laid_dialtone_address_classes), ("unicode/utf8.first", laid_unicode_utf8_first)], narrowed := true }
def AddressKnownUptoSaid : Prop := addressKnownUptoRow.holds Tryz.pinned (OpenSpec.upto addressKnownSpec)

/-- 'dialtonelaw02.AddressWrites', WHERE WHAT IT READS IS OF BULK AT MOST 1048576: true; the input reads as it did. -/
def addressWritesUptoRow : OpenClaim := { program := "ythfonniieaiocaagreatdoor", sum := "14e6b22745182d5181f73bdfc9fbe171bcedad8c7feb2d0929892bda6d76d550", func := "dialtone/dialtonelaw02.AddressWrites", spec := "addressWrites", inPlace := ["internal/bytealg.IndexByteString", "internal/bytealg.IndexString", "internal/bytealg.CountString", "internal/abi.NoEscape", "internal/bytealg.MakeNoZero"], unfollowed := true, recurses := true, named := ["dialtone/address.classes", "internal/bytealg.MaxLen", "unicode/utf8.first", "unicode/utf8.acceptRanges", "internal/strconv.uint64pow10", "math/bits.deBruijn32tab", "math/bits.deBruijn64tab"], apart := false, laid := [("math/bits.deBruijn32tab", laid_math_bits_deBruijn32tab), ("math/bits.deBruijn64tab", laid_math_bits_deBruijn64tab), ("internal/strconv.uint64pow10", laid_internal_strconv_uint64pow10), ("unicode/utf8.acceptRanges", laid_unicode_utf8_acceptRanges), ("dialtone/address.classes", laid_dialtone_address_classes), ("unicode/utf8.first", laid_unicode_utf8_first)], narrowed := true }
def AddressWritesUptoSaid : Prop := addressWritesUptoRow.holds Tryz.pinned (OpenSpec.upto addressWritesSpec)

/-- 'dialtonelaw02.AddressBack', WHERE WHAT IT READS IS OF BULK AT MOST 1048576: true; the input reads as it did. -/
def addressBackUptoRow : OpenClaim := { program := "ythfonniieaiocaagreatdoor", sum := "14e6b22745182d5181f73bdfc9fbe171bcedad8c7feb2d0929892bda6d76d550", func := "dialtone/dialtonelaw02.AddressBack", spec := "addressBack", inPlace := ["internal/bytealg.IndexByteString", "internal/bytealg.IndexString", "internal/bytealg.CountString", "internal/abi.NoEscape", "internal/bytealg.MakeNoZero"], unfollowed := true, recurses := true, named := ["dialtone/address.classes", "internal/bytealg.MaxLen", "unicode/utf8.first", "unicode/utf8.acceptRanges", "internal/strconv.uint64pow10", "math/bits.deBruijn32tab", "math/bits.deBruijn64tab"], apart := false, laid := [("math/bits.deBruijn32tab", laid_math_bits_deBruijn32tab), ("math/bits.deBruijn64tab", laid_math_bits_deBruijn64tab), ("internal/strconv.uint64pow10", laid_internal_strconv_uint64pow10), ("unicode/utf8.acceptRanges", laid_unicode_utf8_acceptRanges), ("dialtone/address.classes", laid_dialtone_address_classes), ("unicode/utf8.first", laid_unicode_utf8_first)], narrowed := true }
def AddressBackUptoSaid : Prop := addressBackUptoRow.holds Tryz.pinned (OpenSpec.upto addressBackSpec)

/-- 'dialtonelaw02.AddressLists', WHERE WHAT IT READS IS OF BULK AT MOST 1048576: true; the input reads as it did. -/
def addressListsUptoRow : OpenClaim := { program := "ythfonniieaiocaagreatdoor", sum := "14e6b22745182d5181f73bdfc9fbe171bcedad8c7feb2d0929892bda6d76d550", func := "dialtone/dialtonelaw02.AddressLists", spec := "addressLists", inPlace := ["internal/bytealg.IndexByteString", "internal/bytealg.IndexString", "internal/bytealg.CountString", "internal/abi.NoEscape", "internal/bytealg.MakeNoZero"], unfollowed := true, recurses := true, named := ["dialtone/address.classes", "internal/bytealg.MaxLen", "unicode/utf8.first", "unicode/utf8.acceptRanges", "internal/strconv.uint64pow10", "math/bits.deBruijn32tab", "math/bits.deBruijn64tab"], apart := false, laid := [("math/bits.deBruijn32tab", laid_math_bits_deBruijn32tab), ("math/bits.deBruijn64tab", laid_math_bits_deBruijn64tab), ("internal/strconv.uint64pow10", laid_internal_strconv_uint64pow10), ("unicode/utf8.acceptRanges", laid_unicode_utf8_acceptRanges), ("dialtone/address.classes", laid_dialtone_address_classes), ("unicode/utf8.first", laid_unicode_utf8_first)], narrowed := true }
def AddressListsUptoSaid : Prop := addressListsUptoRow.holds Tryz.pinned (OpenSpec.upto addressListsSpec)

end Rows
end Go.Proofs.YthfonniieaiocaaGreatDoor
