/-
  NARROWER THAN 'FOR EVERY INPUT', by the rows' own cells (each row's printed sentence says how): DialogMakes: laid · DialogMirror: laid · DialogTalks: laid · DialogEnds: laid · DialogRepeats: laid · DialogTakes: laid · DialogKnown: laid.
  DERIVED. THE GIVEN ROWS OF THIS SEAT. 7 by the template 'for every input the law returns true; each argument reads behind the call as it read before'; 0 by the template 'total and deterministic' (their statements: YtfnmkedncfdceaaGreatDoorTotals.lean).
  GIVEN WITH THE SEED: the statements are not yours to turn. If you find one false, say at which input.
  Laid BY PROGRAM, IN A SANDBOX (cutbox-rows.mjs): the forced cells as the released guide's own fill.sh prints them over the translation bab7756c7ba530c9… (all of the seat's roots in one cut). By AI agents, Wed Nov 11 2026. No macro, syntax, notation, axiom, sorry.
-/
import Derived.Test.YtfnmkedncfdceaaGreatDoorChecked
import GoSem.PinnedTables
import GoSem.Claim
import GoSem.ClaimJoined
import GoSem.ClaimMapViews
import Derived.JoinedTies
import Derived.KernelRfl
namespace Go.Proofs.YtfnmkedncfdceaaGreatDoor
/- THE CELL 'sum', in the pinned program and in every row, IS THE sha256 OF THE DUMP (.gsa) THAT YtfnmkedncfdceaaGreatDoorProg.lean LOADS. Nothing in Lean hashes anything: it is a label: what it is worth is what the hold of that sum in a sandbox is worth. -/
noncomputable def Tryz.pinned : Pinned := { name := "ytfnmkedncfdceaagreatdoor", sum := "bab7756c7ba530c9ab1ce3eed170796bc23b821e02cfc8f75afed9184cae2df1", checked := Tryz.checked }
namespace Rows
def none {H : Type} : Left H := { results := [], args := [] }

/- WHAT THE LISTED PACKAGE-LEVEL VARIABLES READ AS WHEN THE CALL BEGINS. Each datum BY PROGRAM (the guide's laid-datum.mjs) off the statement by which the dump's own 'gosem.cut.vars' lays the variable. In a bare row this is a premise. The card (YtfnmkedncfdceaaGreatDoorCards.lean) ties it to the program's text. -/
def laid_math_bits_deBruijn32tab {H : Type} : DataW H := .agg [.lit (.int .u8 0), .lit (.int .u8 1), .lit (.int .u8 28), .lit (.int .u8 2), .lit (.int .u8 29), .lit (.int .u8 14), .lit (.int .u8 24), .lit (.int .u8 3), .lit (.int .u8 30), .lit (.int .u8 22), .lit (.int .u8 20), .lit (.int .u8 15), .lit (.int .u8 25), .lit (.int .u8 17), .lit (.int .u8 4), .lit (.int .u8 8), .lit (.int .u8 31), .lit (.int .u8 27), .lit (.int .u8 13), .lit (.int .u8 23), .lit (.int .u8 21), .lit (.int .u8 19), .lit (.int .u8 16), .lit (.int .u8 7), .lit (.int .u8 26), .lit (.int .u8 12), .lit (.int .u8 18), .lit (.int .u8 6), .lit (.int .u8 11), .lit (.int .u8 5), .lit (.int .u8 10), .lit (.int .u8 9)]
def laid_math_bits_deBruijn64tab {H : Type} : DataW H := .agg [.lit (.int .u8 0), .lit (.int .u8 1), .lit (.int .u8 56), .lit (.int .u8 2), .lit (.int .u8 57), .lit (.int .u8 49), .lit (.int .u8 28), .lit (.int .u8 3), .lit (.int .u8 61), .lit (.int .u8 58), .lit (.int .u8 42), .lit (.int .u8 50), .lit (.int .u8 38), .lit (.int .u8 29), .lit (.int .u8 17), .lit (.int .u8 4), .lit (.int .u8 62), .lit (.int .u8 47), .lit (.int .u8 59), .lit (.int .u8 36), .lit (.int .u8 45), .lit (.int .u8 43), .lit (.int .u8 51), .lit (.int .u8 22), .lit (.int .u8 53), .lit (.int .u8 39), .lit (.int .u8 33), .lit (.int .u8 30), .lit (.int .u8 24), .lit (.int .u8 18), .lit (.int .u8 12), .lit (.int .u8 5), .lit (.int .u8 63), .lit (.int .u8 55), .lit (.int .u8 48), .lit (.int .u8 27), .lit (.int .u8 60), .lit (.int .u8 41), .lit (.int .u8 37), .lit (.int .u8 16), .lit (.int .u8 46), .lit (.int .u8 35), .lit (.int .u8 44), .lit (.int .u8 21), .lit (.int .u8 52), .lit (.int .u8 32), .lit (.int .u8 23), .lit (.int .u8 11), .lit (.int .u8 54), .lit (.int .u8 26), .lit (.int .u8 40), .lit (.int .u8 15), .lit (.int .u8 34), .lit (.int .u8 20), .lit (.int .u8 31), .lit (.int .u8 10), .lit (.int .u8 25), .lit (.int .u8 14), .lit (.int .u8 19), .lit (.int .u8 9), .lit (.int .u8 13), .lit (.int .u8 8), .lit (.int .u8 7), .lit (.int .u8 6)]
def laid_internal_strconv_uint64pow10 {H : Type} : DataW H := .agg [.lit (.int .u64 1), .lit (.int .u64 10), .lit (.int .u64 100), .lit (.int .u64 1000), .lit (.int .u64 10000), .lit (.int .u64 100000), .lit (.int .u64 1000000), .lit (.int .u64 10000000), .lit (.int .u64 100000000), .lit (.int .u64 1000000000), .lit (.int .u64 10000000000), .lit (.int .u64 100000000000), .lit (.int .u64 1000000000000), .lit (.int .u64 10000000000000), .lit (.int .u64 100000000000000), .lit (.int .u64 1000000000000000), .lit (.int .u64 10000000000000000), .lit (.int .u64 100000000000000000), .lit (.int .u64 1000000000000000000), .lit (.int .u64 10000000000000000000)]
def laid_unicode_utf8_acceptRanges {H : Type} : DataW H := .agg [.agg [.lit (.int .u8 128), .lit (.int .u8 191)], .agg [.lit (.int .u8 160), .lit (.int .u8 191)], .agg [.lit (.int .u8 128), .lit (.int .u8 159)], .agg [.lit (.int .u8 144), .lit (.int .u8 191)], .agg [.lit (.int .u8 128), .lit (.int .u8 143)], .agg [.lit (.int .u8 0), .lit (.int .u8 0)], .agg [.lit (.int .u8 0), .lit (.int .u8 0)], .agg [.lit (.int .u8 0), .lit (.int .u8 0)], .agg [.lit (.int .u8 0), .lit (.int .u8 0)], .agg [.lit (.int .u8 0), .lit (.int .u8 0)], .agg [.lit (.int .u8 0), .lit (.int .u8 0)], .agg [.lit (.int .u8 0), .lit (.int .u8 0)], .agg [.lit (.int .u8 0), .lit (.int .u8 0)], .agg [.lit (.int .u8 0), .lit (.int .u8 0)], .agg [.lit (.int .u8 0), .lit (.int .u8 0)], .agg [.lit (.int .u8 0), .lit (.int .u8 0)]]
def laid_dialtone_address_classes {H : Type} : DataW H := .agg [.lit (.string [38, 61, 43, 36, 44, 59, 63, 47]), .lit (.string [91, 93, 47, 58, 38, 43, 36]), .lit (.string [91, 93, 47, 63, 58, 43, 36])]
def laid_dialtone_header_specials {H : Type} : DataW H := .agg [.lit (.string [67, 97, 108, 108, 45, 73, 68]), .lit (.string [67, 83, 101, 113]), .lit (.string [77, 73, 77, 69, 45, 86, 101, 114, 115, 105, 111, 110]), .lit (.string [77, 105, 110, 45, 83, 69]), .lit (.string [82, 65, 99, 107]), .lit (.string [82, 83, 101, 113]), .lit (.string [87, 87, 87, 45, 65, 117, 116, 104, 101, 110, 116, 105, 99, 97, 116, 101])]
def laid_dialtone_header_kinds {H : Type} : DataW H := .agg [.agg [.lit (.string [70, 114, 111, 109]), .lit (.int .i64 1)], .agg [.lit (.string [84, 111]), .lit (.int .i64 1)], .agg [.lit (.string [67, 111, 110, 116, 97, 99, 116]), .lit (.int .i64 1)], .agg [.lit (.string [82, 111, 117, 116, 101]), .lit (.int .i64 1)], .agg [.lit (.string [82, 101, 99, 111, 114, 100, 45, 82, 111, 117, 116, 101]), .lit (.int .i64 1)], .agg [.lit (.string [80, 97, 116, 104]), .lit (.int .i64 1)], .agg [.lit (.string [83, 101, 114, 118, 105, 99, 101, 45, 82, 111, 117, 116, 101]), .lit (.int .i64 1)], .agg [.lit (.string [82, 101, 102, 101, 114, 45, 84, 111]), .lit (.int .i64 1)], .agg [.lit (.string [82, 101, 102, 101, 114, 114, 101, 100, 45, 66, 121]), .lit (.int .i64 1)], .agg [.lit (.string [82, 101, 112, 108, 121, 45, 84, 111]), .lit (.int .i64 1)], .agg [.lit (.string [86, 105, 97]), .lit (.int .i64 2)], .agg [.lit (.string [67, 83, 101, 113]), .lit (.int .i64 3)], .agg [.lit (.string [82, 65, 99, 107]), .lit (.int .i64 4)], .agg [.lit (.string [67, 111, 110, 116, 101, 110, 116, 45, 76, 101, 110, 103, 116, 104]), .lit (.int .i64 5)], .agg [.lit (.string [69, 120, 112, 105, 114, 101, 115]), .lit (.int .i64 5)], .agg [.lit (.string [77, 97, 120, 45, 70, 111, 114, 119, 97, 114, 100, 115]), .lit (.int .i64 5)], .agg [.lit (.string [77, 105, 110, 45, 69, 120, 112, 105, 114, 101, 115]), .lit (.int .i64 5)], .agg [.lit (.string [82, 83, 101, 113]), .lit (.int .i64 5)], .agg [.lit (.string [67, 111, 110, 116, 101, 110, 116, 45, 68, 105, 115, 112, 111, 115, 105, 116, 105, 111, 110]), .lit (.int .i64 6)], .agg [.lit (.string [67, 111, 110, 116, 101, 110, 116, 45, 84, 121, 112, 101]), .lit (.int .i64 6)], .agg [.lit (.string [69, 118, 101, 110, 116]), .lit (.int .i64 6)], .agg [.lit (.string [77, 105, 110, 45, 83, 69]), .lit (.int .i64 6)], .agg [.lit (.string [83, 101, 115, 115, 105, 111, 110, 45, 69, 120, 112, 105, 114, 101, 115]), .lit (.int .i64 6)], .agg [.lit (.string [83, 117, 98, 115, 99, 114, 105, 112, 116, 105, 111, 110, 45, 83, 116, 97, 116, 101]), .lit (.int .i64 6)], .agg [.lit (.string [65, 99, 99, 101, 112, 116]), .lit (.int .i64 7)], .agg [.lit (.string [65, 108, 108, 111, 119]), .lit (.int .i64 7)], .agg [.lit (.string [65, 108, 108, 111, 119, 45, 69, 118, 101, 110, 116, 115]), .lit (.int .i64 7)], .agg [.lit (.string [80, 114, 111, 120, 121, 45, 82, 101, 113, 117, 105, 114, 101]), .lit (.int .i64 7)], .agg [.lit (.string [82, 101, 113, 117, 105, 114, 101]), .lit (.int .i64 7)], .agg [.lit (.string [83, 117, 112, 112, 111, 114, 116, 101, 100]), .lit (.int .i64 7)], .agg [.lit (.string [85, 110, 115, 117, 112, 112, 111, 114, 116, 101, 100]), .lit (.int .i64 7)]]
/-- One of Go's own tables, pinned by name: the form's constant. -/
def laid_unicode_utf8_first : DataW Unit := Go.Pinned.utf8First

/-- 'dialtonelaw17.DialogMakes': WHATEVER THE INPUT: true; the input reads as it did. -/
def dialogMakesSpec : ChangeSpec := { name := "dialogMakes", fn := fun _ => fun
  | [d1, d2, d3] => { results := [.lit (.bool true)], args := [d1, d2, d3] }
  | _ => none }
def dialogMakesRow : OpenClaim := { program := "ytfnmkedncfdceaagreatdoor", sum := "bab7756c7ba530c9ab1ce3eed170796bc23b821e02cfc8f75afed9184cae2df1", func := "dialtone/dialtonelaw17.DialogMakes", spec := "dialogMakes", inPlace := ["internal/bytealg.IndexByteString", "internal/bytealg.IndexString", "internal/bytealg.CountString", "internal/abi.NoEscape", "internal/bytealg.MakeNoZero"], unfollowed := true, recurses := true, named := ["unicode/utf8.first", "unicode/utf8.acceptRanges", "internal/bytealg.MaxLen", "internal/strconv.uint64pow10", "math/bits.deBruijn32tab", "math/bits.deBruijn64tab", "dialtone/address.classes", "dialtone/header.specials", "dialtone/header.kinds"], apart := false, laid := [("math/bits.deBruijn32tab", laid_math_bits_deBruijn32tab), ("math/bits.deBruijn64tab", laid_math_bits_deBruijn64tab), ("internal/strconv.uint64pow10", laid_internal_strconv_uint64pow10), ("unicode/utf8.acceptRanges", laid_unicode_utf8_acceptRanges), ("dialtone/address.classes", laid_dialtone_address_classes), ("dialtone/header.specials", laid_dialtone_header_specials), ("dialtone/header.kinds", laid_dialtone_header_kinds), ("unicode/utf8.first", laid_unicode_utf8_first)] }
def DialogMakesSaid : Prop := dialogMakesRow.holds Tryz.pinned (OpenSpec.ofChange dialogMakesSpec)

/-- ITS FALSE NEIGHBOUR: 'it returns false'. Refute it at one input. -/
def dialogMakesWrong : ChangeSpec := { name := "dialogMakes", fn := fun _ => fun
  | [d1, d2, d3] => { results := [.lit (.bool false)], args := [d1, d2, d3] }
  | _ => none }
def DialogMakesWrongFalsely : Prop := dialogMakesRow.holds Tryz.pinned (OpenSpec.ofChange dialogMakesWrong)

/-- 'dialtonelaw17.DialogMirror': WHATEVER THE INPUT: true; the input reads as it did. -/
def dialogMirrorSpec : ChangeSpec := { name := "dialogMirror", fn := fun _ => fun
  | [d1, d2] => { results := [.lit (.bool true)], args := [d1, d2] }
  | _ => none }
def dialogMirrorRow : OpenClaim := { program := "ytfnmkedncfdceaagreatdoor", sum := "bab7756c7ba530c9ab1ce3eed170796bc23b821e02cfc8f75afed9184cae2df1", func := "dialtone/dialtonelaw17.DialogMirror", spec := "dialogMirror", inPlace := ["internal/bytealg.IndexByteString", "internal/bytealg.IndexString", "internal/abi.NoEscape", "internal/bytealg.MakeNoZero", "internal/bytealg.CountString"], unfollowed := true, recurses := true, named := ["dialtone/header.specials", "unicode/utf8.first", "unicode/utf8.acceptRanges", "internal/bytealg.MaxLen", "dialtone/address.classes", "internal/strconv.uint64pow10", "math/bits.deBruijn32tab", "math/bits.deBruijn64tab", "dialtone/header.kinds"], apart := false, laid := [("math/bits.deBruijn32tab", laid_math_bits_deBruijn32tab), ("math/bits.deBruijn64tab", laid_math_bits_deBruijn64tab), ("internal/strconv.uint64pow10", laid_internal_strconv_uint64pow10), ("unicode/utf8.acceptRanges", laid_unicode_utf8_acceptRanges), ("dialtone/address.classes", laid_dialtone_address_classes), ("dialtone/header.specials", laid_dialtone_header_specials), ("dialtone/header.kinds", laid_dialtone_header_kinds), ("unicode/utf8.first", laid_unicode_utf8_first)] }
def DialogMirrorSaid : Prop := dialogMirrorRow.holds Tryz.pinned (OpenSpec.ofChange dialogMirrorSpec)

/-- ITS FALSE NEIGHBOUR: 'it returns false'. Refute it at one input. -/
def dialogMirrorWrong : ChangeSpec := { name := "dialogMirror", fn := fun _ => fun
  | [d1, d2] => { results := [.lit (.bool false)], args := [d1, d2] }
  | _ => none }
def DialogMirrorWrongFalsely : Prop := dialogMirrorRow.holds Tryz.pinned (OpenSpec.ofChange dialogMirrorWrong)

/-- 'dialtonelaw17.DialogTalks': WHATEVER THE INPUT: true; the input reads as it did. -/
def dialogTalksSpec : ChangeSpec := { name := "dialogTalks", fn := fun _ => fun
  | [d] => { results := [.lit (.bool true)], args := [d] }
  | _ => none }
def dialogTalksRow : OpenClaim := { program := "ytfnmkedncfdceaagreatdoor", sum := "bab7756c7ba530c9ab1ce3eed170796bc23b821e02cfc8f75afed9184cae2df1", func := "dialtone/dialtonelaw17.DialogTalks", spec := "dialogTalks", inPlace := ["internal/bytealg.IndexByteString", "internal/bytealg.IndexString", "internal/abi.NoEscape", "internal/bytealg.MakeNoZero", "internal/bytealg.CountString"], unfollowed := true, recurses := true, named := ["dialtone/header.specials", "unicode/utf8.first", "unicode/utf8.acceptRanges", "internal/bytealg.MaxLen", "dialtone/address.classes", "internal/strconv.uint64pow10", "math/bits.deBruijn32tab", "math/bits.deBruijn64tab", "dialtone/header.kinds"], apart := false, laid := [("math/bits.deBruijn32tab", laid_math_bits_deBruijn32tab), ("math/bits.deBruijn64tab", laid_math_bits_deBruijn64tab), ("internal/strconv.uint64pow10", laid_internal_strconv_uint64pow10), ("unicode/utf8.acceptRanges", laid_unicode_utf8_acceptRanges), ("dialtone/address.classes", laid_dialtone_address_classes), ("dialtone/header.specials", laid_dialtone_header_specials), ("dialtone/header.kinds", laid_dialtone_header_kinds), ("unicode/utf8.first", laid_unicode_utf8_first)] }
def DialogTalksSaid : Prop := dialogTalksRow.holds Tryz.pinned (OpenSpec.ofChange dialogTalksSpec)

/-- ITS FALSE NEIGHBOUR: 'it returns false'. Refute it at one input. -/
def dialogTalksWrong : ChangeSpec := { name := "dialogTalks", fn := fun _ => fun
  | [d] => { results := [.lit (.bool false)], args := [d] }
  | _ => none }
def DialogTalksWrongFalsely : Prop := dialogTalksRow.holds Tryz.pinned (OpenSpec.ofChange dialogTalksWrong)

/-- 'dialtonelaw17.DialogEnds': WHATEVER THE INPUT: true; the input reads as it did. -/
def dialogEndsSpec : ChangeSpec := { name := "dialogEnds", fn := fun _ => fun
  | [d1, d2] => { results := [.lit (.bool true)], args := [d1, d2] }
  | _ => none }
def dialogEndsRow : OpenClaim := { program := "ytfnmkedncfdceaagreatdoor", sum := "bab7756c7ba530c9ab1ce3eed170796bc23b821e02cfc8f75afed9184cae2df1", func := "dialtone/dialtonelaw17.DialogEnds", spec := "dialogEnds", inPlace := ["internal/bytealg.IndexByteString", "internal/bytealg.IndexString", "internal/abi.NoEscape", "internal/bytealg.MakeNoZero", "internal/bytealg.CountString"], unfollowed := true, recurses := true, named := ["dialtone/header.specials", "unicode/utf8.first", "unicode/utf8.acceptRanges", "internal/bytealg.MaxLen", "dialtone/address.classes", "internal/strconv.uint64pow10", "math/bits.deBruijn32tab", "math/bits.deBruijn64tab", "dialtone/header.kinds"], apart := false, laid := [("math/bits.deBruijn32tab", laid_math_bits_deBruijn32tab), ("math/bits.deBruijn64tab", laid_math_bits_deBruijn64tab), ("internal/strconv.uint64pow10", laid_internal_strconv_uint64pow10), ("unicode/utf8.acceptRanges", laid_unicode_utf8_acceptRanges), ("dialtone/address.classes", laid_dialtone_address_classes), ("dialtone/header.specials", laid_dialtone_header_specials), ("dialtone/header.kinds", laid_dialtone_header_kinds), ("unicode/utf8.first", laid_unicode_utf8_first)] }
def DialogEndsSaid : Prop := dialogEndsRow.holds Tryz.pinned (OpenSpec.ofChange dialogEndsSpec)

/-- ITS FALSE NEIGHBOUR: 'it returns false'. Refute it at one input. -/
def dialogEndsWrong : ChangeSpec := { name := "dialogEnds", fn := fun _ => fun
  | [d1, d2] => { results := [.lit (.bool false)], args := [d1, d2] }
  | _ => none }
def DialogEndsWrongFalsely : Prop := dialogEndsRow.holds Tryz.pinned (OpenSpec.ofChange dialogEndsWrong)

/-- 'dialtonelaw17.DialogRepeats': WHATEVER THE INPUT: true; the input reads as it did. -/
def dialogRepeatsSpec : ChangeSpec := { name := "dialogRepeats", fn := fun _ => fun
  | [d1, d2, d3] => { results := [.lit (.bool true)], args := [d1, d2, d3] }
  | _ => none }
def dialogRepeatsRow : OpenClaim := { program := "ytfnmkedncfdceaagreatdoor", sum := "bab7756c7ba530c9ab1ce3eed170796bc23b821e02cfc8f75afed9184cae2df1", func := "dialtone/dialtonelaw17.DialogRepeats", spec := "dialogRepeats", inPlace := ["internal/bytealg.IndexByteString", "internal/bytealg.IndexString", "internal/abi.NoEscape", "internal/bytealg.MakeNoZero", "internal/bytealg.CountString"], unfollowed := true, recurses := true, named := ["dialtone/header.specials", "unicode/utf8.first", "unicode/utf8.acceptRanges", "internal/bytealg.MaxLen", "dialtone/address.classes", "internal/strconv.uint64pow10", "math/bits.deBruijn32tab", "math/bits.deBruijn64tab", "dialtone/header.kinds"], apart := false, laid := [("math/bits.deBruijn32tab", laid_math_bits_deBruijn32tab), ("math/bits.deBruijn64tab", laid_math_bits_deBruijn64tab), ("internal/strconv.uint64pow10", laid_internal_strconv_uint64pow10), ("unicode/utf8.acceptRanges", laid_unicode_utf8_acceptRanges), ("dialtone/address.classes", laid_dialtone_address_classes), ("dialtone/header.specials", laid_dialtone_header_specials), ("dialtone/header.kinds", laid_dialtone_header_kinds), ("unicode/utf8.first", laid_unicode_utf8_first)] }
def DialogRepeatsSaid : Prop := dialogRepeatsRow.holds Tryz.pinned (OpenSpec.ofChange dialogRepeatsSpec)

/-- ITS FALSE NEIGHBOUR: 'it returns false'. Refute it at one input. -/
def dialogRepeatsWrong : ChangeSpec := { name := "dialogRepeats", fn := fun _ => fun
  | [d1, d2, d3] => { results := [.lit (.bool false)], args := [d1, d2, d3] }
  | _ => none }
def DialogRepeatsWrongFalsely : Prop := dialogRepeatsRow.holds Tryz.pinned (OpenSpec.ofChange dialogRepeatsWrong)

/-- 'dialtonelaw17.DialogTakes': WHATEVER THE INPUT: true; the input reads as it did. -/
def dialogTakesSpec : ChangeSpec := { name := "dialogTakes", fn := fun _ => fun
  | [d1, d2, d3] => { results := [.lit (.bool true)], args := [d1, d2, d3] }
  | _ => none }
def dialogTakesRow : OpenClaim := { program := "ytfnmkedncfdceaagreatdoor", sum := "bab7756c7ba530c9ab1ce3eed170796bc23b821e02cfc8f75afed9184cae2df1", func := "dialtone/dialtonelaw17.DialogTakes", spec := "dialogTakes", inPlace := ["internal/bytealg.IndexByteString", "internal/bytealg.IndexString", "internal/abi.NoEscape", "internal/bytealg.MakeNoZero", "internal/bytealg.CountString"], unfollowed := true, recurses := true, named := ["dialtone/header.specials", "unicode/utf8.first", "unicode/utf8.acceptRanges", "internal/bytealg.MaxLen", "dialtone/address.classes", "internal/strconv.uint64pow10", "math/bits.deBruijn32tab", "math/bits.deBruijn64tab", "dialtone/header.kinds"], apart := false, laid := [("math/bits.deBruijn32tab", laid_math_bits_deBruijn32tab), ("math/bits.deBruijn64tab", laid_math_bits_deBruijn64tab), ("internal/strconv.uint64pow10", laid_internal_strconv_uint64pow10), ("unicode/utf8.acceptRanges", laid_unicode_utf8_acceptRanges), ("dialtone/address.classes", laid_dialtone_address_classes), ("dialtone/header.specials", laid_dialtone_header_specials), ("dialtone/header.kinds", laid_dialtone_header_kinds), ("unicode/utf8.first", laid_unicode_utf8_first)] }
def DialogTakesSaid : Prop := dialogTakesRow.holds Tryz.pinned (OpenSpec.ofChange dialogTakesSpec)

/-- ITS FALSE NEIGHBOUR: 'it returns false'. Refute it at one input. -/
def dialogTakesWrong : ChangeSpec := { name := "dialogTakes", fn := fun _ => fun
  | [d1, d2, d3] => { results := [.lit (.bool false)], args := [d1, d2, d3] }
  | _ => none }
def DialogTakesWrongFalsely : Prop := dialogTakesRow.holds Tryz.pinned (OpenSpec.ofChange dialogTakesWrong)

/-- 'dialtonelaw17.DialogKnown': WHATEVER THE INPUT: true; the input reads as it did. -/
def dialogKnownSpec : ChangeSpec := { name := "dialogKnown", fn := fun _ => fun
  | [] => { results := [.lit (.bool true)], args := [] }
  | _ => none }
def dialogKnownRow : OpenClaim := { program := "ytfnmkedncfdceaagreatdoor", sum := "bab7756c7ba530c9ab1ce3eed170796bc23b821e02cfc8f75afed9184cae2df1", func := "dialtone/dialtonelaw17.DialogKnown", spec := "dialogKnown", inPlace := ["internal/bytealg.IndexByteString", "internal/bytealg.IndexString", "internal/abi.NoEscape", "internal/bytealg.MakeNoZero", "internal/bytealg.CountString"], unfollowed := true, recurses := true, named := ["dialtone/header.specials", "unicode/utf8.first", "unicode/utf8.acceptRanges", "internal/bytealg.MaxLen", "dialtone/address.classes", "internal/strconv.uint64pow10", "math/bits.deBruijn32tab", "math/bits.deBruijn64tab", "dialtone/header.kinds"], apart := false, laid := [("math/bits.deBruijn32tab", laid_math_bits_deBruijn32tab), ("math/bits.deBruijn64tab", laid_math_bits_deBruijn64tab), ("internal/strconv.uint64pow10", laid_internal_strconv_uint64pow10), ("unicode/utf8.acceptRanges", laid_unicode_utf8_acceptRanges), ("dialtone/address.classes", laid_dialtone_address_classes), ("dialtone/header.specials", laid_dialtone_header_specials), ("dialtone/header.kinds", laid_dialtone_header_kinds), ("unicode/utf8.first", laid_unicode_utf8_first)] }
def DialogKnownSaid : Prop := dialogKnownRow.holds Tryz.pinned (OpenSpec.ofChange dialogKnownSpec)

/-- ITS FALSE NEIGHBOUR: 'it returns false'. Refute it at one input. -/
def dialogKnownWrong : ChangeSpec := { name := "dialogKnown", fn := fun _ => fun
  | [] => { results := [.lit (.bool false)], args := [] }
  | _ => none }
def DialogKnownWrongFalsely : Prop := dialogKnownRow.holds Tryz.pinned (OpenSpec.ofChange dialogKnownWrong)

/- THE SECOND FORM. 'bulk': how many values and letters a reading holds, each counted each time it is reached (what is shared counts as often as it is met; a slice's spare places count too). A statement '..UptoSaid' is the law's where the arguments, and the package variables that the reading takes, are together of bulk at most 1048576: NARROWER than '..Said'. Prove '..Said' where nothing that the law and all that it calls make is longer than what came in: it says more and counts as full. Else prove '..UptoSaid'. A law counts once. -/
mutual
def uptoBulk {H : Type} : DataW H → Nat
  | .lit (.string bytes) => bytes.length + 1
  | .lit _ => 1
  | .nil => 1
  | .ptr d => uptoBulk d + 1
  | .slice elems spare => uptoBulkAll elems + uptoBulkAll spare + 1
  | .agg parts => uptoBulkAll parts + 1
  | .iface _ d => uptoBulk d + 1
  | .map entries => uptoBulkEntries entries + 1
  | .held _ => 1
def uptoBulkAll {H : Type} : List (DataW H) → Nat
  | [] => 0
  | d :: r => uptoBulk d + uptoBulkAll r
def uptoBulkEntries {H : Type} : List (Lit × DataW H) → Nat
  | [] => 0
  | x :: r => uptoBulkEntry x + uptoBulkEntries r
def uptoBulkEntry {H : Type} : Lit × DataW H → Nat
  | (.string bytes, d) => bytes.length + uptoBulk d + 1
  | (_, d) => uptoBulk d + 1
 end
def uptoSmall : (H : Type) → List (DataW H) → Bool := fun _ ds => decide (uptoBulkAll ds ≤ 1048576)
def OpenSpec.upto (s : _root_.Go.ChangeSpec) : _root_.Go.OpenSpec := { _root_.Go.OpenSpec.ofChange s with cond := some uptoSmall }

/-- 'dialtonelaw17.DialogMakes', WHERE WHAT IT READS IS OF BULK AT MOST 1048576: true; the input reads as it did. -/
def dialogMakesUptoRow : OpenClaim := { program := "ytfnmkedncfdceaagreatdoor", sum := "bab7756c7ba530c9ab1ce3eed170796bc23b821e02cfc8f75afed9184cae2df1", func := "dialtone/dialtonelaw17.DialogMakes", spec := "dialogMakes", inPlace := ["internal/bytealg.IndexByteString", "internal/bytealg.IndexString", "internal/bytealg.CountString", "internal/abi.NoEscape", "internal/bytealg.MakeNoZero"], unfollowed := true, recurses := true, named := ["unicode/utf8.first", "unicode/utf8.acceptRanges", "internal/bytealg.MaxLen", "internal/strconv.uint64pow10", "math/bits.deBruijn32tab", "math/bits.deBruijn64tab", "dialtone/address.classes", "dialtone/header.specials", "dialtone/header.kinds"], apart := false, laid := [("math/bits.deBruijn32tab", laid_math_bits_deBruijn32tab), ("math/bits.deBruijn64tab", laid_math_bits_deBruijn64tab), ("internal/strconv.uint64pow10", laid_internal_strconv_uint64pow10), ("unicode/utf8.acceptRanges", laid_unicode_utf8_acceptRanges), ("dialtone/address.classes", laid_dialtone_address_classes), ("dialtone/header.specials", laid_dialtone_header_specials), ("dialtone/header.kinds", laid_dialtone_header_kinds), ("unicode/utf8.first", laid_unicode_utf8_first)], narrowed := true }
def DialogMakesUptoSaid : Prop := dialogMakesUptoRow.holds Tryz.pinned (OpenSpec.upto dialogMakesSpec)

/-- 'dialtonelaw17.DialogMirror', WHERE WHAT IT READS IS OF BULK AT MOST 1048576: true; the input reads as it did. -/
def dialogMirrorUptoRow : OpenClaim := { program := "ytfnmkedncfdceaagreatdoor", sum := "bab7756c7ba530c9ab1ce3eed170796bc23b821e02cfc8f75afed9184cae2df1", func := "dialtone/dialtonelaw17.DialogMirror", spec := "dialogMirror", inPlace := ["internal/bytealg.IndexByteString", "internal/bytealg.IndexString", "internal/abi.NoEscape", "internal/bytealg.MakeNoZero", "internal/bytealg.CountString"], unfollowed := true, recurses := true, named := ["dialtone/header.specials", "unicode/utf8.first", "unicode/utf8.acceptRanges", "internal/bytealg.MaxLen", "dialtone/address.classes", "internal/strconv.uint64pow10", "math/bits.deBruijn32tab", "math/bits.deBruijn64tab", "dialtone/header.kinds"], apart := false, laid := [("math/bits.deBruijn32tab", laid_math_bits_deBruijn32tab), ("math/bits.deBruijn64tab", laid_math_bits_deBruijn64tab), ("internal/strconv.uint64pow10", laid_internal_strconv_uint64pow10), ("unicode/utf8.acceptRanges", laid_unicode_utf8_acceptRanges), ("dialtone/address.classes", laid_dialtone_address_classes), ("dialtone/header.specials", laid_dialtone_header_specials), ("dialtone/header.kinds", laid_dialtone_header_kinds), ("unicode/utf8.first", laid_unicode_utf8_first)], narrowed := true }
def DialogMirrorUptoSaid : Prop := dialogMirrorUptoRow.holds Tryz.pinned (OpenSpec.upto dialogMirrorSpec)

/-- 'dialtonelaw17.DialogTalks', WHERE WHAT IT READS IS OF BULK AT MOST 1048576: true; the input reads as it did. -/
def dialogTalksUptoRow : OpenClaim := { program := "ytfnmkedncfdceaagreatdoor", sum := "bab7756c7ba530c9ab1ce3eed170796bc23b821e02cfc8f75afed9184cae2df1", func := "dialtone/dialtonelaw17.DialogTalks", spec := "dialogTalks", inPlace := ["internal/bytealg.IndexByteString", "internal/bytealg.IndexString", "internal/abi.NoEscape", "internal/bytealg.MakeNoZero", "internal/bytealg.CountString"], unfollowed := true, recurses := true, named := ["dialtone/header.specials", "unicode/utf8.first", "unicode/utf8.acceptRanges", "internal/bytealg.MaxLen", "dialtone/address.classes", "internal/strconv.uint64pow10", "math/bits.deBruijn32tab", "math/bits.deBruijn64tab", "dialtone/header.kinds"], apart := false, laid := [("math/bits.deBruijn32tab", laid_math_bits_deBruijn32tab), ("math/bits.deBruijn64tab", laid_math_bits_deBruijn64tab), ("internal/strconv.uint64pow10", laid_internal_strconv_uint64pow10), ("unicode/utf8.acceptRanges", laid_unicode_utf8_acceptRanges), ("dialtone/address.classes", laid_dialtone_address_classes), ("dialtone/header.specials", laid_dialtone_header_specials), ("dialtone/header.kinds", laid_dialtone_header_kinds), ("unicode/utf8.first", laid_unicode_utf8_first)], narrowed := true }
def DialogTalksUptoSaid : Prop := dialogTalksUptoRow.holds Tryz.pinned (OpenSpec.upto dialogTalksSpec)

/-- 'dialtonelaw17.DialogEnds', WHERE WHAT IT READS IS OF BULK AT MOST 1048576: true; the input reads as it did. -/
def dialogEndsUptoRow : OpenClaim := { program := "ytfnmkedncfdceaagreatdoor", sum := "bab7756c7ba530c9ab1ce3eed170796bc23b821e02cfc8f75afed9184cae2df1", func := "dialtone/dialtonelaw17.DialogEnds", spec := "dialogEnds", inPlace := ["internal/bytealg.IndexByteString", "internal/bytealg.IndexString", "internal/abi.NoEscape", "internal/bytealg.MakeNoZero", "internal/bytealg.CountString"], unfollowed := true, recurses := true, named := ["dialtone/header.specials", "unicode/utf8.first", "unicode/utf8.acceptRanges", "internal/bytealg.MaxLen", "dialtone/address.classes", "internal/strconv.uint64pow10", "math/bits.deBruijn32tab", "math/bits.deBruijn64tab", "dialtone/header.kinds"], apart := false, laid := [("math/bits.deBruijn32tab", laid_math_bits_deBruijn32tab), ("math/bits.deBruijn64tab", laid_math_bits_deBruijn64tab), ("internal/strconv.uint64pow10", laid_internal_strconv_uint64pow10), ("unicode/utf8.acceptRanges", laid_unicode_utf8_acceptRanges), ("dialtone/address.classes", laid_dialtone_address_classes), ("dialtone/header.specials", laid_dialtone_header_specials), ("dialtone/header.kinds", laid_dialtone_header_kinds), ("unicode/utf8.first", laid_unicode_utf8_first)], narrowed := true }
def DialogEndsUptoSaid : Prop := dialogEndsUptoRow.holds Tryz.pinned (OpenSpec.upto dialogEndsSpec)

/-- 'dialtonelaw17.DialogRepeats', WHERE WHAT IT READS IS OF BULK AT MOST 1048576: true; the input reads as it did. -/
def dialogRepeatsUptoRow : OpenClaim := { program := "ytfnmkedncfdceaagreatdoor", sum := "bab7756c7ba530c9ab1ce3eed170796bc23b821e02cfc8f75afed9184cae2df1", func := "dialtone/dialtonelaw17.DialogRepeats", spec := "dialogRepeats", inPlace := ["internal/bytealg.IndexByteString", "internal/bytealg.IndexString", "internal/abi.NoEscape", "internal/bytealg.MakeNoZero", "internal/bytealg.CountString"], unfollowed := true, recurses := true, named := ["dialtone/header.specials", "unicode/utf8.first", "unicode/utf8.acceptRanges", "internal/bytealg.MaxLen", "dialtone/address.classes", "internal/strconv.uint64pow10", "math/bits.deBruijn32tab", "math/bits.deBruijn64tab", "dialtone/header.kinds"], apart := false, laid := [("math/bits.deBruijn32tab", laid_math_bits_deBruijn32tab), ("math/bits.deBruijn64tab", laid_math_bits_deBruijn64tab), ("internal/strconv.uint64pow10", laid_internal_strconv_uint64pow10), ("unicode/utf8.acceptRanges", laid_unicode_utf8_acceptRanges), ("dialtone/address.classes", laid_dialtone_address_classes), ("dialtone/header.specials", laid_dialtone_header_specials), ("dialtone/header.kinds", laid_dialtone_header_kinds), ("unicode/utf8.first", laid_unicode_utf8_first)], narrowed := true }
def DialogRepeatsUptoSaid : Prop := dialogRepeatsUptoRow.holds Tryz.pinned (OpenSpec.upto dialogRepeatsSpec)

/-- 'dialtonelaw17.DialogTakes', WHERE WHAT IT READS IS OF BULK AT MOST 1048576: true; the input reads as it did. -/
def dialogTakesUptoRow : OpenClaim := { program := "ytfnmkedncfdceaagreatdoor", sum := "bab7756c7ba530c9ab1ce3eed170796bc23b821e02cfc8f75afed9184cae2df1", func := "dialtone/dialtonelaw17.DialogTakes", spec := "dialogTakes", inPlace := ["internal/bytealg.IndexByteString", "internal/bytealg.IndexString", "internal/abi.NoEscape", "internal/bytealg.MakeNoZero", "internal/bytealg.CountString"], unfollowed := true, recurses := true, named := ["dialtone/header.specials", "unicode/utf8.first", "unicode/utf8.acceptRanges", "internal/bytealg.MaxLen", "dialtone/address.classes", "internal/strconv.uint64pow10", "math/bits.deBruijn32tab", "math/bits.deBruijn64tab", "dialtone/header.kinds"], apart := false, laid := [("math/bits.deBruijn32tab", laid_math_bits_deBruijn32tab), ("math/bits.deBruijn64tab", laid_math_bits_deBruijn64tab), ("internal/strconv.uint64pow10", laid_internal_strconv_uint64pow10), ("unicode/utf8.acceptRanges", laid_unicode_utf8_acceptRanges), ("dialtone/address.classes", laid_dialtone_address_classes), ("dialtone/header.specials", laid_dialtone_header_specials), ("dialtone/header.kinds", laid_dialtone_header_kinds), ("unicode/utf8.first", laid_unicode_utf8_first)], narrowed := true }
def DialogTakesUptoSaid : Prop := dialogTakesUptoRow.holds Tryz.pinned (OpenSpec.upto dialogTakesSpec)

/-- 'dialtonelaw17.DialogKnown', WHERE WHAT IT READS IS OF BULK AT MOST 1048576: true; the input reads as it did. -/
def dialogKnownUptoRow : OpenClaim := { program := "ytfnmkedncfdceaagreatdoor", sum := "bab7756c7ba530c9ab1ce3eed170796bc23b821e02cfc8f75afed9184cae2df1", func := "dialtone/dialtonelaw17.DialogKnown", spec := "dialogKnown", inPlace := ["internal/bytealg.IndexByteString", "internal/bytealg.IndexString", "internal/abi.NoEscape", "internal/bytealg.MakeNoZero", "internal/bytealg.CountString"], unfollowed := true, recurses := true, named := ["dialtone/header.specials", "unicode/utf8.first", "unicode/utf8.acceptRanges", "internal/bytealg.MaxLen", "dialtone/address.classes", "internal/strconv.uint64pow10", "math/bits.deBruijn32tab", "math/bits.deBruijn64tab", "dialtone/header.kinds"], apart := false, laid := [("math/bits.deBruijn32tab", laid_math_bits_deBruijn32tab), ("math/bits.deBruijn64tab", laid_math_bits_deBruijn64tab), ("internal/strconv.uint64pow10", laid_internal_strconv_uint64pow10), ("unicode/utf8.acceptRanges", laid_unicode_utf8_acceptRanges), ("dialtone/address.classes", laid_dialtone_address_classes), ("dialtone/header.specials", laid_dialtone_header_specials), ("dialtone/header.kinds", laid_dialtone_header_kinds), ("unicode/utf8.first", laid_unicode_utf8_first)], narrowed := true }
def DialogKnownUptoSaid : Prop := dialogKnownUptoRow.holds Tryz.pinned (OpenSpec.upto dialogKnownSpec)

end Rows
end Go.Proofs.YtfnmkedncfdceaaGreatDoor
