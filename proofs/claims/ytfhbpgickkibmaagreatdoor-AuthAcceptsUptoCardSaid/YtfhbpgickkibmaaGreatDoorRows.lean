/-
  NARROWER THAN 'FOR EVERY INPUT', by the rows' own cells (each row's printed sentence says how): AuthCredentials: laid · AuthHashes: laid · AuthAnswers: laid · AuthVerifies: laid · AuthIssues: laid · AuthAccepts: laid · AuthOnce: laid · AuthNonces: laid · AuthKnown: laid.
  DERIVED. THE GIVEN ROWS OF THIS SEAT. 9 by the template 'for every input the law returns true; each argument reads behind the call as it read before'; 0 by the template 'total and deterministic' (their statements: YtfhbpgickkibmaaGreatDoorTotals.lean).
  GIVEN WITH THE SEED: the statements are not yours to turn. If you find one false, say at which input.
  Laid BY PROGRAM, IN A SANDBOX (cutbox-rows.mjs): the forced cells as the released guide's own fill.sh prints them over the translation 876dd2caa4bd66ea… (all of the seat's roots in one cut). By AI agents, Wed Nov 11 2026. No macro, syntax, notation, axiom, sorry.
-/
import Derived.Test.YtfhbpgickkibmaaGreatDoorChecked
import GoSem.PinnedTables
import GoSem.Claim
import GoSem.ClaimJoined
import GoSem.ClaimMapViews
import Derived.JoinedTies
import Derived.KernelRfl
namespace Go.Proofs.YtfhbpgickkibmaaGreatDoor
/- THE CELL 'sum', in the pinned program and in every row, IS THE sha256 OF THE DUMP (.gsa) THAT YtfhbpgickkibmaaGreatDoorProg.lean LOADS. Nothing in Lean hashes anything: it is a label: what it is worth is what the hold of that sum in a sandbox is worth. -/
noncomputable def Tryz.pinned : Pinned := { name := "ytfhbpgickkibmaagreatdoor", sum := "876dd2caa4bd66eaa92ea304226a093b407dbdda479dac199161724fc4fa6d99", checked := Tryz.checked }
namespace Rows
def none {H : Type} : Left H := { results := [], args := [] }

/- WHAT THE LISTED PACKAGE-LEVEL VARIABLES READ AS WHEN THE CALL BEGINS. Each datum BY PROGRAM (the guide's laid-datum.mjs) off the statement by which the dump's own 'gosem.cut.vars' lays the variable. In a bare row this is a premise. The card (YtfhbpgickkibmaaGreatDoorCards.lean) ties it to the program's text. -/
def laid_unicode_utf8_acceptRanges {H : Type} : DataW H := .agg [.agg [.lit (.int .u8 128), .lit (.int .u8 191)], .agg [.lit (.int .u8 160), .lit (.int .u8 191)], .agg [.lit (.int .u8 128), .lit (.int .u8 159)], .agg [.lit (.int .u8 144), .lit (.int .u8 191)], .agg [.lit (.int .u8 128), .lit (.int .u8 143)], .agg [.lit (.int .u8 0), .lit (.int .u8 0)], .agg [.lit (.int .u8 0), .lit (.int .u8 0)], .agg [.lit (.int .u8 0), .lit (.int .u8 0)], .agg [.lit (.int .u8 0), .lit (.int .u8 0)], .agg [.lit (.int .u8 0), .lit (.int .u8 0)], .agg [.lit (.int .u8 0), .lit (.int .u8 0)], .agg [.lit (.int .u8 0), .lit (.int .u8 0)], .agg [.lit (.int .u8 0), .lit (.int .u8 0)], .agg [.lit (.int .u8 0), .lit (.int .u8 0)], .agg [.lit (.int .u8 0), .lit (.int .u8 0)], .agg [.lit (.int .u8 0), .lit (.int .u8 0)]]
/-- One of Go's own tables, pinned by name: the form's constant. -/
def laid_unicode_utf8_first : DataW Unit := Go.Pinned.utf8First
def laid_dialtone_hash_constants {H : Type} : DataW H := .agg [.lit (.int .u32 1116352408), .lit (.int .u32 1899447441), .lit (.int .u32 3049323471), .lit (.int .u32 3921009573), .lit (.int .u32 961987163), .lit (.int .u32 1508970993), .lit (.int .u32 2453635748), .lit (.int .u32 2870763221), .lit (.int .u32 3624381080), .lit (.int .u32 310598401), .lit (.int .u32 607225278), .lit (.int .u32 1426881987), .lit (.int .u32 1925078388), .lit (.int .u32 2162078206), .lit (.int .u32 2614888103), .lit (.int .u32 3248222580), .lit (.int .u32 3835390401), .lit (.int .u32 4022224774), .lit (.int .u32 264347078), .lit (.int .u32 604807628), .lit (.int .u32 770255983), .lit (.int .u32 1249150122), .lit (.int .u32 1555081692), .lit (.int .u32 1996064986), .lit (.int .u32 2554220882), .lit (.int .u32 2821834349), .lit (.int .u32 2952996808), .lit (.int .u32 3210313671), .lit (.int .u32 3336571891), .lit (.int .u32 3584528711), .lit (.int .u32 113926993), .lit (.int .u32 338241895), .lit (.int .u32 666307205), .lit (.int .u32 773529912), .lit (.int .u32 1294757372), .lit (.int .u32 1396182291), .lit (.int .u32 1695183700), .lit (.int .u32 1986661051), .lit (.int .u32 2177026350), .lit (.int .u32 2456956037), .lit (.int .u32 2730485921), .lit (.int .u32 2820302411), .lit (.int .u32 3259730800), .lit (.int .u32 3345764771), .lit (.int .u32 3516065817), .lit (.int .u32 3600352804), .lit (.int .u32 4094571909), .lit (.int .u32 275423344), .lit (.int .u32 430227734), .lit (.int .u32 506948616), .lit (.int .u32 659060556), .lit (.int .u32 883997877), .lit (.int .u32 958139571), .lit (.int .u32 1322822218), .lit (.int .u32 1537002063), .lit (.int .u32 1747873779), .lit (.int .u32 1955562222), .lit (.int .u32 2024104815), .lit (.int .u32 2227730452), .lit (.int .u32 2361852424), .lit (.int .u32 2428436474), .lit (.int .u32 2756734187), .lit (.int .u32 3204031479), .lit (.int .u32 3329325298)]
def laid_dialtone_header_specials {H : Type} : DataW H := .agg [.lit (.string [67, 97, 108, 108, 45, 73, 68]), .lit (.string [67, 83, 101, 113]), .lit (.string [77, 73, 77, 69, 45, 86, 101, 114, 115, 105, 111, 110]), .lit (.string [77, 105, 110, 45, 83, 69]), .lit (.string [82, 65, 99, 107]), .lit (.string [82, 83, 101, 113]), .lit (.string [87, 87, 87, 45, 65, 117, 116, 104, 101, 110, 116, 105, 99, 97, 116, 101])]
def laid_math_bits_deBruijn32tab {H : Type} : DataW H := .agg [.lit (.int .u8 0), .lit (.int .u8 1), .lit (.int .u8 28), .lit (.int .u8 2), .lit (.int .u8 29), .lit (.int .u8 14), .lit (.int .u8 24), .lit (.int .u8 3), .lit (.int .u8 30), .lit (.int .u8 22), .lit (.int .u8 20), .lit (.int .u8 15), .lit (.int .u8 25), .lit (.int .u8 17), .lit (.int .u8 4), .lit (.int .u8 8), .lit (.int .u8 31), .lit (.int .u8 27), .lit (.int .u8 13), .lit (.int .u8 23), .lit (.int .u8 21), .lit (.int .u8 19), .lit (.int .u8 16), .lit (.int .u8 7), .lit (.int .u8 26), .lit (.int .u8 12), .lit (.int .u8 18), .lit (.int .u8 6), .lit (.int .u8 11), .lit (.int .u8 5), .lit (.int .u8 10), .lit (.int .u8 9)]
def laid_math_bits_deBruijn64tab {H : Type} : DataW H := .agg [.lit (.int .u8 0), .lit (.int .u8 1), .lit (.int .u8 56), .lit (.int .u8 2), .lit (.int .u8 57), .lit (.int .u8 49), .lit (.int .u8 28), .lit (.int .u8 3), .lit (.int .u8 61), .lit (.int .u8 58), .lit (.int .u8 42), .lit (.int .u8 50), .lit (.int .u8 38), .lit (.int .u8 29), .lit (.int .u8 17), .lit (.int .u8 4), .lit (.int .u8 62), .lit (.int .u8 47), .lit (.int .u8 59), .lit (.int .u8 36), .lit (.int .u8 45), .lit (.int .u8 43), .lit (.int .u8 51), .lit (.int .u8 22), .lit (.int .u8 53), .lit (.int .u8 39), .lit (.int .u8 33), .lit (.int .u8 30), .lit (.int .u8 24), .lit (.int .u8 18), .lit (.int .u8 12), .lit (.int .u8 5), .lit (.int .u8 63), .lit (.int .u8 55), .lit (.int .u8 48), .lit (.int .u8 27), .lit (.int .u8 60), .lit (.int .u8 41), .lit (.int .u8 37), .lit (.int .u8 16), .lit (.int .u8 46), .lit (.int .u8 35), .lit (.int .u8 44), .lit (.int .u8 21), .lit (.int .u8 52), .lit (.int .u8 32), .lit (.int .u8 23), .lit (.int .u8 11), .lit (.int .u8 54), .lit (.int .u8 26), .lit (.int .u8 40), .lit (.int .u8 15), .lit (.int .u8 34), .lit (.int .u8 20), .lit (.int .u8 31), .lit (.int .u8 10), .lit (.int .u8 25), .lit (.int .u8 14), .lit (.int .u8 19), .lit (.int .u8 9), .lit (.int .u8 13), .lit (.int .u8 8), .lit (.int .u8 7), .lit (.int .u8 6)]
def laid_internal_strconv_uint64pow10 {H : Type} : DataW H := .agg [.lit (.int .u64 1), .lit (.int .u64 10), .lit (.int .u64 100), .lit (.int .u64 1000), .lit (.int .u64 10000), .lit (.int .u64 100000), .lit (.int .u64 1000000), .lit (.int .u64 10000000), .lit (.int .u64 100000000), .lit (.int .u64 1000000000), .lit (.int .u64 10000000000), .lit (.int .u64 100000000000), .lit (.int .u64 1000000000000), .lit (.int .u64 10000000000000), .lit (.int .u64 100000000000000), .lit (.int .u64 1000000000000000), .lit (.int .u64 10000000000000000), .lit (.int .u64 100000000000000000), .lit (.int .u64 1000000000000000000), .lit (.int .u64 10000000000000000000)]

/-- 'dialtonelaw07.AuthCredentials': WHATEVER THE INPUT: true; the input reads as it did. -/
def authCredentialsSpec : ChangeSpec := { name := "authCredentials", fn := fun _ => fun
  | [d1, d2] => { results := [.lit (.bool true)], args := [d1, d2] }
  | _ => none }
def authCredentialsRow : OpenClaim := { program := "ytfhbpgickkibmaagreatdoor", sum := "876dd2caa4bd66eaa92ea304226a093b407dbdda479dac199161724fc4fa6d99", func := "dialtone/dialtonelaw07.AuthCredentials", spec := "authCredentials", inPlace := ["internal/bytealg.IndexByteString", "internal/bytealg.IndexString", "internal/abi.NoEscape", "internal/bytealg.MakeNoZero", "internal/bytealg.CountString"], unfollowed := true, recurses := true, named := ["unicode/utf8.first", "unicode/utf8.acceptRanges", "internal/bytealg.MaxLen"], apart := false, laid := [("unicode/utf8.acceptRanges", laid_unicode_utf8_acceptRanges), ("unicode/utf8.first", laid_unicode_utf8_first)] }
def AuthCredentialsSaid : Prop := authCredentialsRow.holds Tryz.pinned (OpenSpec.ofChange authCredentialsSpec)

/-- ITS FALSE NEIGHBOUR: 'it returns false'. Refute it at one input. -/
def authCredentialsWrong : ChangeSpec := { name := "authCredentials", fn := fun _ => fun
  | [d1, d2] => { results := [.lit (.bool false)], args := [d1, d2] }
  | _ => none }
def AuthCredentialsWrongFalsely : Prop := authCredentialsRow.holds Tryz.pinned (OpenSpec.ofChange authCredentialsWrong)

/-- 'dialtonelaw07.AuthHashes': WHATEVER THE INPUT: true; the input reads as it did. -/
def authHashesSpec : ChangeSpec := { name := "authHashes", fn := fun _ => fun
  | [d1, d2, d3] => { results := [.lit (.bool true)], args := [d1, d2, d3] }
  | _ => none }
def authHashesRow : OpenClaim := { program := "ytfhbpgickkibmaagreatdoor", sum := "876dd2caa4bd66eaa92ea304226a093b407dbdda479dac199161724fc4fa6d99", func := "dialtone/dialtonelaw07.AuthHashes", spec := "authHashes", inPlace := ["internal/abi.NoEscape", "internal/bytealg.MakeNoZero", "internal/bytealg.IndexByteString", "internal/bytealg.IndexString", "internal/bytealg.CountString"], unfollowed := true, recurses := true, named := ["unicode/utf8.first", "unicode/utf8.acceptRanges", "internal/bytealg.MaxLen", "dialtone/hash.constants"], apart := false, laid := [("dialtone/hash.constants", laid_dialtone_hash_constants), ("unicode/utf8.acceptRanges", laid_unicode_utf8_acceptRanges), ("unicode/utf8.first", laid_unicode_utf8_first)] }
def AuthHashesSaid : Prop := authHashesRow.holds Tryz.pinned (OpenSpec.ofChange authHashesSpec)

/-- ITS FALSE NEIGHBOUR: 'it returns false'. Refute it at one input. -/
def authHashesWrong : ChangeSpec := { name := "authHashes", fn := fun _ => fun
  | [d1, d2, d3] => { results := [.lit (.bool false)], args := [d1, d2, d3] }
  | _ => none }
def AuthHashesWrongFalsely : Prop := authHashesRow.holds Tryz.pinned (OpenSpec.ofChange authHashesWrong)

/-- 'dialtonelaw07.AuthAnswers': WHATEVER THE INPUT: true; the input reads as it did. -/
def authAnswersSpec : ChangeSpec := { name := "authAnswers", fn := fun _ => fun
  | [d1, d2] => { results := [.lit (.bool true)], args := [d1, d2] }
  | _ => none }
def authAnswersRow : OpenClaim := { program := "ytfhbpgickkibmaagreatdoor", sum := "876dd2caa4bd66eaa92ea304226a093b407dbdda479dac199161724fc4fa6d99", func := "dialtone/dialtonelaw07.AuthAnswers", spec := "authAnswers", inPlace := ["internal/abi.NoEscape", "internal/bytealg.MakeNoZero", "internal/bytealg.IndexByteString", "internal/bytealg.IndexString", "internal/bytealg.CountString"], unfollowed := true, recurses := true, named := ["unicode/utf8.first", "unicode/utf8.acceptRanges", "internal/bytealg.MaxLen", "dialtone/hash.constants", "dialtone/header.specials"], apart := false, laid := [("dialtone/hash.constants", laid_dialtone_hash_constants), ("unicode/utf8.acceptRanges", laid_unicode_utf8_acceptRanges), ("dialtone/header.specials", laid_dialtone_header_specials), ("unicode/utf8.first", laid_unicode_utf8_first)] }
def AuthAnswersSaid : Prop := authAnswersRow.holds Tryz.pinned (OpenSpec.ofChange authAnswersSpec)

/-- ITS FALSE NEIGHBOUR: 'it returns false'. Refute it at one input. -/
def authAnswersWrong : ChangeSpec := { name := "authAnswers", fn := fun _ => fun
  | [d1, d2] => { results := [.lit (.bool false)], args := [d1, d2] }
  | _ => none }
def AuthAnswersWrongFalsely : Prop := authAnswersRow.holds Tryz.pinned (OpenSpec.ofChange authAnswersWrong)

/-- 'dialtonelaw07.AuthVerifies': WHATEVER THE INPUT: true; the input reads as it did. -/
def authVerifiesSpec : ChangeSpec := { name := "authVerifies", fn := fun _ => fun
  | [d1, d2] => { results := [.lit (.bool true)], args := [d1, d2] }
  | _ => none }
def authVerifiesRow : OpenClaim := { program := "ytfhbpgickkibmaagreatdoor", sum := "876dd2caa4bd66eaa92ea304226a093b407dbdda479dac199161724fc4fa6d99", func := "dialtone/dialtonelaw07.AuthVerifies", spec := "authVerifies", inPlace := ["internal/abi.NoEscape", "internal/bytealg.MakeNoZero", "internal/bytealg.IndexByteString", "internal/bytealg.IndexString", "internal/bytealg.CountString"], unfollowed := true, recurses := true, named := ["unicode/utf8.first", "unicode/utf8.acceptRanges", "internal/bytealg.MaxLen", "dialtone/header.specials", "dialtone/hash.constants"], apart := false, laid := [("dialtone/hash.constants", laid_dialtone_hash_constants), ("unicode/utf8.acceptRanges", laid_unicode_utf8_acceptRanges), ("dialtone/header.specials", laid_dialtone_header_specials), ("unicode/utf8.first", laid_unicode_utf8_first)] }
def AuthVerifiesSaid : Prop := authVerifiesRow.holds Tryz.pinned (OpenSpec.ofChange authVerifiesSpec)

/-- ITS FALSE NEIGHBOUR: 'it returns false'. Refute it at one input. -/
def authVerifiesWrong : ChangeSpec := { name := "authVerifies", fn := fun _ => fun
  | [d1, d2] => { results := [.lit (.bool false)], args := [d1, d2] }
  | _ => none }
def AuthVerifiesWrongFalsely : Prop := authVerifiesRow.holds Tryz.pinned (OpenSpec.ofChange authVerifiesWrong)

/-- 'dialtonelaw07.AuthIssues': WHATEVER THE INPUT: true; the input reads as it did. -/
def authIssuesSpec : ChangeSpec := { name := "authIssues", fn := fun _ => fun
  | [d1, d2] => { results := [.lit (.bool true)], args := [d1, d2] }
  | _ => none }
def authIssuesRow : OpenClaim := { program := "ytfhbpgickkibmaagreatdoor", sum := "876dd2caa4bd66eaa92ea304226a093b407dbdda479dac199161724fc4fa6d99", func := "dialtone/dialtonelaw07.AuthIssues", spec := "authIssues", inPlace := ["internal/abi.NoEscape", "internal/bytealg.MakeNoZero", "internal/bytealg.IndexByteString", "internal/bytealg.IndexString", "internal/bytealg.CountString"], unfollowed := true, recurses := true, named := ["unicode/utf8.first", "unicode/utf8.acceptRanges", "internal/bytealg.MaxLen", "internal/strconv.uint64pow10", "math/bits.deBruijn32tab", "math/bits.deBruijn64tab", "dialtone/hash.constants"], apart := false, laid := [("math/bits.deBruijn32tab", laid_math_bits_deBruijn32tab), ("math/bits.deBruijn64tab", laid_math_bits_deBruijn64tab), ("dialtone/hash.constants", laid_dialtone_hash_constants), ("internal/strconv.uint64pow10", laid_internal_strconv_uint64pow10), ("unicode/utf8.acceptRanges", laid_unicode_utf8_acceptRanges), ("unicode/utf8.first", laid_unicode_utf8_first)] }
def AuthIssuesSaid : Prop := authIssuesRow.holds Tryz.pinned (OpenSpec.ofChange authIssuesSpec)

/-- ITS FALSE NEIGHBOUR: 'it returns false'. Refute it at one input. -/
def authIssuesWrong : ChangeSpec := { name := "authIssues", fn := fun _ => fun
  | [d1, d2] => { results := [.lit (.bool false)], args := [d1, d2] }
  | _ => none }
def AuthIssuesWrongFalsely : Prop := authIssuesRow.holds Tryz.pinned (OpenSpec.ofChange authIssuesWrong)

/-- 'dialtonelaw07.AuthAccepts': WHATEVER THE INPUT: true; the input reads as it did. -/
def authAcceptsSpec : ChangeSpec := { name := "authAccepts", fn := fun _ => fun
  | [d1, d2, d3] => { results := [.lit (.bool true)], args := [d1, d2, d3] }
  | _ => none }
def authAcceptsRow : OpenClaim := { program := "ytfhbpgickkibmaagreatdoor", sum := "876dd2caa4bd66eaa92ea304226a093b407dbdda479dac199161724fc4fa6d99", func := "dialtone/dialtonelaw07.AuthAccepts", spec := "authAccepts", inPlace := ["internal/abi.NoEscape", "internal/bytealg.MakeNoZero", "internal/bytealg.IndexByteString", "internal/bytealg.IndexString", "internal/bytealg.CountString"], unfollowed := true, recurses := true, named := ["internal/strconv.uint64pow10", "math/bits.deBruijn32tab", "math/bits.deBruijn64tab", "dialtone/hash.constants", "unicode/utf8.first", "unicode/utf8.acceptRanges", "internal/bytealg.MaxLen", "dialtone/header.specials"], apart := false, laid := [("math/bits.deBruijn32tab", laid_math_bits_deBruijn32tab), ("math/bits.deBruijn64tab", laid_math_bits_deBruijn64tab), ("dialtone/hash.constants", laid_dialtone_hash_constants), ("internal/strconv.uint64pow10", laid_internal_strconv_uint64pow10), ("unicode/utf8.acceptRanges", laid_unicode_utf8_acceptRanges), ("dialtone/header.specials", laid_dialtone_header_specials), ("unicode/utf8.first", laid_unicode_utf8_first)] }
def AuthAcceptsSaid : Prop := authAcceptsRow.holds Tryz.pinned (OpenSpec.ofChange authAcceptsSpec)

/-- ITS FALSE NEIGHBOUR: 'it returns false'. Refute it at one input. -/
def authAcceptsWrong : ChangeSpec := { name := "authAccepts", fn := fun _ => fun
  | [d1, d2, d3] => { results := [.lit (.bool false)], args := [d1, d2, d3] }
  | _ => none }
def AuthAcceptsWrongFalsely : Prop := authAcceptsRow.holds Tryz.pinned (OpenSpec.ofChange authAcceptsWrong)

/-- 'dialtonelaw07.AuthOnce': WHATEVER THE INPUT: true; the input reads as it did. -/
def authOnceSpec : ChangeSpec := { name := "authOnce", fn := fun _ => fun
  | [d] => { results := [.lit (.bool true)], args := [d] }
  | _ => none }
def authOnceRow : OpenClaim := { program := "ytfhbpgickkibmaagreatdoor", sum := "876dd2caa4bd66eaa92ea304226a093b407dbdda479dac199161724fc4fa6d99", func := "dialtone/dialtonelaw07.AuthOnce", spec := "authOnce", inPlace := ["internal/abi.NoEscape", "internal/bytealg.MakeNoZero", "internal/bytealg.IndexByteString", "internal/bytealg.IndexString", "internal/bytealg.CountString"], unfollowed := true, recurses := true, named := ["internal/strconv.uint64pow10", "math/bits.deBruijn32tab", "math/bits.deBruijn64tab", "dialtone/hash.constants", "dialtone/header.specials", "unicode/utf8.first", "unicode/utf8.acceptRanges", "internal/bytealg.MaxLen"], apart := false, laid := [("math/bits.deBruijn32tab", laid_math_bits_deBruijn32tab), ("math/bits.deBruijn64tab", laid_math_bits_deBruijn64tab), ("dialtone/hash.constants", laid_dialtone_hash_constants), ("internal/strconv.uint64pow10", laid_internal_strconv_uint64pow10), ("unicode/utf8.acceptRanges", laid_unicode_utf8_acceptRanges), ("dialtone/header.specials", laid_dialtone_header_specials), ("unicode/utf8.first", laid_unicode_utf8_first)] }
def AuthOnceSaid : Prop := authOnceRow.holds Tryz.pinned (OpenSpec.ofChange authOnceSpec)

/-- ITS FALSE NEIGHBOUR: 'it returns false'. Refute it at one input. -/
def authOnceWrong : ChangeSpec := { name := "authOnce", fn := fun _ => fun
  | [d] => { results := [.lit (.bool false)], args := [d] }
  | _ => none }
def AuthOnceWrongFalsely : Prop := authOnceRow.holds Tryz.pinned (OpenSpec.ofChange authOnceWrong)

/-- 'dialtonelaw07.AuthNonces': WHATEVER THE INPUT: true; the input reads as it did. -/
def authNoncesSpec : ChangeSpec := { name := "authNonces", fn := fun _ => fun
  | [d1, d2] => { results := [.lit (.bool true)], args := [d1, d2] }
  | _ => none }
def authNoncesRow : OpenClaim := { program := "ytfhbpgickkibmaagreatdoor", sum := "876dd2caa4bd66eaa92ea304226a093b407dbdda479dac199161724fc4fa6d99", func := "dialtone/dialtonelaw07.AuthNonces", spec := "authNonces", inPlace := ["internal/abi.NoEscape", "internal/bytealg.MakeNoZero", "internal/bytealg.IndexByteString", "internal/bytealg.IndexString", "internal/bytealg.CountString"], unfollowed := true, recurses := true, named := ["dialtone/hash.constants", "internal/strconv.uint64pow10", "math/bits.deBruijn32tab", "math/bits.deBruijn64tab", "dialtone/header.specials", "unicode/utf8.first", "unicode/utf8.acceptRanges", "internal/bytealg.MaxLen"], apart := false, laid := [("math/bits.deBruijn32tab", laid_math_bits_deBruijn32tab), ("math/bits.deBruijn64tab", laid_math_bits_deBruijn64tab), ("dialtone/hash.constants", laid_dialtone_hash_constants), ("internal/strconv.uint64pow10", laid_internal_strconv_uint64pow10), ("unicode/utf8.acceptRanges", laid_unicode_utf8_acceptRanges), ("dialtone/header.specials", laid_dialtone_header_specials), ("unicode/utf8.first", laid_unicode_utf8_first)] }
def AuthNoncesSaid : Prop := authNoncesRow.holds Tryz.pinned (OpenSpec.ofChange authNoncesSpec)

/-- ITS FALSE NEIGHBOUR: 'it returns false'. Refute it at one input. -/
def authNoncesWrong : ChangeSpec := { name := "authNonces", fn := fun _ => fun
  | [d1, d2] => { results := [.lit (.bool false)], args := [d1, d2] }
  | _ => none }
def AuthNoncesWrongFalsely : Prop := authNoncesRow.holds Tryz.pinned (OpenSpec.ofChange authNoncesWrong)

/-- 'dialtonelaw07.AuthKnown': WHATEVER THE INPUT: true; the input reads as it did. -/
def authKnownSpec : ChangeSpec := { name := "authKnown", fn := fun _ => fun
  | [] => { results := [.lit (.bool true)], args := [] }
  | _ => none }
def authKnownRow : OpenClaim := { program := "ytfhbpgickkibmaagreatdoor", sum := "876dd2caa4bd66eaa92ea304226a093b407dbdda479dac199161724fc4fa6d99", func := "dialtone/dialtonelaw07.AuthKnown", spec := "authKnown", inPlace := ["internal/abi.NoEscape", "internal/bytealg.MakeNoZero", "internal/bytealg.IndexByteString", "internal/bytealg.IndexString", "internal/bytealg.CountString"], unfollowed := true, recurses := true, named := ["dialtone/hash.constants", "unicode/utf8.first", "unicode/utf8.acceptRanges", "internal/bytealg.MaxLen", "dialtone/header.specials", "internal/strconv.uint64pow10", "math/bits.deBruijn32tab", "math/bits.deBruijn64tab"], apart := false, laid := [("math/bits.deBruijn32tab", laid_math_bits_deBruijn32tab), ("math/bits.deBruijn64tab", laid_math_bits_deBruijn64tab), ("dialtone/hash.constants", laid_dialtone_hash_constants), ("internal/strconv.uint64pow10", laid_internal_strconv_uint64pow10), ("unicode/utf8.acceptRanges", laid_unicode_utf8_acceptRanges), ("dialtone/header.specials", laid_dialtone_header_specials), ("unicode/utf8.first", laid_unicode_utf8_first)] }
def AuthKnownSaid : Prop := authKnownRow.holds Tryz.pinned (OpenSpec.ofChange authKnownSpec)

/-- ITS FALSE NEIGHBOUR: 'it returns false'. Refute it at one input. -/
def authKnownWrong : ChangeSpec := { name := "authKnown", fn := fun _ => fun
  | [] => { results := [.lit (.bool false)], args := [] }
  | _ => none }
def AuthKnownWrongFalsely : Prop := authKnownRow.holds Tryz.pinned (OpenSpec.ofChange authKnownWrong)

/- THE SECOND FORM. 'bulk': how many values and letters a reading holds, each counted each time it is reached (what is shared counts as often as it is met; a slice's spare places count too). A statement '..UptoSaid' is the law's where the arguments, and the package variables that the reading takes, are together of bulk at most 1048576: NARROWER than '..Said'. Prove '..Said' where nothing that the law and all that it calls make is longer than what came in: it says more and counts as full. Else prove '..UptoSaid'. A law counts once. -/
mutual
def uptoBulk {H : Type} : DataW H → Nat
  | .lit (.string bytes) => bytes.length + 1
  | .lit _ => 1
  | .nil => 1
  | .ptr d => uptoBulk d + 1
  | .slice elems spare => uptoBulkAll elems + uptoBulkAll spare + 1
  | .agg parts => uptoBulkAll parts + 1
  | .iface _ d => uptoBulk d + 1
  | .map entries => uptoBulkEntries entries + 1
  | .held _ => 1
def uptoBulkAll {H : Type} : List (DataW H) → Nat
  | [] => 0
  | d :: r => uptoBulk d + uptoBulkAll r
def uptoBulkEntries {H : Type} : List (Lit × DataW H) → Nat
  | [] => 0
  | x :: r => uptoBulkEntry x + uptoBulkEntries r
def uptoBulkEntry {H : Type} : Lit × DataW H → Nat
  | (.string bytes, d) => bytes.length + uptoBulk d + 1
  | (_, d) => uptoBulk d + 1
 end
def uptoSmall : (H : Type) → List (DataW H) → Bool := fun _ ds => decide (uptoBulkAll ds ≤ 1048576)
def OpenSpec.upto (s : _root_.Go.ChangeSpec) : _root_.Go.OpenSpec := { _root_.Go.OpenSpec.ofChange s with cond := some uptoSmall }

/-- 'dialtonelaw07.AuthCredentials', WHERE WHAT IT READS IS OF BULK AT MOST 1048576: true; the input reads as it did. -/
def authCredentialsUptoRow : OpenClaim := { program := "ytfhbpgickkibmaagreatdoor", sum := "876dd2caa4bd66eaa92ea304226a093b407dbdda479dac199161724fc4fa6d99", func := "dialtone/dialtonelaw07.AuthCredentials", spec := "authCredentials", inPlace := ["internal/bytealg.IndexByteString", "internal/bytealg.IndexString", "internal/abi.NoEscape", "internal/bytealg.MakeNoZero", "internal/bytealg.CountString"], unfollowed := true, recurses := true, named := ["unicode/utf8.first", "unicode/utf8.acceptRanges", "internal/bytealg.MaxLen"], apart := false, laid := [("unicode/utf8.acceptRanges", laid_unicode_utf8_acceptRanges), ("unicode/utf8.first", laid_unicode_utf8_first)], narrowed := true }
def AuthCredentialsUptoSaid : Prop := authCredentialsUptoRow.holds Tryz.pinned (OpenSpec.upto authCredentialsSpec)

/-- 'dialtonelaw07.AuthHashes', WHERE WHAT IT READS IS OF BULK AT MOST 1048576: true; the input reads as it did. -/
def authHashesUptoRow : OpenClaim := { program := "ytfhbpgickkibmaagreatdoor", sum := "876dd2caa4bd66eaa92ea304226a093b407dbdda479dac199161724fc4fa6d99", func := "dialtone/dialtonelaw07.AuthHashes", spec := "authHashes", inPlace := ["internal/abi.NoEscape", "internal/bytealg.MakeNoZero", "internal/bytealg.IndexByteString", "internal/bytealg.IndexString", "internal/bytealg.CountString"], unfollowed := true, recurses := true, named := ["unicode/utf8.first", "unicode/utf8.acceptRanges", "internal/bytealg.MaxLen", "dialtone/hash.constants"], apart := false, laid := [("dialtone/hash.constants", laid_dialtone_hash_constants), ("unicode/utf8.acceptRanges", laid_unicode_utf8_acceptRanges), ("unicode/utf8.first", laid_unicode_utf8_first)], narrowed := true }
def AuthHashesUptoSaid : Prop := authHashesUptoRow.holds Tryz.pinned (OpenSpec.upto authHashesSpec)

/-- 'dialtonelaw07.AuthAnswers', WHERE WHAT IT READS IS OF BULK AT MOST 1048576: true; the input reads as it did. -/
def authAnswersUptoRow : OpenClaim := { program := "ytfhbpgickkibmaagreatdoor", sum := "876dd2caa4bd66eaa92ea304226a093b407dbdda479dac199161724fc4fa6d99", func := "dialtone/dialtonelaw07.AuthAnswers", spec := "authAnswers", inPlace := ["internal/abi.NoEscape", "internal/bytealg.MakeNoZero", "internal/bytealg.IndexByteString", "internal/bytealg.IndexString", "internal/bytealg.CountString"], unfollowed := true, recurses := true, named := ["unicode/utf8.first", "unicode/utf8.acceptRanges", "internal/bytealg.MaxLen", "dialtone/hash.constants", "dialtone/header.specials"], apart := false, laid := [("dialtone/hash.constants", laid_dialtone_hash_constants), ("unicode/utf8.acceptRanges", laid_unicode_utf8_acceptRanges), ("dialtone/header.specials", laid_dialtone_header_specials), ("unicode/utf8.first", laid_unicode_utf8_first)], narrowed := true }
def AuthAnswersUptoSaid : Prop := authAnswersUptoRow.holds Tryz.pinned (OpenSpec.upto authAnswersSpec)

/-- 'dialtonelaw07.AuthVerifies', WHERE WHAT IT READS IS OF BULK AT MOST 1048576: true; the input reads as it did. -/
def authVerifiesUptoRow : OpenClaim := { program := "ytfhbpgickkibmaagreatdoor", sum := "876dd2caa4bd66eaa92ea304226a093b407dbdda479dac199161724fc4fa6d99", func := "dialtone/dialtonelaw07.AuthVerifies", spec := "authVerifies", inPlace := ["internal/abi.NoEscape", "internal/bytealg.MakeNoZero", "internal/bytealg.IndexByteString", "internal/bytealg.IndexString", "internal/bytealg.CountString"], unfollowed := true, recurses := true, named := ["unicode/utf8.first", "unicode/utf8.acceptRanges", "internal/bytealg.MaxLen", "dialtone/header.specials", "dialtone/hash.constants"], apart := false, laid := [("dialtone/hash.constants", laid_dialtone_hash_constants), ("unicode/utf8.acceptRanges", laid_unicode_utf8_acceptRanges), ("dialtone/header.specials", laid_dialtone_header_specials), ("unicode/utf8.first", laid_unicode_utf8_first)], narrowed := true }
def AuthVerifiesUptoSaid : Prop := authVerifiesUptoRow.holds Tryz.pinned (OpenSpec.upto authVerifiesSpec)

/-- 'dialtonelaw07.AuthIssues', WHERE WHAT IT READS IS OF BULK AT MOST 1048576: true; the input reads as it did. -/
def authIssuesUptoRow : OpenClaim := { program := "ytfhbpgickkibmaagreatdoor", sum := "876dd2caa4bd66eaa92ea304226a093b407dbdda479dac199161724fc4fa6d99", func := "dialtone/dialtonelaw07.AuthIssues", spec := "authIssues", inPlace := ["internal/abi.NoEscape", "internal/bytealg.MakeNoZero", "internal/bytealg.IndexByteString", "internal/bytealg.IndexString", "internal/bytealg.CountString"], unfollowed := true, recurses := true, named := ["unicode/utf8.first", "unicode/utf8.acceptRanges", "internal/bytealg.MaxLen", "internal/strconv.uint64pow10", "math/bits.deBruijn32tab", "math/bits.deBruijn64tab", "dialtone/hash.constants"], apart := false, laid := [("math/bits.deBruijn32tab", laid_math_bits_deBruijn32tab), ("math/bits.deBruijn64tab", laid_math_bits_deBruijn64tab), ("dialtone/hash.constants", laid_dialtone_hash_constants), ("internal/strconv.uint64pow10", laid_internal_strconv_uint64pow10), ("unicode/utf8.acceptRanges", laid_unicode_utf8_acceptRanges), ("unicode/utf8.first", laid_unicode_utf8_first)], narrowed := true }
def AuthIssuesUptoSaid : Prop := authIssuesUptoRow.holds Tryz.pinned (OpenSpec.upto authIssuesSpec)

/-- 'dialtonelaw07.AuthAccepts', WHERE WHAT IT READS IS OF BULK AT MOST 1048576: true; the input reads as it did. -/
def authAcceptsUptoRow : OpenClaim := { program := "ytfhbpgickkibmaagreatdoor", sum := "876dd2caa4bd66eaa92ea304226a093b407dbdda479dac199161724fc4fa6d99", func := "dialtone/dialtonelaw07.AuthAccepts", spec := "authAccepts", inPlace := ["internal/abi.NoEscape", "internal/bytealg.MakeNoZero", "internal/bytealg.IndexByteString", "internal/bytealg.IndexString", "internal/bytealg.CountString"], unfollowed := true, recurses := true, named := ["internal/strconv.uint64pow10", "math/bits.deBruijn32tab", "math/bits.deBruijn64tab", "dialtone/hash.constants", "unicode/utf8.first", "unicode/utf8.acceptRanges", "internal/bytealg.MaxLen", "dialtone/header.specials"], apart := false, laid := [("math/bits.deBruijn32tab", laid_math_bits_deBruijn32tab), ("math/bits.deBruijn64tab", laid_math_bits_deBruijn64tab), ("dialtone/hash.constants", laid_dialtone_hash_constants), ("internal/strconv.uint64pow10", laid_internal_strconv_uint64pow10), ("unicode/utf8.acceptRanges", laid_unicode_utf8_acceptRanges), ("dialtone/header.specials", laid_dialtone_header_specials), ("unicode/utf8.first", laid_unicode_utf8_first)], narrowed := true }
def AuthAcceptsUptoSaid : Prop := authAcceptsUptoRow.holds Tryz.pinned (OpenSpec.upto authAcceptsSpec)

/-- 'dialtonelaw07.AuthOnce', WHERE WHAT IT READS IS OF BULK AT MOST 1048576: true; the input reads as it did. -/
def authOnceUptoRow : OpenClaim := { program := "ytfhbpgickkibmaagreatdoor", sum := "876dd2caa4bd66eaa92ea304226a093b407dbdda479dac199161724fc4fa6d99", func := "dialtone/dialtonelaw07.AuthOnce", spec := "authOnce", inPlace := ["internal/abi.NoEscape", "internal/bytealg.MakeNoZero", "internal/bytealg.IndexByteString", "internal/bytealg.IndexString", "internal/bytealg.CountString"], unfollowed := true, recurses := true, named := ["internal/strconv.uint64pow10", "math/bits.deBruijn32tab", "math/bits.deBruijn64tab", "dialtone/hash.constants", "dialtone/header.specials", "unicode/utf8.first", "unicode/utf8.acceptRanges", "internal/bytealg.MaxLen"], apart := false, laid := [("math/bits.deBruijn32tab", laid_math_bits_deBruijn32tab), ("math/bits.deBruijn64tab", laid_math_bits_deBruijn64tab), ("dialtone/hash.constants", laid_dialtone_hash_constants), ("internal/strconv.uint64pow10", laid_internal_strconv_uint64pow10), ("unicode/utf8.acceptRanges", laid_unicode_utf8_acceptRanges), ("dialtone/header.specials", laid_dialtone_header_specials), ("unicode/utf8.first", laid_unicode_utf8_first)], narrowed := true }
def AuthOnceUptoSaid : Prop := authOnceUptoRow.holds Tryz.pinned (OpenSpec.upto authOnceSpec)

/-- 'dialtonelaw07.AuthNonces', WHERE WHAT IT READS IS OF BULK AT MOST 1048576: true; the input reads as it did. -/
def authNoncesUptoRow : OpenClaim := { program := "ytfhbpgickkibmaagreatdoor", sum := "876dd2caa4bd66eaa92ea304226a093b407dbdda479dac199161724fc4fa6d99", func := "dialtone/dialtonelaw07.AuthNonces", spec := "authNonces", inPlace := ["internal/abi.NoEscape", "internal/bytealg.MakeNoZero", "internal/bytealg.IndexByteString", "internal/bytealg.IndexString", "internal/bytealg.CountString"], unfollowed := true, recurses := true, named := ["dialtone/hash.constants", "internal/strconv.uint64pow10", "math/bits.deBruijn32tab", "math/bits.deBruijn64tab", "dialtone/header.specials", "unicode/utf8.first", "unicode/utf8.acceptRanges", "internal/bytealg.MaxLen"], apart := false, laid := [("math/bits.deBruijn32tab", laid_math_bits_deBruijn32tab), ("math/bits.deBruijn64tab", laid_math_bits_deBruijn64tab), ("dialtone/hash.constants", laid_dialtone_hash_constants), ("internal/strconv.uint64pow10", laid_internal_strconv_uint64pow10), ("unicode/utf8.acceptRanges", laid_unicode_utf8_acceptRanges), ("dialtone/header.specials", laid_dialtone_header_specials), ("unicode/utf8.first", laid_unicode_utf8_first)], narrowed := true }
def AuthNoncesUptoSaid : Prop := authNoncesUptoRow.holds Tryz.pinned (OpenSpec.upto authNoncesSpec)

/-- 'dialtonelaw07.AuthKnown', WHERE WHAT IT READS IS OF BULK AT MOST 1048576: true; the input reads as it did. -/
def authKnownUptoRow : OpenClaim := { program := "ytfhbpgickkibmaagreatdoor", sum := "876dd2caa4bd66eaa92ea304226a093b407dbdda479dac199161724fc4fa6d99", func := "dialtone/dialtonelaw07.AuthKnown", spec := "authKnown", inPlace := ["internal/abi.NoEscape", "internal/bytealg.MakeNoZero", "internal/bytealg.IndexByteString", "internal/bytealg.IndexString", "internal/bytealg.CountString"], unfollowed := true, recurses := true, named := ["dialtone/hash.constants", "unicode/utf8.first", "unicode/utf8.acceptRanges", "internal/bytealg.MaxLen", "dialtone/header.specials", "internal/strconv.uint64pow10", "math/bits.deBruijn32tab", "math/bits.deBruijn64tab"], apart := false, laid := [("math/bits.deBruijn32tab", laid_math_bits_deBruijn32tab), ("math/bits.deBruijn64tab", laid_math_bits_deBruijn64tab), ("dialtone/hash.constants", laid_dialtone_hash_constants), ("internal/strconv.uint64pow10", laid_internal_strconv_uint64pow10), ("unicode/utf8.acceptRanges", laid_unicode_utf8_acceptRanges), ("dialtone/header.specials", laid_dialtone_header_specials), ("unicode/utf8.first", laid_unicode_utf8_first)], narrowed := true }
def AuthKnownUptoSaid : Prop := authKnownUptoRow.holds Tryz.pinned (OpenSpec.upto authKnownSpec)

end Rows
end Go.Proofs.YtfhbpgickkibmaaGreatDoor
