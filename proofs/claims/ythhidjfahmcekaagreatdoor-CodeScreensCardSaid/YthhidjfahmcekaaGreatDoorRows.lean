/-
  NARROWER THAN 'FOR EVERY INPUT', by the rows' own cells (each row's printed sentence says how): CodeLabels: laid · CodeFrames: laid · CodeWords: laid · CodeCadences: laid · CodeBits: laid · CodeDays: laid · CodePulls: laid · CodeCaptions: laid · CodeScreens: laid · CodeFinds: laid · CodeFound: laid · CodeTexts: laid · CodeBack: laid · TopCraneTitled: laid.
  DERIVED. THE GIVEN ROWS OF THIS SEAT. 14 by the template 'for every input the law returns true; each argument reads behind the call as it read before'; 0 by the template 'total and deterministic' (their statements: YthhidjfahmcekaaGreatDoorTotals.lean).
  GIVEN WITH THE SEED: the statements are not yours to turn. If you find one false, say at which input.
  Laid BY PROGRAM, IN A SANDBOX (cutbox-rows.mjs): the forced cells as the released guide's own fill.sh prints them over the translation 1d2f546c941867ff… (all of the seat's roots in one cut). By AI agents, Wed Nov 11 2026. No macro, syntax, notation, axiom, sorry.
-/
import Derived.Test.YthhidjfahmcekaaGreatDoorChecked
import GoSem.PinnedTables
import GoSem.Claim
import GoSem.ClaimJoined
import GoSem.ClaimMapViews
import Derived.JoinedTies
import Derived.KernelRfl
namespace Go.Proofs.YthhidjfahmcekaaGreatDoor
/- THE CELL 'sum', in the pinned program and in every row, IS THE sha256 OF THE DUMP (.gsa) THAT YthhidjfahmcekaaGreatDoorProg.lean LOADS. Nothing in Lean hashes anything: it is a label: what it is worth is what the hold of that sum in a sandbox is worth. -/
noncomputable def Tryz.pinned : Pinned := { name := "ythhidjfahmcekaagreatdoor", sum := "1d2f546c941867ff24c82f8533b2c66faed8010f83b625dc1978ae3df9424625", checked := Tryz.checked }
namespace Rows
def none {H : Type} : Left H := { results := [], args := [] }

/- WHAT THE LISTED PACKAGE-LEVEL VARIABLES READ AS WHEN THE CALL BEGINS. Each datum BY PROGRAM (the guide's laid-datum.mjs) off the statement by which the dump's own 'gosem.cut.vars' lays the variable. In a bare row this is a premise. The card (YthhidjfahmcekaaGreatDoorCards.lean) ties it to the program's text. -/
def laid_math_bits_deBruijn32tab {H : Type} : DataW H := .agg [.lit (.int .u8 0), .lit (.int .u8 1), .lit (.int .u8 28), .lit (.int .u8 2), .lit (.int .u8 29), .lit (.int .u8 14), .lit (.int .u8 24), .lit (.int .u8 3), .lit (.int .u8 30), .lit (.int .u8 22), .lit (.int .u8 20), .lit (.int .u8 15), .lit (.int .u8 25), .lit (.int .u8 17), .lit (.int .u8 4), .lit (.int .u8 8), .lit (.int .u8 31), .lit (.int .u8 27), .lit (.int .u8 13), .lit (.int .u8 23), .lit (.int .u8 21), .lit (.int .u8 19), .lit (.int .u8 16), .lit (.int .u8 7), .lit (.int .u8 26), .lit (.int .u8 12), .lit (.int .u8 18), .lit (.int .u8 6), .lit (.int .u8 11), .lit (.int .u8 5), .lit (.int .u8 10), .lit (.int .u8 9)]
def laid_math_bits_deBruijn64tab {H : Type} : DataW H := .agg [.lit (.int .u8 0), .lit (.int .u8 1), .lit (.int .u8 56), .lit (.int .u8 2), .lit (.int .u8 57), .lit (.int .u8 49), .lit (.int .u8 28), .lit (.int .u8 3), .lit (.int .u8 61), .lit (.int .u8 58), .lit (.int .u8 42), .lit (.int .u8 50), .lit (.int .u8 38), .lit (.int .u8 29), .lit (.int .u8 17), .lit (.int .u8 4), .lit (.int .u8 62), .lit (.int .u8 47), .lit (.int .u8 59), .lit (.int .u8 36), .lit (.int .u8 45), .lit (.int .u8 43), .lit (.int .u8 51), .lit (.int .u8 22), .lit (.int .u8 53), .lit (.int .u8 39), .lit (.int .u8 33), .lit (.int .u8 30), .lit (.int .u8 24), .lit (.int .u8 18), .lit (.int .u8 12), .lit (.int .u8 5), .lit (.int .u8 63), .lit (.int .u8 55), .lit (.int .u8 48), .lit (.int .u8 27), .lit (.int .u8 60), .lit (.int .u8 41), .lit (.int .u8 37), .lit (.int .u8 16), .lit (.int .u8 46), .lit (.int .u8 35), .lit (.int .u8 44), .lit (.int .u8 21), .lit (.int .u8 52), .lit (.int .u8 32), .lit (.int .u8 23), .lit (.int .u8 11), .lit (.int .u8 54), .lit (.int .u8 26), .lit (.int .u8 40), .lit (.int .u8 15), .lit (.int .u8 34), .lit (.int .u8 20), .lit (.int .u8 31), .lit (.int .u8 10), .lit (.int .u8 25), .lit (.int .u8 14), .lit (.int .u8 19), .lit (.int .u8 9), .lit (.int .u8 13), .lit (.int .u8 8), .lit (.int .u8 7), .lit (.int .u8 6)]
def laid_internal_strconv_uint64pow10 {H : Type} : DataW H := .agg [.lit (.int .u64 1), .lit (.int .u64 10), .lit (.int .u64 100), .lit (.int .u64 1000), .lit (.int .u64 10000), .lit (.int .u64 100000), .lit (.int .u64 1000000), .lit (.int .u64 10000000), .lit (.int .u64 100000000), .lit (.int .u64 1000000000), .lit (.int .u64 10000000000), .lit (.int .u64 100000000000), .lit (.int .u64 1000000000000), .lit (.int .u64 10000000000000), .lit (.int .u64 100000000000000), .lit (.int .u64 1000000000000000), .lit (.int .u64 10000000000000000), .lit (.int .u64 100000000000000000), .lit (.int .u64 1000000000000000000), .lit (.int .u64 10000000000000000000)]
def laid_genlock_code_rates {H : Type} : DataW H := .agg [.lit (.int .i64 24), .lit (.int .i64 25), .lit (.int .i64 30)]
def laid_unicode_utf8_acceptRanges {H : Type} : DataW H := .agg [.agg [.lit (.int .u8 128), .lit (.int .u8 191)], .agg [.lit (.int .u8 160), .lit (.int .u8 191)], .agg [.lit (.int .u8 128), .lit (.int .u8 159)], .agg [.lit (.int .u8 144), .lit (.int .u8 191)], .agg [.lit (.int .u8 128), .lit (.int .u8 143)], .agg [.lit (.int .u8 0), .lit (.int .u8 0)], .agg [.lit (.int .u8 0), .lit (.int .u8 0)], .agg [.lit (.int .u8 0), .lit (.int .u8 0)], .agg [.lit (.int .u8 0), .lit (.int .u8 0)], .agg [.lit (.int .u8 0), .lit (.int .u8 0)], .agg [.lit (.int .u8 0), .lit (.int .u8 0)], .agg [.lit (.int .u8 0), .lit (.int .u8 0)], .agg [.lit (.int .u8 0), .lit (.int .u8 0)], .agg [.lit (.int .u8 0), .lit (.int .u8 0)], .agg [.lit (.int .u8 0), .lit (.int .u8 0)], .agg [.lit (.int .u8 0), .lit (.int .u8 0)]]
/-- One of Go's own tables, pinned by name: the form's constant. -/
def laid_unicode_utf8_first : DataW Unit := Go.Pinned.utf8First
def laid_genlock_schedule_names {H : Type} : DataW H := .agg [.lit (.string [102, 105, 120, 101, 100]), .lit (.string [102, 111, 108, 108, 111, 119, 105, 110, 103]), .lit (.string [109, 97, 110, 117, 97, 108])]

/-- 'genlocklaw07.CodeLabels': WHATEVER THE INPUT: true; the input reads as it did. -/
def codeLabelsSpec : ChangeSpec := { name := "codeLabels", fn := fun _ => fun
  | [d1, d2] => { results := [.lit (.bool true)], args := [d1, d2] }
  | _ => none }
def codeLabelsRow : OpenClaim := { program := "ythhidjfahmcekaagreatdoor", sum := "1d2f546c941867ff24c82f8533b2c66faed8010f83b625dc1978ae3df9424625", func := "genlock/genlocklaw07.CodeLabels", spec := "codeLabels", inPlace := ["internal/abi.NoEscape", "internal/bytealg.MakeNoZero"], unfollowed := true, recurses := true, named := ["genlock/code.rates", "internal/strconv.uint64pow10", "math/bits.deBruijn32tab", "math/bits.deBruijn64tab"], apart := false, laid := [("math/bits.deBruijn32tab", laid_math_bits_deBruijn32tab), ("math/bits.deBruijn64tab", laid_math_bits_deBruijn64tab), ("internal/strconv.uint64pow10", laid_internal_strconv_uint64pow10), ("genlock/code.rates", laid_genlock_code_rates)] }
def CodeLabelsSaid : Prop := codeLabelsRow.holds Tryz.pinned (OpenSpec.ofChange codeLabelsSpec)

/-- ITS FALSE NEIGHBOUR: 'it returns false'. Refute it at one input. -/
def codeLabelsWrong : ChangeSpec := { name := "codeLabels", fn := fun _ => fun
  | [d1, d2] => { results := [.lit (.bool false)], args := [d1, d2] }
  | _ => none }
def CodeLabelsWrongFalsely : Prop := codeLabelsRow.holds Tryz.pinned (OpenSpec.ofChange codeLabelsWrong)

/-- 'genlocklaw07.CodeFrames': WHATEVER THE INPUT: true; the input reads as it did. -/
def codeFramesSpec : ChangeSpec := { name := "codeFrames", fn := fun _ => fun
  | [d1, d2, d3] => { results := [.lit (.bool true)], args := [d1, d2, d3] }
  | _ => none }
def codeFramesRow : OpenClaim := { program := "ythhidjfahmcekaagreatdoor", sum := "1d2f546c941867ff24c82f8533b2c66faed8010f83b625dc1978ae3df9424625", func := "genlock/genlocklaw07.CodeFrames", spec := "codeFrames", inPlace := ["internal/abi.NoEscape", "internal/bytealg.MakeNoZero"], unfollowed := true, recurses := true, named := ["genlock/code.rates", "internal/strconv.uint64pow10", "math/bits.deBruijn32tab", "math/bits.deBruijn64tab"], apart := false, laid := [("math/bits.deBruijn32tab", laid_math_bits_deBruijn32tab), ("math/bits.deBruijn64tab", laid_math_bits_deBruijn64tab), ("internal/strconv.uint64pow10", laid_internal_strconv_uint64pow10), ("genlock/code.rates", laid_genlock_code_rates)] }
def CodeFramesSaid : Prop := codeFramesRow.holds Tryz.pinned (OpenSpec.ofChange codeFramesSpec)

/-- ITS FALSE NEIGHBOUR: 'it returns false'. Refute it at one input. -/
def codeFramesWrong : ChangeSpec := { name := "codeFrames", fn := fun _ => fun
  | [d1, d2, d3] => { results := [.lit (.bool false)], args := [d1, d2, d3] }
  | _ => none }
def CodeFramesWrongFalsely : Prop := codeFramesRow.holds Tryz.pinned (OpenSpec.ofChange codeFramesWrong)

/-- 'genlocklaw07.CodeWords': WHATEVER THE INPUT: true; the input reads as it did. -/
def codeWordsSpec : ChangeSpec := { name := "codeWords", fn := fun _ => fun
  | [d1, d2] => { results := [.lit (.bool true)], args := [d1, d2] }
  | _ => none }
def codeWordsRow : OpenClaim := { program := "ythhidjfahmcekaagreatdoor", sum := "1d2f546c941867ff24c82f8533b2c66faed8010f83b625dc1978ae3df9424625", func := "genlock/genlocklaw07.CodeWords", spec := "codeWords", inPlace := ["internal/abi.NoEscape", "internal/bytealg.MakeNoZero"], unfollowed := true, recurses := true, named := ["genlock/code.rates", "internal/strconv.uint64pow10", "math/bits.deBruijn32tab", "math/bits.deBruijn64tab"], apart := false, laid := [("math/bits.deBruijn32tab", laid_math_bits_deBruijn32tab), ("math/bits.deBruijn64tab", laid_math_bits_deBruijn64tab), ("internal/strconv.uint64pow10", laid_internal_strconv_uint64pow10), ("genlock/code.rates", laid_genlock_code_rates)] }
def CodeWordsSaid : Prop := codeWordsRow.holds Tryz.pinned (OpenSpec.ofChange codeWordsSpec)

/-- ITS FALSE NEIGHBOUR: 'it returns false'. Refute it at one input. -/
def codeWordsWrong : ChangeSpec := { name := "codeWords", fn := fun _ => fun
  | [d1, d2] => { results := [.lit (.bool false)], args := [d1, d2] }
  | _ => none }
def CodeWordsWrongFalsely : Prop := codeWordsRow.holds Tryz.pinned (OpenSpec.ofChange codeWordsWrong)

/-- 'genlocklaw07.CodeCadences': WHATEVER THE INPUT: true; the input reads as it did. -/
def codeCadencesSpec : ChangeSpec := { name := "codeCadences", fn := fun _ => fun
  | [d1, d2, d3] => { results := [.lit (.bool true)], args := [d1, d2, d3] }
  | _ => none }
def codeCadencesRow : OpenClaim := { program := "ythhidjfahmcekaagreatdoor", sum := "1d2f546c941867ff24c82f8533b2c66faed8010f83b625dc1978ae3df9424625", func := "genlock/genlocklaw07.CodeCadences", spec := "codeCadences", inPlace := ["internal/abi.NoEscape", "internal/bytealg.MakeNoZero"], unfollowed := true, recurses := true, named := ["genlock/code.rates", "internal/strconv.uint64pow10", "math/bits.deBruijn32tab", "math/bits.deBruijn64tab"], apart := false, laid := [("math/bits.deBruijn32tab", laid_math_bits_deBruijn32tab), ("math/bits.deBruijn64tab", laid_math_bits_deBruijn64tab), ("internal/strconv.uint64pow10", laid_internal_strconv_uint64pow10), ("genlock/code.rates", laid_genlock_code_rates)] }
def CodeCadencesSaid : Prop := codeCadencesRow.holds Tryz.pinned (OpenSpec.ofChange codeCadencesSpec)

/-- ITS FALSE NEIGHBOUR: 'it returns false'. Refute it at one input. -/
def codeCadencesWrong : ChangeSpec := { name := "codeCadences", fn := fun _ => fun
  | [d1, d2, d3] => { results := [.lit (.bool false)], args := [d1, d2, d3] }
  | _ => none }
def CodeCadencesWrongFalsely : Prop := codeCadencesRow.holds Tryz.pinned (OpenSpec.ofChange codeCadencesWrong)

/-- 'genlocklaw07.CodeBits': WHATEVER THE INPUT: true; the input reads as it did. -/
def codeBitsSpec : ChangeSpec := { name := "codeBits", fn := fun _ => fun
  | [d1, d2] => { results := [.lit (.bool true)], args := [d1, d2] }
  | _ => none }
def codeBitsRow : OpenClaim := { program := "ythhidjfahmcekaagreatdoor", sum := "1d2f546c941867ff24c82f8533b2c66faed8010f83b625dc1978ae3df9424625", func := "genlock/genlocklaw07.CodeBits", spec := "codeBits", inPlace := ["internal/abi.NoEscape", "internal/bytealg.MakeNoZero"], unfollowed := true, recurses := true, named := ["genlock/code.rates", "internal/strconv.uint64pow10", "math/bits.deBruijn32tab", "math/bits.deBruijn64tab"], apart := false, laid := [("math/bits.deBruijn32tab", laid_math_bits_deBruijn32tab), ("math/bits.deBruijn64tab", laid_math_bits_deBruijn64tab), ("internal/strconv.uint64pow10", laid_internal_strconv_uint64pow10), ("genlock/code.rates", laid_genlock_code_rates)] }
def CodeBitsSaid : Prop := codeBitsRow.holds Tryz.pinned (OpenSpec.ofChange codeBitsSpec)

/-- ITS FALSE NEIGHBOUR: 'it returns false'. Refute it at one input. -/
def codeBitsWrong : ChangeSpec := { name := "codeBits", fn := fun _ => fun
  | [d1, d2] => { results := [.lit (.bool false)], args := [d1, d2] }
  | _ => none }
def CodeBitsWrongFalsely : Prop := codeBitsRow.holds Tryz.pinned (OpenSpec.ofChange codeBitsWrong)

/-- 'genlocklaw07.CodeDays': WHATEVER THE INPUT: true; the input reads as it did. -/
def codeDaysSpec : ChangeSpec := { name := "codeDays", fn := fun _ => fun
  | [d1, d2, d3] => { results := [.lit (.bool true)], args := [d1, d2, d3] }
  | _ => none }
def codeDaysRow : OpenClaim := { program := "ythhidjfahmcekaagreatdoor", sum := "1d2f546c941867ff24c82f8533b2c66faed8010f83b625dc1978ae3df9424625", func := "genlock/genlocklaw07.CodeDays", spec := "codeDays", inPlace := ["internal/abi.NoEscape", "internal/bytealg.MakeNoZero"], unfollowed := true, recurses := true, named := ["genlock/code.rates", "internal/strconv.uint64pow10", "math/bits.deBruijn32tab", "math/bits.deBruijn64tab"], apart := false, laid := [("math/bits.deBruijn32tab", laid_math_bits_deBruijn32tab), ("math/bits.deBruijn64tab", laid_math_bits_deBruijn64tab), ("internal/strconv.uint64pow10", laid_internal_strconv_uint64pow10), ("genlock/code.rates", laid_genlock_code_rates)] }
def CodeDaysSaid : Prop := codeDaysRow.holds Tryz.pinned (OpenSpec.ofChange codeDaysSpec)

/-- ITS FALSE NEIGHBOUR: 'it returns false'. Refute it at one input. -/
def codeDaysWrong : ChangeSpec := { name := "codeDays", fn := fun _ => fun
  | [d1, d2, d3] => { results := [.lit (.bool false)], args := [d1, d2, d3] }
  | _ => none }
def CodeDaysWrongFalsely : Prop := codeDaysRow.holds Tryz.pinned (OpenSpec.ofChange codeDaysWrong)

/-- 'genlocklaw07.CodePulls': WHATEVER THE INPUT: true; the input reads as it did. -/
def codePullsSpec : ChangeSpec := { name := "codePulls", fn := fun _ => fun
  | [d1, d2, d3] => { results := [.lit (.bool true)], args := [d1, d2, d3] }
  | _ => none }
def codePullsRow : OpenClaim := { program := "ythhidjfahmcekaagreatdoor", sum := "1d2f546c941867ff24c82f8533b2c66faed8010f83b625dc1978ae3df9424625", func := "genlock/genlocklaw07.CodePulls", spec := "codePulls", inPlace := ["internal/abi.NoEscape", "internal/bytealg.MakeNoZero"], unfollowed := true, recurses := true, named := ["genlock/code.rates", "internal/strconv.uint64pow10", "math/bits.deBruijn32tab", "math/bits.deBruijn64tab"], apart := false, laid := [("math/bits.deBruijn32tab", laid_math_bits_deBruijn32tab), ("math/bits.deBruijn64tab", laid_math_bits_deBruijn64tab), ("internal/strconv.uint64pow10", laid_internal_strconv_uint64pow10), ("genlock/code.rates", laid_genlock_code_rates)] }
def CodePullsSaid : Prop := codePullsRow.holds Tryz.pinned (OpenSpec.ofChange codePullsSpec)

/-- ITS FALSE NEIGHBOUR: 'it returns false'. Refute it at one input. -/
def codePullsWrong : ChangeSpec := { name := "codePulls", fn := fun _ => fun
  | [d1, d2, d3] => { results := [.lit (.bool false)], args := [d1, d2, d3] }
  | _ => none }
def CodePullsWrongFalsely : Prop := codePullsRow.holds Tryz.pinned (OpenSpec.ofChange codePullsWrong)

/-- 'genlocklaw07.CodeCaptions': WHATEVER THE INPUT: true; the input reads as it did. -/
def codeCaptionsSpec : ChangeSpec := { name := "codeCaptions", fn := fun _ => fun
  | [d1, d2, d3] => { results := [.lit (.bool true)], args := [d1, d2, d3] }
  | _ => none }
def codeCaptionsRow : OpenClaim := { program := "ythhidjfahmcekaagreatdoor", sum := "1d2f546c941867ff24c82f8533b2c66faed8010f83b625dc1978ae3df9424625", func := "genlock/genlocklaw07.CodeCaptions", spec := "codeCaptions", inPlace := ["internal/abi.NoEscape", "internal/bytealg.MakeNoZero"], unfollowed := true, recurses := true, named := ["genlock/code.rates", "internal/strconv.uint64pow10", "math/bits.deBruijn32tab", "math/bits.deBruijn64tab"], apart := false, laid := [("math/bits.deBruijn32tab", laid_math_bits_deBruijn32tab), ("math/bits.deBruijn64tab", laid_math_bits_deBruijn64tab), ("internal/strconv.uint64pow10", laid_internal_strconv_uint64pow10), ("genlock/code.rates", laid_genlock_code_rates)] }
def CodeCaptionsSaid : Prop := codeCaptionsRow.holds Tryz.pinned (OpenSpec.ofChange codeCaptionsSpec)

/-- ITS FALSE NEIGHBOUR: 'it returns false'. Refute it at one input. -/
def codeCaptionsWrong : ChangeSpec := { name := "codeCaptions", fn := fun _ => fun
  | [d1, d2, d3] => { results := [.lit (.bool false)], args := [d1, d2, d3] }
  | _ => none }
def CodeCaptionsWrongFalsely : Prop := codeCaptionsRow.holds Tryz.pinned (OpenSpec.ofChange codeCaptionsWrong)

/-- 'genlocklaw07.CodeScreens': WHATEVER THE INPUT: true; the input reads as it did. -/
def codeScreensSpec : ChangeSpec := { name := "codeScreens", fn := fun _ => fun
  | [d1, d2, d3] => { results := [.lit (.bool true)], args := [d1, d2, d3] }
  | _ => none }
def codeScreensRow : OpenClaim := { program := "ythhidjfahmcekaagreatdoor", sum := "1d2f546c941867ff24c82f8533b2c66faed8010f83b625dc1978ae3df9424625", func := "genlock/genlocklaw07.CodeScreens", spec := "codeScreens", inPlace := ["internal/abi.NoEscape", "internal/bytealg.MakeNoZero"], unfollowed := true, recurses := true, named := ["genlock/code.rates", "internal/strconv.uint64pow10", "math/bits.deBruijn32tab", "math/bits.deBruijn64tab"], apart := false, laid := [("math/bits.deBruijn32tab", laid_math_bits_deBruijn32tab), ("math/bits.deBruijn64tab", laid_math_bits_deBruijn64tab), ("internal/strconv.uint64pow10", laid_internal_strconv_uint64pow10), ("genlock/code.rates", laid_genlock_code_rates)] }
def CodeScreensSaid : Prop := codeScreensRow.holds Tryz.pinned (OpenSpec.ofChange codeScreensSpec)

/-- ITS FALSE NEIGHBOUR: 'it returns false'. Refute it at one input. -/
def codeScreensWrong : ChangeSpec := { name := "codeScreens", fn := fun _ => fun
  | [d1, d2, d3] => { results := [.lit (.bool false)], args := [d1, d2, d3] }
  | _ => none }
def CodeScreensWrongFalsely : Prop := codeScreensRow.holds Tryz.pinned (OpenSpec.ofChange codeScreensWrong)

/-- 'genlocklaw07.CodeFinds': WHATEVER THE INPUT: true; the input reads as it did. -/
def codeFindsSpec : ChangeSpec := { name := "codeFinds", fn := fun _ => fun
  | [d1, d2] => { results := [.lit (.bool true)], args := [d1, d2] }
  | _ => none }
def codeFindsRow : OpenClaim := { program := "ythhidjfahmcekaagreatdoor", sum := "1d2f546c941867ff24c82f8533b2c66faed8010f83b625dc1978ae3df9424625", func := "genlock/genlocklaw07.CodeFinds", spec := "codeFinds", inPlace := ["internal/abi.NoEscape", "internal/bytealg.MakeNoZero"], unfollowed := true, recurses := true, named := ["genlock/code.rates", "internal/strconv.uint64pow10", "math/bits.deBruijn32tab", "math/bits.deBruijn64tab"], apart := false, laid := [("math/bits.deBruijn32tab", laid_math_bits_deBruijn32tab), ("math/bits.deBruijn64tab", laid_math_bits_deBruijn64tab), ("internal/strconv.uint64pow10", laid_internal_strconv_uint64pow10), ("genlock/code.rates", laid_genlock_code_rates)] }
def CodeFindsSaid : Prop := codeFindsRow.holds Tryz.pinned (OpenSpec.ofChange codeFindsSpec)

/-- ITS FALSE NEIGHBOUR: 'it returns false'. Refute it at one input. -/
def codeFindsWrong : ChangeSpec := { name := "codeFinds", fn := fun _ => fun
  | [d1, d2] => { results := [.lit (.bool false)], args := [d1, d2] }
  | _ => none }
def CodeFindsWrongFalsely : Prop := codeFindsRow.holds Tryz.pinned (OpenSpec.ofChange codeFindsWrong)

/-- 'genlocklaw07.CodeFound': WHATEVER THE INPUT: true; the input reads as it did. -/
def codeFoundSpec : ChangeSpec := { name := "codeFound", fn := fun _ => fun
  | [d1, d2, d3] => { results := [.lit (.bool true)], args := [d1, d2, d3] }
  | _ => none }
def codeFoundRow : OpenClaim := { program := "ythhidjfahmcekaagreatdoor", sum := "1d2f546c941867ff24c82f8533b2c66faed8010f83b625dc1978ae3df9424625", func := "genlock/genlocklaw07.CodeFound", spec := "codeFound", inPlace := ["internal/abi.NoEscape", "internal/bytealg.MakeNoZero"], unfollowed := true, recurses := true, named := ["genlock/code.rates", "internal/strconv.uint64pow10", "math/bits.deBruijn32tab", "math/bits.deBruijn64tab"], apart := false, laid := [("math/bits.deBruijn32tab", laid_math_bits_deBruijn32tab), ("math/bits.deBruijn64tab", laid_math_bits_deBruijn64tab), ("internal/strconv.uint64pow10", laid_internal_strconv_uint64pow10), ("genlock/code.rates", laid_genlock_code_rates)] }
def CodeFoundSaid : Prop := codeFoundRow.holds Tryz.pinned (OpenSpec.ofChange codeFoundSpec)

/-- ITS FALSE NEIGHBOUR: 'it returns false'. Refute it at one input. -/
def codeFoundWrong : ChangeSpec := { name := "codeFound", fn := fun _ => fun
  | [d1, d2, d3] => { results := [.lit (.bool false)], args := [d1, d2, d3] }
  | _ => none }
def CodeFoundWrongFalsely : Prop := codeFoundRow.holds Tryz.pinned (OpenSpec.ofChange codeFoundWrong)

/-- 'genlocklaw07.CodeTexts': WHATEVER THE INPUT: true; the input reads as it did. -/
def codeTextsSpec : ChangeSpec := { name := "codeTexts", fn := fun _ => fun
  | [d1, d2] => { results := [.lit (.bool true)], args := [d1, d2] }
  | _ => none }
def codeTextsRow : OpenClaim := { program := "ythhidjfahmcekaagreatdoor", sum := "1d2f546c941867ff24c82f8533b2c66faed8010f83b625dc1978ae3df9424625", func := "genlock/genlocklaw07.CodeTexts", spec := "codeTexts", inPlace := ["internal/abi.NoEscape", "internal/bytealg.MakeNoZero", "internal/bytealg.CountString", "internal/bytealg.IndexByteString", "internal/bytealg.IndexString"], unfollowed := true, recurses := true, named := ["genlock/code.rates", "internal/strconv.uint64pow10", "math/bits.deBruijn32tab", "math/bits.deBruijn64tab", "unicode/utf8.first", "unicode/utf8.acceptRanges", "internal/bytealg.MaxLen"], apart := false, laid := [("math/bits.deBruijn32tab", laid_math_bits_deBruijn32tab), ("math/bits.deBruijn64tab", laid_math_bits_deBruijn64tab), ("internal/strconv.uint64pow10", laid_internal_strconv_uint64pow10), ("unicode/utf8.acceptRanges", laid_unicode_utf8_acceptRanges), ("genlock/code.rates", laid_genlock_code_rates), ("unicode/utf8.first", laid_unicode_utf8_first)] }
def CodeTextsSaid : Prop := codeTextsRow.holds Tryz.pinned (OpenSpec.ofChange codeTextsSpec)

/-- ITS FALSE NEIGHBOUR: 'it returns false'. Refute it at one input. -/
def codeTextsWrong : ChangeSpec := { name := "codeTexts", fn := fun _ => fun
  | [d1, d2] => { results := [.lit (.bool false)], args := [d1, d2] }
  | _ => none }
def CodeTextsWrongFalsely : Prop := codeTextsRow.holds Tryz.pinned (OpenSpec.ofChange codeTextsWrong)

/-- 'genlocklaw07.CodeBack': WHATEVER THE INPUT: true; the input reads as it did. -/
def codeBackSpec : ChangeSpec := { name := "codeBack", fn := fun _ => fun
  | [d1, d2, d3] => { results := [.lit (.bool true)], args := [d1, d2, d3] }
  | _ => none }
def codeBackRow : OpenClaim := { program := "ythhidjfahmcekaagreatdoor", sum := "1d2f546c941867ff24c82f8533b2c66faed8010f83b625dc1978ae3df9424625", func := "genlock/genlocklaw07.CodeBack", spec := "codeBack", inPlace := ["internal/abi.NoEscape", "internal/bytealg.MakeNoZero", "internal/bytealg.CountString", "internal/bytealg.IndexByteString", "internal/bytealg.IndexString"], unfollowed := true, recurses := true, named := ["genlock/code.rates", "internal/strconv.uint64pow10", "math/bits.deBruijn32tab", "math/bits.deBruijn64tab", "unicode/utf8.first", "unicode/utf8.acceptRanges", "internal/bytealg.MaxLen"], apart := false, laid := [("math/bits.deBruijn32tab", laid_math_bits_deBruijn32tab), ("math/bits.deBruijn64tab", laid_math_bits_deBruijn64tab), ("internal/strconv.uint64pow10", laid_internal_strconv_uint64pow10), ("unicode/utf8.acceptRanges", laid_unicode_utf8_acceptRanges), ("genlock/code.rates", laid_genlock_code_rates), ("unicode/utf8.first", laid_unicode_utf8_first)] }
def CodeBackSaid : Prop := codeBackRow.holds Tryz.pinned (OpenSpec.ofChange codeBackSpec)

/-- ITS FALSE NEIGHBOUR: 'it returns false'. Refute it at one input. -/
def codeBackWrong : ChangeSpec := { name := "codeBack", fn := fun _ => fun
  | [d1, d2, d3] => { results := [.lit (.bool false)], args := [d1, d2, d3] }
  | _ => none }
def CodeBackWrongFalsely : Prop := codeBackRow.holds Tryz.pinned (OpenSpec.ofChange codeBackWrong)

/-- 'genlocktop.TopCraneTitled': WHATEVER THE INPUT: true; the input reads as it did. -/
def topCraneTitledSpec : ChangeSpec := { name := "topCraneTitled", fn := fun _ => fun
  | [d1, d2, d3] => { results := [.lit (.bool true)], args := [d1, d2, d3] }
  | _ => none }
def topCraneTitledRow : OpenClaim := { program := "ythhidjfahmcekaagreatdoor", sum := "1d2f546c941867ff24c82f8533b2c66faed8010f83b625dc1978ae3df9424625", func := "genlock/genlocktop.TopCraneTitled", spec := "topCraneTitled", unfollowed := true, recurses := true, named := ["genlock/schedule.names", "genlock/code.rates"], apart := false, laid := [("genlock/code.rates", laid_genlock_code_rates), ("genlock/schedule.names", laid_genlock_schedule_names)] }
def TopCraneTitledSaid : Prop := topCraneTitledRow.holds Tryz.pinned (OpenSpec.ofChange topCraneTitledSpec)

/-- ITS FALSE NEIGHBOUR: 'it returns false'. Refute it at one input. -/
def topCraneTitledWrong : ChangeSpec := { name := "topCraneTitled", fn := fun _ => fun
  | [d1, d2, d3] => { results := [.lit (.bool false)], args := [d1, d2, d3] }
  | _ => none }
def TopCraneTitledWrongFalsely : Prop := topCraneTitledRow.holds Tryz.pinned (OpenSpec.ofChange topCraneTitledWrong)

/- THE SECOND FORM. 'bulk': how many values and letters a reading holds, each counted each time it is reached (what is shared counts as often as it is met; a slice's spare places count too). A statement '..UptoSaid' is the law's where the arguments, and the package variables that the reading takes, are together of bulk at most 1048576: NARROWER than '..Said'. Prove '..Said' where nothing that the law and all that it calls make is longer than what came in: it says more and counts as full. Else prove '..UptoSaid'. A law counts once. -/
mutual
def uptoBulk {H : Type} : DataW H → Nat
  | .lit (.string bytes) => bytes.length + 1
  | .lit _ => 1
  | .nil => 1
  | .ptr d => uptoBulk d + 1
  | .slice elems spare => uptoBulkAll elems + uptoBulkAll spare + 1
  | .agg parts => uptoBulkAll parts + 1
  | .iface _ d => uptoBulk d + 1
  | .map entries => uptoBulkEntries entries + 1
  | .held _ => 1
def uptoBulkAll {H : Type} : List (DataW H) → Nat
  | [] => 0
  | d :: r => uptoBulk d + uptoBulkAll r
def uptoBulkEntries {H : Type} : List (Lit × DataW H) → Nat
  | [] => 0
  | x :: r => uptoBulkEntry x + uptoBulkEntries r
def uptoBulkEntry {H : Type} : Lit × DataW H → Nat
  | (.string bytes, d) => bytes.length + uptoBulk d + 1
  | (_, d) => uptoBulk d + 1
 end
def uptoSmall : (H : Type) → List (DataW H) → Bool := fun _ ds => decide (uptoBulkAll ds ≤ 1048576)
def OpenSpec.upto (s : _root_.Go.ChangeSpec) : _root_.Go.OpenSpec := { _root_.Go.OpenSpec.ofChange s with cond := some uptoSmall }

/-- 'genlocklaw07.CodeLabels', WHERE WHAT IT READS IS OF BULK AT MOST 1048576: true; the input reads as it did. -/
def codeLabelsUptoRow : OpenClaim := { program := "ythhidjfahmcekaagreatdoor", sum := "1d2f546c941867ff24c82f8533b2c66faed8010f83b625dc1978ae3df9424625", func := "genlock/genlocklaw07.CodeLabels", spec := "codeLabels", inPlace := ["internal/abi.NoEscape", "internal/bytealg.MakeNoZero"], unfollowed := true, recurses := true, named := ["genlock/code.rates", "internal/strconv.uint64pow10", "math/bits.deBruijn32tab", "math/bits.deBruijn64tab"], apart := false, laid := [("math/bits.deBruijn32tab", laid_math_bits_deBruijn32tab), ("math/bits.deBruijn64tab", laid_math_bits_deBruijn64tab), ("internal/strconv.uint64pow10", laid_internal_strconv_uint64pow10), ("genlock/code.rates", laid_genlock_code_rates)], narrowed := true }
def CodeLabelsUptoSaid : Prop := codeLabelsUptoRow.holds Tryz.pinned (OpenSpec.upto codeLabelsSpec)

/-- 'genlocklaw07.CodeFrames', WHERE WHAT IT READS IS OF BULK AT MOST 1048576: true; the input reads as it did. -/
def codeFramesUptoRow : OpenClaim := { program := "ythhidjfahmcekaagreatdoor", sum := "1d2f546c941867ff24c82f8533b2c66faed8010f83b625dc1978ae3df9424625", func := "genlock/genlocklaw07.CodeFrames", spec := "codeFrames", inPlace := ["internal/abi.NoEscape", "internal/bytealg.MakeNoZero"], unfollowed := true, recurses := true, named := ["genlock/code.rates", "internal/strconv.uint64pow10", "math/bits.deBruijn32tab", "math/bits.deBruijn64tab"], apart := false, laid := [("math/bits.deBruijn32tab", laid_math_bits_deBruijn32tab), ("math/bits.deBruijn64tab", laid_math_bits_deBruijn64tab), ("internal/strconv.uint64pow10", laid_internal_strconv_uint64pow10), ("genlock/code.rates", laid_genlock_code_rates)], narrowed := true }
def CodeFramesUptoSaid : Prop := codeFramesUptoRow.holds Tryz.pinned (OpenSpec.upto codeFramesSpec)

/-- 'genlocklaw07.CodeWords', WHERE WHAT IT READS IS OF BULK AT MOST 1048576: true; the input reads as it did. -/
def codeWordsUptoRow : OpenClaim := { program := "ythhidjfahmcekaagreatdoor", sum := "1d2f546c941867ff24c82f8533b2c66faed8010f83b625dc1978ae3df9424625", func := "genlock/genlocklaw07.CodeWords", spec := "codeWords", inPlace := ["internal/abi.NoEscape", "internal/bytealg.MakeNoZero"], unfollowed := true, recurses := true, named := ["genlock/code.rates", "internal/strconv.uint64pow10", "math/bits.deBruijn32tab", "math/bits.deBruijn64tab"], apart := false, laid := [("math/bits.deBruijn32tab", laid_math_bits_deBruijn32tab), ("math/bits.deBruijn64tab", laid_math_bits_deBruijn64tab), ("internal/strconv.uint64pow10", laid_internal_strconv_uint64pow10), ("genlock/code.rates", laid_genlock_code_rates)], narrowed := true }
def CodeWordsUptoSaid : Prop := codeWordsUptoRow.holds Tryz.pinned (OpenSpec.upto codeWordsSpec)

/-- 'genlocklaw07.CodeCadences', WHERE WHAT IT READS IS OF BULK AT MOST 1048576: true; the input reads as it did. -/
def codeCadencesUptoRow : OpenClaim := { program := "ythhidjfahmcekaagreatdoor", sum := "1d2f546c941867ff24c82f8533b2c66faed8010f83b625dc1978ae3df9424625", func := "genlock/genlocklaw07.CodeCadences", spec := "codeCadences", inPlace := ["internal/abi.NoEscape", "internal/bytealg.MakeNoZero"], unfollowed := true, recurses := true, named := ["genlock/code.rates", "internal/strconv.uint64pow10", "math/bits.deBruijn32tab", "math/bits.deBruijn64tab"], apart := false, laid := [("math/bits.deBruijn32tab", laid_math_bits_deBruijn32tab), ("math/bits.deBruijn64tab", laid_math_bits_deBruijn64tab), ("internal/strconv.uint64pow10", laid_internal_strconv_uint64pow10), ("genlock/code.rates", laid_genlock_code_rates)], narrowed := true }
def CodeCadencesUptoSaid : Prop := codeCadencesUptoRow.holds Tryz.pinned (OpenSpec.upto codeCadencesSpec)

/-- 'genlocklaw07.CodeBits', WHERE WHAT IT READS IS OF BULK AT MOST 1048576: true; the input reads as it did. -/
def codeBitsUptoRow : OpenClaim := { program := "ythhidjfahmcekaagreatdoor", sum := "1d2f546c941867ff24c82f8533b2c66faed8010f83b625dc1978ae3df9424625", func := "genlock/genlocklaw07.CodeBits", spec := "codeBits", inPlace := ["internal/abi.NoEscape", "internal/bytealg.MakeNoZero"], unfollowed := true, recurses := true, named := ["genlock/code.rates", "internal/strconv.uint64pow10", "math/bits.deBruijn32tab", "math/bits.deBruijn64tab"], apart := false, laid := [("math/bits.deBruijn32tab", laid_math_bits_deBruijn32tab), ("math/bits.deBruijn64tab", laid_math_bits_deBruijn64tab), ("internal/strconv.uint64pow10", laid_internal_strconv_uint64pow10), ("genlock/code.rates", laid_genlock_code_rates)], narrowed := true }
def CodeBitsUptoSaid : Prop := codeBitsUptoRow.holds Tryz.pinned (OpenSpec.upto codeBitsSpec)

/-- 'genlocklaw07.CodeDays', WHERE WHAT IT READS IS OF BULK AT MOST 1048576: true; the input reads as it did. -/
def codeDaysUptoRow : OpenClaim := { program := "ythhidjfahmcekaagreatdoor", sum := "1d2f546c941867ff24c82f8533b2c66faed8010f83b625dc1978ae3df9424625", func := "genlock/genlocklaw07.CodeDays", spec := "codeDays", inPlace := ["internal/abi.NoEscape", "internal/bytealg.MakeNoZero"], unfollowed := true, recurses := true, named := ["genlock/code.rates", "internal/strconv.uint64pow10", "math/bits.deBruijn32tab", "math/bits.deBruijn64tab"], apart := false, laid := [("math/bits.deBruijn32tab", laid_math_bits_deBruijn32tab), ("math/bits.deBruijn64tab", laid_math_bits_deBruijn64tab), ("internal/strconv.uint64pow10", laid_internal_strconv_uint64pow10), ("genlock/code.rates", laid_genlock_code_rates)], narrowed := true }
def CodeDaysUptoSaid : Prop := codeDaysUptoRow.holds Tryz.pinned (OpenSpec.upto codeDaysSpec)

/-- 'genlocklaw07.CodePulls', WHERE WHAT IT READS IS OF BULK AT MOST 1048576: true; the input reads as it did. -/
def codePullsUptoRow : OpenClaim := { program := "ythhidjfahmcekaagreatdoor", sum := "1d2f546c941867ff24c82f8533b2c66faed8010f83b625dc1978ae3df9424625", func := "genlock/genlocklaw07.CodePulls", spec := "codePulls", inPlace := ["internal/abi.NoEscape", "internal/bytealg.MakeNoZero"], unfollowed := true, recurses := true, named := ["genlock/code.rates", "internal/strconv.uint64pow10", "math/bits.deBruijn32tab", "math/bits.deBruijn64tab"], apart := false, laid := [("math/bits.deBruijn32tab", laid_math_bits_deBruijn32tab), ("math/bits.deBruijn64tab", laid_math_bits_deBruijn64tab), ("internal/strconv.uint64pow10", laid_internal_strconv_uint64pow10), ("genlock/code.rates", laid_genlock_code_rates)], narrowed := true }
def CodePullsUptoSaid : Prop := codePullsUptoRow.holds Tryz.pinned (OpenSpec.upto codePullsSpec)

/-- 'genlocklaw07.CodeCaptions', WHERE WHAT IT READS IS OF BULK AT MOST 1048576: true; the input reads as it did. -/
def codeCaptionsUptoRow : OpenClaim := { program := "ythhidjfahmcekaagreatdoor", sum := "1d2f546c941867ff24c82f8533b2c66faed8010f83b625dc1978ae3df9424625", func := "genlock/genlocklaw07.CodeCaptions", spec := "codeCaptions", inPlace := ["internal/abi.NoEscape", "internal/bytealg.MakeNoZero"], unfollowed := true, recurses := true, named := ["genlock/code.rates", "internal/strconv.uint64pow10", "math/bits.deBruijn32tab", "math/bits.deBruijn64tab"], apart := false, laid := [("math/bits.deBruijn32tab", laid_math_bits_deBruijn32tab), ("math/bits.deBruijn64tab", laid_math_bits_deBruijn64tab), ("internal/strconv.uint64pow10", laid_internal_strconv_uint64pow10), ("genlock/code.rates", laid_genlock_code_rates)], narrowed := true }
def CodeCaptionsUptoSaid : Prop := codeCaptionsUptoRow.holds Tryz.pinned (OpenSpec.upto codeCaptionsSpec)

/-- 'genlocklaw07.CodeScreens', WHERE WHAT IT READS IS OF BULK AT MOST 1048576: true; the input reads as it did. -/
def codeScreensUptoRow : OpenClaim := { program := "ythhidjfahmcekaagreatdoor", sum := "1d2f546c941867ff24c82f8533b2c66faed8010f83b625dc1978ae3df9424625", func := "genlock/genlocklaw07.CodeScreens", spec := "codeScreens", inPlace := ["internal/abi.NoEscape", "internal/bytealg.MakeNoZero"], unfollowed := true, recurses := true, named := ["genlock/code.rates", "internal/strconv.uint64pow10", "math/bits.deBruijn32tab", "math/bits.deBruijn64tab"], apart := false, laid := [("math/bits.deBruijn32tab", laid_math_bits_deBruijn32tab), ("math/bits.deBruijn64tab", laid_math_bits_deBruijn64tab), ("internal/strconv.uint64pow10", laid_internal_strconv_uint64pow10), ("genlock/code.rates", laid_genlock_code_rates)], narrowed := true }
def CodeScreensUptoSaid : Prop := codeScreensUptoRow.holds Tryz.pinned (OpenSpec.upto codeScreensSpec)

/-- 'genlocklaw07.CodeFinds', WHERE WHAT IT READS IS OF BULK AT MOST 1048576: true; the input reads as it did. -/
def codeFindsUptoRow : OpenClaim := { program := "ythhidjfahmcekaagreatdoor", sum := "1d2f546c941867ff24c82f8533b2c66faed8010f83b625dc1978ae3df9424625", func := "genlock/genlocklaw07.CodeFinds", spec := "codeFinds", inPlace := ["internal/abi.NoEscape", "internal/bytealg.MakeNoZero"], unfollowed := true, recurses := true, named := ["genlock/code.rates", "internal/strconv.uint64pow10", "math/bits.deBruijn32tab", "math/bits.deBruijn64tab"], apart := false, laid := [("math/bits.deBruijn32tab", laid_math_bits_deBruijn32tab), ("math/bits.deBruijn64tab", laid_math_bits_deBruijn64tab), ("internal/strconv.uint64pow10", laid_internal_strconv_uint64pow10), ("genlock/code.rates", laid_genlock_code_rates)], narrowed := true }
def CodeFindsUptoSaid : Prop := codeFindsUptoRow.holds Tryz.pinned (OpenSpec.upto codeFindsSpec)

/-- 'genlocklaw07.CodeFound', WHERE WHAT IT READS IS OF BULK AT MOST 1048576: true; the input reads as it did. -/
def codeFoundUptoRow : OpenClaim := { program := "ythhidjfahmcekaagreatdoor", sum := "1d2f546c941867ff24c82f8533b2c66faed8010f83b625dc1978ae3df9424625", func := "genlock/genlocklaw07.CodeFound", spec := "codeFound", inPlace := ["internal/abi.NoEscape", "internal/bytealg.MakeNoZero"], unfollowed := true, recurses := true, named := ["genlock/code.rates", "internal/strconv.uint64pow10", "math/bits.deBruijn32tab", "math/bits.deBruijn64tab"], apart := false, laid := [("math/bits.deBruijn32tab", laid_math_bits_deBruijn32tab), ("math/bits.deBruijn64tab", laid_math_bits_deBruijn64tab), ("internal/strconv.uint64pow10", laid_internal_strconv_uint64pow10), ("genlock/code.rates", laid_genlock_code_rates)], narrowed := true }
def CodeFoundUptoSaid : Prop := codeFoundUptoRow.holds Tryz.pinned (OpenSpec.upto codeFoundSpec)

/-- 'genlocklaw07.CodeTexts', WHERE WHAT IT READS IS OF BULK AT MOST 1048576: true; the input reads as it did. -/
def codeTextsUptoRow : OpenClaim := { program := "ythhidjfahmcekaagreatdoor", sum := "1d2f546c941867ff24c82f8533b2c66faed8010f83b625dc1978ae3df9424625", func := "genlock/genlocklaw07.CodeTexts", spec := "codeTexts", inPlace := ["internal/abi.NoEscape", "internal/bytealg.MakeNoZero", "internal/bytealg.CountString", "internal/bytealg.IndexByteString", "internal/bytealg.IndexString"], unfollowed := true, recurses := true, named := ["genlock/code.rates", "internal/strconv.uint64pow10", "math/bits.deBruijn32tab", "math/bits.deBruijn64tab", "unicode/utf8.first", "unicode/utf8.acceptRanges", "internal/bytealg.MaxLen"], apart := false, laid := [("math/bits.deBruijn32tab", laid_math_bits_deBruijn32tab), ("math/bits.deBruijn64tab", laid_math_bits_deBruijn64tab), ("internal/strconv.uint64pow10", laid_internal_strconv_uint64pow10), ("unicode/utf8.acceptRanges", laid_unicode_utf8_acceptRanges), ("genlock/code.rates", laid_genlock_code_rates), ("unicode/utf8.first", laid_unicode_utf8_first)], narrowed := true }
def CodeTextsUptoSaid : Prop := codeTextsUptoRow.holds Tryz.pinned (OpenSpec.upto codeTextsSpec)

/-- 'genlocklaw07.CodeBack', WHERE WHAT IT READS IS OF BULK AT MOST 1048576: true; the input reads as it did. -/
def codeBackUptoRow : OpenClaim := { program := "ythhidjfahmcekaagreatdoor", sum := "1d2f546c941867ff24c82f8533b2c66faed8010f83b625dc1978ae3df9424625", func := "genlock/genlocklaw07.CodeBack", spec := "codeBack", inPlace := ["internal/abi.NoEscape", "internal/bytealg.MakeNoZero", "internal/bytealg.CountString", "internal/bytealg.IndexByteString", "internal/bytealg.IndexString"], unfollowed := true, recurses := true, named := ["genlock/code.rates", "internal/strconv.uint64pow10", "math/bits.deBruijn32tab", "math/bits.deBruijn64tab", "unicode/utf8.first", "unicode/utf8.acceptRanges", "internal/bytealg.MaxLen"], apart := false, laid := [("math/bits.deBruijn32tab", laid_math_bits_deBruijn32tab), ("math/bits.deBruijn64tab", laid_math_bits_deBruijn64tab), ("internal/strconv.uint64pow10", laid_internal_strconv_uint64pow10), ("unicode/utf8.acceptRanges", laid_unicode_utf8_acceptRanges), ("genlock/code.rates", laid_genlock_code_rates), ("unicode/utf8.first", laid_unicode_utf8_first)], narrowed := true }
def CodeBackUptoSaid : Prop := codeBackUptoRow.holds Tryz.pinned (OpenSpec.upto codeBackSpec)

/-- 'genlocktop.TopCraneTitled', WHERE WHAT IT READS IS OF BULK AT MOST 1048576: true; the input reads as it did. -/
def topCraneTitledUptoRow : OpenClaim := { program := "ythhidjfahmcekaagreatdoor", sum := "1d2f546c941867ff24c82f8533b2c66faed8010f83b625dc1978ae3df9424625", func := "genlock/genlocktop.TopCraneTitled", spec := "topCraneTitled", unfollowed := true, recurses := true, named := ["genlock/schedule.names", "genlock/code.rates"], apart := false, laid := [("genlock/code.rates", laid_genlock_code_rates), ("genlock/schedule.names", laid_genlock_schedule_names)], narrowed := true }
def TopCraneTitledUptoSaid : Prop := topCraneTitledUptoRow.holds Tryz.pinned (OpenSpec.upto topCraneTitledSpec)

end Rows
end Go.Proofs.YthhidjfahmcekaaGreatDoor
