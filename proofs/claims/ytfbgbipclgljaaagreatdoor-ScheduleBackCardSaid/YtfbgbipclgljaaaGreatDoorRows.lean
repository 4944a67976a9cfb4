/-
  NARROWER THAN 'FOR EVERY INPUT', by the rows' own cells (each row's printed sentence says how): ScheduleTimes: laid · ScheduleRights: laid · SchedulePrices: laid · SchedulePlaces: laid · ScheduleAir: laid · ScheduleBreaks: laid · ScheduleBest: laid · ScheduleChanges: laid · ScheduleRundowns: laid · ScheduleTexts: laid · ScheduleBack: laid · ScheduleFilled: laid · ScheduleLate: laid · ScheduleMoves: laid.
  DERIVED. THE GIVEN ROWS OF THIS SEAT. 14 by the template 'for every input the law returns true; each argument reads behind the call as it read before'; 0 by the template 'total and deterministic' (their statements: YtfbgbipclgljaaaGreatDoorTotals.lean).
  GIVEN WITH THE SEED: the statements are not yours to turn. If you find one false, say at which input.
  Laid BY PROGRAM, IN A SANDBOX (cutbox-rows.mjs): the forced cells as the released guide's own fill.sh prints them over the translation 989b43c1a66c02a7… (all of the seat's roots in one cut). By AI agents, Wed Nov 11 2026. No macro, syntax, notation, axiom, sorry.
-/
import Derived.Test.YtfbgbipclgljaaaGreatDoorChecked
import GoSem.PinnedTables
import GoSem.Claim
import GoSem.ClaimJoined
import GoSem.ClaimMapViews
import Derived.JoinedTies
import Derived.KernelRfl
namespace Go.Proofs.YtfbgbipclgljaaaGreatDoor
/- THE CELL 'sum', in the pinned program and in every row, IS THE sha256 OF THE DUMP (.gsa) THAT YtfbgbipclgljaaaGreatDoorProg.lean LOADS. Nothing in Lean hashes anything: it is a label: what it is worth is what the hold of that sum in a sandbox is worth. -/
noncomputable def Tryz.pinned : Pinned := { name := "ytfbgbipclgljaaagreatdoor", sum := "989b43c1a66c02a75c2e2916eb0d6a12a9fb06bc42441abca56c71aba8cb7685", checked := Tryz.checked }
namespace Rows
def none {H : Type} : Left H := { results := [], args := [] }

/- WHAT THE LISTED PACKAGE-LEVEL VARIABLES READ AS WHEN THE CALL BEGINS. Each datum BY PROGRAM (the guide's laid-datum.mjs) off the statement by which the dump's own 'gosem.cut.vars' lays the variable. In a bare row this is a premise. The card (YtfbgbipclgljaaaGreatDoorCards.lean) ties it to the program's text. -/
def laid_math_bits_deBruijn32tab {H : Type} : DataW H := .agg [.lit (.int .u8 0), .lit (.int .u8 1), .lit (.int .u8 28), .lit (.int .u8 2), .lit (.int .u8 29), .lit (.int .u8 14), .lit (.int .u8 24), .lit (.int .u8 3), .lit (.int .u8 30), .lit (.int .u8 22), .lit (.int .u8 20), .lit (.int .u8 15), .lit (.int .u8 25), .lit (.int .u8 17), .lit (.int .u8 4), .lit (.int .u8 8), .lit (.int .u8 31), .lit (.int .u8 27), .lit (.int .u8 13), .lit (.int .u8 23), .lit (.int .u8 21), .lit (.int .u8 19), .lit (.int .u8 16), .lit (.int .u8 7), .lit (.int .u8 26), .lit (.int .u8 12), .lit (.int .u8 18), .lit (.int .u8 6), .lit (.int .u8 11), .lit (.int .u8 5), .lit (.int .u8 10), .lit (.int .u8 9)]
def laid_math_bits_deBruijn64tab {H : Type} : DataW H := .agg [.lit (.int .u8 0), .lit (.int .u8 1), .lit (.int .u8 56), .lit (.int .u8 2), .lit (.int .u8 57), .lit (.int .u8 49), .lit (.int .u8 28), .lit (.int .u8 3), .lit (.int .u8 61), .lit (.int .u8 58), .lit (.int .u8 42), .lit (.int .u8 50), .lit (.int .u8 38), .lit (.int .u8 29), .lit (.int .u8 17), .lit (.int .u8 4), .lit (.int .u8 62), .lit (.int .u8 47), .lit (.int .u8 59), .lit (.int .u8 36), .lit (.int .u8 45), .lit (.int .u8 43), .lit (.int .u8 51), .lit (.int .u8 22), .lit (.int .u8 53), .lit (.int .u8 39), .lit (.int .u8 33), .lit (.int .u8 30), .lit (.int .u8 24), .lit (.int .u8 18), .lit (.int .u8 12), .lit (.int .u8 5), .lit (.int .u8 63), .lit (.int .u8 55), .lit (.int .u8 48), .lit (.int .u8 27), .lit (.int .u8 60), .lit (.int .u8 41), .lit (.int .u8 37), .lit (.int .u8 16), .lit (.int .u8 46), .lit (.int .u8 35), .lit (.int .u8 44), .lit (.int .u8 21), .lit (.int .u8 52), .lit (.int .u8 32), .lit (.int .u8 23), .lit (.int .u8 11), .lit (.int .u8 54), .lit (.int .u8 26), .lit (.int .u8 40), .lit (.int .u8 15), .lit (.int .u8 34), .lit (.int .u8 20), .lit (.int .u8 31), .lit (.int .u8 10), .lit (.int .u8 25), .lit (.int .u8 14), .lit (.int .u8 19), .lit (.int .u8 9), .lit (.int .u8 13), .lit (.int .u8 8), .lit (.int .u8 7), .lit (.int .u8 6)]
def laid_internal_strconv_uint64pow10 {H : Type} : DataW H := .agg [.lit (.int .u64 1), .lit (.int .u64 10), .lit (.int .u64 100), .lit (.int .u64 1000), .lit (.int .u64 10000), .lit (.int .u64 100000), .lit (.int .u64 1000000), .lit (.int .u64 10000000), .lit (.int .u64 100000000), .lit (.int .u64 1000000000), .lit (.int .u64 10000000000), .lit (.int .u64 100000000000), .lit (.int .u64 1000000000000), .lit (.int .u64 10000000000000), .lit (.int .u64 100000000000000), .lit (.int .u64 1000000000000000), .lit (.int .u64 10000000000000000), .lit (.int .u64 100000000000000000), .lit (.int .u64 1000000000000000000), .lit (.int .u64 10000000000000000000)]
def laid_genlock_schedule_names {H : Type} : DataW H := .agg [.lit (.string [102, 105, 120, 101, 100]), .lit (.string [102, 111, 108, 108, 111, 119, 105, 110, 103]), .lit (.string [109, 97, 110, 117, 97, 108])]
def laid_unicode_utf8_acceptRanges {H : Type} : DataW H := .agg [.agg [.lit (.int .u8 128), .lit (.int .u8 191)], .agg [.lit (.int .u8 160), .lit (.int .u8 191)], .agg [.lit (.int .u8 128), .lit (.int .u8 159)], .agg [.lit (.int .u8 144), .lit (.int .u8 191)], .agg [.lit (.int .u8 128), .lit (.int .u8 143)], .agg [.lit (.int .u8 0), .lit (.int .u8 0)], .agg [.lit (.int .u8 0), .lit (.int .u8 0)], .agg [.lit (.int .u8 0), .lit (.int .u8 0)], .agg [.lit (.int .u8 0), .lit (.int .u8 0)], .agg [.lit (.int .u8 0), .lit (.int .u8 0)], .agg [.lit (.int .u8 0), .lit (.int .u8 0)], .agg [.lit (.int .u8 0), .lit (.int .u8 0)], .agg [.lit (.int .u8 0), .lit (.int .u8 0)], .agg [.lit (.int .u8 0), .lit (.int .u8 0)], .agg [.lit (.int .u8 0), .lit (.int .u8 0)], .agg [.lit (.int .u8 0), .lit (.int .u8 0)]]
/-- One of Go's own tables, pinned by name: the form's constant. -/
def laid_unicode_utf8_first : DataW Unit := Go.Pinned.utf8First

/-- 'genlocklaw09.ScheduleTimes': WHATEVER THE INPUT: true; the input reads as it did. -/
def scheduleTimesSpec : ChangeSpec := { name := "scheduleTimes", fn := fun _ => fun
  | [d1, d2] => { results := [.lit (.bool true)], args := [d1, d2] }
  | _ => none }
def scheduleTimesRow : OpenClaim := { program := "ytfbgbipclgljaaagreatdoor", sum := "989b43c1a66c02a75c2e2916eb0d6a12a9fb06bc42441abca56c71aba8cb7685", func := "genlock/genlocklaw09.ScheduleTimes", spec := "scheduleTimes", inPlace := ["internal/abi.NoEscape", "internal/bytealg.MakeNoZero"], unfollowed := true, recurses := true, named := ["genlock/schedule.names", "internal/strconv.uint64pow10", "math/bits.deBruijn32tab", "math/bits.deBruijn64tab"], apart := false, laid := [("math/bits.deBruijn32tab", laid_math_bits_deBruijn32tab), ("math/bits.deBruijn64tab", laid_math_bits_deBruijn64tab), ("internal/strconv.uint64pow10", laid_internal_strconv_uint64pow10), ("genlock/schedule.names", laid_genlock_schedule_names)] }
def ScheduleTimesSaid : Prop := scheduleTimesRow.holds Tryz.pinned (OpenSpec.ofChange scheduleTimesSpec)

/-- ITS FALSE NEIGHBOUR: 'it returns false'. Refute it at one input. -/
def scheduleTimesWrong : ChangeSpec := { name := "scheduleTimes", fn := fun _ => fun
  | [d1, d2] => { results := [.lit (.bool false)], args := [d1, d2] }
  | _ => none }
def ScheduleTimesWrongFalsely : Prop := scheduleTimesRow.holds Tryz.pinned (OpenSpec.ofChange scheduleTimesWrong)

/-- 'genlocklaw09.ScheduleRights': WHATEVER THE INPUT: true; the input reads as it did. -/
def scheduleRightsSpec : ChangeSpec := { name := "scheduleRights", fn := fun _ => fun
  | [d1, d2, d3] => { results := [.lit (.bool true)], args := [d1, d2, d3] }
  | _ => none }
def scheduleRightsRow : OpenClaim := { program := "ytfbgbipclgljaaagreatdoor", sum := "989b43c1a66c02a75c2e2916eb0d6a12a9fb06bc42441abca56c71aba8cb7685", func := "genlock/genlocklaw09.ScheduleRights", spec := "scheduleRights", inPlace := ["internal/abi.NoEscape", "internal/bytealg.MakeNoZero"], unfollowed := true, recurses := true, named := ["genlock/schedule.names", "internal/strconv.uint64pow10", "math/bits.deBruijn32tab", "math/bits.deBruijn64tab"], apart := false, laid := [("math/bits.deBruijn32tab", laid_math_bits_deBruijn32tab), ("math/bits.deBruijn64tab", laid_math_bits_deBruijn64tab), ("internal/strconv.uint64pow10", laid_internal_strconv_uint64pow10), ("genlock/schedule.names", laid_genlock_schedule_names)] }
def ScheduleRightsSaid : Prop := scheduleRightsRow.holds Tryz.pinned (OpenSpec.ofChange scheduleRightsSpec)

/-- ITS FALSE NEIGHBOUR: 'it returns false'. Refute it at one input. -/
def scheduleRightsWrong : ChangeSpec := { name := "scheduleRights", fn := fun _ => fun
  | [d1, d2, d3] => { results := [.lit (.bool false)], args := [d1, d2, d3] }
  | _ => none }
def ScheduleRightsWrongFalsely : Prop := scheduleRightsRow.holds Tryz.pinned (OpenSpec.ofChange scheduleRightsWrong)

/-- 'genlocklaw09.SchedulePrices': WHATEVER THE INPUT: true; the input reads as it did. -/
def schedulePricesSpec : ChangeSpec := { name := "schedulePrices", fn := fun _ => fun
  | [d1, d2] => { results := [.lit (.bool true)], args := [d1, d2] }
  | _ => none }
def schedulePricesRow : OpenClaim := { program := "ytfbgbipclgljaaagreatdoor", sum := "989b43c1a66c02a75c2e2916eb0d6a12a9fb06bc42441abca56c71aba8cb7685", func := "genlock/genlocklaw09.SchedulePrices", spec := "schedulePrices", inPlace := ["internal/abi.NoEscape", "internal/bytealg.MakeNoZero"], unfollowed := true, recurses := true, named := ["genlock/schedule.names", "internal/strconv.uint64pow10", "math/bits.deBruijn32tab", "math/bits.deBruijn64tab"], apart := false, laid := [("math/bits.deBruijn32tab", laid_math_bits_deBruijn32tab), ("math/bits.deBruijn64tab", laid_math_bits_deBruijn64tab), ("internal/strconv.uint64pow10", laid_internal_strconv_uint64pow10), ("genlock/schedule.names", laid_genlock_schedule_names)] }
def SchedulePricesSaid : Prop := schedulePricesRow.holds Tryz.pinned (OpenSpec.ofChange schedulePricesSpec)

/-- ITS FALSE NEIGHBOUR: 'it returns false'. Refute it at one input. -/
def schedulePricesWrong : ChangeSpec := { name := "schedulePrices", fn := fun _ => fun
  | [d1, d2] => { results := [.lit (.bool false)], args := [d1, d2] }
  | _ => none }
def SchedulePricesWrongFalsely : Prop := schedulePricesRow.holds Tryz.pinned (OpenSpec.ofChange schedulePricesWrong)

/-- 'genlocklaw09.SchedulePlaces': WHATEVER THE INPUT: true; the input reads as it did. -/
def schedulePlacesSpec : ChangeSpec := { name := "schedulePlaces", fn := fun _ => fun
  | [d1, d2, d3] => { results := [.lit (.bool true)], args := [d1, d2, d3] }
  | _ => none }
def schedulePlacesRow : OpenClaim := { program := "ytfbgbipclgljaaagreatdoor", sum := "989b43c1a66c02a75c2e2916eb0d6a12a9fb06bc42441abca56c71aba8cb7685", func := "genlock/genlocklaw09.SchedulePlaces", spec := "schedulePlaces", inPlace := ["internal/abi.NoEscape", "internal/bytealg.MakeNoZero"], unfollowed := true, recurses := true, named := ["genlock/schedule.names", "internal/strconv.uint64pow10", "math/bits.deBruijn32tab", "math/bits.deBruijn64tab"], apart := false, laid := [("math/bits.deBruijn32tab", laid_math_bits_deBruijn32tab), ("math/bits.deBruijn64tab", laid_math_bits_deBruijn64tab), ("internal/strconv.uint64pow10", laid_internal_strconv_uint64pow10), ("genlock/schedule.names", laid_genlock_schedule_names)] }
def SchedulePlacesSaid : Prop := schedulePlacesRow.holds Tryz.pinned (OpenSpec.ofChange schedulePlacesSpec)

/-- ITS FALSE NEIGHBOUR: 'it returns false'. Refute it at one input. -/
def schedulePlacesWrong : ChangeSpec := { name := "schedulePlaces", fn := fun _ => fun
  | [d1, d2, d3] => { results := [.lit (.bool false)], args := [d1, d2, d3] }
  | _ => none }
def SchedulePlacesWrongFalsely : Prop := schedulePlacesRow.holds Tryz.pinned (OpenSpec.ofChange schedulePlacesWrong)

/-- 'genlocklaw09.ScheduleAir': WHATEVER THE INPUT: true; the input reads as it did. -/
def scheduleAirSpec : ChangeSpec := { name := "scheduleAir", fn := fun _ => fun
  | [d] => { results := [.lit (.bool true)], args := [d] }
  | _ => none }
def scheduleAirRow : OpenClaim := { program := "ytfbgbipclgljaaagreatdoor", sum := "989b43c1a66c02a75c2e2916eb0d6a12a9fb06bc42441abca56c71aba8cb7685", func := "genlock/genlocklaw09.ScheduleAir", spec := "scheduleAir", inPlace := ["internal/abi.NoEscape", "internal/bytealg.MakeNoZero"], unfollowed := true, recurses := true, named := ["genlock/schedule.names", "internal/strconv.uint64pow10", "math/bits.deBruijn32tab", "math/bits.deBruijn64tab"], apart := false, laid := [("math/bits.deBruijn32tab", laid_math_bits_deBruijn32tab), ("math/bits.deBruijn64tab", laid_math_bits_deBruijn64tab), ("internal/strconv.uint64pow10", laid_internal_strconv_uint64pow10), ("genlock/schedule.names", laid_genlock_schedule_names)] }
def ScheduleAirSaid : Prop := scheduleAirRow.holds Tryz.pinned (OpenSpec.ofChange scheduleAirSpec)

/-- ITS FALSE NEIGHBOUR: 'it returns false'. Refute it at one input. -/
def scheduleAirWrong : ChangeSpec := { name := "scheduleAir", fn := fun _ => fun
  | [d] => { results := [.lit (.bool false)], args := [d] }
  | _ => none }
def ScheduleAirWrongFalsely : Prop := scheduleAirRow.holds Tryz.pinned (OpenSpec.ofChange scheduleAirWrong)

/-- 'genlocklaw09.ScheduleBreaks': WHATEVER THE INPUT: true; the input reads as it did. -/
def scheduleBreaksSpec : ChangeSpec := { name := "scheduleBreaks", fn := fun _ => fun
  | [d1, d2] => { results := [.lit (.bool true)], args := [d1, d2] }
  | _ => none }
def scheduleBreaksRow : OpenClaim := { program := "ytfbgbipclgljaaagreatdoor", sum := "989b43c1a66c02a75c2e2916eb0d6a12a9fb06bc42441abca56c71aba8cb7685", func := "genlock/genlocklaw09.ScheduleBreaks", spec := "scheduleBreaks", inPlace := ["internal/abi.NoEscape", "internal/bytealg.MakeNoZero"], unfollowed := true, recurses := true, named := ["genlock/schedule.names", "internal/strconv.uint64pow10", "math/bits.deBruijn32tab", "math/bits.deBruijn64tab"], apart := false, laid := [("math/bits.deBruijn32tab", laid_math_bits_deBruijn32tab), ("math/bits.deBruijn64tab", laid_math_bits_deBruijn64tab), ("internal/strconv.uint64pow10", laid_internal_strconv_uint64pow10), ("genlock/schedule.names", laid_genlock_schedule_names)] }
def ScheduleBreaksSaid : Prop := scheduleBreaksRow.holds Tryz.pinned (OpenSpec.ofChange scheduleBreaksSpec)

/-- ITS FALSE NEIGHBOUR: 'it returns false'. Refute it at one input. -/
def scheduleBreaksWrong : ChangeSpec := { name := "scheduleBreaks", fn := fun _ => fun
  | [d1, d2] => { results := [.lit (.bool false)], args := [d1, d2] }
  | _ => none }
def ScheduleBreaksWrongFalsely : Prop := scheduleBreaksRow.holds Tryz.pinned (OpenSpec.ofChange scheduleBreaksWrong)

/-- 'genlocklaw09.ScheduleBest': WHATEVER THE INPUT: true; the input reads as it did. -/
def scheduleBestSpec : ChangeSpec := { name := "scheduleBest", fn := fun _ => fun
  | [d1, d2, d3] => { results := [.lit (.bool true)], args := [d1, d2, d3] }
  | _ => none }
def scheduleBestRow : OpenClaim := { program := "ytfbgbipclgljaaagreatdoor", sum := "989b43c1a66c02a75c2e2916eb0d6a12a9fb06bc42441abca56c71aba8cb7685", func := "genlock/genlocklaw09.ScheduleBest", spec := "scheduleBest", inPlace := ["internal/abi.NoEscape", "internal/bytealg.MakeNoZero"], unfollowed := true, recurses := true, named := ["genlock/schedule.names", "internal/strconv.uint64pow10", "math/bits.deBruijn32tab", "math/bits.deBruijn64tab"], apart := false, laid := [("math/bits.deBruijn32tab", laid_math_bits_deBruijn32tab), ("math/bits.deBruijn64tab", laid_math_bits_deBruijn64tab), ("internal/strconv.uint64pow10", laid_internal_strconv_uint64pow10), ("genlock/schedule.names", laid_genlock_schedule_names)] }
def ScheduleBestSaid : Prop := scheduleBestRow.holds Tryz.pinned (OpenSpec.ofChange scheduleBestSpec)

/-- ITS FALSE NEIGHBOUR: 'it returns false'. Refute it at one input. -/
def scheduleBestWrong : ChangeSpec := { name := "scheduleBest", fn := fun _ => fun
  | [d1, d2, d3] => { results := [.lit (.bool false)], args := [d1, d2, d3] }
  | _ => none }
def ScheduleBestWrongFalsely : Prop := scheduleBestRow.holds Tryz.pinned (OpenSpec.ofChange scheduleBestWrong)

/-- 'genlocklaw09.ScheduleChanges': WHATEVER THE INPUT: true; the input reads as it did. -/
def scheduleChangesSpec : ChangeSpec := { name := "scheduleChanges", fn := fun _ => fun
  | [d1, d2, d3] => { results := [.lit (.bool true)], args := [d1, d2, d3] }
  | _ => none }
def scheduleChangesRow : OpenClaim := { program := "ytfbgbipclgljaaagreatdoor", sum := "989b43c1a66c02a75c2e2916eb0d6a12a9fb06bc42441abca56c71aba8cb7685", func := "genlock/genlocklaw09.ScheduleChanges", spec := "scheduleChanges", inPlace := ["internal/abi.NoEscape", "internal/bytealg.MakeNoZero"], unfollowed := true, recurses := true, named := ["genlock/schedule.names", "internal/strconv.uint64pow10", "math/bits.deBruijn32tab", "math/bits.deBruijn64tab"], apart := false, laid := [("math/bits.deBruijn32tab", laid_math_bits_deBruijn32tab), ("math/bits.deBruijn64tab", laid_math_bits_deBruijn64tab), ("internal/strconv.uint64pow10", laid_internal_strconv_uint64pow10), ("genlock/schedule.names", laid_genlock_schedule_names)] }
def ScheduleChangesSaid : Prop := scheduleChangesRow.holds Tryz.pinned (OpenSpec.ofChange scheduleChangesSpec)

/-- ITS FALSE NEIGHBOUR: 'it returns false'. Refute it at one input. -/
def scheduleChangesWrong : ChangeSpec := { name := "scheduleChanges", fn := fun _ => fun
  | [d1, d2, d3] => { results := [.lit (.bool false)], args := [d1, d2, d3] }
  | _ => none }
def ScheduleChangesWrongFalsely : Prop := scheduleChangesRow.holds Tryz.pinned (OpenSpec.ofChange scheduleChangesWrong)

/-- 'genlocklaw09.ScheduleRundowns': WHATEVER THE INPUT: true; the input reads as it did. -/
def scheduleRundownsSpec : ChangeSpec := { name := "scheduleRundowns", fn := fun _ => fun
  | [d1, d2] => { results := [.lit (.bool true)], args := [d1, d2] }
  | _ => none }
def scheduleRundownsRow : OpenClaim := { program := "ytfbgbipclgljaaagreatdoor", sum := "989b43c1a66c02a75c2e2916eb0d6a12a9fb06bc42441abca56c71aba8cb7685", func := "genlock/genlocklaw09.ScheduleRundowns", spec := "scheduleRundowns", inPlace := ["internal/abi.NoEscape", "internal/bytealg.MakeNoZero"], unfollowed := true, recurses := true, named := ["genlock/schedule.names", "internal/strconv.uint64pow10", "math/bits.deBruijn32tab", "math/bits.deBruijn64tab"], apart := false, laid := [("math/bits.deBruijn32tab", laid_math_bits_deBruijn32tab), ("math/bits.deBruijn64tab", laid_math_bits_deBruijn64tab), ("internal/strconv.uint64pow10", laid_internal_strconv_uint64pow10), ("genlock/schedule.names", laid_genlock_schedule_names)] }
def ScheduleRundownsSaid : Prop := scheduleRundownsRow.holds Tryz.pinned (OpenSpec.ofChange scheduleRundownsSpec)

/-- ITS FALSE NEIGHBOUR: 'it returns false'. Refute it at one input. -/
def scheduleRundownsWrong : ChangeSpec := { name := "scheduleRundowns", fn := fun _ => fun
  | [d1, d2] => { results := [.lit (.bool false)], args := [d1, d2] }
  | _ => none }
def ScheduleRundownsWrongFalsely : Prop := scheduleRundownsRow.holds Tryz.pinned (OpenSpec.ofChange scheduleRundownsWrong)

/-- 'genlocklaw09.ScheduleTexts': WHATEVER THE INPUT: true; the input reads as it did. -/
def scheduleTextsSpec : ChangeSpec := { name := "scheduleTexts", fn := fun _ => fun
  | [d1, d2] => { results := [.lit (.bool true)], args := [d1, d2] }
  | _ => none }
def scheduleTextsRow : OpenClaim := { program := "ytfbgbipclgljaaagreatdoor", sum := "989b43c1a66c02a75c2e2916eb0d6a12a9fb06bc42441abca56c71aba8cb7685", func := "genlock/genlocklaw09.ScheduleTexts", spec := "scheduleTexts", inPlace := ["internal/abi.NoEscape", "internal/bytealg.MakeNoZero", "internal/bytealg.IndexByteString", "internal/bytealg.CountString", "internal/bytealg.IndexString"], unfollowed := true, recurses := true, named := ["genlock/schedule.names", "internal/strconv.uint64pow10", "math/bits.deBruijn32tab", "math/bits.deBruijn64tab", "unicode/utf8.first", "unicode/utf8.acceptRanges", "internal/bytealg.MaxLen"], apart := false, laid := [("math/bits.deBruijn32tab", laid_math_bits_deBruijn32tab), ("math/bits.deBruijn64tab", laid_math_bits_deBruijn64tab), ("internal/strconv.uint64pow10", laid_internal_strconv_uint64pow10), ("unicode/utf8.acceptRanges", laid_unicode_utf8_acceptRanges), ("genlock/schedule.names", laid_genlock_schedule_names), ("unicode/utf8.first", laid_unicode_utf8_first)] }
def ScheduleTextsSaid : Prop := scheduleTextsRow.holds Tryz.pinned (OpenSpec.ofChange scheduleTextsSpec)

/-- ITS FALSE NEIGHBOUR: 'it returns false'. Refute it at one input. -/
def scheduleTextsWrong : ChangeSpec := { name := "scheduleTexts", fn := fun _ => fun
  | [d1, d2] => { results := [.lit (.bool false)], args := [d1, d2] }
  | _ => none }
def ScheduleTextsWrongFalsely : Prop := scheduleTextsRow.holds Tryz.pinned (OpenSpec.ofChange scheduleTextsWrong)

/-- 'genlocklaw09.ScheduleBack': WHATEVER THE INPUT: true; the input reads as it did. -/
def scheduleBackSpec : ChangeSpec := { name := "scheduleBack", fn := fun _ => fun
  | [d1, d2, d3] => { results := [.lit (.bool true)], args := [d1, d2, d3] }
  | _ => none }
def scheduleBackRow : OpenClaim := { program := "ytfbgbipclgljaaagreatdoor", sum := "989b43c1a66c02a75c2e2916eb0d6a12a9fb06bc42441abca56c71aba8cb7685", func := "genlock/genlocklaw09.ScheduleBack", spec := "scheduleBack", inPlace := ["internal/abi.NoEscape", "internal/bytealg.MakeNoZero", "internal/bytealg.IndexByteString", "internal/bytealg.CountString", "internal/bytealg.IndexString"], unfollowed := true, recurses := true, named := ["genlock/schedule.names", "internal/strconv.uint64pow10", "math/bits.deBruijn32tab", "math/bits.deBruijn64tab", "unicode/utf8.first", "unicode/utf8.acceptRanges", "internal/bytealg.MaxLen"], apart := false, laid := [("math/bits.deBruijn32tab", laid_math_bits_deBruijn32tab), ("math/bits.deBruijn64tab", laid_math_bits_deBruijn64tab), ("internal/strconv.uint64pow10", laid_internal_strconv_uint64pow10), ("unicode/utf8.acceptRanges", laid_unicode_utf8_acceptRanges), ("genlock/schedule.names", laid_genlock_schedule_names), ("unicode/utf8.first", laid_unicode_utf8_first)] }
def ScheduleBackSaid : Prop := scheduleBackRow.holds Tryz.pinned (OpenSpec.ofChange scheduleBackSpec)

/-- ITS FALSE NEIGHBOUR: 'it returns false'. Refute it at one input. -/
def scheduleBackWrong : ChangeSpec := { name := "scheduleBack", fn := fun _ => fun
  | [d1, d2, d3] => { results := [.lit (.bool false)], args := [d1, d2, d3] }
  | _ => none }
def ScheduleBackWrongFalsely : Prop := scheduleBackRow.holds Tryz.pinned (OpenSpec.ofChange scheduleBackWrong)

/-- 'genlocklaw09.ScheduleFilled': WHATEVER THE INPUT: true; the input reads as it did. -/
def scheduleFilledSpec : ChangeSpec := { name := "scheduleFilled", fn := fun _ => fun
  | [d1, d2, d3] => { results := [.lit (.bool true)], args := [d1, d2, d3] }
  | _ => none }
def scheduleFilledRow : OpenClaim := { program := "ytfbgbipclgljaaagreatdoor", sum := "989b43c1a66c02a75c2e2916eb0d6a12a9fb06bc42441abca56c71aba8cb7685", func := "genlock/genlocklaw09.ScheduleFilled", spec := "scheduleFilled", inPlace := ["internal/abi.NoEscape", "internal/bytealg.MakeNoZero"], unfollowed := true, recurses := true, named := ["genlock/schedule.names", "internal/strconv.uint64pow10", "math/bits.deBruijn32tab", "math/bits.deBruijn64tab"], apart := false, laid := [("math/bits.deBruijn32tab", laid_math_bits_deBruijn32tab), ("math/bits.deBruijn64tab", laid_math_bits_deBruijn64tab), ("internal/strconv.uint64pow10", laid_internal_strconv_uint64pow10), ("genlock/schedule.names", laid_genlock_schedule_names)] }
def ScheduleFilledSaid : Prop := scheduleFilledRow.holds Tryz.pinned (OpenSpec.ofChange scheduleFilledSpec)

/-- ITS FALSE NEIGHBOUR: 'it returns false'. Refute it at one input. -/
def scheduleFilledWrong : ChangeSpec := { name := "scheduleFilled", fn := fun _ => fun
  | [d1, d2, d3] => { results := [.lit (.bool false)], args := [d1, d2, d3] }
  | _ => none }
def ScheduleFilledWrongFalsely : Prop := scheduleFilledRow.holds Tryz.pinned (OpenSpec.ofChange scheduleFilledWrong)

/-- 'genlocklaw09.ScheduleLate': WHATEVER THE INPUT: true; the input reads as it did. -/
def scheduleLateSpec : ChangeSpec := { name := "scheduleLate", fn := fun _ => fun
  | [d1, d2, d3] => { results := [.lit (.bool true)], args := [d1, d2, d3] }
  | _ => none }
def scheduleLateRow : OpenClaim := { program := "ytfbgbipclgljaaagreatdoor", sum := "989b43c1a66c02a75c2e2916eb0d6a12a9fb06bc42441abca56c71aba8cb7685", func := "genlock/genlocklaw09.ScheduleLate", spec := "scheduleLate", inPlace := ["internal/abi.NoEscape", "internal/bytealg.MakeNoZero"], unfollowed := true, recurses := true, named := ["genlock/schedule.names", "internal/strconv.uint64pow10", "math/bits.deBruijn32tab", "math/bits.deBruijn64tab"], apart := false, laid := [("math/bits.deBruijn32tab", laid_math_bits_deBruijn32tab), ("math/bits.deBruijn64tab", laid_math_bits_deBruijn64tab), ("internal/strconv.uint64pow10", laid_internal_strconv_uint64pow10), ("genlock/schedule.names", laid_genlock_schedule_names)] }
def ScheduleLateSaid : Prop := scheduleLateRow.holds Tryz.pinned (OpenSpec.ofChange scheduleLateSpec)

/-- ITS FALSE NEIGHBOUR: 'it returns false'. Refute it at one input. -/
def scheduleLateWrong : ChangeSpec := { name := "scheduleLate", fn := fun _ => fun
  | [d1, d2, d3] => { results := [.lit (.bool false)], args := [d1, d2, d3] }
  | _ => none }
def ScheduleLateWrongFalsely : Prop := scheduleLateRow.holds Tryz.pinned (OpenSpec.ofChange scheduleLateWrong)

/-- 'genlocklaw09.ScheduleMoves': WHATEVER THE INPUT: true; the input reads as it did. -/
def scheduleMovesSpec : ChangeSpec := { name := "scheduleMoves", fn := fun _ => fun
  | [d1, d2, d3] => { results := [.lit (.bool true)], args := [d1, d2, d3] }
  | _ => none }
def scheduleMovesRow : OpenClaim := { program := "ytfbgbipclgljaaagreatdoor", sum := "989b43c1a66c02a75c2e2916eb0d6a12a9fb06bc42441abca56c71aba8cb7685", func := "genlock/genlocklaw09.ScheduleMoves", spec := "scheduleMoves", inPlace := ["internal/abi.NoEscape", "internal/bytealg.MakeNoZero"], unfollowed := true, recurses := true, named := ["genlock/schedule.names", "internal/strconv.uint64pow10", "math/bits.deBruijn32tab", "math/bits.deBruijn64tab"], apart := false, laid := [("math/bits.deBruijn32tab", laid_math_bits_deBruijn32tab), ("math/bits.deBruijn64tab", laid_math_bits_deBruijn64tab), ("internal/strconv.uint64pow10", laid_internal_strconv_uint64pow10), ("genlock/schedule.names", laid_genlock_schedule_names)] }
def ScheduleMovesSaid : Prop := scheduleMovesRow.holds Tryz.pinned (OpenSpec.ofChange scheduleMovesSpec)

/-- ITS FALSE NEIGHBOUR: 'it returns false'. Refute it at one input. -/
def scheduleMovesWrong : ChangeSpec := { name := "scheduleMoves", fn := fun _ => fun
  | [d1, d2, d3] => { results := [.lit (.bool false)], args := [d1, d2, d3] }
  | _ => none }
def ScheduleMovesWrongFalsely : Prop := scheduleMovesRow.holds Tryz.pinned (OpenSpec.ofChange scheduleMovesWrong)

/- THE SECOND FORM. 'bulk': how many values and letters a reading holds, each counted each time it is reached (what is shared counts as often as it is met; a slice's spare places count too). A statement '..UptoSaid' is the law's where the arguments, and the package variables that the reading takes, are together of bulk at most 1048576: NARROWER than '..Said'. Prove '..Said' where nothing that the law and all that it calls make is longer than what came in: it says more and counts as full. Else prove '..UptoSaid'. A law counts once. -/
mutual
def uptoBulk {H : Type} : DataW H → Nat
  | .lit (.string bytes) => bytes.length + 1
  | .lit _ => 1
  | .nil => 1
  | .ptr d => uptoBulk d + 1
  | .slice elems spare => uptoBulkAll elems + uptoBulkAll spare + 1
  | .agg parts => uptoBulkAll parts + 1
  | .iface _ d => uptoBulk d + 1
  | .map entries => uptoBulkEntries entries + 1
  | .held _ => 1
def uptoBulkAll {H : Type} : List (DataW H) → Nat
  | [] => 0
  | d :: r => uptoBulk d + uptoBulkAll r
def uptoBulkEntries {H : Type} : List (Lit × DataW H) → Nat
  | [] => 0
  | x :: r => uptoBulkEntry x + uptoBulkEntries r
def uptoBulkEntry {H : Type} : Lit × DataW H → Nat
  | (.string bytes, d) => bytes.length + uptoBulk d + 1
  | (_, d) => uptoBulk d + 1
 end
def uptoSmall : (H : Type) → List (DataW H) → Bool := fun _ ds => decide (uptoBulkAll ds ≤ 1048576)
def OpenSpec.upto (s : _root_.Go.ChangeSpec) : _root_.Go.OpenSpec := { _root_.Go.OpenSpec.ofChange s with cond := some uptoSmall }

/-- 'genlocklaw09.ScheduleTimes', WHERE WHAT IT READS IS OF BULK AT MOST 1048576: true; the input reads as it did. -/
def scheduleTimesUptoRow : OpenClaim := { program := "ytfbgbipclgljaaagreatdoor", sum := "989b43c1a66c02a75c2e2916eb0d6a12a9fb06bc42441abca56c71aba8cb7685", func := "genlock/genlocklaw09.ScheduleTimes", spec := "scheduleTimes", inPlace := ["internal/abi.NoEscape", "internal/bytealg.MakeNoZero"], unfollowed := true, recurses := true, named := ["genlock/schedule.names", "internal/strconv.uint64pow10", "math/bits.deBruijn32tab", "math/bits.deBruijn64tab"], apart := false, laid := [("math/bits.deBruijn32tab", laid_math_bits_deBruijn32tab), ("math/bits.deBruijn64tab", laid_math_bits_deBruijn64tab), ("internal/strconv.uint64pow10", laid_internal_strconv_uint64pow10), ("genlock/schedule.names", laid_genlock_schedule_names)], narrowed := true }
def ScheduleTimesUptoSaid : Prop := scheduleTimesUptoRow.holds Tryz.pinned (OpenSpec.upto scheduleTimesSpec)

/-- 'genlocklaw09.ScheduleRights', WHERE WHAT IT READS IS OF BULK AT MOST 1048576: true; the input reads as it did. -/
def scheduleRightsUptoRow : OpenClaim := { program := "ytfbgbipclgljaaagreatdoor", sum := "989b43c1a66c02a75c2e2916eb0d6a12a9fb06bc42441abca56c71aba8cb7685", func := "genlock/genlocklaw09.ScheduleRights", spec := "scheduleRights", inPlace := ["internal/abi.NoEscape", "internal/bytealg.MakeNoZero"], unfollowed := true, recurses := true, named := ["genlock/schedule.names", "internal/strconv.uint64pow10", "math/bits.deBruijn32tab", "math/bits.deBruijn64tab"], apart := false, laid := [("math/bits.deBruijn32tab", laid_math_bits_deBruijn32tab), ("math/bits.deBruijn64tab", laid_math_bits_deBruijn64tab), ("internal/strconv.uint64pow10", laid_internal_strconv_uint64pow10), ("genlock/schedule.names", laid_genlock_schedule_names)], narrowed := true }
def ScheduleRightsUptoSaid : Prop := scheduleRightsUptoRow.holds Tryz.pinned (OpenSpec.upto scheduleRightsSpec)

/-- 'genlocklaw09.SchedulePrices', WHERE WHAT IT READS IS OF BULK AT MOST 1048576: true; the input reads as it did. -/
def schedulePricesUptoRow : OpenClaim := { program := "ytfbgbipclgljaaagreatdoor", sum := "989b43c1a66c02a75c2e2916eb0d6a12a9fb06bc42441abca56c71aba8cb7685", func := "genlock/genlocklaw09.SchedulePrices", spec := "schedulePrices", inPlace := ["internal/abi.NoEscape", "internal/bytealg.MakeNoZero"], unfollowed := true, recurses := true, named := ["genlock/schedule.names", "internal/strconv.uint64pow10", "math/bits.deBruijn32tab", "math/bits.deBruijn64tab"], apart := false, laid := [("math/bits.deBruijn32tab", laid_math_bits_deBruijn32tab), ("math/bits.deBruijn64tab", laid_math_bits_deBruijn64tab), ("internal/strconv.uint64pow10", laid_internal_strconv_uint64pow10), ("genlock/schedule.names", laid_genlock_schedule_names)], narrowed := true }
def SchedulePricesUptoSaid : Prop := schedulePricesUptoRow.holds Tryz.pinned (OpenSpec.upto schedulePricesSpec)

/-- 'genlocklaw09.SchedulePlaces', WHERE WHAT IT READS IS OF BULK AT MOST 1048576: true; the input reads as it did. -/
def schedulePlacesUptoRow : OpenClaim := { program := "ytfbgbipclgljaaagreatdoor", sum := "989b43c1a66c02a75c2e2916eb0d6a12a9fb06bc42441abca56c71aba8cb7685", func := "genlock/genlocklaw09.SchedulePlaces", spec := "schedulePlaces", inPlace := ["internal/abi.NoEscape", "internal/bytealg.MakeNoZero"], unfollowed := true, recurses := true, named := ["genlock/schedule.names", "internal/strconv.uint64pow10", "math/bits.deBruijn32tab", "math/bits.deBruijn64tab"], apart := false, laid := [("math/bits.deBruijn32tab", laid_math_bits_deBruijn32tab), ("math/bits.deBruijn64tab", laid_math_bits_deBruijn64tab), ("internal/strconv.uint64pow10", laid_internal_strconv_uint64pow10), ("genlock/schedule.names", laid_genlock_schedule_names)], narrowed := true }
def SchedulePlacesUptoSaid : Prop := schedulePlacesUptoRow.holds Tryz.pinned (OpenSpec.upto schedulePlacesSpec)

/-- 'genlocklaw09.ScheduleAir', WHERE WHAT IT READS IS OF BULK AT MOST 1048576: true; the input reads as it did. -/
def scheduleAirUptoRow : OpenClaim := { program := "ytfbgbipclgljaaagreatdoor", sum := "989b43c1a66c02a75c2e2916eb0d6a12a9fb06bc42441abca56c71aba8cb7685", func := "genlock/genlocklaw09.ScheduleAir", spec := "scheduleAir", inPlace := ["internal/abi.NoEscape", "internal/bytealg.MakeNoZero"], unfollowed := true, recurses := true, named := ["genlock/schedule.names", "internal/strconv.uint64pow10", "math/bits.deBruijn32tab", "math/bits.deBruijn64tab"], apart := false, laid := [("math/bits.deBruijn32tab", laid_math_bits_deBruijn32tab), ("math/bits.deBruijn64tab", laid_math_bits_deBruijn64tab), ("internal/strconv.uint64pow10", laid_internal_strconv_uint64pow10), ("genlock/schedule.names", laid_genlock_schedule_names)], narrowed := true }
def ScheduleAirUptoSaid : Prop := scheduleAirUptoRow.holds Tryz.pinned (OpenSpec.upto scheduleAirSpec)

/-- 'genlocklaw09.ScheduleBreaks', WHERE WHAT IT READS IS OF BULK AT MOST 1048576: true; the input reads as it did. -/
def scheduleBreaksUptoRow : OpenClaim := { program := "ytfbgbipclgljaaagreatdoor", sum := "989b43c1a66c02a75c2e2916eb0d6a12a9fb06bc42441abca56c71aba8cb7685", func := "genlock/genlocklaw09.ScheduleBreaks", spec := "scheduleBreaks", inPlace := ["internal/abi.NoEscape", "internal/bytealg.MakeNoZero"], unfollowed := true, recurses := true, named := ["genlock/schedule.names", "internal/strconv.uint64pow10", "math/bits.deBruijn32tab", "math/bits.deBruijn64tab"], apart := false, laid := [("math/bits.deBruijn32tab", laid_math_bits_deBruijn32tab), ("math/bits.deBruijn64tab", laid_math_bits_deBruijn64tab), ("internal/strconv.uint64pow10", laid_internal_strconv_uint64pow10), ("genlock/schedule.names", laid_genlock_schedule_names)], narrowed := true }
def ScheduleBreaksUptoSaid : Prop := scheduleBreaksUptoRow.holds Tryz.pinned (OpenSpec.upto scheduleBreaksSpec)

/-- 'genlocklaw09.ScheduleBest', WHERE WHAT IT READS IS OF BULK AT MOST 1048576: true; the input reads as it did. -/
def scheduleBestUptoRow : OpenClaim := { program := "ytfbgbipclgljaaagreatdoor", sum := "989b43c1a66c02a75c2e2916eb0d6a12a9fb06bc42441abca56c71aba8cb7685", func := "genlock/genlocklaw09.ScheduleBest", spec := "scheduleBest", inPlace := ["internal/abi.NoEscape", "internal/bytealg.MakeNoZero"], unfollowed := true, recurses := true, named := ["genlock/schedule.names", "internal/strconv.uint64pow10", "math/bits.deBruijn32tab", "math/bits.deBruijn64tab"], apart := false, laid := [("math/bits.deBruijn32tab", laid_math_bits_deBruijn32tab), ("math/bits.deBruijn64tab", laid_math_bits_deBruijn64tab), ("internal/strconv.uint64pow10", laid_internal_strconv_uint64pow10), ("genlock/schedule.names", laid_genlock_schedule_names)], narrowed := true }
def ScheduleBestUptoSaid : Prop := scheduleBestUptoRow.holds Tryz.pinned (OpenSpec.upto scheduleBestSpec)

/-- 'genlocklaw09.ScheduleChanges', WHERE WHAT IT READS IS OF BULK AT MOST 1048576: true; the input reads as it did. -/
def scheduleChangesUptoRow : OpenClaim := { program := "ytfbgbipclgljaaagreatdoor", sum := "989b43c1a66c02a75c2e2916eb0d6a12a9fb06bc42441abca56c71aba8cb7685", func := "genlock/genlocklaw09.ScheduleChanges", spec := "scheduleChanges", inPlace := ["internal/abi.NoEscape", "internal/bytealg.MakeNoZero"], unfollowed := true, recurses := true, named := ["genlock/schedule.names", "internal/strconv.uint64pow10", "math/bits.deBruijn32tab", "math/bits.deBruijn64tab"], apart := false, laid := [("math/bits.deBruijn32tab", laid_math_bits_deBruijn32tab), ("math/bits.deBruijn64tab", laid_math_bits_deBruijn64tab), ("internal/strconv.uint64pow10", laid_internal_strconv_uint64pow10), ("genlock/schedule.names", laid_genlock_schedule_names)], narrowed := true }
def ScheduleChangesUptoSaid : Prop := scheduleChangesUptoRow.holds Tryz.pinned (OpenSpec.upto scheduleChangesSpec)

/-- 'genlocklaw09.ScheduleRundowns', WHERE WHAT IT READS IS OF BULK AT MOST 1048576: true; the input reads as it did. -/
def scheduleRundownsUptoRow : OpenClaim := { program := "ytfbgbipclgljaaagreatdoor", sum := "989b43c1a66c02a75c2e2916eb0d6a12a9fb06bc42441abca56c71aba8cb7685", func := "genlock/genlocklaw09.ScheduleRundowns", spec := "scheduleRundowns", inPlace := ["internal/abi.NoEscape", "internal/bytealg.MakeNoZero"], unfollowed := true, recurses := true, named := ["genlock/schedule.names", "internal/strconv.uint64pow10", "math/bits.deBruijn32tab", "math/bits.deBruijn64tab"], apart := false, laid := [("math/bits.deBruijn32tab", laid_math_bits_deBruijn32tab), ("math/bits.deBruijn64tab", laid_math_bits_deBruijn64tab), ("internal/strconv.uint64pow10", laid_internal_strconv_uint64pow10), ("genlock/schedule.names", laid_genlock_schedule_names)], narrowed := true }
def ScheduleRundownsUptoSaid : Prop := scheduleRundownsUptoRow.holds Tryz.pinned (OpenSpec.upto scheduleRundownsSpec)

/-- 'genlocklaw09.ScheduleTexts', WHERE WHAT IT READS IS OF BULK AT MOST 1048576: true; the input reads as it did. -/
def scheduleTextsUptoRow : OpenClaim := { program := "ytfbgbipclgljaaagreatdoor", sum := "989b43c1a66c02a75c2e2916eb0d6a12a9fb06bc42441abca56c71aba8cb7685", func := "genlock/genlocklaw09.ScheduleTexts", spec := "scheduleTexts", inPlace := ["internal/abi.NoEscape", "internal/bytealg.MakeNoZero", "internal/bytealg.IndexByteString", "internal/bytealg.CountString", "internal/bytealg.IndexString"], unfollowed := true, recurses := true, named := ["genlock/schedule.names", "internal/strconv.uint64pow10", "math/bits.deBruijn32tab", "math/bits.deBruijn64tab", "unicode/utf8.first", "unicode/utf8.acceptRanges", "internal/bytealg.MaxLen"], apart := false, laid := [("math/bits.deBruijn32tab", laid_math_bits_deBruijn32tab), ("math/bits.deBruijn64tab", laid_math_bits_deBruijn64tab), ("internal/strconv.uint64pow10", laid_internal_strconv_uint64pow10), ("unicode/utf8.acceptRanges", laid_unicode_utf8_acceptRanges), ("genlock/schedule.names", laid_genlock_schedule_names), ("unicode/utf8.first", laid_unicode_utf8_first)], narrowed := true }
def ScheduleTextsUptoSaid : Prop := scheduleTextsUptoRow.holds Tryz.pinned (OpenSpec.upto scheduleTextsSpec)

/-- 'genlocklaw09.ScheduleBack', WHERE WHAT IT READS IS OF BULK AT MOST 1048576: true; the input reads as it did. -/
def scheduleBackUptoRow : OpenClaim := { program := "ytfbgbipclgljaaagreatdoor", sum := "989b43c1a66c02a75c2e2916eb0d6a12a9fb06bc42441abca56c71aba8cb7685", func := "genlock/genlocklaw09.ScheduleBack", spec := "scheduleBack", inPlace := ["internal/abi.NoEscape", "internal/bytealg.MakeNoZero", "internal/bytealg.IndexByteString", "internal/bytealg.CountString", "internal/bytealg.IndexString"], unfollowed := true, recurses := true, named := ["genlock/schedule.names", "internal/strconv.uint64pow10", "math/bits.deBruijn32tab", "math/bits.deBruijn64tab", "unicode/utf8.first", "unicode/utf8.acceptRanges", "internal/bytealg.MaxLen"], apart := false, laid := [("math/bits.deBruijn32tab", laid_math_bits_deBruijn32tab), ("math/bits.deBruijn64tab", laid_math_bits_deBruijn64tab), ("internal/strconv.uint64pow10", laid_internal_strconv_uint64pow10), ("unicode/utf8.acceptRanges", laid_unicode_utf8_acceptRanges), ("genlock/schedule.names", laid_genlock_schedule_names), ("unicode/utf8.first", laid_unicode_utf8_first)], narrowed := true }
def ScheduleBackUptoSaid : Prop := scheduleBackUptoRow.holds Tryz.pinned (OpenSpec.upto scheduleBackSpec)

/-- 'genlocklaw09.ScheduleFilled', WHERE WHAT IT READS IS OF BULK AT MOST 1048576: true; the input reads as it did. -/
def scheduleFilledUptoRow : OpenClaim := { program := "ytfbgbipclgljaaagreatdoor", sum := "989b43c1a66c02a75c2e2916eb0d6a12a9fb06bc42441abca56c71aba8cb7685", func := "genlock/genlocklaw09.ScheduleFilled", spec := "scheduleFilled", inPlace := ["internal/abi.NoEscape", "internal/bytealg.MakeNoZero"], unfollowed := true, recurses := true, named := ["genlock/schedule.names", "internal/strconv.uint64pow10", "math/bits.deBruijn32tab", "math/bits.deBruijn64tab"], apart := false, laid := [("math/bits.deBruijn32tab", laid_math_bits_deBruijn32tab), ("math/bits.deBruijn64tab", laid_math_bits_deBruijn64tab), ("internal/strconv.uint64pow10", laid_internal_strconv_uint64pow10), ("genlock/schedule.names", laid_genlock_schedule_names)], narrowed := true }
def ScheduleFilledUptoSaid : Prop := scheduleFilledUptoRow.holds Tryz.pinned (OpenSpec.upto scheduleFilledSpec)

/-- 'genlocklaw09.ScheduleLate', WHERE WHAT IT READS IS OF BULK AT MOST 1048576: true; the input reads as it did. -/
def scheduleLateUptoRow : OpenClaim := { program := "ytfbgbipclgljaaagreatdoor", sum := "989b43c1a66c02a75c2e2916eb0d6a12a9fb06bc42441abca56c71aba8cb7685", func := "genlock/genlocklaw09.ScheduleLate", spec := "scheduleLate", inPlace := ["internal/abi.NoEscape", "internal/bytealg.MakeNoZero"], unfollowed := true, recurses := true, named := ["genlock/schedule.names", "internal/strconv.uint64pow10", "math/bits.deBruijn32tab", "math/bits.deBruijn64tab"], apart := false, laid := [("math/bits.deBruijn32tab", laid_math_bits_deBruijn32tab), ("math/bits.deBruijn64tab", laid_math_bits_deBruijn64tab), ("internal/strconv.uint64pow10", laid_internal_strconv_uint64pow10), ("genlock/schedule.names", laid_genlock_schedule_names)], narrowed := true }
def ScheduleLateUptoSaid : Prop := scheduleLateUptoRow.holds Tryz.pinned (OpenSpec.upto scheduleLateSpec)

/-- 'genlocklaw09.ScheduleMoves', WHERE WHAT IT READS IS OF BULK AT MOST 1048576: true; the input reads as it did. -/
def scheduleMovesUptoRow : OpenClaim := { program := "ytfbgbipclgljaaagreatdoor", sum := "989b43c1a66c02a75c2e2916eb0d6a12a9fb06bc42441abca56c71aba8cb7685", func := "genlock/genlocklaw09.ScheduleMoves", spec := "scheduleMoves", inPlace := ["internal/abi.NoEscape", "internal/bytealg.MakeNoZero"], unfollowed := true, recurses := true, named := ["genlock/schedule.names", "internal/strconv.uint64pow10", "math/bits.deBruijn32tab", "math/bits.deBruijn64tab"], apart := false, laid := [("math/bits.deBruijn32tab", laid_math_bits_deBruijn32tab), ("math/bits.deBruijn64tab", laid_math_bits_deBruijn64tab), ("internal/strconv.uint64pow10", laid_internal_strconv_uint64pow10), ("genlock/schedule.names", laid_genlock_schedule_names)], narrowed := true }
def ScheduleMovesUptoSaid : Prop := scheduleMovesUptoRow.holds Tryz.pinned (OpenSpec.upto scheduleMovesSpec)

end Rows
end Go.Proofs.YtfbgbipclgljaaaGreatDoor
