/-
  NARROWER THAN 'FOR EVERY INPUT', by the rows' own cells (each row's printed sentence says how): RouterStates: laid · RouterCuts: laid · RouterSalvos: laid · RouterWhole: laid · RouterOrders: laid · RouterFrames: laid · RouterWays: laid · RouterBlocked: laid · RouterPorts: laid · RouterUndoes: laid · RouterTexts: laid · RouterBack: laid · TopCraneInterval: laid · TopCranePhase: laid.
  DERIVED. THE GIVEN ROWS OF THIS SEAT. 14 by the template 'for every input the law returns true; each argument reads behind the call as it read before'; 0 by the template 'total and deterministic' (their statements: YteonnodafmegaaaGreatDoorTotals.lean).
  GIVEN WITH THE SEED: the statements are not yours to turn. If you find one false, say at which input.
  Laid BY PROGRAM, IN A SANDBOX (cutbox-rows.mjs): the forced cells as the released guide's own fill.sh prints them over the translation 703cc94079d1ac78… (all of the seat's roots in one cut). By AI agents, Wed Nov 11 2026. No macro, syntax, notation, axiom, sorry.
-/
import Derived.Test.YteonnodafmegaaaGreatDoorChecked
import GoSem.PinnedTables
import GoSem.Claim
import GoSem.ClaimJoined
import GoSem.ClaimMapViews
import Derived.JoinedTies
import Derived.KernelRfl
namespace Go.Proofs.YteonnodafmegaaaGreatDoor
/- THE CELL 'sum', in the pinned program and in every row, IS THE sha256 OF THE DUMP (.gsa) THAT YteonnodafmegaaaGreatDoorProg.lean LOADS. Nothing in Lean hashes anything: it is a label: what it is worth is what the hold of that sum in a sandbox is worth. -/
noncomputable def Tryz.pinned : Pinned := { name := "yteonnodafmegaaagreatdoor", sum := "703cc94079d1ac78c768c9963d85f30063205ecf270abb93101a334e76859884", checked := Tryz.checked }
namespace Rows
def none {H : Type} : Left H := { results := [], args := [] }

/- WHAT THE LISTED PACKAGE-LEVEL VARIABLES READ AS WHEN THE CALL BEGINS. Each datum BY PROGRAM (the guide's laid-datum.mjs) off the statement by which the dump's own 'gosem.cut.vars' lays the variable. In a bare row this is a premise. The card (YteonnodafmegaaaGreatDoorCards.lean) ties it to the program's text. -/
def laid_math_bits_deBruijn32tab {H : Type} : DataW H := .agg [.lit (.int .u8 0), .lit (.int .u8 1), .lit (.int .u8 28), .lit (.int .u8 2), .lit (.int .u8 29), .lit (.int .u8 14), .lit (.int .u8 24), .lit (.int .u8 3), .lit (.int .u8 30), .lit (.int .u8 22), .lit (.int .u8 20), .lit (.int .u8 15), .lit (.int .u8 25), .lit (.int .u8 17), .lit (.int .u8 4), .lit (.int .u8 8), .lit (.int .u8 31), .lit (.int .u8 27), .lit (.int .u8 13), .lit (.int .u8 23), .lit (.int .u8 21), .lit (.int .u8 19), .lit (.int .u8 16), .lit (.int .u8 7), .lit (.int .u8 26), .lit (.int .u8 12), .lit (.int .u8 18), .lit (.int .u8 6), .lit (.int .u8 11), .lit (.int .u8 5), .lit (.int .u8 10), .lit (.int .u8 9)]
def laid_math_bits_deBruijn64tab {H : Type} : DataW H := .agg [.lit (.int .u8 0), .lit (.int .u8 1), .lit (.int .u8 56), .lit (.int .u8 2), .lit (.int .u8 57), .lit (.int .u8 49), .lit (.int .u8 28), .lit (.int .u8 3), .lit (.int .u8 61), .lit (.int .u8 58), .lit (.int .u8 42), .lit (.int .u8 50), .lit (.int .u8 38), .lit (.int .u8 29), .lit (.int .u8 17), .lit (.int .u8 4), .lit (.int .u8 62), .lit (.int .u8 47), .lit (.int .u8 59), .lit (.int .u8 36), .lit (.int .u8 45), .lit (.int .u8 43), .lit (.int .u8 51), .lit (.int .u8 22), .lit (.int .u8 53), .lit (.int .u8 39), .lit (.int .u8 33), .lit (.int .u8 30), .lit (.int .u8 24), .lit (.int .u8 18), .lit (.int .u8 12), .lit (.int .u8 5), .lit (.int .u8 63), .lit (.int .u8 55), .lit (.int .u8 48), .lit (.int .u8 27), .lit (.int .u8 60), .lit (.int .u8 41), .lit (.int .u8 37), .lit (.int .u8 16), .lit (.int .u8 46), .lit (.int .u8 35), .lit (.int .u8 44), .lit (.int .u8 21), .lit (.int .u8 52), .lit (.int .u8 32), .lit (.int .u8 23), .lit (.int .u8 11), .lit (.int .u8 54), .lit (.int .u8 26), .lit (.int .u8 40), .lit (.int .u8 15), .lit (.int .u8 34), .lit (.int .u8 20), .lit (.int .u8 31), .lit (.int .u8 10), .lit (.int .u8 25), .lit (.int .u8 14), .lit (.int .u8 19), .lit (.int .u8 9), .lit (.int .u8 13), .lit (.int .u8 8), .lit (.int .u8 7), .lit (.int .u8 6)]
def laid_internal_strconv_uint64pow10 {H : Type} : DataW H := .agg [.lit (.int .u64 1), .lit (.int .u64 10), .lit (.int .u64 100), .lit (.int .u64 1000), .lit (.int .u64 10000), .lit (.int .u64 100000), .lit (.int .u64 1000000), .lit (.int .u64 10000000), .lit (.int .u64 100000000), .lit (.int .u64 1000000000), .lit (.int .u64 10000000000), .lit (.int .u64 100000000000), .lit (.int .u64 1000000000000), .lit (.int .u64 10000000000000), .lit (.int .u64 100000000000000), .lit (.int .u64 1000000000000000), .lit (.int .u64 10000000000000000), .lit (.int .u64 100000000000000000), .lit (.int .u64 1000000000000000000), .lit (.int .u64 10000000000000000000)]
def laid_unicode_utf8_acceptRanges {H : Type} : DataW H := .agg [.agg [.lit (.int .u8 128), .lit (.int .u8 191)], .agg [.lit (.int .u8 160), .lit (.int .u8 191)], .agg [.lit (.int .u8 128), .lit (.int .u8 159)], .agg [.lit (.int .u8 144), .lit (.int .u8 191)], .agg [.lit (.int .u8 128), .lit (.int .u8 143)], .agg [.lit (.int .u8 0), .lit (.int .u8 0)], .agg [.lit (.int .u8 0), .lit (.int .u8 0)], .agg [.lit (.int .u8 0), .lit (.int .u8 0)], .agg [.lit (.int .u8 0), .lit (.int .u8 0)], .agg [.lit (.int .u8 0), .lit (.int .u8 0)], .agg [.lit (.int .u8 0), .lit (.int .u8 0)], .agg [.lit (.int .u8 0), .lit (.int .u8 0)], .agg [.lit (.int .u8 0), .lit (.int .u8 0)], .agg [.lit (.int .u8 0), .lit (.int .u8 0)], .agg [.lit (.int .u8 0), .lit (.int .u8 0)], .agg [.lit (.int .u8 0), .lit (.int .u8 0)]]
/-- One of Go's own tables, pinned by name: the form's constant. -/
def laid_unicode_utf8_first : DataW Unit := Go.Pinned.utf8First
def laid_genlock_timing_extra {H : Type} : DataW H := .agg [.lit (.int .i64 1), .lit (.int .i64 0)]

/-- 'genlocklaw05.RouterStates': WHATEVER THE INPUT: true; the input reads as it did. -/
def routerStatesSpec : ChangeSpec := { name := "routerStates", fn := fun _ => fun
  | [d1, d2] => { results := [.lit (.bool true)], args := [d1, d2] }
  | _ => none }
def routerStatesRow : OpenClaim := { program := "yteonnodafmegaaagreatdoor", sum := "703cc94079d1ac78c768c9963d85f30063205ecf270abb93101a334e76859884", func := "genlock/genlocklaw05.RouterStates", spec := "routerStates", inPlace := ["internal/abi.NoEscape", "internal/bytealg.MakeNoZero"], unfollowed := true, recurses := true, named := ["internal/strconv.uint64pow10", "math/bits.deBruijn32tab", "math/bits.deBruijn64tab"], apart := false, laid := [("math/bits.deBruijn32tab", laid_math_bits_deBruijn32tab), ("math/bits.deBruijn64tab", laid_math_bits_deBruijn64tab), ("internal/strconv.uint64pow10", laid_internal_strconv_uint64pow10)] }
def RouterStatesSaid : Prop := routerStatesRow.holds Tryz.pinned (OpenSpec.ofChange routerStatesSpec)

/-- ITS FALSE NEIGHBOUR: 'it returns false'. Refute it at one input. -/
def routerStatesWrong : ChangeSpec := { name := "routerStates", fn := fun _ => fun
  | [d1, d2] => { results := [.lit (.bool false)], args := [d1, d2] }
  | _ => none }
def RouterStatesWrongFalsely : Prop := routerStatesRow.holds Tryz.pinned (OpenSpec.ofChange routerStatesWrong)

/-- 'genlocklaw05.RouterCuts': WHATEVER THE INPUT: true; the input reads as it did. -/
def routerCutsSpec : ChangeSpec := { name := "routerCuts", fn := fun _ => fun
  | [d1, d2, d3] => { results := [.lit (.bool true)], args := [d1, d2, d3] }
  | _ => none }
def routerCutsRow : OpenClaim := { program := "yteonnodafmegaaagreatdoor", sum := "703cc94079d1ac78c768c9963d85f30063205ecf270abb93101a334e76859884", func := "genlock/genlocklaw05.RouterCuts", spec := "routerCuts", inPlace := ["internal/abi.NoEscape", "internal/bytealg.MakeNoZero"], unfollowed := true, recurses := true, named := ["internal/strconv.uint64pow10", "math/bits.deBruijn32tab", "math/bits.deBruijn64tab"], apart := false, laid := [("math/bits.deBruijn32tab", laid_math_bits_deBruijn32tab), ("math/bits.deBruijn64tab", laid_math_bits_deBruijn64tab), ("internal/strconv.uint64pow10", laid_internal_strconv_uint64pow10)] }
def RouterCutsSaid : Prop := routerCutsRow.holds Tryz.pinned (OpenSpec.ofChange routerCutsSpec)

/-- ITS FALSE NEIGHBOUR: 'it returns false'. Refute it at one input. -/
def routerCutsWrong : ChangeSpec := { name := "routerCuts", fn := fun _ => fun
  | [d1, d2, d3] => { results := [.lit (.bool false)], args := [d1, d2, d3] }
  | _ => none }
def RouterCutsWrongFalsely : Prop := routerCutsRow.holds Tryz.pinned (OpenSpec.ofChange routerCutsWrong)

/-- 'genlocklaw05.RouterSalvos': WHATEVER THE INPUT: true; the input reads as it did. -/
def routerSalvosSpec : ChangeSpec := { name := "routerSalvos", fn := fun _ => fun
  | [d1, d2] => { results := [.lit (.bool true)], args := [d1, d2] }
  | _ => none }
def routerSalvosRow : OpenClaim := { program := "yteonnodafmegaaagreatdoor", sum := "703cc94079d1ac78c768c9963d85f30063205ecf270abb93101a334e76859884", func := "genlock/genlocklaw05.RouterSalvos", spec := "routerSalvos", inPlace := ["internal/abi.NoEscape", "internal/bytealg.MakeNoZero"], unfollowed := true, recurses := true, named := ["internal/strconv.uint64pow10", "math/bits.deBruijn32tab", "math/bits.deBruijn64tab"], apart := false, laid := [("math/bits.deBruijn32tab", laid_math_bits_deBruijn32tab), ("math/bits.deBruijn64tab", laid_math_bits_deBruijn64tab), ("internal/strconv.uint64pow10", laid_internal_strconv_uint64pow10)] }
def RouterSalvosSaid : Prop := routerSalvosRow.holds Tryz.pinned (OpenSpec.ofChange routerSalvosSpec)

/-- ITS FALSE NEIGHBOUR: 'it returns false'. Refute it at one input. -/
def routerSalvosWrong : ChangeSpec := { name := "routerSalvos", fn := fun _ => fun
  | [d1, d2] => { results := [.lit (.bool false)], args := [d1, d2] }
  | _ => none }
def RouterSalvosWrongFalsely : Prop := routerSalvosRow.holds Tryz.pinned (OpenSpec.ofChange routerSalvosWrong)

/-- 'genlocklaw05.RouterWhole': WHATEVER THE INPUT: true; the input reads as it did. -/
def routerWholeSpec : ChangeSpec := { name := "routerWhole", fn := fun _ => fun
  | [d1, d2] => { results := [.lit (.bool true)], args := [d1, d2] }
  | _ => none }
def routerWholeRow : OpenClaim := { program := "yteonnodafmegaaagreatdoor", sum := "703cc94079d1ac78c768c9963d85f30063205ecf270abb93101a334e76859884", func := "genlock/genlocklaw05.RouterWhole", spec := "routerWhole", inPlace := ["internal/abi.NoEscape", "internal/bytealg.MakeNoZero"], unfollowed := true, recurses := true, named := ["internal/strconv.uint64pow10", "math/bits.deBruijn32tab", "math/bits.deBruijn64tab"], apart := false, laid := [("math/bits.deBruijn32tab", laid_math_bits_deBruijn32tab), ("math/bits.deBruijn64tab", laid_math_bits_deBruijn64tab), ("internal/strconv.uint64pow10", laid_internal_strconv_uint64pow10)] }
def RouterWholeSaid : Prop := routerWholeRow.holds Tryz.pinned (OpenSpec.ofChange routerWholeSpec)

/-- ITS FALSE NEIGHBOUR: 'it returns false'. Refute it at one input. -/
def routerWholeWrong : ChangeSpec := { name := "routerWhole", fn := fun _ => fun
  | [d1, d2] => { results := [.lit (.bool false)], args := [d1, d2] }
  | _ => none }
def RouterWholeWrongFalsely : Prop := routerWholeRow.holds Tryz.pinned (OpenSpec.ofChange routerWholeWrong)

/-- 'genlocklaw05.RouterOrders': WHATEVER THE INPUT: true; the input reads as it did. -/
def routerOrdersSpec : ChangeSpec := { name := "routerOrders", fn := fun _ => fun
  | [d1, d2, d3] => { results := [.lit (.bool true)], args := [d1, d2, d3] }
  | _ => none }
def routerOrdersRow : OpenClaim := { program := "yteonnodafmegaaagreatdoor", sum := "703cc94079d1ac78c768c9963d85f30063205ecf270abb93101a334e76859884", func := "genlock/genlocklaw05.RouterOrders", spec := "routerOrders", inPlace := ["internal/abi.NoEscape", "internal/bytealg.MakeNoZero"], unfollowed := true, recurses := true, named := ["internal/strconv.uint64pow10", "math/bits.deBruijn32tab", "math/bits.deBruijn64tab"], apart := false, laid := [("math/bits.deBruijn32tab", laid_math_bits_deBruijn32tab), ("math/bits.deBruijn64tab", laid_math_bits_deBruijn64tab), ("internal/strconv.uint64pow10", laid_internal_strconv_uint64pow10)] }
def RouterOrdersSaid : Prop := routerOrdersRow.holds Tryz.pinned (OpenSpec.ofChange routerOrdersSpec)

/-- ITS FALSE NEIGHBOUR: 'it returns false'. Refute it at one input. -/
def routerOrdersWrong : ChangeSpec := { name := "routerOrders", fn := fun _ => fun
  | [d1, d2, d3] => { results := [.lit (.bool false)], args := [d1, d2, d3] }
  | _ => none }
def RouterOrdersWrongFalsely : Prop := routerOrdersRow.holds Tryz.pinned (OpenSpec.ofChange routerOrdersWrong)

/-- 'genlocklaw05.RouterFrames': WHATEVER THE INPUT: true; the input reads as it did. -/
def routerFramesSpec : ChangeSpec := { name := "routerFrames", fn := fun _ => fun
  | [d1, d2] => { results := [.lit (.bool true)], args := [d1, d2] }
  | _ => none }
def routerFramesRow : OpenClaim := { program := "yteonnodafmegaaagreatdoor", sum := "703cc94079d1ac78c768c9963d85f30063205ecf270abb93101a334e76859884", func := "genlock/genlocklaw05.RouterFrames", spec := "routerFrames", inPlace := ["internal/abi.NoEscape", "internal/bytealg.MakeNoZero"], unfollowed := true, recurses := true, named := ["internal/strconv.uint64pow10", "math/bits.deBruijn32tab", "math/bits.deBruijn64tab"], apart := false, laid := [("math/bits.deBruijn32tab", laid_math_bits_deBruijn32tab), ("math/bits.deBruijn64tab", laid_math_bits_deBruijn64tab), ("internal/strconv.uint64pow10", laid_internal_strconv_uint64pow10)] }
def RouterFramesSaid : Prop := routerFramesRow.holds Tryz.pinned (OpenSpec.ofChange routerFramesSpec)

/-- ITS FALSE NEIGHBOUR: 'it returns false'. Refute it at one input. -/
def routerFramesWrong : ChangeSpec := { name := "routerFrames", fn := fun _ => fun
  | [d1, d2] => { results := [.lit (.bool false)], args := [d1, d2] }
  | _ => none }
def RouterFramesWrongFalsely : Prop := routerFramesRow.holds Tryz.pinned (OpenSpec.ofChange routerFramesWrong)

/-- 'genlocklaw05.RouterWays': WHATEVER THE INPUT: true; the input reads as it did. -/
def routerWaysSpec : ChangeSpec := { name := "routerWays", fn := fun _ => fun
  | [d1, d2, d3] => { results := [.lit (.bool true)], args := [d1, d2, d3] }
  | _ => none }
def routerWaysRow : OpenClaim := { program := "yteonnodafmegaaagreatdoor", sum := "703cc94079d1ac78c768c9963d85f30063205ecf270abb93101a334e76859884", func := "genlock/genlocklaw05.RouterWays", spec := "routerWays", inPlace := ["internal/abi.NoEscape", "internal/bytealg.MakeNoZero"], unfollowed := true, recurses := true, named := ["internal/strconv.uint64pow10", "math/bits.deBruijn32tab", "math/bits.deBruijn64tab"], apart := false, laid := [("math/bits.deBruijn32tab", laid_math_bits_deBruijn32tab), ("math/bits.deBruijn64tab", laid_math_bits_deBruijn64tab), ("internal/strconv.uint64pow10", laid_internal_strconv_uint64pow10)] }
def RouterWaysSaid : Prop := routerWaysRow.holds Tryz.pinned (OpenSpec.ofChange routerWaysSpec)

/-- ITS FALSE NEIGHBOUR: 'it returns false'. Refute it at one input. -/
def routerWaysWrong : ChangeSpec := { name := "routerWays", fn := fun _ => fun
  | [d1, d2, d3] => { results := [.lit (.bool false)], args := [d1, d2, d3] }
  | _ => none }
def RouterWaysWrongFalsely : Prop := routerWaysRow.holds Tryz.pinned (OpenSpec.ofChange routerWaysWrong)

/-- 'genlocklaw05.RouterBlocked': WHATEVER THE INPUT: true; the input reads as it did. -/
def routerBlockedSpec : ChangeSpec := { name := "routerBlocked", fn := fun _ => fun
  | [d1, d2] => { results := [.lit (.bool true)], args := [d1, d2] }
  | _ => none }
def routerBlockedRow : OpenClaim := { program := "yteonnodafmegaaagreatdoor", sum := "703cc94079d1ac78c768c9963d85f30063205ecf270abb93101a334e76859884", func := "genlock/genlocklaw05.RouterBlocked", spec := "routerBlocked", inPlace := ["internal/abi.NoEscape", "internal/bytealg.MakeNoZero"], unfollowed := true, recurses := true, named := ["internal/strconv.uint64pow10", "math/bits.deBruijn32tab", "math/bits.deBruijn64tab"], apart := false, laid := [("math/bits.deBruijn32tab", laid_math_bits_deBruijn32tab), ("math/bits.deBruijn64tab", laid_math_bits_deBruijn64tab), ("internal/strconv.uint64pow10", laid_internal_strconv_uint64pow10)] }
def RouterBlockedSaid : Prop := routerBlockedRow.holds Tryz.pinned (OpenSpec.ofChange routerBlockedSpec)

/-- ITS FALSE NEIGHBOUR: 'it returns false'. Refute it at one input. -/
def routerBlockedWrong : ChangeSpec := { name := "routerBlocked", fn := fun _ => fun
  | [d1, d2] => { results := [.lit (.bool false)], args := [d1, d2] }
  | _ => none }
def RouterBlockedWrongFalsely : Prop := routerBlockedRow.holds Tryz.pinned (OpenSpec.ofChange routerBlockedWrong)

/-- 'genlocklaw05.RouterPorts': WHATEVER THE INPUT: true; the input reads as it did. -/
def routerPortsSpec : ChangeSpec := { name := "routerPorts", fn := fun _ => fun
  | [d1, d2] => { results := [.lit (.bool true)], args := [d1, d2] }
  | _ => none }
def routerPortsRow : OpenClaim := { program := "yteonnodafmegaaagreatdoor", sum := "703cc94079d1ac78c768c9963d85f30063205ecf270abb93101a334e76859884", func := "genlock/genlocklaw05.RouterPorts", spec := "routerPorts", inPlace := ["internal/abi.NoEscape", "internal/bytealg.MakeNoZero"], unfollowed := true, recurses := true, named := ["internal/strconv.uint64pow10", "math/bits.deBruijn32tab", "math/bits.deBruijn64tab"], apart := false, laid := [("math/bits.deBruijn32tab", laid_math_bits_deBruijn32tab), ("math/bits.deBruijn64tab", laid_math_bits_deBruijn64tab), ("internal/strconv.uint64pow10", laid_internal_strconv_uint64pow10)] }
def RouterPortsSaid : Prop := routerPortsRow.holds Tryz.pinned (OpenSpec.ofChange routerPortsSpec)

/-- ITS FALSE NEIGHBOUR: 'it returns false'. Refute it at one input. -/
def routerPortsWrong : ChangeSpec := { name := "routerPorts", fn := fun _ => fun
  | [d1, d2] => { results := [.lit (.bool false)], args := [d1, d2] }
  | _ => none }
def RouterPortsWrongFalsely : Prop := routerPortsRow.holds Tryz.pinned (OpenSpec.ofChange routerPortsWrong)

/-- 'genlocklaw05.RouterUndoes': WHATEVER THE INPUT: true; the input reads as it did. -/
def routerUndoesSpec : ChangeSpec := { name := "routerUndoes", fn := fun _ => fun
  | [d1, d2] => { results := [.lit (.bool true)], args := [d1, d2] }
  | _ => none }
def routerUndoesRow : OpenClaim := { program := "yteonnodafmegaaagreatdoor", sum := "703cc94079d1ac78c768c9963d85f30063205ecf270abb93101a334e76859884", func := "genlock/genlocklaw05.RouterUndoes", spec := "routerUndoes", inPlace := ["internal/abi.NoEscape", "internal/bytealg.MakeNoZero"], unfollowed := true, recurses := true, named := ["internal/strconv.uint64pow10", "math/bits.deBruijn32tab", "math/bits.deBruijn64tab"], apart := false, laid := [("math/bits.deBruijn32tab", laid_math_bits_deBruijn32tab), ("math/bits.deBruijn64tab", laid_math_bits_deBruijn64tab), ("internal/strconv.uint64pow10", laid_internal_strconv_uint64pow10)] }
def RouterUndoesSaid : Prop := routerUndoesRow.holds Tryz.pinned (OpenSpec.ofChange routerUndoesSpec)

/-- ITS FALSE NEIGHBOUR: 'it returns false'. Refute it at one input. -/
def routerUndoesWrong : ChangeSpec := { name := "routerUndoes", fn := fun _ => fun
  | [d1, d2] => { results := [.lit (.bool false)], args := [d1, d2] }
  | _ => none }
def RouterUndoesWrongFalsely : Prop := routerUndoesRow.holds Tryz.pinned (OpenSpec.ofChange routerUndoesWrong)

/-- 'genlocklaw05.RouterTexts': WHATEVER THE INPUT: true; the input reads as it did. -/
def routerTextsSpec : ChangeSpec := { name := "routerTexts", fn := fun _ => fun
  | [d1, d2] => { results := [.lit (.bool true)], args := [d1, d2] }
  | _ => none }
def routerTextsRow : OpenClaim := { program := "yteonnodafmegaaagreatdoor", sum := "703cc94079d1ac78c768c9963d85f30063205ecf270abb93101a334e76859884", func := "genlock/genlocklaw05.RouterTexts", spec := "routerTexts", inPlace := ["internal/abi.NoEscape", "internal/bytealg.MakeNoZero", "internal/bytealg.IndexByteString", "internal/bytealg.CountString", "internal/bytealg.IndexString"], unfollowed := true, recurses := true, named := ["internal/strconv.uint64pow10", "math/bits.deBruijn32tab", "math/bits.deBruijn64tab", "unicode/utf8.first", "unicode/utf8.acceptRanges", "internal/bytealg.MaxLen"], apart := false, laid := [("math/bits.deBruijn32tab", laid_math_bits_deBruijn32tab), ("math/bits.deBruijn64tab", laid_math_bits_deBruijn64tab), ("internal/strconv.uint64pow10", laid_internal_strconv_uint64pow10), ("unicode/utf8.acceptRanges", laid_unicode_utf8_acceptRanges), ("unicode/utf8.first", laid_unicode_utf8_first)] }
def RouterTextsSaid : Prop := routerTextsRow.holds Tryz.pinned (OpenSpec.ofChange routerTextsSpec)

/-- ITS FALSE NEIGHBOUR: 'it returns false'. Refute it at one input. -/
def routerTextsWrong : ChangeSpec := { name := "routerTexts", fn := fun _ => fun
  | [d1, d2] => { results := [.lit (.bool false)], args := [d1, d2] }
  | _ => none }
def RouterTextsWrongFalsely : Prop := routerTextsRow.holds Tryz.pinned (OpenSpec.ofChange routerTextsWrong)

/-- 'genlocklaw05.RouterBack': WHATEVER THE INPUT: true; the input reads as it did. -/
def routerBackSpec : ChangeSpec := { name := "routerBack", fn := fun _ => fun
  | [d1, d2] => { results := [.lit (.bool true)], args := [d1, d2] }
  | _ => none }
def routerBackRow : OpenClaim := { program := "yteonnodafmegaaagreatdoor", sum := "703cc94079d1ac78c768c9963d85f30063205ecf270abb93101a334e76859884", func := "genlock/genlocklaw05.RouterBack", spec := "routerBack", inPlace := ["internal/abi.NoEscape", "internal/bytealg.MakeNoZero", "internal/bytealg.IndexByteString", "internal/bytealg.CountString", "internal/bytealg.IndexString"], unfollowed := true, recurses := true, named := ["internal/strconv.uint64pow10", "math/bits.deBruijn32tab", "math/bits.deBruijn64tab", "unicode/utf8.first", "unicode/utf8.acceptRanges", "internal/bytealg.MaxLen"], apart := false, laid := [("math/bits.deBruijn32tab", laid_math_bits_deBruijn32tab), ("math/bits.deBruijn64tab", laid_math_bits_deBruijn64tab), ("internal/strconv.uint64pow10", laid_internal_strconv_uint64pow10), ("unicode/utf8.acceptRanges", laid_unicode_utf8_acceptRanges), ("unicode/utf8.first", laid_unicode_utf8_first)] }
def RouterBackSaid : Prop := routerBackRow.holds Tryz.pinned (OpenSpec.ofChange routerBackSpec)

/-- ITS FALSE NEIGHBOUR: 'it returns false'. Refute it at one input. -/
def routerBackWrong : ChangeSpec := { name := "routerBack", fn := fun _ => fun
  | [d1, d2] => { results := [.lit (.bool false)], args := [d1, d2] }
  | _ => none }
def RouterBackWrongFalsely : Prop := routerBackRow.holds Tryz.pinned (OpenSpec.ofChange routerBackWrong)

/-- 'genlocktop.TopCraneInterval': WHATEVER THE INPUT: true; the input reads as it did. -/
def topCraneIntervalSpec : ChangeSpec := { name := "topCraneInterval", fn := fun _ => fun
  | [d1, d2, d3] => { results := [.lit (.bool true)], args := [d1, d2, d3] }
  | _ => none }
def topCraneIntervalRow : OpenClaim := { program := "yteonnodafmegaaagreatdoor", sum := "703cc94079d1ac78c768c9963d85f30063205ecf270abb93101a334e76859884", func := "genlock/genlocktop.TopCraneInterval", spec := "topCraneInterval", unfollowed := true, recurses := true, named := ["genlock/timing.extra"], apart := false, laid := [("genlock/timing.extra", laid_genlock_timing_extra)] }
def TopCraneIntervalSaid : Prop := topCraneIntervalRow.holds Tryz.pinned (OpenSpec.ofChange topCraneIntervalSpec)

/-- ITS FALSE NEIGHBOUR: 'it returns false'. Refute it at one input. -/
def topCraneIntervalWrong : ChangeSpec := { name := "topCraneInterval", fn := fun _ => fun
  | [d1, d2, d3] => { results := [.lit (.bool false)], args := [d1, d2, d3] }
  | _ => none }
def TopCraneIntervalWrongFalsely : Prop := topCraneIntervalRow.holds Tryz.pinned (OpenSpec.ofChange topCraneIntervalWrong)

/-- 'genlocktop.TopCranePhase': WHATEVER THE INPUT: true; the input reads as it did. -/
def topCranePhaseSpec : ChangeSpec := { name := "topCranePhase", fn := fun _ => fun
  | [d1, d2, d3] => { results := [.lit (.bool true)], args := [d1, d2, d3] }
  | _ => none }
def topCranePhaseRow : OpenClaim := { program := "yteonnodafmegaaagreatdoor", sum := "703cc94079d1ac78c768c9963d85f30063205ecf270abb93101a334e76859884", func := "genlock/genlocktop.TopCranePhase", spec := "topCranePhase", unfollowed := true, recurses := true, named := ["genlock/timing.extra"], apart := false, laid := [("genlock/timing.extra", laid_genlock_timing_extra)] }
def TopCranePhaseSaid : Prop := topCranePhaseRow.holds Tryz.pinned (OpenSpec.ofChange topCranePhaseSpec)

/-- ITS FALSE NEIGHBOUR: 'it returns false'. Refute it at one input. -/
def topCranePhaseWrong : ChangeSpec := { name := "topCranePhase", fn := fun _ => fun
  | [d1, d2, d3] => { results := [.lit (.bool false)], args := [d1, d2, d3] }
  | _ => none }
def TopCranePhaseWrongFalsely : Prop := topCranePhaseRow.holds Tryz.pinned (OpenSpec.ofChange topCranePhaseWrong)

/- THE SECOND FORM. 'bulk': how many values and letters a reading holds, each counted each time it is reached (what is shared counts as often as it is met; a slice's spare places count too). A statement '..UptoSaid' is the law's where the arguments, and the package variables that the reading takes, are together of bulk at most 1048576: NARROWER than '..Said'. Prove '..Said' where nothing that the law and all that it calls make is longer than what came in: it says more and counts as full. Else prove '..UptoSaid'. A law counts once. -/
mutual
def uptoBulk {H : Type} : DataW H → Nat
  | .lit (.string bytes) => bytes.length + 1
  | .lit _ => 1
  | .nil => 1
  | .ptr d => uptoBulk d + 1
  | .slice elems spare => uptoBulkAll elems + uptoBulkAll spare + 1
  | .agg parts => uptoBulkAll parts + 1
  | .iface _ d => uptoBulk d + 1
  | .map entries => uptoBulkEntries entries + 1
  | .held _ => 1
def uptoBulkAll {H : Type} : List (DataW H) → Nat
  | [] => 0
  | d :: r => uptoBulk d + uptoBulkAll r
def uptoBulkEntries {H : Type} : List (Lit × DataW H) → Nat
  | [] => 0
  | x :: r => uptoBulkEntry x + uptoBulkEntries r
def uptoBulkEntry {H : Type} : Lit × DataW H → Nat
  | (.string bytes, d) => bytes.length + uptoBulk d + 1
  | (_, d) => uptoBulk d + 1
 end
def uptoSmall : (H : Type) → List (DataW H) → Bool := fun _ ds => decide (uptoBulkAll ds ≤ 1048576)
def OpenSpec.upto (s : _root_.Go.ChangeSpec) : _root_.Go.OpenSpec := { _root_.Go.OpenSpec.ofChange s with cond := some uptoSmall }

/-- 'genlocklaw05.RouterStates', WHERE WHAT IT READS IS OF BULK AT MOST 1048576: true; the input reads as it did. -/
def routerStatesUptoRow : OpenClaim := { program := "yteonnodafmegaaagreatdoor", sum := "703cc94079d1ac78c768c9963d85f30063205ecf270abb93101a334e76859884", func := "genlock/genlocklaw05.RouterStates", spec := "routerStates", inPlace := ["internal/abi.NoEscape", "internal/bytealg.MakeNoZero"], unfollowed := true, recurses := true, named := ["internal/strconv.uint64pow10", "math/bits.deBruijn32tab", "math/bits.deBruijn64tab"], apart := false, laid := [("math/bits.deBruijn32tab", laid_math_bits_deBruijn32tab), ("math/bits.deBruijn64tab", laid_math_bits_deBruijn64tab), ("internal/strconv.uint64pow10", laid_internal_strconv_uint64pow10)], narrowed := true }
def RouterStatesUptoSaid : Prop := routerStatesUptoRow.holds Tryz.pinned (OpenSpec.upto routerStatesSpec)

/-- 'genlocklaw05.RouterCuts', WHERE WHAT IT READS IS OF BULK AT MOST 1048576: true; the input reads as it did. -/
def routerCutsUptoRow : OpenClaim := { program := "yteonnodafmegaaagreatdoor", sum := "703cc94079d1ac78c768c9963d85f30063205ecf270abb93101a334e76859884", func := "genlock/genlocklaw05.RouterCuts", spec := "routerCuts", inPlace := ["internal/abi.NoEscape", "internal/bytealg.MakeNoZero"], unfollowed := true, recurses := true, named := ["internal/strconv.uint64pow10", "math/bits.deBruijn32tab", "math/bits.deBruijn64tab"], apart := false, laid := [("math/bits.deBruijn32tab", laid_math_bits_deBruijn32tab), ("math/bits.deBruijn64tab", laid_math_bits_deBruijn64tab), ("internal/strconv.uint64pow10", laid_internal_strconv_uint64pow10)], narrowed := true }
def RouterCutsUptoSaid : Prop := routerCutsUptoRow.holds Tryz.pinned (OpenSpec.upto routerCutsSpec)

/-- 'genlocklaw05.RouterSalvos', WHERE WHAT IT READS IS OF BULK AT MOST 1048576: true; the input reads as it did. -/
def routerSalvosUptoRow : OpenClaim := { program := "yteonnodafmegaaagreatdoor", sum := "703cc94079d1ac78c768c9963d85f30063205ecf270abb93101a334e76859884", func := "genlock/genlocklaw05.RouterSalvos", spec := "routerSalvos", inPlace := ["internal/abi.NoEscape", "internal/bytealg.MakeNoZero"], unfollowed := true, recurses := true, named := ["internal/strconv.uint64pow10", "math/bits.deBruijn32tab", "math/bits.deBruijn64tab"], apart := false, laid := [("math/bits.deBruijn32tab", laid_math_bits_deBruijn32tab), ("math/bits.deBruijn64tab", laid_math_bits_deBruijn64tab), ("internal/strconv.uint64pow10", laid_internal_strconv_uint64pow10)], narrowed := true }
def RouterSalvosUptoSaid : Prop := routerSalvosUptoRow.holds Tryz.pinned (OpenSpec.upto routerSalvosSpec)

/-- 'genlocklaw05.RouterWhole', WHERE WHAT IT READS IS OF BULK AT MOST 1048576: true; the input reads as it did. -/
def routerWholeUptoRow : OpenClaim := { program := "yteonnodafmegaaagreatdoor", sum := "703cc94079d1ac78c768c9963d85f30063205ecf270abb93101a334e76859884", func := "genlock/genlocklaw05.RouterWhole", spec := "routerWhole", inPlace := ["internal/abi.NoEscape", "internal/bytealg.MakeNoZero"], unfollowed := true, recurses := true, named := ["internal/strconv.uint64pow10", "math/bits.deBruijn32tab", "math/bits.deBruijn64tab"], apart := false, laid := [("math/bits.deBruijn32tab", laid_math_bits_deBruijn32tab), ("math/bits.deBruijn64tab", laid_math_bits_deBruijn64tab), ("internal/strconv.uint64pow10", laid_internal_strconv_uint64pow10)], narrowed := true }
def RouterWholeUptoSaid : Prop := routerWholeUptoRow.holds Tryz.pinned (OpenSpec.upto routerWholeSpec)

/-- 'genlocklaw05.RouterOrders', WHERE WHAT IT READS IS OF BULK AT MOST 1048576: true; the input reads as it did. -/
def routerOrdersUptoRow : OpenClaim := { program := "yteonnodafmegaaagreatdoor", sum := "703cc94079d1ac78c768c9963d85f30063205ecf270abb93101a334e76859884", func := "genlock/genlocklaw05.RouterOrders", spec := "routerOrders", inPlace := ["internal/abi.NoEscape", "internal/bytealg.MakeNoZero"], unfollowed := true, recurses := true, named := ["internal/strconv.uint64pow10", "math/bits.deBruijn32tab", "math/bits.deBruijn64tab"], apart := false, laid := [("math/bits.deBruijn32tab", laid_math_bits_deBruijn32tab), ("math/bits.deBruijn64tab", laid_math_bits_deBruijn64tab), ("internal/strconv.uint64pow10", laid_internal_strconv_uint64pow10)], narrowed := true }
def RouterOrdersUptoSaid : Prop := routerOrdersUptoRow.holds Tryz.pinned (OpenSpec.upto routerOrdersSpec)

/-- 'genlocklaw05.RouterFrames', WHERE WHAT IT READS IS OF BULK AT MOST 1048576: true; the input reads as it did. -/
def routerFramesUptoRow : OpenClaim := { program := "yteonnodafmegaaagreatdoor", sum := "703cc94079d1ac78c768c9963d85f30063205ecf270abb93101a334e76859884", func := "genlock/genlocklaw05.RouterFrames", spec := "routerFrames", inPlace := ["internal/abi.NoEscape", "internal/bytealg.MakeNoZero"], unfollowed := true, recurses := true, named := ["internal/strconv.uint64pow10", "math/bits.deBruijn32tab", "math/bits.deBruijn64tab"], apart := false, laid := [("math/bits.deBruijn32tab", laid_math_bits_deBruijn32tab), ("math/bits.deBruijn64tab", laid_math_bits_deBruijn64tab), ("internal/strconv.uint64pow10", laid_internal_strconv_uint64pow10)], narrowed := true }
def RouterFramesUptoSaid : Prop := routerFramesUptoRow.holds Tryz.pinned (OpenSpec.upto routerFramesSpec)

/-- 'genlocklaw05.RouterWays', WHERE WHAT IT READS IS OF BULK AT MOST 1048576: true; the input reads as it did. -/
def routerWaysUptoRow : OpenClaim := { program := "yteonnodafmegaaagreatdoor", sum := "703cc94079d1ac78c768c9963d85f30063205ecf270abb93101a334e76859884", func := "genlock/genlocklaw05.RouterWays", spec := "routerWays", inPlace := ["internal/abi.NoEscape", "internal/bytealg.MakeNoZero"], unfollowed := true, recurses := true, named := ["internal/strconv.uint64pow10", "math/bits.deBruijn32tab", "math/bits.deBruijn64tab"], apart := false, laid := [("math/bits.deBruijn32tab", laid_math_bits_deBruijn32tab), ("math/bits.deBruijn64tab", laid_math_bits_deBruijn64tab), ("internal/strconv.uint64pow10", laid_internal_strconv_uint64pow10)], narrowed := true }
def RouterWaysUptoSaid : Prop := routerWaysUptoRow.holds Tryz.pinned (OpenSpec.upto routerWaysSpec)

/-- 'genlocklaw05.RouterBlocked', WHERE WHAT IT READS IS OF BULK AT MOST 1048576: true; the input reads as it did. -/
def routerBlockedUptoRow : OpenClaim := { program := "yteonnodafmegaaagreatdoor", sum := "703cc94079d1ac78c768c9963d85f30063205ecf270abb93101a334e76859884", func := "genlock/genlocklaw05.RouterBlocked", spec := "routerBlocked", inPlace := ["internal/abi.NoEscape", "internal/bytealg.MakeNoZero"], unfollowed := true, recurses := true, named := ["internal/strconv.uint64pow10", "math/bits.deBruijn32tab", "math/bits.deBruijn64tab"], apart := false, laid := [("math/bits.deBruijn32tab", laid_math_bits_deBruijn32tab), ("math/bits.deBruijn64tab", laid_math_bits_deBruijn64tab), ("internal/strconv.uint64pow10", laid_internal_strconv_uint64pow10)], narrowed := true }
def RouterBlockedUptoSaid : Prop := routerBlockedUptoRow.holds Tryz.pinned (OpenSpec.upto routerBlockedSpec)

/-- 'genlocklaw05.RouterPorts', WHERE WHAT IT READS IS OF BULK AT MOST 1048576: true; the input reads as it did. -/
def routerPortsUptoRow : OpenClaim := { program := "yteonnodafmegaaagreatdoor", sum := "703cc94079d1ac78c768c9963d85f30063205ecf270abb93101a334e76859884", func := "genlock/genlocklaw05.RouterPorts", spec := "routerPorts", inPlace := ["internal/abi.NoEscape", "internal/bytealg.MakeNoZero"], unfollowed := true, recurses := true, named := ["internal/strconv.uint64pow10", "math/bits.deBruijn32tab", "math/bits.deBruijn64tab"], apart := false, laid := [("math/bits.deBruijn32tab", laid_math_bits_deBruijn32tab), ("math/bits.deBruijn64tab", laid_math_bits_deBruijn64tab), ("internal/strconv.uint64pow10", laid_internal_strconv_uint64pow10)], narrowed := true }
def RouterPortsUptoSaid : Prop := routerPortsUptoRow.holds Tryz.pinned (OpenSpec.upto routerPortsSpec)

/-- 'genlocklaw05.RouterUndoes', WHERE WHAT IT READS IS OF BULK AT MOST 1048576: true; the input reads as it did. -/
def routerUndoesUptoRow : OpenClaim := { program := "yteonnodafmegaaagreatdoor", sum := "703cc94079d1ac78c768c9963d85f30063205ecf270abb93101a334e76859884", func := "genlock/genlocklaw05.RouterUndoes", spec := "routerUndoes", inPlace := ["internal/abi.NoEscape", "internal/bytealg.MakeNoZero"], unfollowed := true, recurses := true, named := ["internal/strconv.uint64pow10", "math/bits.deBruijn32tab", "math/bits.deBruijn64tab"], apart := false, laid := [("math/bits.deBruijn32tab", laid_math_bits_deBruijn32tab), ("math/bits.deBruijn64tab", laid_math_bits_deBruijn64tab), ("internal/strconv.uint64pow10", laid_internal_strconv_uint64pow10)], narrowed := true }
def RouterUndoesUptoSaid : Prop := routerUndoesUptoRow.holds Tryz.pinned (OpenSpec.upto routerUndoesSpec)

/-- 'genlocklaw05.RouterTexts', WHERE WHAT IT READS IS OF BULK AT MOST 1048576: true; the input reads as it did. -/
def routerTextsUptoRow : OpenClaim := { program := "yteonnodafmegaaagreatdoor", sum := "703cc94079d1ac78c768c9963d85f30063205ecf270abb93101a334e76859884", func := "genlock/genlocklaw05.RouterTexts", spec := "routerTexts", inPlace := ["internal/abi.NoEscape", "internal/bytealg.MakeNoZero", "internal/bytealg.IndexByteString", "internal/bytealg.CountString", "internal/bytealg.IndexString"], unfollowed := true, recurses := true, named := ["internal/strconv.uint64pow10", "math/bits.deBruijn32tab", "math/bits.deBruijn64tab", "unicode/utf8.first", "unicode/utf8.acceptRanges", "internal/bytealg.MaxLen"], apart := false, laid := [("math/bits.deBruijn32tab", laid_math_bits_deBruijn32tab), ("math/bits.deBruijn64tab", laid_math_bits_deBruijn64tab), ("internal/strconv.uint64pow10", laid_internal_strconv_uint64pow10), ("unicode/utf8.acceptRanges", laid_unicode_utf8_acceptRanges), ("unicode/utf8.first", laid_unicode_utf8_first)], narrowed := true }
def RouterTextsUptoSaid : Prop := routerTextsUptoRow.holds Tryz.pinned (OpenSpec.upto routerTextsSpec)

/-- 'genlocklaw05.RouterBack', WHERE WHAT IT READS IS OF BULK AT MOST 1048576: true; the input reads as it did. -/
def routerBackUptoRow : OpenClaim := { program := "yteonnodafmegaaagreatdoor", sum := "703cc94079d1ac78c768c9963d85f30063205ecf270abb93101a334e76859884", func := "genlock/genlocklaw05.RouterBack", spec := "routerBack", inPlace := ["internal/abi.NoEscape", "internal/bytealg.MakeNoZero", "internal/bytealg.IndexByteString", "internal/bytealg.CountString", "internal/bytealg.IndexString"], unfollowed := true, recurses := true, named := ["internal/strconv.uint64pow10", "math/bits.deBruijn32tab", "math/bits.deBruijn64tab", "unicode/utf8.first", "unicode/utf8.acceptRanges", "internal/bytealg.MaxLen"], apart := false, laid := [("math/bits.deBruijn32tab", laid_math_bits_deBruijn32tab), ("math/bits.deBruijn64tab", laid_math_bits_deBruijn64tab), ("internal/strconv.uint64pow10", laid_internal_strconv_uint64pow10), ("unicode/utf8.acceptRanges", laid_unicode_utf8_acceptRanges), ("unicode/utf8.first", laid_unicode_utf8_first)], narrowed := true }
def RouterBackUptoSaid : Prop := routerBackUptoRow.holds Tryz.pinned (OpenSpec.upto routerBackSpec)

/-- 'genlocktop.TopCraneInterval', WHERE WHAT IT READS IS OF BULK AT MOST 1048576: true; the input reads as it did. -/
def topCraneIntervalUptoRow : OpenClaim := { program := "yteonnodafmegaaagreatdoor", sum := "703cc94079d1ac78c768c9963d85f30063205ecf270abb93101a334e76859884", func := "genlock/genlocktop.TopCraneInterval", spec := "topCraneInterval", unfollowed := true, recurses := true, named := ["genlock/timing.extra"], apart := false, laid := [("genlock/timing.extra", laid_genlock_timing_extra)], narrowed := true }
def TopCraneIntervalUptoSaid : Prop := topCraneIntervalUptoRow.holds Tryz.pinned (OpenSpec.upto topCraneIntervalSpec)

/-- 'genlocktop.TopCranePhase', WHERE WHAT IT READS IS OF BULK AT MOST 1048576: true; the input reads as it did. -/
def topCranePhaseUptoRow : OpenClaim := { program := "yteonnodafmegaaagreatdoor", sum := "703cc94079d1ac78c768c9963d85f30063205ecf270abb93101a334e76859884", func := "genlock/genlocktop.TopCranePhase", spec := "topCranePhase", unfollowed := true, recurses := true, named := ["genlock/timing.extra"], apart := false, laid := [("genlock/timing.extra", laid_genlock_timing_extra)], narrowed := true }
def TopCranePhaseUptoSaid : Prop := topCranePhaseUptoRow.holds Tryz.pinned (OpenSpec.upto topCranePhaseSpec)

end Rows
end Go.Proofs.YteonnodafmegaaaGreatDoor
