/-
  DERIVED. GIVEN WITH THE SEED: THE CARDS: each row of YtfbgbipclgljaaaGreatDoorRows.lean that lists a variable, with what it lists TIED to the program's text (the seventh form; the later family's looks); each row that meets fmt, with fmt's text TOLD by the authors' own Lean function (tested against real Go, not proved from fmt's source: count such statements apart). THE CARD IS WHAT COUNTS. Prove the row's statement (the work); the ties are given (YtfbgbipclgljaaaGreatDoorTie.lean); close each card by the builder's one call (the guide's Derived/Test/ToyasCard.lean, 'card_holds'). Laid BY PROGRAM, IN A SANDBOX (cutbox-door.mjs). By AI agents, Wed Nov 11 2026. No macro, syntax, notation, axiom, sorry.
-/
import Derived.Test.YtfbgbipclgljaaaGreatDoorRows
import GoSem.ClaimSeven
namespace Go.Proofs.YtfbgbipclgljaaaGreatDoor
namespace Rows

/-- THE TIED CARD OF 'genlocklaw09.ScheduleTimes'. -/
def scheduleTimesCard : Claim7 := { stood := { row := scheduleTimesRow, standIns := [], harness := (true, "cbf8bce66b5ba0dbe18b77e2dff440b188c3ec5fc4b152eda6c850d687252077"), looks := false }, kinds := [], alts := [], laidByText := true, laidKinds := [.data, .data, .data, .data], laidTests := true, laidLooks := .later }
def ScheduleTimesCardSaid : Prop := Claim7.holds Tryz.pinned (.plain (OpenSpec.ofChange scheduleTimesSpec)) scheduleTimesCard

/-- THE TIED CARD OF 'genlocklaw09.ScheduleRights'. -/
def scheduleRightsCard : Claim7 := { stood := { row := scheduleRightsRow, standIns := [], harness := (true, "cbf8bce66b5ba0dbe18b77e2dff440b188c3ec5fc4b152eda6c850d687252077"), looks := false }, kinds := [], alts := [], laidByText := true, laidKinds := [.data, .data, .data, .data], laidTests := true, laidLooks := .later }
def ScheduleRightsCardSaid : Prop := Claim7.holds Tryz.pinned (.plain (OpenSpec.ofChange scheduleRightsSpec)) scheduleRightsCard

/-- THE TIED CARD OF 'genlocklaw09.SchedulePrices'. -/
def schedulePricesCard : Claim7 := { stood := { row := schedulePricesRow, standIns := [], harness := (true, "cbf8bce66b5ba0dbe18b77e2dff440b188c3ec5fc4b152eda6c850d687252077"), looks := false }, kinds := [], alts := [], laidByText := true, laidKinds := [.data, .data, .data, .data], laidTests := true, laidLooks := .later }
def SchedulePricesCardSaid : Prop := Claim7.holds Tryz.pinned (.plain (OpenSpec.ofChange schedulePricesSpec)) schedulePricesCard

/-- THE TIED CARD OF 'genlocklaw09.SchedulePlaces'. -/
def schedulePlacesCard : Claim7 := { stood := { row := schedulePlacesRow, standIns := [], harness := (true, "cbf8bce66b5ba0dbe18b77e2dff440b188c3ec5fc4b152eda6c850d687252077"), looks := false }, kinds := [], alts := [], laidByText := true, laidKinds := [.data, .data, .data, .data], laidTests := true, laidLooks := .later }
def SchedulePlacesCardSaid : Prop := Claim7.holds Tryz.pinned (.plain (OpenSpec.ofChange schedulePlacesSpec)) schedulePlacesCard

/-- THE TIED CARD OF 'genlocklaw09.ScheduleAir'. -/
def scheduleAirCard : Claim7 := { stood := { row := scheduleAirRow, standIns := [], harness := (true, "cbf8bce66b5ba0dbe18b77e2dff440b188c3ec5fc4b152eda6c850d687252077"), looks := false }, kinds := [], alts := [], laidByText := true, laidKinds := [.data, .data, .data, .data], laidTests := true, laidLooks := .later }
def ScheduleAirCardSaid : Prop := Claim7.holds Tryz.pinned (.plain (OpenSpec.ofChange scheduleAirSpec)) scheduleAirCard

/-- THE TIED CARD OF 'genlocklaw09.ScheduleBreaks'. -/
def scheduleBreaksCard : Claim7 := { stood := { row := scheduleBreaksRow, standIns := [], harness := (true, "cbf8bce66b5ba0dbe18b77e2dff440b188c3ec5fc4b152eda6c850d687252077"), looks := false }, kinds := [], alts := [], laidByText := true, laidKinds := [.data, .data, .data, .data], laidTests := true, laidLooks := .later }
def ScheduleBreaksCardSaid : Prop := Claim7.holds Tryz.pinned (.plain (OpenSpec.ofChange scheduleBreaksSpec)) scheduleBreaksCard

/-- THE TIED CARD OF 'genlocklaw09.ScheduleBest'. -/
def scheduleBestCard : Claim7 := { stood := { row := scheduleBestRow, standIns := [], harness := (true, "cbf8bce66b5ba0dbe18b77e2dff440b188c3ec5fc4b152eda6c850d687252077"), looks := false }, kinds := [], alts := [], laidByText := true, laidKinds := [.data, .data, .data, .data], laidTests := true, laidLooks := .later }
def ScheduleBestCardSaid : Prop := Claim7.holds Tryz.pinned (.plain (OpenSpec.ofChange scheduleBestSpec)) scheduleBestCard

/-- THE TIED CARD OF 'genlocklaw09.ScheduleChanges'. -/
def scheduleChangesCard : Claim7 := { stood := { row := scheduleChangesRow, standIns := [], harness := (true, "cbf8bce66b5ba0dbe18b77e2dff440b188c3ec5fc4b152eda6c850d687252077"), looks := false }, kinds := [], alts := [], laidByText := true, laidKinds := [.data, .data, .data, .data], laidTests := true, laidLooks := .later }
def ScheduleChangesCardSaid : Prop := Claim7.holds Tryz.pinned (.plain (OpenSpec.ofChange scheduleChangesSpec)) scheduleChangesCard

/-- THE TIED CARD OF 'genlocklaw09.ScheduleRundowns'. -/
def scheduleRundownsCard : Claim7 := { stood := { row := scheduleRundownsRow, standIns := [], harness := (true, "cbf8bce66b5ba0dbe18b77e2dff440b188c3ec5fc4b152eda6c850d687252077"), looks := false }, kinds := [], alts := [], laidByText := true, laidKinds := [.data, .data, .data, .data], laidTests := true, laidLooks := .later }
def ScheduleRundownsCardSaid : Prop := Claim7.holds Tryz.pinned (.plain (OpenSpec.ofChange scheduleRundownsSpec)) scheduleRundownsCard

/-- THE TIED CARD OF 'genlocklaw09.ScheduleTexts'. -/
def scheduleTextsCard : Claim7 := { stood := { row := scheduleTextsRow, standIns := [], harness := (true, "cbf8bce66b5ba0dbe18b77e2dff440b188c3ec5fc4b152eda6c850d687252077"), looks := false }, kinds := [], alts := [], laidByText := true, laidKinds := [.data, .data, .data, .data, .data, .pinned], laidTests := true, laidLooks := .later }
def ScheduleTextsCardSaid : Prop := Claim7.holds Tryz.pinned (.plain (OpenSpec.ofChange scheduleTextsSpec)) scheduleTextsCard

/-- THE TIED CARD OF 'genlocklaw09.ScheduleBack'. -/
def scheduleBackCard : Claim7 := { stood := { row := scheduleBackRow, standIns := [], harness := (true, "cbf8bce66b5ba0dbe18b77e2dff440b188c3ec5fc4b152eda6c850d687252077"), looks := false }, kinds := [], alts := [], laidByText := true, laidKinds := [.data, .data, .data, .data, .data, .pinned], laidTests := true, laidLooks := .later }
def ScheduleBackCardSaid : Prop := Claim7.holds Tryz.pinned (.plain (OpenSpec.ofChange scheduleBackSpec)) scheduleBackCard

/-- THE TIED CARD OF 'genlocklaw09.ScheduleFilled'. -/
def scheduleFilledCard : Claim7 := { stood := { row := scheduleFilledRow, standIns := [], harness := (true, "cbf8bce66b5ba0dbe18b77e2dff440b188c3ec5fc4b152eda6c850d687252077"), looks := false }, kinds := [], alts := [], laidByText := true, laidKinds := [.data, .data, .data, .data], laidTests := true, laidLooks := .later }
def ScheduleFilledCardSaid : Prop := Claim7.holds Tryz.pinned (.plain (OpenSpec.ofChange scheduleFilledSpec)) scheduleFilledCard

/-- THE TIED CARD OF 'genlocklaw09.ScheduleLate'. -/
def scheduleLateCard : Claim7 := { stood := { row := scheduleLateRow, standIns := [], harness := (true, "cbf8bce66b5ba0dbe18b77e2dff440b188c3ec5fc4b152eda6c850d687252077"), looks := false }, kinds := [], alts := [], laidByText := true, laidKinds := [.data, .data, .data, .data], laidTests := true, laidLooks := .later }
def ScheduleLateCardSaid : Prop := Claim7.holds Tryz.pinned (.plain (OpenSpec.ofChange scheduleLateSpec)) scheduleLateCard

/-- THE TIED CARD OF 'genlocklaw09.ScheduleMoves'. -/
def scheduleMovesCard : Claim7 := { stood := { row := scheduleMovesRow, standIns := [], harness := (true, "cbf8bce66b5ba0dbe18b77e2dff440b188c3ec5fc4b152eda6c850d687252077"), looks := false }, kinds := [], alts := [], laidByText := true, laidKinds := [.data, .data, .data, .data], laidTests := true, laidLooks := .later }
def ScheduleMovesCardSaid : Prop := Claim7.holds Tryz.pinned (.plain (OpenSpec.ofChange scheduleMovesSpec)) scheduleMovesCard

/-- THE SECOND FORM's CARD OF 'genlocklaw09.ScheduleTimes'. -/
def scheduleTimesUptoCard : Claim7 := { stood := { row := scheduleTimesUptoRow, standIns := [], harness := (true, "cbf8bce66b5ba0dbe18b77e2dff440b188c3ec5fc4b152eda6c850d687252077"), looks := false }, kinds := [], alts := [], laidByText := true, laidKinds := [.data, .data, .data, .data], laidTests := true, laidLooks := .later }
def ScheduleTimesUptoCardSaid : Prop := Claim7.holds Tryz.pinned (.plain (OpenSpec.upto scheduleTimesSpec)) scheduleTimesUptoCard

/-- THE SECOND FORM's CARD OF 'genlocklaw09.ScheduleRights'. -/
def scheduleRightsUptoCard : Claim7 := { stood := { row := scheduleRightsUptoRow, standIns := [], harness := (true, "cbf8bce66b5ba0dbe18b77e2dff440b188c3ec5fc4b152eda6c850d687252077"), looks := false }, kinds := [], alts := [], laidByText := true, laidKinds := [.data, .data, .data, .data], laidTests := true, laidLooks := .later }
def ScheduleRightsUptoCardSaid : Prop := Claim7.holds Tryz.pinned (.plain (OpenSpec.upto scheduleRightsSpec)) scheduleRightsUptoCard

/-- THE SECOND FORM's CARD OF 'genlocklaw09.SchedulePrices'. -/
def schedulePricesUptoCard : Claim7 := { stood := { row := schedulePricesUptoRow, standIns := [], harness := (true, "cbf8bce66b5ba0dbe18b77e2dff440b188c3ec5fc4b152eda6c850d687252077"), looks := false }, kinds := [], alts := [], laidByText := true, laidKinds := [.data, .data, .data, .data], laidTests := true, laidLooks := .later }
def SchedulePricesUptoCardSaid : Prop := Claim7.holds Tryz.pinned (.plain (OpenSpec.upto schedulePricesSpec)) schedulePricesUptoCard

/-- THE SECOND FORM's CARD OF 'genlocklaw09.SchedulePlaces'. -/
def schedulePlacesUptoCard : Claim7 := { stood := { row := schedulePlacesUptoRow, standIns := [], harness := (true, "cbf8bce66b5ba0dbe18b77e2dff440b188c3ec5fc4b152eda6c850d687252077"), looks := false }, kinds := [], alts := [], laidByText := true, laidKinds := [.data, .data, .data, .data], laidTests := true, laidLooks := .later }
def SchedulePlacesUptoCardSaid : Prop := Claim7.holds Tryz.pinned (.plain (OpenSpec.upto schedulePlacesSpec)) schedulePlacesUptoCard

/-- THE SECOND FORM's CARD OF 'genlocklaw09.ScheduleAir'. -/
def scheduleAirUptoCard : Claim7 := { stood := { row := scheduleAirUptoRow, standIns := [], harness := (true, "cbf8bce66b5ba0dbe18b77e2dff440b188c3ec5fc4b152eda6c850d687252077"), looks := false }, kinds := [], alts := [], laidByText := true, laidKinds := [.data, .data, .data, .data], laidTests := true, laidLooks := .later }
def ScheduleAirUptoCardSaid : Prop := Claim7.holds Tryz.pinned (.plain (OpenSpec.upto scheduleAirSpec)) scheduleAirUptoCard

/-- THE SECOND FORM's CARD OF 'genlocklaw09.ScheduleBreaks'. -/
def scheduleBreaksUptoCard : Claim7 := { stood := { row := scheduleBreaksUptoRow, standIns := [], harness := (true, "cbf8bce66b5ba0dbe18b77e2dff440b188c3ec5fc4b152eda6c850d687252077"), looks := false }, kinds := [], alts := [], laidByText := true, laidKinds := [.data, .data, .data, .data], laidTests := true, laidLooks := .later }
def ScheduleBreaksUptoCardSaid : Prop := Claim7.holds Tryz.pinned (.plain (OpenSpec.upto scheduleBreaksSpec)) scheduleBreaksUptoCard

/-- THE SECOND FORM's CARD OF 'genlocklaw09.ScheduleBest'. -/
def scheduleBestUptoCard : Claim7 := { stood := { row := scheduleBestUptoRow, standIns := [], harness := (true, "cbf8bce66b5ba0dbe18b77e2dff440b188c3ec5fc4b152eda6c850d687252077"), looks := false }, kinds := [], alts := [], laidByText := true, laidKinds := [.data, .data, .data, .data], laidTests := true, laidLooks := .later }
def ScheduleBestUptoCardSaid : Prop := Claim7.holds Tryz.pinned (.plain (OpenSpec.upto scheduleBestSpec)) scheduleBestUptoCard

/-- THE SECOND FORM's CARD OF 'genlocklaw09.ScheduleChanges'. -/
def scheduleChangesUptoCard : Claim7 := { stood := { row := scheduleChangesUptoRow, standIns := [], harness := (true, "cbf8bce66b5ba0dbe18b77e2dff440b188c3ec5fc4b152eda6c850d687252077"), looks := false }, kinds := [], alts := [], laidByText := true, laidKinds := [.data, .data, .data, .data], laidTests := true, laidLooks := .later }
def ScheduleChangesUptoCardSaid : Prop := Claim7.holds Tryz.pinned (.plain (OpenSpec.upto scheduleChangesSpec)) scheduleChangesUptoCard

/-- THE SECOND FORM's CARD OF 'genlocklaw09.ScheduleRundowns'. -/
def scheduleRundownsUptoCard : Claim7 := { stood := { row := scheduleRundownsUptoRow, standIns := [], harness := (true, "cbf8bce66b5ba0dbe18b77e2dff440b188c3ec5fc4b152eda6c850d687252077"), looks := false }, kinds := [], alts := [], laidByText := true, laidKinds := [.data, .data, .data, .data], laidTests := true, laidLooks := .later }
def ScheduleRundownsUptoCardSaid : Prop := Claim7.holds Tryz.pinned (.plain (OpenSpec.upto scheduleRundownsSpec)) scheduleRundownsUptoCard

/-- THE SECOND FORM's CARD OF 'genlocklaw09.ScheduleTexts'. -/
def scheduleTextsUptoCard : Claim7 := { stood := { row := scheduleTextsUptoRow, standIns := [], harness := (true, "cbf8bce66b5ba0dbe18b77e2dff440b188c3ec5fc4b152eda6c850d687252077"), looks := false }, kinds := [], alts := [], laidByText := true, laidKinds := [.data, .data, .data, .data, .data, .pinned], laidTests := true, laidLooks := .later }
def ScheduleTextsUptoCardSaid : Prop := Claim7.holds Tryz.pinned (.plain (OpenSpec.upto scheduleTextsSpec)) scheduleTextsUptoCard

/-- THE SECOND FORM's CARD OF 'genlocklaw09.ScheduleBack'. -/
def scheduleBackUptoCard : Claim7 := { stood := { row := scheduleBackUptoRow, standIns := [], harness := (true, "cbf8bce66b5ba0dbe18b77e2dff440b188c3ec5fc4b152eda6c850d687252077"), looks := false }, kinds := [], alts := [], laidByText := true, laidKinds := [.data, .data, .data, .data, .data, .pinned], laidTests := true, laidLooks := .later }
def ScheduleBackUptoCardSaid : Prop := Claim7.holds Tryz.pinned (.plain (OpenSpec.upto scheduleBackSpec)) scheduleBackUptoCard

/-- THE SECOND FORM's CARD OF 'genlocklaw09.ScheduleFilled'. -/
def scheduleFilledUptoCard : Claim7 := { stood := { row := scheduleFilledUptoRow, standIns := [], harness := (true, "cbf8bce66b5ba0dbe18b77e2dff440b188c3ec5fc4b152eda6c850d687252077"), looks := false }, kinds := [], alts := [], laidByText := true, laidKinds := [.data, .data, .data, .data], laidTests := true, laidLooks := .later }
def ScheduleFilledUptoCardSaid : Prop := Claim7.holds Tryz.pinned (.plain (OpenSpec.upto scheduleFilledSpec)) scheduleFilledUptoCard

/-- THE SECOND FORM's CARD OF 'genlocklaw09.ScheduleLate'. -/
def scheduleLateUptoCard : Claim7 := { stood := { row := scheduleLateUptoRow, standIns := [], harness := (true, "cbf8bce66b5ba0dbe18b77e2dff440b188c3ec5fc4b152eda6c850d687252077"), looks := false }, kinds := [], alts := [], laidByText := true, laidKinds := [.data, .data, .data, .data], laidTests := true, laidLooks := .later }
def ScheduleLateUptoCardSaid : Prop := Claim7.holds Tryz.pinned (.plain (OpenSpec.upto scheduleLateSpec)) scheduleLateUptoCard

/-- THE SECOND FORM's CARD OF 'genlocklaw09.ScheduleMoves'. -/
def scheduleMovesUptoCard : Claim7 := { stood := { row := scheduleMovesUptoRow, standIns := [], harness := (true, "cbf8bce66b5ba0dbe18b77e2dff440b188c3ec5fc4b152eda6c850d687252077"), looks := false }, kinds := [], alts := [], laidByText := true, laidKinds := [.data, .data, .data, .data], laidTests := true, laidLooks := .later }
def ScheduleMovesUptoCardSaid : Prop := Claim7.holds Tryz.pinned (.plain (OpenSpec.upto scheduleMovesSpec)) scheduleMovesUptoCard
end Rows
end Go.Proofs.YtfbgbipclgljaaaGreatDoor
