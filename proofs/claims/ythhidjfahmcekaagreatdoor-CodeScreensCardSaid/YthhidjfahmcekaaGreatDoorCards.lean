/-
  DERIVED. GIVEN WITH THE SEED: THE CARDS: each row of YthhidjfahmcekaaGreatDoorRows.lean that lists a variable, with what it lists TIED to the program's text (the seventh form; the later family's looks); each row that meets fmt, with fmt's text TOLD by the authors' own Lean function (tested against real Go, not proved from fmt's source: count such statements apart). THE CARD IS WHAT COUNTS. Prove the row's statement (the work); the ties are given (YthhidjfahmcekaaGreatDoorTie.lean); close each card by the builder's one call (the guide's Derived/Test/ToyasCard.lean, 'card_holds'). Laid BY PROGRAM, IN A SANDBOX (cutbox-door.mjs). By AI agents, Wed Nov 11 2026. No macro, syntax, notation, axiom, sorry.
-/
import Derived.Test.YthhidjfahmcekaaGreatDoorRows
import GoSem.ClaimSeven
namespace Go.Proofs.YthhidjfahmcekaaGreatDoor
namespace Rows

/-- THE TIED CARD OF 'genlocklaw07.CodeLabels'. -/
def codeLabelsCard : Claim7 := { stood := { row := codeLabelsRow, standIns := [], harness := (true, "0ef68d83654f4a994573fa9a88d9e42c72f41222b2076aa8065aae75b05ee26a"), looks := false }, kinds := [], alts := [], laidByText := true, laidKinds := [.data, .data, .data, .widerDeep], laidTests := true, laidLooks := .later }
def CodeLabelsCardSaid : Prop := Claim7.holds Tryz.pinned (.plain (OpenSpec.ofChange codeLabelsSpec)) codeLabelsCard

/-- THE TIED CARD OF 'genlocklaw07.CodeFrames'. -/
def codeFramesCard : Claim7 := { stood := { row := codeFramesRow, standIns := [], harness := (true, "0ef68d83654f4a994573fa9a88d9e42c72f41222b2076aa8065aae75b05ee26a"), looks := false }, kinds := [], alts := [], laidByText := true, laidKinds := [.data, .data, .data, .widerDeep], laidTests := true, laidLooks := .later }
def CodeFramesCardSaid : Prop := Claim7.holds Tryz.pinned (.plain (OpenSpec.ofChange codeFramesSpec)) codeFramesCard

/-- THE TIED CARD OF 'genlocklaw07.CodeWords'. -/
def codeWordsCard : Claim7 := { stood := { row := codeWordsRow, standIns := [], harness := (true, "0ef68d83654f4a994573fa9a88d9e42c72f41222b2076aa8065aae75b05ee26a"), looks := false }, kinds := [], alts := [], laidByText := true, laidKinds := [.data, .data, .data, .widerDeep], laidTests := true, laidLooks := .later }
def CodeWordsCardSaid : Prop := Claim7.holds Tryz.pinned (.plain (OpenSpec.ofChange codeWordsSpec)) codeWordsCard

/-- THE TIED CARD OF 'genlocklaw07.CodeCadences'. -/
def codeCadencesCard : Claim7 := { stood := { row := codeCadencesRow, standIns := [], harness := (true, "0ef68d83654f4a994573fa9a88d9e42c72f41222b2076aa8065aae75b05ee26a"), looks := false }, kinds := [], alts := [], laidByText := true, laidKinds := [.data, .data, .data, .widerDeep], laidTests := true, laidLooks := .later }
def CodeCadencesCardSaid : Prop := Claim7.holds Tryz.pinned (.plain (OpenSpec.ofChange codeCadencesSpec)) codeCadencesCard

/-- THE TIED CARD OF 'genlocklaw07.CodeBits'. -/
def codeBitsCard : Claim7 := { stood := { row := codeBitsRow, standIns := [], harness := (true, "0ef68d83654f4a994573fa9a88d9e42c72f41222b2076aa8065aae75b05ee26a"), looks := false }, kinds := [], alts := [], laidByText := true, laidKinds := [.data, .data, .data, .widerDeep], laidTests := true, laidLooks := .later }
def CodeBitsCardSaid : Prop := Claim7.holds Tryz.pinned (.plain (OpenSpec.ofChange codeBitsSpec)) codeBitsCard

/-- THE TIED CARD OF 'genlocklaw07.CodeDays'. -/
def codeDaysCard : Claim7 := { stood := { row := codeDaysRow, standIns := [], harness := (true, "0ef68d83654f4a994573fa9a88d9e42c72f41222b2076aa8065aae75b05ee26a"), looks := false }, kinds := [], alts := [], laidByText := true, laidKinds := [.data, .data, .data, .widerDeep], laidTests := true, laidLooks := .later }
def CodeDaysCardSaid : Prop := Claim7.holds Tryz.pinned (.plain (OpenSpec.ofChange codeDaysSpec)) codeDaysCard

/-- THE TIED CARD OF 'genlocklaw07.CodePulls'. -/
def codePullsCard : Claim7 := { stood := { row := codePullsRow, standIns := [], harness := (true, "0ef68d83654f4a994573fa9a88d9e42c72f41222b2076aa8065aae75b05ee26a"), looks := false }, kinds := [], alts := [], laidByText := true, laidKinds := [.data, .data, .data, .widerDeep], laidTests := true, laidLooks := .later }
def CodePullsCardSaid : Prop := Claim7.holds Tryz.pinned (.plain (OpenSpec.ofChange codePullsSpec)) codePullsCard

/-- THE TIED CARD OF 'genlocklaw07.CodeCaptions'. -/
def codeCaptionsCard : Claim7 := { stood := { row := codeCaptionsRow, standIns := [], harness := (true, "0ef68d83654f4a994573fa9a88d9e42c72f41222b2076aa8065aae75b05ee26a"), looks := false }, kinds := [], alts := [], laidByText := true, laidKinds := [.data, .data, .data, .widerDeep], laidTests := true, laidLooks := .later }
def CodeCaptionsCardSaid : Prop := Claim7.holds Tryz.pinned (.plain (OpenSpec.ofChange codeCaptionsSpec)) codeCaptionsCard

/-- THE TIED CARD OF 'genlocklaw07.CodeScreens'. -/
def codeScreensCard : Claim7 := { stood := { row := codeScreensRow, standIns := [], harness := (true, "0ef68d83654f4a994573fa9a88d9e42c72f41222b2076aa8065aae75b05ee26a"), looks := false }, kinds := [], alts := [], laidByText := true, laidKinds := [.data, .data, .data, .widerDeep], laidTests := true, laidLooks := .later }
def CodeScreensCardSaid : Prop := Claim7.holds Tryz.pinned (.plain (OpenSpec.ofChange codeScreensSpec)) codeScreensCard

/-- THE TIED CARD OF 'genlocklaw07.CodeFinds'. -/
def codeFindsCard : Claim7 := { stood := { row := codeFindsRow, standIns := [], harness := (true, "0ef68d83654f4a994573fa9a88d9e42c72f41222b2076aa8065aae75b05ee26a"), looks := false }, kinds := [], alts := [], laidByText := true, laidKinds := [.data, .data, .data, .widerDeep], laidTests := true, laidLooks := .later }
def CodeFindsCardSaid : Prop := Claim7.holds Tryz.pinned (.plain (OpenSpec.ofChange codeFindsSpec)) codeFindsCard

/-- THE TIED CARD OF 'genlocklaw07.CodeFound'. -/
def codeFoundCard : Claim7 := { stood := { row := codeFoundRow, standIns := [], harness := (true, "0ef68d83654f4a994573fa9a88d9e42c72f41222b2076aa8065aae75b05ee26a"), looks := false }, kinds := [], alts := [], laidByText := true, laidKinds := [.data, .data, .data, .widerDeep], laidTests := true, laidLooks := .later }
def CodeFoundCardSaid : Prop := Claim7.holds Tryz.pinned (.plain (OpenSpec.ofChange codeFoundSpec)) codeFoundCard

/-- THE TIED CARD OF 'genlocklaw07.CodeTexts'. -/
def codeTextsCard : Claim7 := { stood := { row := codeTextsRow, standIns := [], harness := (true, "0ef68d83654f4a994573fa9a88d9e42c72f41222b2076aa8065aae75b05ee26a"), looks := false }, kinds := [], alts := [], laidByText := true, laidKinds := [.data, .data, .data, .data, .widerDeep, .pinned], laidTests := true, laidLooks := .later }
def CodeTextsCardSaid : Prop := Claim7.holds Tryz.pinned (.plain (OpenSpec.ofChange codeTextsSpec)) codeTextsCard

/-- THE TIED CARD OF 'genlocklaw07.CodeBack'. -/
def codeBackCard : Claim7 := { stood := { row := codeBackRow, standIns := [], harness := (true, "0ef68d83654f4a994573fa9a88d9e42c72f41222b2076aa8065aae75b05ee26a"), looks := false }, kinds := [], alts := [], laidByText := true, laidKinds := [.data, .data, .data, .data, .widerDeep, .pinned], laidTests := true, laidLooks := .later }
def CodeBackCardSaid : Prop := Claim7.holds Tryz.pinned (.plain (OpenSpec.ofChange codeBackSpec)) codeBackCard

/-- THE TIED CARD OF 'genlocktop.TopCraneTitled'. -/
def topCraneTitledCard : Claim7 := { stood := { row := topCraneTitledRow, standIns := [], harness := (true, "0ef68d83654f4a994573fa9a88d9e42c72f41222b2076aa8065aae75b05ee26a"), looks := false }, kinds := [], alts := [], laidByText := true, laidKinds := [.widerDeep, .data], laidTests := true, laidLooks := .later }
def TopCraneTitledCardSaid : Prop := Claim7.holds Tryz.pinned (.plain (OpenSpec.ofChange topCraneTitledSpec)) topCraneTitledCard

/-- THE SECOND FORM's CARD OF 'genlocklaw07.CodeLabels'. -/
def codeLabelsUptoCard : Claim7 := { stood := { row := codeLabelsUptoRow, standIns := [], harness := (true, "0ef68d83654f4a994573fa9a88d9e42c72f41222b2076aa8065aae75b05ee26a"), looks := false }, kinds := [], alts := [], laidByText := true, laidKinds := [.data, .data, .data, .widerDeep], laidTests := true, laidLooks := .later }
def CodeLabelsUptoCardSaid : Prop := Claim7.holds Tryz.pinned (.plain (OpenSpec.upto codeLabelsSpec)) codeLabelsUptoCard

/-- THE SECOND FORM's CARD OF 'genlocklaw07.CodeFrames'. -/
def codeFramesUptoCard : Claim7 := { stood := { row := codeFramesUptoRow, standIns := [], harness := (true, "0ef68d83654f4a994573fa9a88d9e42c72f41222b2076aa8065aae75b05ee26a"), looks := false }, kinds := [], alts := [], laidByText := true, laidKinds := [.data, .data, .data, .widerDeep], laidTests := true, laidLooks := .later }
def CodeFramesUptoCardSaid : Prop := Claim7.holds Tryz.pinned (.plain (OpenSpec.upto codeFramesSpec)) codeFramesUptoCard

/-- THE SECOND FORM's CARD OF 'genlocklaw07.CodeWords'. -/
def codeWordsUptoCard : Claim7 := { stood := { row := codeWordsUptoRow, standIns := [], harness := (true, "0ef68d83654f4a994573fa9a88d9e42c72f41222b2076aa8065aae75b05ee26a"), looks := false }, kinds := [], alts := [], laidByText := true, laidKinds := [.data, .data, .data, .widerDeep], laidTests := true, laidLooks := .later }
def CodeWordsUptoCardSaid : Prop := Claim7.holds Tryz.pinned (.plain (OpenSpec.upto codeWordsSpec)) codeWordsUptoCard

/-- THE SECOND FORM's CARD OF 'genlocklaw07.CodeCadences'. -/
def codeCadencesUptoCard : Claim7 := { stood := { row := codeCadencesUptoRow, standIns := [], harness := (true, "0ef68d83654f4a994573fa9a88d9e42c72f41222b2076aa8065aae75b05ee26a"), looks := false }, kinds := [], alts := [], laidByText := true, laidKinds := [.data, .data, .data, .widerDeep], laidTests := true, laidLooks := .later }
def CodeCadencesUptoCardSaid : Prop := Claim7.holds Tryz.pinned (.plain (OpenSpec.upto codeCadencesSpec)) codeCadencesUptoCard

/-- THE SECOND FORM's CARD OF 'genlocklaw07.CodeBits'. -/
def codeBitsUptoCard : Claim7 := { stood := { row := codeBitsUptoRow, standIns := [], harness := (true, "0ef68d83654f4a994573fa9a88d9e42c72f41222b2076aa8065aae75b05ee26a"), looks := false }, kinds := [], alts := [], laidByText := true, laidKinds := [.data, .data, .data, .widerDeep], laidTests := true, laidLooks := .later }
def CodeBitsUptoCardSaid : Prop := Claim7.holds Tryz.pinned (.plain (OpenSpec.upto codeBitsSpec)) codeBitsUptoCard

/-- THE SECOND FORM's CARD OF 'genlocklaw07.CodeDays'. -/
def codeDaysUptoCard : Claim7 := { stood := { row := codeDaysUptoRow, standIns := [], harness := (true, "0ef68d83654f4a994573fa9a88d9e42c72f41222b2076aa8065aae75b05ee26a"), looks := false }, kinds := [], alts := [], laidByText := true, laidKinds := [.data, .data, .data, .widerDeep], laidTests := true, laidLooks := .later }
def CodeDaysUptoCardSaid : Prop := Claim7.holds Tryz.pinned (.plain (OpenSpec.upto codeDaysSpec)) codeDaysUptoCard

/-- THE SECOND FORM's CARD OF 'genlocklaw07.CodePulls'. -/
def codePullsUptoCard : Claim7 := { stood := { row := codePullsUptoRow, standIns := [], harness := (true, "0ef68d83654f4a994573fa9a88d9e42c72f41222b2076aa8065aae75b05ee26a"), looks := false }, kinds := [], alts := [], laidByText := true, laidKinds := [.data, .data, .data, .widerDeep], laidTests := true, laidLooks := .later }
def CodePullsUptoCardSaid : Prop := Claim7.holds Tryz.pinned (.plain (OpenSpec.upto codePullsSpec)) codePullsUptoCard

/-- THE SECOND FORM's CARD OF 'genlocklaw07.CodeCaptions'. -/
def codeCaptionsUptoCard : Claim7 := { stood := { row := codeCaptionsUptoRow, standIns := [], harness := (true, "0ef68d83654f4a994573fa9a88d9e42c72f41222b2076aa8065aae75b05ee26a"), looks := false }, kinds := [], alts := [], laidByText := true, laidKinds := [.data, .data, .data, .widerDeep], laidTests := true, laidLooks := .later }
def CodeCaptionsUptoCardSaid : Prop := Claim7.holds Tryz.pinned (.plain (OpenSpec.upto codeCaptionsSpec)) codeCaptionsUptoCard

/-- THE SECOND FORM's CARD OF 'genlocklaw07.CodeScreens'. -/
def codeScreensUptoCard : Claim7 := { stood := { row := codeScreensUptoRow, standIns := [], harness := (true, "0ef68d83654f4a994573fa9a88d9e42c72f41222b2076aa8065aae75b05ee26a"), looks := false }, kinds := [], alts := [], laidByText := true, laidKinds := [.data, .data, .data, .widerDeep], laidTests := true, laidLooks := .later }
def CodeScreensUptoCardSaid : Prop := Claim7.holds Tryz.pinned (.plain (OpenSpec.upto codeScreensSpec)) codeScreensUptoCard

/-- THE SECOND FORM's CARD OF 'genlocklaw07.CodeFinds'. -/
def codeFindsUptoCard : Claim7 := { stood := { row := codeFindsUptoRow, standIns := [], harness := (true, "0ef68d83654f4a994573fa9a88d9e42c72f41222b2076aa8065aae75b05ee26a"), looks := false }, kinds := [], alts := [], laidByText := true, laidKinds := [.data, .data, .data, .widerDeep], laidTests := true, laidLooks := .later }
def CodeFindsUptoCardSaid : Prop := Claim7.holds Tryz.pinned (.plain (OpenSpec.upto codeFindsSpec)) codeFindsUptoCard

/-- THE SECOND FORM's CARD OF 'genlocklaw07.CodeFound'. -/
def codeFoundUptoCard : Claim7 := { stood := { row := codeFoundUptoRow, standIns := [], harness := (true, "0ef68d83654f4a994573fa9a88d9e42c72f41222b2076aa8065aae75b05ee26a"), looks := false }, kinds := [], alts := [], laidByText := true, laidKinds := [.data, .data, .data, .widerDeep], laidTests := true, laidLooks := .later }
def CodeFoundUptoCardSaid : Prop := Claim7.holds Tryz.pinned (.plain (OpenSpec.upto codeFoundSpec)) codeFoundUptoCard

/-- THE SECOND FORM's CARD OF 'genlocklaw07.CodeTexts'. -/
def codeTextsUptoCard : Claim7 := { stood := { row := codeTextsUptoRow, standIns := [], harness := (true, "0ef68d83654f4a994573fa9a88d9e42c72f41222b2076aa8065aae75b05ee26a"), looks := false }, kinds := [], alts := [], laidByText := true, laidKinds := [.data, .data, .data, .data, .widerDeep, .pinned], laidTests := true, laidLooks := .later }
def CodeTextsUptoCardSaid : Prop := Claim7.holds Tryz.pinned (.plain (OpenSpec.upto codeTextsSpec)) codeTextsUptoCard

/-- THE SECOND FORM's CARD OF 'genlocklaw07.CodeBack'. -/
def codeBackUptoCard : Claim7 := { stood := { row := codeBackUptoRow, standIns := [], harness := (true, "0ef68d83654f4a994573fa9a88d9e42c72f41222b2076aa8065aae75b05ee26a"), looks := false }, kinds := [], alts := [], laidByText := true, laidKinds := [.data, .data, .data, .data, .widerDeep, .pinned], laidTests := true, laidLooks := .later }
def CodeBackUptoCardSaid : Prop := Claim7.holds Tryz.pinned (.plain (OpenSpec.upto codeBackSpec)) codeBackUptoCard

/-- THE SECOND FORM's CARD OF 'genlocktop.TopCraneTitled'. -/
def topCraneTitledUptoCard : Claim7 := { stood := { row := topCraneTitledUptoRow, standIns := [], harness := (true, "0ef68d83654f4a994573fa9a88d9e42c72f41222b2076aa8065aae75b05ee26a"), looks := false }, kinds := [], alts := [], laidByText := true, laidKinds := [.widerDeep, .data], laidTests := true, laidLooks := .later }
def TopCraneTitledUptoCardSaid : Prop := Claim7.holds Tryz.pinned (.plain (OpenSpec.upto topCraneTitledSpec)) topCraneTitledUptoCard
end Rows
end Go.Proofs.YthhidjfahmcekaaGreatDoor
