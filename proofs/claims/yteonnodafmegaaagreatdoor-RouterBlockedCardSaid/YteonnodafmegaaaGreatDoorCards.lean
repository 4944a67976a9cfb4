/-
  DERIVED. GIVEN WITH THE SEED: THE CARDS: each row of YteonnodafmegaaaGreatDoorRows.lean that lists a variable, with what it lists TIED to the program's text (the seventh form; the later family's looks); each row that meets fmt, with fmt's text TOLD by the authors' own Lean function (tested against real Go, not proved from fmt's source: count such statements apart). THE CARD IS WHAT COUNTS. Prove the row's statement (the work); the ties are given (YteonnodafmegaaaGreatDoorTie.lean); close each card by the builder's one call (the guide's Derived/Test/ToyasCard.lean, 'card_holds'). Laid BY PROGRAM, IN A SANDBOX (cutbox-door.mjs). By AI agents, Wed Nov 11 2026. No macro, syntax, notation, axiom, sorry.
-/
import Derived.Test.YteonnodafmegaaaGreatDoorRows
import GoSem.ClaimSeven
namespace Go.Proofs.YteonnodafmegaaaGreatDoor
namespace Rows

/-- THE TIED CARD OF 'genlocklaw05.RouterStates'. -/
def routerStatesCard : Claim7 := { stood := { row := routerStatesRow, standIns := [], harness := (true, "bc2fc6f0e1e07d2f37791b4ccc178b5e6ff1233c4d56b9b9dd47b280cfc57924"), looks := false }, kinds := [], alts := [], laidByText := true, laidKinds := [.data, .data, .data], laidTests := true, laidLooks := .later }
def RouterStatesCardSaid : Prop := Claim7.holds Tryz.pinned (.plain (OpenSpec.ofChange routerStatesSpec)) routerStatesCard

/-- THE TIED CARD OF 'genlocklaw05.RouterCuts'. -/
def routerCutsCard : Claim7 := { stood := { row := routerCutsRow, standIns := [], harness := (true, "bc2fc6f0e1e07d2f37791b4ccc178b5e6ff1233c4d56b9b9dd47b280cfc57924"), looks := false }, kinds := [], alts := [], laidByText := true, laidKinds := [.data, .data, .data], laidTests := true, laidLooks := .later }
def RouterCutsCardSaid : Prop := Claim7.holds Tryz.pinned (.plain (OpenSpec.ofChange routerCutsSpec)) routerCutsCard

/-- THE TIED CARD OF 'genlocklaw05.RouterSalvos'. -/
def routerSalvosCard : Claim7 := { stood := { row := routerSalvosRow, standIns := [], harness := (true, "bc2fc6f0e1e07d2f37791b4ccc178b5e6ff1233c4d56b9b9dd47b280cfc57924"), looks := false }, kinds := [], alts := [], laidByText := true, laidKinds := [.data, .data, .data], laidTests := true, laidLooks := .later }
def RouterSalvosCardSaid : Prop := Claim7.holds Tryz.pinned (.plain (OpenSpec.ofChange routerSalvosSpec)) routerSalvosCard

/-- THE TIED CARD OF 'genlocklaw05.RouterWhole'. -/
def routerWholeCard : Claim7 := { stood := { row := routerWholeRow, standIns := [], harness := (true, "bc2fc6f0e1e07d2f37791b4ccc178b5e6ff1233c4d56b9b9dd47b280cfc57924"), looks := false }, kinds := [], alts := [], laidByText := true, laidKinds := [.data, .data, .data], laidTests := true, laidLooks := .later }
def RouterWholeCardSaid : Prop := Claim7.holds Tryz.pinned (.plain (OpenSpec.ofChange routerWholeSpec)) routerWholeCard

/-- THE TIED CARD OF 'genlocklaw05.RouterOrders'. -/
def routerOrdersCard : Claim7 := { stood := { row := routerOrdersRow, standIns := [], harness := (true, "bc2fc6f0e1e07d2f37791b4ccc178b5e6ff1233c4d56b9b9dd47b280cfc57924"), looks := false }, kinds := [], alts := [], laidByText := true, laidKinds := [.data, .data, .data], laidTests := true, laidLooks := .later }
def RouterOrdersCardSaid : Prop := Claim7.holds Tryz.pinned (.plain (OpenSpec.ofChange routerOrdersSpec)) routerOrdersCard

/-- THE TIED CARD OF 'genlocklaw05.RouterFrames'. -/
def routerFramesCard : Claim7 := { stood := { row := routerFramesRow, standIns := [], harness := (true, "bc2fc6f0e1e07d2f37791b4ccc178b5e6ff1233c4d56b9b9dd47b280cfc57924"), looks := false }, kinds := [], alts := [], laidByText := true, laidKinds := [.data, .data, .data], laidTests := true, laidLooks := .later }
def RouterFramesCardSaid : Prop := Claim7.holds Tryz.pinned (.plain (OpenSpec.ofChange routerFramesSpec)) routerFramesCard

/-- THE TIED CARD OF 'genlocklaw05.RouterWays'. -/
def routerWaysCard : Claim7 := { stood := { row := routerWaysRow, standIns := [], harness := (true, "bc2fc6f0e1e07d2f37791b4ccc178b5e6ff1233c4d56b9b9dd47b280cfc57924"), looks := false }, kinds := [], alts := [], laidByText := true, laidKinds := [.data, .data, .data], laidTests := true, laidLooks := .later }
def RouterWaysCardSaid : Prop := Claim7.holds Tryz.pinned (.plain (OpenSpec.ofChange routerWaysSpec)) routerWaysCard

/-- THE TIED CARD OF 'genlocklaw05.RouterBlocked'. -/
def routerBlockedCard : Claim7 := { stood := { row := routerBlockedRow, standIns := [], harness := (true, "bc2fc6f0e1e07d2f37791b4ccc178b5e6ff1233c4d56b9b9dd47b280cfc57924"), looks := false }, kinds := [], alts := [], laidByText := true, laidKinds := [.data, .data, .data], laidTests := true, laidLooks := .later }
def RouterBlockedCardSaid : Prop := Claim7.holds Tryz.pinned (.plain (OpenSpec.ofChange routerBlockedSpec)) routerBlockedCard

/-- THE TIED CARD OF 'genlocklaw05.RouterPorts'. -/
def routerPortsCard : Claim7 := { stood := { row := routerPortsRow, standIns := [], harness := (true, "bc2fc6f0e1e07d2f37791b4ccc178b5e6ff1233c4d56b9b9dd47b280cfc57924"), looks := false }, kinds := [], alts := [], laidByText := true, laidKinds := [.data, .data, .data], laidTests := true, laidLooks := .later }
def RouterPortsCardSaid : Prop := Claim7.holds Tryz.pinned (.plain (OpenSpec.ofChange routerPortsSpec)) routerPortsCard

/-- THE TIED CARD OF 'genlocklaw05.RouterUndoes'. -/
def routerUndoesCard : Claim7 := { stood := { row := routerUndoesRow, standIns := [], harness := (true, "bc2fc6f0e1e07d2f37791b4ccc178b5e6ff1233c4d56b9b9dd47b280cfc57924"), looks := false }, kinds := [], alts := [], laidByText := true, laidKinds := [.data, .data, .data], laidTests := true, laidLooks := .later }
def RouterUndoesCardSaid : Prop := Claim7.holds Tryz.pinned (.plain (OpenSpec.ofChange routerUndoesSpec)) routerUndoesCard

/-- THE TIED CARD OF 'genlocklaw05.RouterTexts'. -/
def routerTextsCard : Claim7 := { stood := { row := routerTextsRow, standIns := [], harness := (true, "bc2fc6f0e1e07d2f37791b4ccc178b5e6ff1233c4d56b9b9dd47b280cfc57924"), looks := false }, kinds := [], alts := [], laidByText := true, laidKinds := [.data, .data, .data, .data, .pinned], laidTests := true, laidLooks := .later }
def RouterTextsCardSaid : Prop := Claim7.holds Tryz.pinned (.plain (OpenSpec.ofChange routerTextsSpec)) routerTextsCard

/-- THE TIED CARD OF 'genlocklaw05.RouterBack'. -/
def routerBackCard : Claim7 := { stood := { row := routerBackRow, standIns := [], harness := (true, "bc2fc6f0e1e07d2f37791b4ccc178b5e6ff1233c4d56b9b9dd47b280cfc57924"), looks := false }, kinds := [], alts := [], laidByText := true, laidKinds := [.data, .data, .data, .data, .pinned], laidTests := true, laidLooks := .later }
def RouterBackCardSaid : Prop := Claim7.holds Tryz.pinned (.plain (OpenSpec.ofChange routerBackSpec)) routerBackCard

/-- THE TIED CARD OF 'genlocktop.TopCraneInterval'. -/
def topCraneIntervalCard : Claim7 := { stood := { row := topCraneIntervalRow, standIns := [], harness := (true, "bc2fc6f0e1e07d2f37791b4ccc178b5e6ff1233c4d56b9b9dd47b280cfc57924"), looks := false }, kinds := [], alts := [], laidByText := true, laidKinds := [.data], laidTests := true, laidLooks := .later }
def TopCraneIntervalCardSaid : Prop := Claim7.holds Tryz.pinned (.plain (OpenSpec.ofChange topCraneIntervalSpec)) topCraneIntervalCard

/-- THE TIED CARD OF 'genlocktop.TopCranePhase'. -/
def topCranePhaseCard : Claim7 := { stood := { row := topCranePhaseRow, standIns := [], harness := (true, "bc2fc6f0e1e07d2f37791b4ccc178b5e6ff1233c4d56b9b9dd47b280cfc57924"), looks := false }, kinds := [], alts := [], laidByText := true, laidKinds := [.data], laidTests := true, laidLooks := .later }
def TopCranePhaseCardSaid : Prop := Claim7.holds Tryz.pinned (.plain (OpenSpec.ofChange topCranePhaseSpec)) topCranePhaseCard

/-- THE SECOND FORM's CARD OF 'genlocklaw05.RouterStates'. -/
def routerStatesUptoCard : Claim7 := { stood := { row := routerStatesUptoRow, standIns := [], harness := (true, "bc2fc6f0e1e07d2f37791b4ccc178b5e6ff1233c4d56b9b9dd47b280cfc57924"), looks := false }, kinds := [], alts := [], laidByText := true, laidKinds := [.data, .data, .data], laidTests := true, laidLooks := .later }
def RouterStatesUptoCardSaid : Prop := Claim7.holds Tryz.pinned (.plain (OpenSpec.upto routerStatesSpec)) routerStatesUptoCard

/-- THE SECOND FORM's CARD OF 'genlocklaw05.RouterCuts'. -/
def routerCutsUptoCard : Claim7 := { stood := { row := routerCutsUptoRow, standIns := [], harness := (true, "bc2fc6f0e1e07d2f37791b4ccc178b5e6ff1233c4d56b9b9dd47b280cfc57924"), looks := false }, kinds := [], alts := [], laidByText := true, laidKinds := [.data, .data, .data], laidTests := true, laidLooks := .later }
def RouterCutsUptoCardSaid : Prop := Claim7.holds Tryz.pinned (.plain (OpenSpec.upto routerCutsSpec)) routerCutsUptoCard

/-- THE SECOND FORM's CARD OF 'genlocklaw05.RouterSalvos'. -/
def routerSalvosUptoCard : Claim7 := { stood := { row := routerSalvosUptoRow, standIns := [], harness := (true, "bc2fc6f0e1e07d2f37791b4ccc178b5e6ff1233c4d56b9b9dd47b280cfc57924"), looks := false }, kinds := [], alts := [], laidByText := true, laidKinds := [.data, .data, .data], laidTests := true, laidLooks := .later }
def RouterSalvosUptoCardSaid : Prop := Claim7.holds Tryz.pinned (.plain (OpenSpec.upto routerSalvosSpec)) routerSalvosUptoCard

/-- THE SECOND FORM's CARD OF 'genlocklaw05.RouterWhole'. -/
def routerWholeUptoCard : Claim7 := { stood := { row := routerWholeUptoRow, standIns := [], harness := (true, "bc2fc6f0e1e07d2f37791b4ccc178b5e6ff1233c4d56b9b9dd47b280cfc57924"), looks := false }, kinds := [], alts := [], laidByText := true, laidKinds := [.data, .data, .data], laidTests := true, laidLooks := .later }
def RouterWholeUptoCardSaid : Prop := Claim7.holds Tryz.pinned (.plain (OpenSpec.upto routerWholeSpec)) routerWholeUptoCard

/-- THE SECOND FORM's CARD OF 'genlocklaw05.RouterOrders'. -/
def routerOrdersUptoCard : Claim7 := { stood := { row := routerOrdersUptoRow, standIns := [], harness := (true, "bc2fc6f0e1e07d2f37791b4ccc178b5e6ff1233c4d56b9b9dd47b280cfc57924"), looks := false }, kinds := [], alts := [], laidByText := true, laidKinds := [.data, .data, .data], laidTests := true, laidLooks := .later }
def RouterOrdersUptoCardSaid : Prop := Claim7.holds Tryz.pinned (.plain (OpenSpec.upto routerOrdersSpec)) routerOrdersUptoCard

/-- THE SECOND FORM's CARD OF 'genlocklaw05.RouterFrames'. -/
def routerFramesUptoCard : Claim7 := { stood := { row := routerFramesUptoRow, standIns := [], harness := (true, "bc2fc6f0e1e07d2f37791b4ccc178b5e6ff1233c4d56b9b9dd47b280cfc57924"), looks := false }, kinds := [], alts := [], laidByText := true, laidKinds := [.data, .data, .data], laidTests := true, laidLooks := .later }
def RouterFramesUptoCardSaid : Prop := Claim7.holds Tryz.pinned (.plain (OpenSpec.upto routerFramesSpec)) routerFramesUptoCard

/-- THE SECOND FORM's CARD OF 'genlocklaw05.RouterWays'. -/
def routerWaysUptoCard : Claim7 := { stood := { row := routerWaysUptoRow, standIns := [], harness := (true, "bc2fc6f0e1e07d2f37791b4ccc178b5e6ff1233c4d56b9b9dd47b280cfc57924"), looks := false }, kinds := [], alts := [], laidByText := true, laidKinds := [.data, .data, .data], laidTests := true, laidLooks := .later }
def RouterWaysUptoCardSaid : Prop := Claim7.holds Tryz.pinned (.plain (OpenSpec.upto routerWaysSpec)) routerWaysUptoCard

/-- THE SECOND FORM's CARD OF 'genlocklaw05.RouterBlocked'. -/
def routerBlockedUptoCard : Claim7 := { stood := { row := routerBlockedUptoRow, standIns := [], harness := (true, "bc2fc6f0e1e07d2f37791b4ccc178b5e6ff1233c4d56b9b9dd47b280cfc57924"), looks := false }, kinds := [], alts := [], laidByText := true, laidKinds := [.data, .data, .data], laidTests := true, laidLooks := .later }
def RouterBlockedUptoCardSaid : Prop := Claim7.holds Tryz.pinned (.plain (OpenSpec.upto routerBlockedSpec)) routerBlockedUptoCard

/-- THE SECOND FORM's CARD OF 'genlocklaw05.RouterPorts'. -/
def routerPortsUptoCard : Claim7 := { stood := { row := routerPortsUptoRow, standIns := [], harness := (true, "bc2fc6f0e1e07d2f37791b4ccc178b5e6ff1233c4d56b9b9dd47b280cfc57924"), looks := false }, kinds := [], alts := [], laidByText := true, laidKinds := [.data, .data, .data], laidTests := true, laidLooks := .later }
def RouterPortsUptoCardSaid : Prop := Claim7.holds Tryz.pinned (.plain (OpenSpec.upto routerPortsSpec)) routerPortsUptoCard

/-- THE SECOND FORM's CARD OF 'genlocklaw05.RouterUndoes'. -/
def routerUndoesUptoCard : Claim7 := { stood := { row := routerUndoesUptoRow, standIns := [], harness := (true, "bc2fc6f0e1e07d2f37791b4ccc178b5e6ff1233c4d56b9b9dd47b280cfc57924"), looks := false }, kinds := [], alts := [], laidByText := true, laidKinds := [.data, .data, .data], laidTests := true, laidLooks := .later }
def RouterUndoesUptoCardSaid : Prop := Claim7.holds Tryz.pinned (.plain (OpenSpec.upto routerUndoesSpec)) routerUndoesUptoCard

/-- THE SECOND FORM's CARD OF 'genlocklaw05.RouterTexts'. -/
def routerTextsUptoCard : Claim7 := { stood := { row := routerTextsUptoRow, standIns := [], harness := (true, "bc2fc6f0e1e07d2f37791b4ccc178b5e6ff1233c4d56b9b9dd47b280cfc57924"), looks := false }, kinds := [], alts := [], laidByText := true, laidKinds := [.data, .data, .data, .data, .pinned], laidTests := true, laidLooks := .later }
def RouterTextsUptoCardSaid : Prop := Claim7.holds Tryz.pinned (.plain (OpenSpec.upto routerTextsSpec)) routerTextsUptoCard

/-- THE SECOND FORM's CARD OF 'genlocklaw05.RouterBack'. -/
def routerBackUptoCard : Claim7 := { stood := { row := routerBackUptoRow, standIns := [], harness := (true, "bc2fc6f0e1e07d2f37791b4ccc178b5e6ff1233c4d56b9b9dd47b280cfc57924"), looks := false }, kinds := [], alts := [], laidByText := true, laidKinds := [.data, .data, .data, .data, .pinned], laidTests := true, laidLooks := .later }
def RouterBackUptoCardSaid : Prop := Claim7.holds Tryz.pinned (.plain (OpenSpec.upto routerBackSpec)) routerBackUptoCard

/-- THE SECOND FORM's CARD OF 'genlocktop.TopCraneInterval'. -/
def topCraneIntervalUptoCard : Claim7 := { stood := { row := topCraneIntervalUptoRow, standIns := [], harness := (true, "bc2fc6f0e1e07d2f37791b4ccc178b5e6ff1233c4d56b9b9dd47b280cfc57924"), looks := false }, kinds := [], alts := [], laidByText := true, laidKinds := [.data], laidTests := true, laidLooks := .later }
def TopCraneIntervalUptoCardSaid : Prop := Claim7.holds Tryz.pinned (.plain (OpenSpec.upto topCraneIntervalSpec)) topCraneIntervalUptoCard

/-- THE SECOND FORM's CARD OF 'genlocktop.TopCranePhase'. -/
def topCranePhaseUptoCard : Claim7 := { stood := { row := topCranePhaseUptoRow, standIns := [], harness := (true, "bc2fc6f0e1e07d2f37791b4ccc178b5e6ff1233c4d56b9b9dd47b280cfc57924"), looks := false }, kinds := [], alts := [], laidByText := true, laidKinds := [.data], laidTests := true, laidLooks := .later }
def TopCranePhaseUptoCardSaid : Prop := Claim7.holds Tryz.pinned (.plain (OpenSpec.upto topCranePhaseSpec)) topCranePhaseUptoCard
end Rows
end Go.Proofs.YteonnodafmegaaaGreatDoor
