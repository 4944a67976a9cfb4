/-
  DERIVED. GIVEN WITH THE SEED: THE CARDS: each row of YthhidjfahmcekaaDoorRows.lean that lists a variable, with what it lists TIED to the program's text (the seventh form; the later family's looks); each row that meets fmt, with fmt's text TOLD by the authors' own Lean function (tested against real Go, not proved from fmt's source: count such statements apart). THE CARD IS WHAT COUNTS. Prove the row's statement (the work); the ties are given (YthhidjfahmcekaaDoorTie.lean); close each card by the builder's one call (the guide's Derived/Test/ToyasCard.lean, 'card_holds'). Laid BY PROGRAM, IN A SANDBOX (cutbox-door.mjs). By AI agents, Wed Nov 11 2026. No macro, syntax, notation, axiom, sorry.
-/
import Derived.Test.YthhidjfahmcekaaDoorRows
import GoSem.ClaimSeven
namespace Go.Proofs.YthhidjfahmcekaaDoor
namespace Rows

/-- THE TIED CARD OF 'genlocktop.TopPedestalTitles'. -/
def topPedestalTitlesCard : Claim7 := { stood := { row := topPedestalTitlesRow, standIns := [], harness := (true, "5bfeb234488cf0748aafe196a16f289f8df6dd7b01d4819fafb9ed70b9681b91"), looks := false }, kinds := [], alts := [], laidByText := true, laidKinds := [.widerDeep], laidTests := true, laidLooks := .later }
def TopPedestalTitlesCardSaid : Prop := Claim7.holds Tryd.pinned (.plain (OpenSpec.ofChange topPedestalTitlesSpec)) topPedestalTitlesCard

/-- THE TIED CARD OF 'genlocktop.TopCraneLabelled'. -/
def topCraneLabelledCard : Claim7 := { stood := { row := topCraneLabelledRow, standIns := [], harness := (true, "5bfeb234488cf0748aafe196a16f289f8df6dd7b01d4819fafb9ed70b9681b91"), looks := false }, kinds := [], alts := [], laidByText := true, laidKinds := [.widerDeep, .data], laidTests := true, laidLooks := .later }
def TopCraneLabelledCardSaid : Prop := Claim7.holds Tryd.pinned (.plain (OpenSpec.ofChange topCraneLabelledSpec)) topCraneLabelledCard

/-- THE SECOND FORM's CARD OF 'genlocktop.TopPedestalTitles'. -/
def topPedestalTitlesUptoCard : Claim7 := { stood := { row := topPedestalTitlesUptoRow, standIns := [], harness := (true, "5bfeb234488cf0748aafe196a16f289f8df6dd7b01d4819fafb9ed70b9681b91"), looks := false }, kinds := [], alts := [], laidByText := true, laidKinds := [.widerDeep], laidTests := true, laidLooks := .later }
def TopPedestalTitlesUptoCardSaid : Prop := Claim7.holds Tryd.pinned (.plain (OpenSpec.upto topPedestalTitlesSpec)) topPedestalTitlesUptoCard

/-- THE SECOND FORM's CARD OF 'genlocktop.TopCraneLabelled'. -/
def topCraneLabelledUptoCard : Claim7 := { stood := { row := topCraneLabelledUptoRow, standIns := [], harness := (true, "5bfeb234488cf0748aafe196a16f289f8df6dd7b01d4819fafb9ed70b9681b91"), looks := false }, kinds := [], alts := [], laidByText := true, laidKinds := [.widerDeep, .data], laidTests := true, laidLooks := .later }
def TopCraneLabelledUptoCardSaid : Prop := Claim7.holds Tryd.pinned (.plain (OpenSpec.upto topCraneLabelledSpec)) topCraneLabelledUptoCard
end Rows
end Go.Proofs.YthhidjfahmcekaaDoor
