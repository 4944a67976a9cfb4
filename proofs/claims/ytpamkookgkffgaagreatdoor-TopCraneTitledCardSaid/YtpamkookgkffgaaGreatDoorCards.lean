/-
  DERIVED. GIVEN WITH THE SEED: THE CARDS: each row of YtpamkookgkffgaaGreatDoorRows.lean that lists a variable, with what it lists TIED to the program's text (the seventh form; the later family's looks); each row that meets fmt, with fmt's text TOLD by the authors' own Lean function (tested against real Go, not proved from fmt's source: count such statements apart). THE CARD IS WHAT COUNTS. Prove the row's statement (the work); the ties are given (YtpamkookgkffgaaGreatDoorTie.lean); close each card by the builder's one call (the guide's Derived/Test/ToyasCard.lean, 'card_holds'). Laid BY PROGRAM, IN A SANDBOX (cutbox-door.mjs). By AI agents, Wed Nov 11 2026. No macro, syntax, notation, axiom, sorry.
-/
import Derived.Test.YtpamkookgkffgaaGreatDoorRows
import GoSem.ClaimSeven
namespace Go.Proofs.YtpamkookgkffgaaGreatDoor
namespace Rows

/-- THE TIED CARD OF 'genlocktop.TopCraneTitled'. -/
def topCraneTitledCard : Claim7 := { stood := { row := topCraneTitledRow, standIns := [], harness := (true, "b5c30354364ec1b17d1d2dc8588be38e6132d53863f63ead1ca0cc0dc553bed3"), looks := false }, kinds := [], alts := [], laidByText := true, laidKinds := [.widerDeep, .data], laidTests := true, laidLooks := .later }
def TopCraneTitledCardSaid : Prop := Claim7.holds Tryz.pinned (.plain (OpenSpec.ofChange topCraneTitledSpec)) topCraneTitledCard

/-- THE SECOND FORM's CARD OF 'genlocktop.TopCraneTitled'. -/
def topCraneTitledUptoCard : Claim7 := { stood := { row := topCraneTitledUptoRow, standIns := [], harness := (true, "b5c30354364ec1b17d1d2dc8588be38e6132d53863f63ead1ca0cc0dc553bed3"), looks := false }, kinds := [], alts := [], laidByText := true, laidKinds := [.widerDeep, .data], laidTests := true, laidLooks := .later }
def TopCraneTitledUptoCardSaid : Prop := Claim7.holds Tryz.pinned (.plain (OpenSpec.upto topCraneTitledSpec)) topCraneTitledUptoCard
end Rows
end Go.Proofs.YtpamkookgkffgaaGreatDoor
